/-
 Auxiliary facts. No statement of the program stands here.
-/
import Derived.Test.YtbiadmfmjnoecaaVAQ38
namespace Go.Proofs.Ytbiadmfmjnoecaa
set_option linter.unusedSimpArgs false
set_option linter.unusedVariables false
open Go Go.Abs
theorem B9s {nt nf:Nat} {g:List Nd} (hv:A1d nt nf g) (ha:∀x∈g,Asc x.arcs) (hf:nf<=1000000):A2t g:=by
 refine⟨by have:=hv.form.le;omega,fun x hx=>?_⟩
 have h1:=ha x hx
 have:∀(l:List Arc) (n:Int),Asc l->(∀y∈l,n<=y.feat/\y.feat<(nf:Int))->n<=nf->(l.length:Int)<=nf-n:=by
  intro l
  induction l with
  | nil=>intro n _ _ _;simp;omega
  | cons y l ih=>
   intro n ha hy hn
   have h2:=List.pairwise_cons.1 ha
   have h3:=hy y List.mem_cons_self
   have:=ih (y.feat+1) h2.2 (fun z hz=>⟨by have:=h2.1 z hz;omega,(hy z (List.mem_cons_of_mem _ hz)).2⟩) (by omega)
   rw[List.length_cons]
   omega
 have:=this x.arcs 0 h1 (fun y hy=>⟨hv.form.feat x hx y hy,hv.feat x hx y hy⟩) (by omega)
 omega
def APre (h:List Typ×List Ft) (l:List FSv):Prop:=JOK h.1/\h.2.length<=1000000/\l.length<=3/\∀x∈l,A1d h.1.length h.2.length x.nodes/\x.nodes.length<=8
def outL (h:List Typ×List Ft) (l:List FSv) (i:Nat):List Nd:=allL (A2q h.1) ((l.take (i+1)).map FSv.nodes)
theorem E8o {h:List Typ×List Ft} {l:List FSv} {i:Nat} {y:FSv} (hy:l[i+1]?=some y):outL h l (i+1)=genL (A2q h.1) (outL h l i) y.nodes:=by
 unfold outL
 rw[List.take_add_one,hy,List.map_append]
 cases hl:(l.take (i+1)).map FSv.nodes with
 | nil=>
  have h1:=congrArg List.length hl
  have h2:=(List.getElem?_eq_some_iff.1 hy).1
  rw[List.length_map,List.length_take,List.length_nil]at h1
  omega
 | cons x r=>
  show((r++[y.nodes]).foldl (genL (A2q h.1)) x)=_
  rw[List.foldl_append]
  rfl
theorem F9y {h:List Typ×List Ft} {l:List FSv} (ha:APre h l) {i:Nat} (hi:i<l.length):A1d h.1.length h.2.length (outL h l i)/\A2t (outL h l i)/\(outL h l i).length<=512:=by
 obtain⟨hj,hf,h3,hv⟩:=ha
 obtain⟨h1,h2⟩:=E4w (nf:=h.2.length) hj.join ((l.take (i+1)).map FSv.nodes) (by simp;omega) (by simp;omega) (fun x hx=>by
  obtain⟨y,hy,rfl⟩:=List.mem_map.1 hx
  exact hv y (List.mem_of_mem_take hy))
 exact⟨h1.valid,B9s h1.valid (fun x hx=>h1.valid.asc hx) hf,h2⟩
def allT (h:List Typ×List Ft) (l:List FSv):T:=.tu [.ag [A0m eNd (allL (A2q h.1) (l.map FSv.nodes))],bv (decide (0<l.length))]
theorem F9z {t:T} {l:List Nd} (h:IsS eNd t l) (hl:0<l.length):t=A0m eNd l:=by
 rcases h with⟨_,rfl⟩ | rfl
 ·simp at hl
 ·cases l with
  | nil=>simp at hl
  | cons x r=>rfl
noncomputable def ta6:Tbl:=[(34,gGen)]
theorem ca6:Ctx Try.prog G (orc ta6):=(A1o.cons F9x .nil).ctx A1w
def SA37 (tt tf t17:T) (n:Nat) (u:Nat->T) (i:Nat):A0b:=
 ⟨[(19,.t (iv (i:Int))),(18,.t (iv (n:Int))),(17,.t t17),(6,.ptr 2 0),(4,.ptr 1 0),(2,.ptr 0 0)],[(2,.cells 25 [.t (u i)]),(1,.cells 25 [.t nilS]),(0,.cells 29 [.t tt,.t tf])],3,29⟩
theorem G4z {tt tf tl:T} {h:List Typ×List Ft} {l:List FSv} (hT:IsS eTyp tt h.1) (hF:IsS eFt tf h.2) (ht:IsS eFS tl l) (ha:APre h l):A0y Try.prog G 37 [.ag [tt,tf],tl] (· = allT h l):=by
 have h3:=ha.2.2.1
 have cph:A0q (.t (.ag [tt,tf]))=some [.t tt,.t tf]:=rfl
 have cpa:∀x:T,A0q (.t (.ag [x]))=some [.t x]:=fun _=>rfl
 have agh:agOf [.t tt,.t tf] = .t (.ag [tt,tf]):=rfl
 have aga:∀x:T,agOf [.t x] = .t (.ag [x]):=fun _=>rfl
 have lt1:∀(H:Heap) c cs,A0f true 1 H (.t (.pt (c::cs)))=some (.t (.ag [c])):=fun _ _ _=>rfl
 refine C1y.call rfl ?_
 unfold B3o
 refine A0a ca6 ?_
 simp -implicitDefEqProofs [cph]
 cases hl0:l.length with
 | zero=>
  have hres:allT h l = .tu [.ag [nilS],bv false]:=by
   have:l=[]:=List.eq_nil_of_length_eq_zero hl0
   rw[this]
   rfl
  have e0:A6q (.t tl)=some (.t (iv 0)):=by rw[ht.len,hl0];rfl
  have bdE:∀{Φ:A1f} {H:Heap} {nx:Nat},A0l Φ H nx (.build [(0,1)] [.slice none 0 0] []) []=some (.t (.ag [nilS]),H,nx):=rfl
  refine A0c ca6 ?_
  simp -implicitDefEqProofs [e0,-evalK_build,bdE,cpa,A0v,A1h,A0f,aga,hres]
 | succ n=>
  obtain⟨x,hx⟩:∃x,l[0]?=some x:=⟨_,List.getElem?_eq_getElem (by omega)⟩
  have i0:A2j 1 (.t tl) (.t (.v (.int .i64 0)))=some (.t (.pt (x.tree::rest eFS l 0))):=D6r ht hx
  have hpos:=(ha.2.2.2 x (List.mem_of_getElem? hx)).1.form.pos
  have hxt:x.tree=A0m eNd (outL h l 0):=by
   have:outL h l 0=x.nodes:=by
    unfold outL
    cases l with
    | nil=>simp at hl0
    | cons z r=>
     simp at hx
     subst hx
     rfl
   rw[this]
   exact F9z x.ok hpos
  obtain⟨t17,s17,is17⟩:=ht.slice_from (k:=1) (by omega) .i64
  have s17:A4b 1 (.t tl) (some (.t (.v (.int .i64 1)))) none=some (.t t17):=s17
  have hl17:(l.drop 1).length=n:=by simp[hl0]
  have e1:A6q (.t tl)=some (.t (iv ((n+1:Nat):Int))):=by rw[ht.len,hl0]
  have e17:A6q (.t t17)=some (.t (iv (n:Int))):=by rw[is17.len,hl17]
  have hne:¬((n:Int)+1=0):=by omega
  refine A0a ca6 ?_
  simp -implicitDefEqProofs [e1,hne]
  refine A0a ca6 ?_
  simp -implicitDefEqProofs [i0,lt1,cpa,A0v,A1h]
  refine A0r (fun _:Unit=>SA37 tt tf t17 n (fun i=>A0m eNd (outL h l i)) n) (fun _=>True) (fun _=>rfl) ?_ ?_
  ·refine A0a ca6 ?_
   simp -implicitDefEqProofs [s17,e17]
   refine A0h ?_
   refine A1a (SA37 tt tf t17 n (fun i=>A0m eNd (outL h l i))) n (fun _=>rfl) ?_ rfl ?_ ?_
   ·refine A0d rfl rfl ?_ ?_<;>simp -implicitDefEqProofs [SA37,hxt]
   ·intro i hi
    obtain⟨y,hy⟩:∃y,l[i+1]?=some y:=⟨_,List.getElem?_eq_getElem (by omega)⟩
    have hy':(l.drop 1)[i]?=some y:=by rw[List.getElem?_drop,Nat.add_comm];exact hy
    have iy:=D6r is17 hy'
    obtain⟨v1,v2⟩:=ha.2.2.2 y (List.mem_of_getElem? hy)
    obtain⟨o1,o2,o3⟩:=F9y ha (i:=i) (by omega)
    have gg:gGen [.ag [tt,tf],.ag [A0m eNd (outL h l i)],.ag [y.tree]]=some (.ag [A0m eNd (outL h l (i+1))]):=by
     rw[E8o hy]
     exact B3p hT hF (IsS.tree _ _) y.ok ⟨ha.1,⟨o1,v1⟩,⟨o2,B9s v1 (fun x hx=>v1.asc hx) ha.2.1⟩,Nat.le_trans (Nat.mul_le_mul o3 v2) (by omega)⟩
    have e2:IntKind.i64.wrap ((i:Int)+1)=((i+1:Nat):Int):=A0k (by omega) (by omega)
    refine A0c ca6 ?_
    simp -implicitDefEqProofs [SA37,hi,iy,lt1,cpa,A0v,A1h,A0f,agh,aga,ta6,gg,e2]
    refine C4d (by omega) ?_ ?_<;>simp -implicitDefEqProofs [A1b,A2c,under]
   ·refine A0c ca6 ?_
    simp -implicitDefEqProofs [SA37]
    exact Next.mk () trivial (A3e (by simp -implicitDefEqProofs))
  ·rintro _ _
   have hres:allT h l = .tu [.ag [A0m eNd (outL h l n)],bv true]:=by
    unfold allT outL
    rw[<-hl0,List.take_length,decide_eq_true (by omega)]
   refine A0c ca6 ?_
   simp -implicitDefEqProofs [SA37,A0f,aga,cpa,A0v,A1h,hres]
noncomputable def gAll:List T->Option T:=g2 tH (tSl eFS) fun h l=>open Classical in if APre h l then some (allT h l)else none
theorem G0a {F:Nat} (hc:∀{tt tf tl:T} {h:List Typ×List Ft} {l:List FSv},IsS eTyp tt h.1->IsS eFt tf h.2->IsS eFS tl l->APre h l->A0y Try.prog G F [.ag [tt,tf],tl] (· = allT h l)):GOK Try.prog G F gAll:=A6z fun x y h l r hx hy hr=>by
 obtain⟨u,v,rfl,hu,hv⟩:=hx
 split at hr
 ·rename_i hl;injection hr with hr;subst hr;exact hc hu hv hy hl
 ·cases hr
theorem G0b {u v tl:T} {h:List Typ×List Ft} {l:List FSv} (hu:IsS eTyp u h.1) (hv:IsS eFt v h.2) (ht:IsS eFS tl l) (ha:APre h l):gAll [.ag [u,v],tl]=some (allT h l):=
 (A5x (τ:=tH) (σ:=tSl eFS) ⟨u,v,rfl,hu,hv⟩ ht).trans (if_pos ha)
theorem G8n:GOK Try.prog G 37 gAll:=G0a G4z
def ePr:Enc (Nat×Nat):=⟨2,fun p=>[iv (p.1:Int),iv (p.2:Int)],fun _=>rfl,by omega,fun a b h=>by
 obtain⟨a1,a2⟩:=a
 obtain⟨b1,b2⟩:=b
 simp at h
 simp
 omega⟩
def C5q (l:List (Nat×Nat)) (p:Nat×Nat):Int:=if p∈l then(idxK l p:Int)else -1
theorem G0c (q p:Nat×Nat):exM (.eqs false [.i,.i]) [.t (.ag [iv (q.1:Int),iv (q.2:Int)]),.t (.ag [iv (p.1:Int),iv (p.2:Int)])]=some (.t (bv (decide (q=p)))):=by
 obtain⟨a,b⟩:=q
 obtain⟨c,d⟩:=p
 have e:(((a:Int)==(c:Int))&&(((b:Int)==(d:Int))&&true))=decide ((a,b)=(c,d)):=by
  rw[Bool.eq_iff_iff]
  simp
  omega
 show some (PV.t (.v (.bool (((a:Int)==(c:Int))&&(((b:Int)==(d:Int))&&true)))))=_
 rw[e]
def SP67 (t:T) (p:Nat×Nat) (j:Nat):A0b:=⟨[(5,.t (iv (j:Int))),(3,.ptr 0 0),(0,.t t)],[(0,.cells 93 [.t (iv (p.1:Int)),.t (iv (p.2:Int))])],1,19⟩
theorem F2w {t:T} {l:List (Nat×Nat)} (ht:IsS ePr t l) (hl:l.length<=100000000) (p:Nat×Nat):A0y Try.prog G 67 [t,.ag [iv (p.1:Int),iv (p.2:Int)]] (· = iv (C5q l p)):=by
 have cp:A0q (.t (.ag [iv (p.1:Int),iv (p.2:Int)]))=some [.t (iv (p.1:Int)),.t (iv (p.2:Int))]:=rfl
 have ag:agOf [.t (iv (p.1:Int)),.t (iv (p.2:Int))] = .t (.ag [iv (p.1:Int),iv (p.2:Int)]):=rfl
 have lt:∀(H:Heap) c d cs,A0f true 2 H (.t (.pt (c::d::cs)))=some (.t (.ag [c,d])):=fun _ _ _ _=>rfl
 have lb:A0f true 2 [(0,Row.cells 93 [.t (iv (p.1:Int)),.t (iv (p.2:Int))])] (.ptr 0 0)=some (.t (.ag [iv (p.1:Int),iv (p.2:Int)])):=by simp[A0f,ag]
 refine D0p.call rfl ?_
 unfold B9r
 refine A0a ca6 ?_
 simp -implicitDefEqProofs [cp]
 obtain⟨n,hn⟩:∃n,n=l.findIdx fun q=>decide (q=p):=⟨_,rfl⟩
 have hle:n<=l.length:=by rw[hn];exact A3h _ _
 have hmem:p∈l ↔ n<l.length:=by
  rw[hn]
  constructor
  ·intro h
   exact List.findIdx_lt_length_of_exists ⟨p,h,by simp⟩
  ·intro h
   obtain⟨q,hq,e⟩:=A1s h
   rw[<-of_decide_eq_true e]
   exact List.mem_of_getElem? hq
 have hidx:idxK l p=n:=by rw[hn];rfl
 have hres:C5q l p=if n<l.length then(n:Int)else -1:=by
  unfold C5q
  rw[hidx]
  by_cases h:p∈l
  ·rw[if_pos h,if_pos (hmem.1 h)]
  ·rw[if_neg h,if_neg (fun h'=>h (hmem.2 h'))]
 refine A0r (fun _:Unit=>SP67 t p l.length) (fun _=>n=l.length) (fun _=>rfl) ?_ ?_
 ·refine A0a ca6 ?_
  simp -implicitDefEqProofs
  refine A0h ?_
  refine A1a (SP67 t p) n (fun _=>rfl) ?_ rfl ?_ ?_
  ·refine A0d rfl rfl ?_ ?_<;>simp -implicitDefEqProofs [SP67]
  ·intro j hj
   refine A0c ca6 ?_
   have hjl:j<l.length:=by omega
   obtain⟨q,hq⟩:∃q,l[j]?=some q:=⟨_,List.getElem?_eq_getElem hjl⟩
   have hp:=A2g (p:=fun q=>decide (q=p)) (by rw[<-hn];exact hj) hq
   have ee:=G0c q p
   rw[hp]at ee
   have ia:A2j 2 (.t t) (.t (iv (j:Int)))=some (.t (.pt (iv (q.1:Int)::iv (q.2:Int)::rest ePr l j))):=ht.iaddr hq .i64
   have e1:IntKind.i64.wrap ((j:Int)+1)=((j+1:Nat):Int):=A0k (by omega) (by omega)
   simp -implicitDefEqProofs [SP67,hjl,ht.len,ia,lt,lb,-exM_eqs,ee,e1]
   refine A0d rfl rfl ?_ ?_<;>simp -implicitDefEqProofs
  ·refine A0c ca6 ?_
   by_cases e:n=l.length
   ·have hnl':¬n<l.length:=by omega
    simp -implicitDefEqProofs [SP67,ht.len,hnl']
    exact Next.mk () (by first | exact trivial | exact e) (A0d rfl rfl (by simp -implicitDefEqProofs [e]) (by simp -implicitDefEqProofs))
   ·have hjl:n<l.length:=by omega
    obtain⟨q,hq,hp⟩:=A1s (p:=fun q=>decide (q=p)) (l:=l) (by rw[<-hn];exact hjl)
    rw[<-hn]at hq
    have ee:=G0c q p
    rw[hp]at ee
    have ia:A2j 2 (.t t) (.t (iv (n:Int)))=some (.t (.pt (iv (q.1:Int)::iv (q.2:Int)::rest ePr l n))):=ht.iaddr hq .i64
    rw[if_pos hjl]at hres
    simp -implicitDefEqProofs [SP67,hjl,ht.len,ia,lt,lb,-exM_eqs,ee,hres]
 ·rintro _ e
  rw[if_neg (by omega)]at hres
  refine A0c ca6 ?_
  simp -implicitDefEqProofs [SP67,hres]
noncomputable def G0d:List T->Option T:=g2 (tSl ePr) (tAg ePr) fun l p=>if l.length<=100000000 then some (iv (C5q l p))else none
theorem G0e:GOK Try.prog G 67 G0d:=A6z fun a b l p r ha hb hr=>by
 obtain rfl:b = .ag (ePr.enc p):=hb
 split at hr
 ·rename_i hl;injection hr with hr;subst hr;exact F2w ha hl p
 ·cases hr
theorem E1x {t:T} {l:List (Nat×Nat)} (ht:IsS ePr t l) (hl:l.length<=100000000) (p:Nat×Nat):G0d [t,.ag [iv (p.1:Int),iv (p.2:Int)]]=some (iv (C5q l p)):=
 (A5x (τ:=tSl ePr) (σ:=tAg ePr) (y:=p) ht rfl).trans (if_pos hl)
structure Bf (tt tf ta tb:T) (kl kn:Nat) (L:List (Nat×Nat)) (N:List Nd) (H:Heap):Prop where
 h0:Abs.look H 0=some (.cells 29 [.t tt,.t tf])
 h1:Abs.look H 1=some (fsR ta)
 h2:Abs.look H 2=some (fsR tb)
 h3:Abs.look H 3=some (fsR nilS)
 h4:Abs.look H 5=some (outR kn N)
 lr:A0i ePr 93 H kl L
 nr:A0i eNd 61 H kn N
def bfH (tt tf ta tb:T) (L:List (Nat×Nat)) (N:List Nd) (R:Heap):Heap:=
 (0,.cells 29 [.t tt,.t tf])::(1,fsR ta)::(2,fsR tb)::(3,fsR nilS)::(5,outR 6 N)::(rowH ePr 93 4 L++(rowH eNd 61 6 N++R))
section
variable {tt tf ta tb : T}
theorem G0f {L:List (Nat×Nat)} {N:List Nd} {R:Heap} {q:Nat×Row} (h:q∈bfH tt tf ta tb L N R):q=(0,.cells 29 [.t tt,.t tf])\/q=(1,fsR ta)\/q=(2,fsR tb)\/q=(3,fsR nilS)\/q=(5,outR 6 N)\/(L≠[]/\q=(4,A2r ePr 93 L))\/(N≠[]/\q=(6,A2r eNd 61 N))\/q∈R:=by
 unfold bfH at h
 simp only[List.mem_cons]at h
 rcases h with h | h | h | h | h | h
 ·exact .inl h
 ·exact .inr (.inl h)
 ·exact .inr (.inr (.inl h))
 ·exact .inr (.inr (.inr (.inl h)))
 ·exact .inr (.inr (.inr (.inr (.inl h))))
 ·rcases List.mem_append.1 h with h | h
  ·exact .inr (.inr (.inr (.inr (.inr (.inl (A1r h))))))
  ·rcases List.mem_append.1 h with h | h
   ·exact .inr (.inr (.inr (.inr (.inr (.inr (.inl (A1r h)))))))
   ·exact .inr (.inr (.inr (.inr (.inr (.inr (.inr h))))))
theorem C2e {α:Type} {e:Enc α} {ty n z:Nat} {A:List α} {R:Heap} (hn:z≠n):Abs.look (rowH e ty n A++R) z=Abs.look R z:=by
 cases A with
 | nil=>rfl
 | cons y r=>
  show Abs.look ((n,_)::R) z=_
  rw[look_cons,if_neg (Ne.symm hn)]
theorem C2f {L:List (Nat×Nat)} {N:List Nd} {R:Heap} {z:Nat} (hz:7<=z):Abs.look (bfH tt tf ta tb L N R) z=Abs.look R z:=by
 unfold bfH
 rw[look_cons,if_neg (by omega),look_cons,if_neg (by omega),look_cons,if_neg (by omega),look_cons,if_neg (by omega),look_cons,if_neg (by omega),C2e (by omega),C2e (by omega)]
theorem Bf.mk' (L:List (Nat×Nat)) (N:List Nd) (R:Heap):Bf tt tf ta tb 4 6 L N (bfH tt tf ta tb L N R) where
 h0:=rfl
 h1:=rfl
 h2:=rfl
 h3:=rfl
 h4:=rfl
 lr:=((((((A0i.head _ _ _ _ _).cons (by omega)).cons (by omega)).cons (by omega)).cons (by omega)).cons (by omega))
 nr:=by
  rcases A0i.head eNd 61 R 6 N with h | h
  ·exact .inl h
  ·right
   unfold bfH
   rw[look_cons,if_neg (by omega),look_cons,if_neg (by omega),look_cons,if_neg (by omega),look_cons,if_neg (by omega),look_cons,if_neg (by omega),C2e (by omega)]
   exact h
theorem Bf.keep {kl kn:Nat} {L:List (Nat×Nat)} {N:List Nd} {H H':Heap} (w:Bf tt tf ta tb kl kn L N H) (h:∀x,x<=3\/x=5\/x=kl\/x=kn->Abs.look H' x=Abs.look H x):Bf tt tf ta tb kl kn L N H' where
 h0:=by rw[h 0 (by omega)];exact w.h0
 h1:=by rw[h 1 (by omega)];exact w.h1
 h2:=by rw[h 2 (by omega)];exact w.h2
 h3:=by rw[h 3 (by omega)];exact w.h3
 h4:=by rw[h 5 (by omega)];exact w.h4
 lr:=w.lr.imp id fun q=>by rw[h kl (by omega)];exact q
 nr:=w.nr.imp id fun q=>by rw[h kn (by omega)];exact q
theorem Bf.cons {kl kn k:Nat} {L:List (Nat×Nat)} {N:List Nd} {H:Heap} {r:Row} (w:Bf tt tf ta tb kl kn L N H) (h4:5<k) (hl:k≠kl) (hn:k≠kn):Bf tt tf ta tb kl kn L N ((k,r)::H):=
 w.keep fun x hx=>by
  rw[look_cons,if_neg]
  omega
theorem G6c {P:Program} {nx nx' n:Nat} (σ:Nat->Nat) {L:List (Nat×Nat)} {N:List Nd} {env env':List (Nat×PV)} {H R:Heap} (hσ:∀x,x<=3\/x=5->σ x=x) (hn:7<=nx') (w:Bf tt tf ta tb (σ 4) (σ 6) L N H)
  (hR:∀q∈R,Abs.look H (σ q.1)=some (A1v σ q.2)/\q.1<nx'/\A1b nx' q.2=true)
  (hi:∀x y,(x<=6\/∃q∈R,q.1=x)->(y<=6\/∃q∈R,q.1=y)->σ x=σ y->x=y)
  (he:∀q∈env',Abs.look env q.1=some (ren σ q.2)/\under nx' q.2=true) :
  Sub P G 0 ⟨env,H,nx,n⟩ ⟨env',bfH tt tf ta tb L N R,nx',n⟩:=by
 refine B2k σ rfl (Nat.zero_le _) (fun x hx=>by omega) he (fun q hq=>?_) (fun q hq q' hq' e=>?_)
 ·rcases G0f hq with rfl | rfl | rfl | rfl | rfl | ⟨hl,rfl⟩ | ⟨hl,rfl⟩ | hq
  ·simp only[hσ 0 (by omega)]
   exact⟨w.h0,by omega,rfl⟩
  ·simp only[hσ 1 (by omega)]
   exact⟨w.h1,by omega,rfl⟩
  ·simp only[hσ 2 (by omega)]
   exact⟨w.h2,by omega,rfl⟩
  ·simp only[hσ 3 (by omega)]
   exact⟨w.h3,by omega,rfl⟩
  ·simp only[hσ 5 (by omega)]
   refine⟨?_,by omega,?_⟩
   ·rw[w.h4]
    simp only[outR,A1v,renL,A0g]
   ·simp only[outR,A1b,A2c,A0e _ _ _ _ (show 6<nx' by omega),Bool.and_true]
  ·simp only[A1i,A1e]
   exact⟨w.lr.resolve_left hl,by omega,trivial⟩
  ·simp only[A1i,A1e]
   exact⟨w.nr.resolve_left hl,by omega,trivial⟩
  ·exact hR q hq
 ·have key:∀q∈bfH tt tf ta tb L N R,q.1<=6\/∃q'∈R,q'.1=q.1:=by
   intro q hq
   rcases G0f hq with rfl | rfl | rfl | rfl | rfl | ⟨_,rfl⟩ | ⟨_,rfl⟩ | hq
   ·exact .inl (by show 0<=6;omega)
   ·exact .inl (by show 1<=6;omega)
   ·exact .inl (by show 2<=6;omega)
   ·exact .inl (by show 3<=6;omega)
   ·exact .inl (by show 5<=6;omega)
   ·exact .inl (by show 4<=6;omega)
   ·exact .inl (by show 6<=6;omega)
   ·exact .inr ⟨q,hq,rfl⟩
  exact hi _ _ (key q hq) (key q' hq') e
end
def arN (ty:Int) (k:Nat) (A:List Arc):Row:=.cells 61 [.t (iv ty),rowP eArc k A]
def R2b (x:Nd) (ty:Int) (A:List Arc):Heap:=(7,ndR x)::(8,arN ty 9 A)::rowH eArc 81 9 A
def prR (p:Nat×Nat):Row:=.cells 93 [.t (iv (p.1:Int)),.t (iv (p.2:Int))]
def σb (kl kn ka x:Nat):Nat:=if x=4 then kl else if x=6 then kn else if x=9 then ka else x
structure Kb (kl kn ka:Nat):Prop where
 l:kl≠kn/\kl≠ka/\kn≠ka
 a:4<=kl/\kl≠5/\kl≠7/\kl≠8/\kl≠10
 b:4<=kn/\kn≠5/\kn≠7/\kn≠8/\kn≠10
 c:4<=ka/\ka≠5/\ka≠7/\ka≠8/\ka≠10
theorem H0o {kl kn ka x y:Nat} (h:Kb kl kn ka) (hx:x<=10) (hy:y<=10) (e:σb kl kn ka x=σb kl kn ka y):x=y:=by
 obtain⟨⟨a1,a2,a3⟩,⟨b1,b2,b3,b4,b5⟩,⟨c1,c2,c3,c4,c5⟩,d1,d2,d3,d4,d5⟩:=h
 unfold σb at e
 split at e<;>split at e<;>(try split at e)<;>(try split at e)<;>(try split at e)<;>(try split at e)<;>omega
section
variable {tt tf ta tb : T}
theorem F2x {P:Program} {kl kn ka nx nx' n:Nat} {L:List (Nat×Nat)} {N:List Nd} {env env':List (Nat×PV)} {H R:Heap} (hk:Kb kl kn ka) (hn:7<=nx') (w:Bf tt tf ta tb kl kn L N H)
  (hR:∀q∈R,Abs.look H (σb kl kn ka q.1)=some (A1v (σb kl kn ka) q.2)/\q.1<nx'/\A1b nx' q.2=true/\q.1<=10)
  (he:∀q∈env',Abs.look env q.1=some (ren (σb kl kn ka) q.2)/\under nx' q.2=true) :
  Sub P G 0 ⟨env,H,nx,n⟩ ⟨env',bfH tt tf ta tb L N R,nx',n⟩:=by
 refine G6c (σb kl kn ka) (fun x hx=>?_) hn w (fun q hq=>⟨(hR q hq).1,(hR q hq).2.1,(hR q hq).2.2.1⟩) (fun x y hx hy e=>H0o hk ?_ ?_ e) he
 ·unfold σb
  rw[if_neg (by omega),if_neg (by omega),if_neg (by omega)]
 ·rcases hx with hx | ⟨q,hq,rfl⟩
  ·omega
  ·exact(hR q hq).2.2.2
 ·rcases hy with hy | ⟨q,hq,rfl⟩
  ·omega
  ·exact(hR q hq).2.2.2
theorem G8o {kl kn x y:Nat} (h:kl≠kn/\4<=kl/\kl≠5/\4<=kn/\kn≠5) (hx:x<=6) (hy:y<=6) (e:σb kl kn 9 x=σb kl kn 9 y):x=y:=by
 obtain⟨a1,a2,a3,a4,a5⟩:=h
 unfold σb at e
 rw[if_neg (show ¬x=9 by omega),if_neg (show ¬y=9 by omega)]at e
 split at e<;>split at e<;>(try split at e)<;>(try split at e)<;>omega
theorem H0p {P:Program} {kl kn nx nx' n:Nat} {L:List (Nat×Nat)} {N:List Nd} {env env':List (Nat×PV)} {H:Heap} (hk:kl≠kn/\4<=kl/\kl≠5/\4<=kn/\kn≠5) (hn:7<=nx') (w:Bf tt tf ta tb kl kn L N H)
  (he:∀q∈env',Abs.look env q.1=some (ren (σb kl kn 9) q.2)/\under nx' q.2=true) :
  Sub P G 0 ⟨env,H,nx,n⟩ ⟨env',bfH tt tf ta tb L N [],nx',n⟩:=by
 refine G6c (σb kl kn 9) (fun x hx=>?_) hn w (fun q hq=>by cases hq) (fun x y hx hy e=>G8o hk ?_ ?_ e) he
 ·unfold σb
  rw[if_neg (by omega),if_neg (by omega),if_neg (by omega)]
 ·rcases hx with hx | ⟨q,hq,_⟩
  ·exact hx
  ·cases hq
 ·rcases hy with hy | ⟨q,hq,_⟩
  ·exact hy
  ·cases hq
theorem G8p {kl kn ka nx':Nat} {x:Nd} {ty:Int} {A:List Arc} {H:Heap} (hn:10<=nx') (h7:Abs.look H 7=some (ndR x)) (h8:Abs.look H 8=some (arN ty ka A)) (h9:A0i eArc 81 H ka A) :
  ∀q∈R2b x ty A,Abs.look H (σb kl kn ka q.1)=some (A1v (σb kl kn ka) q.2)/\q.1<nx'/\A1b nx' q.2=true/\q.1<=10:=by
 intro q hq
 unfold R2b at hq
 simp only[List.mem_cons]at hq
 rcases hq with rfl | rfl | hq
 ·exact⟨h7,by show 7<nx';omega,rfl,by show 7<=10;omega⟩
 ·refine⟨?_,by show 8<nx';omega,?_,by show 8<=10;omega⟩
  ·show Abs.look H 8=_
   rw[h8]
   simp only[arN,A1v,renL,A0g,ren]
   rfl
  ·simp only[arN,A1b,A2c,under,A0e _ _ _ _ (show 9<nx' by omega),Bool.and_true]
 ·obtain⟨hne,rfl⟩:=A1r hq
  simp only[A1i,A1e]
  exact⟨h9.resolve_left hne,by omega,trivial,by omega⟩
theorem E4z {x:Nd} {ty:Int} {A:List Arc} {R:Heap} {L:List (Nat×Nat)} {N:List Nd}:Abs.look (bfH tt tf ta tb L N (R2b x ty A++R)) 7=some (ndR x)/\Abs.look (bfH tt tf ta tb L N (R2b x ty A++R)) 8=some (arN ty 9 A)/\A0i eArc 81 (bfH tt tf ta tb L N (R2b x ty A++R)) 9 A:=by
 refine⟨by rw[C2f (by omega)];rfl,by rw[C2f (by omega)];rfl,?_⟩
 rcases A0i.head eArc 81 R 9 A with h | h
 ·exact .inl h
 ·exact .inr (by rw[C2f (by omega)];exact h)
end
def SB1 (tt tf ta tb:T) (L:List (Nat×Nat)) (N:List Nd) (i:Nat):A0b:=
 ⟨[(9,.t (iv (i:Int))),(8,.ptr 5 0),(7,rowP ePr 4 L),(6,.ptr 3 0),(5,.ptr 2 0),(4,.ptr 1 0),(3,.ptr 0 0)],bfH tt tf ta tb L N [],7,112⟩
def SB2 (tt tf ta tb:T) (x:Nd) (ty:Int) (N:List Nd) (i:Nat) (L:List (Nat×Nat)) (A:List Arc) (j:Nat):A0b:=
 ⟨[(12,.t (iv (j:Int))),(11,.ptr 8 0),(10,.ptr 7 0),(9,.t (iv (i:Int))),(8,.ptr 5 0),(7,rowP ePr 4 L),(6,.ptr 3 0),(5,.ptr 2 0),(4,.ptr 1 0),(3,.ptr 0 0)],bfH tt tf ta tb L N (R2b x ty A),10,112⟩
def SB3 (tt tf ta tb:T) (x:Nd) (ty:Int) (N:List Nd) (i:Nat) (L:List (Nat×Nat)) (A:List Arc) (j:Nat) (p:Nat×Nat):A0b:=
 ⟨[(15,.ptr 10 0),(12,.t (iv (j:Int))),(11,.ptr 8 0),(10,.ptr 7 0),(9,.t (iv (i:Int))),(8,.ptr 5 0),(7,rowP ePr 4 L),(6,.ptr 3 0),(5,.ptr 2 0),(4,.ptr 1 0),(3,.ptr 0 0)],bfH tt tf ta tb L N (R2b x ty A++[(10,prR p)]),11,112⟩
def SB4 (tt tf ta tb:T) (tr:T) (ty:Int) (N:List Nd) (i:Nat) (L:List (Nat×Nat)):A0b:=
 ⟨[(11,.ptr 8 0),(9,.t (iv (i:Int))),(8,.ptr 5 0),(7,rowP ePr 4 L),(6,.ptr 3 0),(5,.ptr 2 0),(4,.ptr 1 0),(3,.ptr 0 0)],bfH tt tf ta tb L N [(8,.cells 61 [.t (iv ty),.t tr])],9,112⟩
def outN (jn:Int->Int->Int) (a b:List Nd) (i:Nat) (L:List (Nat×Nat)):List Nd:=(L.take i).map (ndK (A1l a b) (typP jn a b) L)
noncomputable def tb8x:Tbl:=[(66,E1u),(56,G3o),(67,G0d),(68,F1v)]
theorem cb8x:Ctx Try.prog G (orc tb8x):=(A1o.cons G4w (.cons E7f (.cons G0e (.cons E7c .nil)))).ctx A1w
theorem H0q (x y:Nd) (hy:∀(i j:Nat) p q,i<j->y.arcs[i]?=some p->y.arcs[j]?=some q->p.feat≠q.feat) (hy0:∀t∈y.arcs,0<=t.to) {j:Nat} {s:Arc} (hs:x.arcs[j]?=some s) :
  A2o x.arcs y.arcs (j+1)=A2o x.arcs y.arcs j++(if 0<=tgt y s.feat then [(s.feat,(s.to.toNat,(tgt y s.feat).toNat))]else []):=by
 rw[C4m hs,F9k hy hy0]
def SBE (tN:T):A0b:=⟨[(8,.ptr 5 0),(6,.ptr 3 0)],[(3,fsR nilS),(5,.cells 25 [.t tN])],7,112⟩
theorem D7f (H:Heap) (F:List Nat) (t:T):A3c H F (fsR t)=fsR t:=by simp only[fsR,A3c,List.map_cons,List.map_nil,B3d]
theorem B0r {H:Heap} {k z:Nat} {r:Row} (h:Abs.look H z=some r) (hz:z≠k):Abs.look ((remAll H [k]).map fun q=>(q.1,A3c H [k] q.2)) z=some (A3c H [k] r):=by
 have h1:Abs.look (remAll H [k]) z=some r:=by
  show Abs.look (rem H k) z=_
  rw[A1n,if_neg hz,h]
 rw[A7l,h1]
 rfl
theorem Bf.frz {tt tf ta tb:T} {kl kn k:Nat} {L:List (Nat×Nat)} {N:List Nd} {H:Heap} (w:Bf tt tf ta tb kl kn L N H) (h5:5<k) (hl:kl≠k) (hn:kn≠k):Bf tt tf ta tb kl kn L N ((remAll H [k]).map fun q=>(q.1,A3c H [k] q.2)) where
 h0:=by rw[B0r w.h0 (by omega)];simp only[A3c,List.map_cons,List.map_nil,B3d]
 h1:=by rw[B0r w.h1 (by omega),D7f]
 h2:=by rw[B0r w.h2 (by omega),D7f]
 h3:=by rw[B0r w.h3 (by omega),D7f]
 h4:=by rw[B0r w.h4 (by omega)];simp only[outR,A3c,List.map_cons,List.map_nil,A9p w.nr hn]
 lr:=A0i.frz w.lr hl
 nr:=A0i.frz w.nr hn
theorem E8p (s:Arc) {y:Nd} (hy:∀(i j:Nat) p q,i<j->y.arcs[i]?=some p->y.arcs[j]?=some q->p.feat≠q.feat) (hy0:∀t∈y.arcs,0<=t.to):∀l:List Arc,(l.flatMap fun s=>both s y.arcs).length<=l.length
 | []=>by simp
 | t::l=>by
  have:=E8p s hy hy0 l
  rw[List.flatMap_cons,List.length_append,F9k hy hy0,List.length_cons]
  split
  ·rw[List.length_singleton];omega
  ·rw[List.length_nil];omega
theorem E8q {α:Type} {e:Enc α} {ty:Nat} {H:Heap} {b:Nat} {l:List α} (h:A0i e ty H b l) (u:T):toTs H [rowP e b l,.t u]=some ([A0m e l,u],B6y b l):=by
 simp[Abs.toTs,h.toT,Abs.toT]
theorem G5a {a b:List Nd} {i:Nat} {x:Nat×Nat} (h:(A7j (A1l a b) (0,0) i)[i]?=some x):A7j (A1l a b) (0,0) (i+1)=(A1l a b x).foldl B5y (A7j (A1l a b) (0,0) i):=by
 rw[A7j,h]
theorem H0r {x y:Nd} (h:x.key=y.key) (hx:x.tree=A0m eArc x.arcs) (hy:y.tree=A0m eArc y.arcs):x=y:=by
 obtain⟨a,b,c,d⟩:=x
 obtain⟨a',b',c',d'⟩:=y
 injection h with h1 h2
 simp only at h1 h2 hx hy
 subst h1;subst h2;subst hx;subst hy
 rfl
theorem G0g:∀{l m:List Nd},l.map Nd.key=m.map Nd.key->(∀x∈l,x.tree=A0m eArc x.arcs)->(∀x∈m,x.tree=A0m eArc x.arcs)->l=m
 | [],[],_,_,_=>rfl
 | [],_::_,h,_,_=>by simp at h
 | _::_,[],h,_,_=>by simp at h
 | x::l,y::m,h,hl,hm=>by
  simp only[List.map_cons,List.cons.injEq]at h
  rw[H0r h.1 (hl x (by simp)) (hm y (by simp)),G0g h.2 (fun z hz=>hl z (by simp[hz])) (fun z hz=>hm z (by simp[hz]))]
set_option maxHeartbeats 2000000 in
theorem G0h {tt tf ta tb:T} {h:List Typ×List Ft} {a b:List Nd} (hT:IsS eTyp tt h.1) (hF:IsS eFt tf h.2) (hta:IsS eNd ta a) (htb:IsS eNd tb b) (hg:GPre h a b) :
  A0y Try.prog G 35 [.ag [tt,tf],.ag [ta],.ag [tb]] (· = genT h a b):=by
 obtain⟨hj,⟨ha,hb⟩,⟨sa,sb⟩,hab⟩:=hg
 have hz:eNd.z=2:=rfl
 have hzp:ePr.z=2:=rfl
 have hU:=B3m ha hb
 have hUl:=A9t a b
 obtain⟨jn,hjn⟩:∃jn,jn=A2q h.1:=⟨_,rfl⟩
 have cph:A0q (.t (.ag [tt,tf]))=some [.t tt,.t tf]:=rfl
 have cpa:∀x:T,A0q (.t (.ag [x]))=some [.t x]:=fun _=>rfl
 have agh:agOf [.t tt,.t tf] = .t (.ag [tt,tf]):=rfl
 have aga:∀x:T,agOf [.t x] = .t (.ag [x]):=fun _=>rfl
 have lt:∀(H:Heap) c d cs,A0f true 2 H (.t (.pt (c::d::cs)))=some (.t (.ag [c,d])):=fun _ _ _ _=>rfl
 have bdZ:∀{Φ:A1f} {H:Heap} {nx:Nat},A0l Φ H nx (.build [(0,1),(1,1)] [.int .i64 0,.int .i64 0] []) []=some (.t (.ag [iv 0,iv 0]),H,nx):=rfl
 have bsZ:∀nx,A1m 93 2 [.int .i64 0,.int .i64 0] 1 [(0,.t (.ag [iv 0,iv 0]))] nx=some (.row nx 0 1 2,.cells 93 [.t (iv 0),.t (iv 0)]):=fun _=>rfl
 have hinv:∀i,BInv (A1l a b) (B4c a b) (0,0) i (A7j (A1l a b) (0,0) i):=F9j hU (C1s ha hb)
 have hLl:∀i,(A7j (A1l a b) (0,0) i).length<=4096:=fun i=>by
  have:=C1x (hinv i).nodup (hinv i).sub
  omega
 refine B3t.call rfl ?_
 unfold A8j
 refine A0a cb8x ?_
 simp -implicitDefEqProofs [cph,cpa]
 refine A0a cb8x ?_
 simp -implicitDefEqProofs [-evalK_build,bdZ,bsZ]
 refine A0a cb8x ?_
 simp -implicitDefEqProofs
 refine A0r (fun i:Nat=>SBE (A0m eNd (outN jn a b i (A7j (A1l a b) (0,0) i)))) (fun i=>(A7j (A1l a b) (0,0) i).length=i) (fun _=>rfl) ?_ ?_
 ·refine A0a cb8x ?_
  simp -implicitDefEqProofs
  refine A0h ?_
  refine A1u (fun i:Nat=>SB1 tt tf ta tb (A7j (A1l a b) (0,0) i) (outN jn a b i (A7j (A1l a b) (0,0) i)) i) (fun i=>4097-i) (fun i=>i<=(A7j (A1l a b) (0,0) i).length) 0 (fun _=>rfl) (Nat.zero_le _) ?_ rfl ?_
  ·have hw:Bf tt tf ta tb 4 6 [(0,0)] [] [(5,Row.cells 25 [.t nilS]),(4,Row.cells 93 [.t (iv 0),.t (iv 0)]),(3,Row.cells 25 [.t nilS]),(2,Row.cells 25 [.t tb]),(1,Row.cells 25 [.t ta]),(0,Row.cells 29 [.t tt,.t tf])]:=
    ⟨rfl,rfl,rfl,rfl,rfl,.inr rfl,A0i.nil _ _ _ _⟩
   exact F2x (kl:=4) (kn:=6) (ka:=9) ⟨by omega,by omega,by omega,by omega⟩ (by omega) hw (fun q hq=>by cases hq) (by simp -implicitDefEqProofs [σb,ren,under,rowP,A7j];rfl)
  ·intro i hi
   obtain⟨L,hL⟩:∃L,L=A7j (A1l a b) (0,0) i:=⟨_,rfl⟩
   have hiL:=hinv i
   have hll:=hLl i
   rw[<-hL]at hi hiL hll
   obtain⟨N,hN⟩:∃N,N=outN jn a b i L:=⟨_,rfl⟩
   have hNl:N.length<=4096:=by
    rw[hN]
    unfold outN
    rw[List.length_map,List.length_take]
    omega
   have e1:IntKind.i64.wrap ((i:Int)+1)=((i+1:Nat):Int):=A0k (by omega) (by omega)
   by_cases hc:i<L.length
   ·obtain⟨p,hp⟩:∃p,L[i]?=some p:=⟨_,List.getElem?_eq_getElem hc⟩
    have hpL:=List.mem_of_getElem? hp
    have hpU:=hiL.sub p hpL
    obtain⟨p1,p2⟩:=A4x.1 hpU
    obtain⟨x,hx0⟩:∃x,x=ndAt a (p.1:Int):=⟨_,rfl⟩
    obtain⟨y,hy0⟩:∃y,y=ndAt b (p.2:Int):=⟨_,rfl⟩
    have hxa:a[p.1]?=some x:=by rw[hx0];exact(ha.nd p1).2
    have hyb:b[p.2]?=some y:=by rw[hy0];exact(hb.nd p2).2
    have hxm:=List.mem_of_getElem? hxa
    have hym:=List.mem_of_getElem? hyb
    have ix:=B3w hta hxa
    have iy:=B3w htb hyb
    have hxl:=sa.arcs x hxm
    have hyl:=sb.arcs y hym
    obtain⟨H0,hH0⟩:∃H0,H0=bfH tt tf ta tb L N []:=⟨_,rfl⟩
    have w0:Bf tt tf ta tb 4 6 L N H0:=by rw[hH0];exact Bf.mk' _ _ _
    have ip:=A2h (e:=ePr) (b:=4) hp .i64
    rw[hzp]at ip
    have lrow:∀{H:Heap},A0i ePr 93 H 4 L->A0f false 1 H (.ptr 4 (i*2))=some (.t (iv (p.1:Int)))/\A0f false 1 H (.ptr 4 (i*2+1))=some (.t (iv (p.2:Int))):=fun hr=>by
     have l0:=hr.load (off:=0) (c:=iv (p.1:Int)) hp rfl
     have l1:=hr.load (off:=1) (c:=iv (p.2:Int)) hp rfl
     rw[hzp]at l0 l1
     exact⟨l0,l1⟩
    have q1:A0f false 1 H0 (.ptr 1 0)=some (.t ta):=by simp[A0f,w0.h1,fsR]
    have st7:A0v 2 ((7,Row.cells 61 [.t (iv 0),.t nilS])::H0) (.ptr 7 0) (.t (.ag [iv x.type,x.tree]))=some ((7,ndR x)::H0):=rfl
    obtain⟨ty,hty⟩:∃ty,ty=typP jn a b p:=⟨_,rfl⟩
    have gj:E1u [.ag [tt,tf],iv x.type,iv y.type]=some (iv ty):=by
     rw[hty,hjn]
     unfold typP
     rw[<-hx0,<-hy0]
     have r1:=ha.tyr p1
     have r2:=hb.tyr p2
     rw[<-hx0]at r1
     rw[<-hy0]at r2
     exact E8m hT hF hj r1 r2
    have w1:=w0.cons (k:=7) (r:=ndR x) (by omega) (by omega) (by omega)
    obtain⟨H1,hH1⟩:∃H1,H1=(7,ndR x)::H0:=⟨_,rfl⟩
    have k7:Abs.look H1 7=some (ndR x):=by rw[hH1];rfl
    rw[<-hH1]at w1
    have q2:A0f true 2 H1 (.ptr 0 0)=some (.t (.ag [tt,tf])):=by simp[A0f,w1.h0,agh]
    have q3:A0f false 1 H1 (.ptr 7 0)=some (.t (iv x.type)):=by simp[A0f,k7,ndR]
    have q4:A0f false 1 H1 (.ptr 2 0)=some (.t tb):=by simp[A0f,w1.h2,fsR]
    have lf:∀(H:Heap) c cs,A0f false 1 H (.t (.pt (c::cs)))=some (.t c):=fun _ _ _=>rfl
    have bd1:∀{Φ:A1f} {H:Heap} {nx:Nat},A0l Φ H nx (.build [(0,1),(1,1)] [.int .i64 0,.slice none 0 0] [0]) [.t (iv ty)]=some (.t (.ag [iv ty,nilS]),H,nx):=rfl
    have st8:A0v 2 ((8,Row.cells 61 [.t (iv 0),.t nilS])::H1) (.ptr 8 0) (.t (.ag [iv ty,nilS]))=some ((8,arN ty 9 [])::H1):=rfl
    show MC _ _ _ _ _ _ (SB1 tt tf ta tb (A7j (A1l a b) (0,0) i) (outN jn a b i (A7j (A1l a b) (0,0) i)) i)
    rw[<-hL,<-hN]
    unfold SB1
    rw[<-hH0]
    refine A0a cb8x ?_
    simp -implicitDefEqProofs [A1q,hc]
    obtain⟨L2,hL2⟩:∃L2,L2=A7j (A1l a b) (0,0) (i+1):=⟨_,rfl⟩
    have hL2f:L2=(A1l a b p).foldl B5y L:=by
     rw[hL2,G5a (by rw[<-hL];exact hp),<-hL]
    refine A0r (fun _:Unit=>SB1 tt tf ta tb L2 (outN jn a b (i+1) L2) i) (fun _=>True) (fun _=>rfl) ?_ ?_
    ·refine A0h ?_
     refine A0a cb8x ?_
     simp -implicitDefEqProofs [q1,ip,(lrow w0.lr).1,ix,lt,st7]
     rw[<-hH1]
     refine A0a cb8x ?_
     simp -implicitDefEqProofs [q2,q3,q4,ip,(lrow w1.lr).2,iy,lf,tb8x,gj,-evalK_build,bd1,st8]
     have hxs:A9v a p.1=x.arcs:=by unfold A9v;rw[<-hx0]
     have hys:A9v b p.2=y.arcs:=by unfold A9v;rw[<-hy0]
     have hall:A1l a b p=A2o x.arcs y.arcs x.arcs.length:=by
      unfold A1l A2o
      rw[hxs,hys,List.take_length]
     have hds:∀j,∀c∈A2o x.arcs y.arcs j,c∈A1l a b p:=fun j c hc=>by rw[<-hxs,<-hys]at hc;exact E1w hc
     have hrun:∀j,BRan (B4c a b) L ((A2o x.arcs y.arcs j).foldl B5y L)/\∀c∈A2o x.arcs y.arcs j,c.2∈(A2o x.arcs y.arcs j).foldl B5y L:=fun j=>C1w _ L fun c hc=>hU p hpU c (hds j c hc)
     obtain⟨LJ,hLJ⟩:∃LJ:Nat->List (Nat×Nat),LJ=fun j=>(A2o x.arcs y.arcs j).foldl B5y L:=⟨_,rfl⟩
     obtain⟨AJ,hAJ⟩:∃AJ:Nat->List Arc,AJ=fun j=>(A2o x.arcs y.arcs j).map (arcK (LJ j)):=⟨_,rfl⟩
     have hrun':∀j,BRan (B4c a b) L (LJ j)/\∀c∈A2o x.arcs y.arcs j,c.2∈LJ j:=fun j=>by rw[hLJ];exact hrun j
     have hLJl:∀j,(LJ j).length<=4096:=fun j=>by
      have:=C1x ((hrun' j).1.nodup hiL.nodup) ((hrun' j).1.sub hiL.sub)
      omega
     have hLJ0:LJ 0=L:=by rw[hLJ];rfl
     have hAJ0:AJ 0=[]:=by rw[hAJ];rfl
     have hpj:∀j,(LJ j)[i]?=some p:=fun j=>by
      obtain⟨r,e⟩:=(hrun' j).1.pre
      rw[e,List.getElem?_append_left hc]
      exact hp
     refine A0r (fun _:Unit=>SB4 tt tf ta tb (A0m eArc (AJ x.arcs.length)) ty N i (LJ x.arcs.length)) (fun _=>True) (fun _=>rfl) ?_ ?_
     ·refine A0a cb8x ?_
      simp -implicitDefEqProofs
      refine A0h ?_
      refine A1a (fun j=>SB2 tt tf ta tb x ty N i (LJ j) (AJ j) j) x.arcs.length (fun _=>rfl) ?_ rfl ?_ ?_
      ·show Abs.Sub _ _ _ _ (SB2 tt tf ta tb x ty N i (LJ 0) (AJ 0) 0)
       rw[hLJ0,hAJ0]
       refine F2x (kl:=4) (kn:=6) (ka:=9) ⟨by omega,by omega,by omega,by omega⟩ (by omega) (w1.cons (by omega) (by omega) (by omega)) (G8p (by omega) (by rw[look_cons,if_neg (by omega)];exact k7) rfl (A0i.nil _ _ _ _)) (by simp -implicitDefEqProofs [σb,ren,A0g,under,A0e])
      ·intro j hj'
       obtain⟨s,hs⟩:∃s,x.arcs[j]?=some s:=⟨_,List.getElem?_eq_getElem hj'⟩
       have hsm:=List.mem_of_getElem? hs
       have hto:=ha.form.to x hxm s hsm
       have is:=A5h x.ok hs
       have e2:IntKind.i64.wrap ((j:Int)+1)=((j+1:Nat):Int):=A0k (by omega) (by omega)
       have wj:=Bf.mk' (tt:=tt) (tf:=tf) (ta:=ta) (tb:=tb) (LJ j) N (R2b x ty (AJ j)++[])
       obtain⟨j7,j8,j9⟩:=E4z (tt:=tt) (tf:=tf) (ta:=ta) (tb:=tb) (x:=x) (ty:=ty) (A:=AJ j) (R:=[]) (L:=LJ j) (N:=N)
       rw[List.append_nil]at wj j7 j8 j9
       obtain⟨Hj,hHj⟩:∃Hj,Hj=bfH tt tf ta tb (LJ j) N (R2b x ty (AJ j)):=⟨_,rfl⟩
       rw[<-hHj]at wj j7 j8 j9
       have u1:A0f true 1 Hj (.ptr 2 0)=some (.t (.ag [tb])):=by simp[A0f,wj.h2,fsR,aga]
       have ipj:=A2h (e:=ePr) (b:=4) (hpj j) .i64
       rw[hzp]at ipj
       have u2:A0f false 1 Hj (.ptr 4 (i*2+1))=some (.t (iv (p.2:Int))):=by
        have l1:=wj.lr.load (off:=1) (c:=iv (p.2:Int)) (hpj j) rfl
        rw[hzp]at l1
        exact l1
       have u3:A0f false 1 Hj (.ptr 7 1)=some (.t x.tree):=by simp[A0f,j7,ndR]
       have gs:=E7g htb hyb hyl s.feat
       have hD:=H0q x y (hb.form.apart y hym) (fun t ht=>(hb.form.to y hym t ht).1) hs
       rcases E0p hb hym s.feat with⟨t0,e⟩ | ⟨t0,e⟩
       ·rw[if_neg (by omega),List.append_nil]at hD
        have hL':LJ (j+1)=LJ j:=by rw[hLJ];show List.foldl B5y L (A2o x.arcs y.arcs (j+1))=_;rw[hD]
        have hA':AJ (j+1)=AJ j:=by rw[hAJ];show(A2o x.arcs y.arcs (j+1)).map (arcK (LJ (j+1)))=_;rw[hD,hL']
        rw[e]at gs
        refine A0c cb8x ?_
        rw[hL',hA']
        unfold SB2
        rw[<-hHj]
        simp -implicitDefEqProofs [u3,x.ok.len,hj',u1,ipj,u2,is,lf,tb8x,gs,extractV,e2]
        exact A3e (by simp -implicitDefEqProofs)
       ·rw[if_pos t0]at hD
        rw[e]at gs
        obtain⟨tg,htg⟩:∃tg,tg=tgt y s.feat:=⟨_,rfl⟩
        obtain⟨c,hc'⟩:∃c,c=(s.feat,(s.to.toNat,(tgt y s.feat).toNat)):=⟨_,rfl⟩
        rw[<-hc']at hD
        rw[<-htg]at gs t0
        have a1:((c.2.1:Nat):Int)=s.to:=by rw[hc'];show((s.to.toNat:Nat):Int)=s.to;omega
        have a2:((c.2.2:Nat):Int)=tg:=by rw[hc',<-htg];show((tg.toNat:Nat):Int)=tg;omega
        have a3:c.1=s.feat:=by rw[hc']
        have hL':LJ (j+1)=B5y (LJ j) c:=by
         rw[hLJ]
         show List.foldl B5y L (A2o x.arcs y.arcs (j+1))=_
         rw[hD,List.foldl_append]
         rfl
        have hcm:c.2∈LJ (j+1):=(hrun' (j+1)).2 c (by rw[hD];simp)
        have hA':AJ (j+1)=AJ j++[⟨s.feat,(idxK (LJ (j+1)) c.2:Int)⟩]:=by
         rw[hAJ]
         show(A2o x.arcs y.arcs (j+1)).map (arcK (LJ (j+1)))=(A2o x.arcs y.arcs j).map (arcK (LJ j))++_
         rw[hD,List.map_append,<-a3]
         congr 1
         have:∃r,LJ (j+1)=LJ j++r:=by
          rw[hL']
          unfold B5y
          split
          ·exact⟨[],by simp⟩
          ·exact⟨_,rfl⟩
         obtain⟨r,er⟩:=this
         rw[er]
         exact D7d (hrun' j).2
        have hAl:(AJ j).length<=1000000*1000000+1000000:=by
         rw[hAJ]
         show((A2o x.arcs y.arcs j).map (arcK (LJ j))).length<=_
         rw[List.length_map]
         have h2:=E1v x.arcs y.arcs j
         have h3:j*y.arcs.length<=1000000*1000000:=Nat.mul_le_mul (by omega) (by omega)
         omega
        have bdP:∀{Φ:A1f} {H:Heap} {nx:Nat} (f r:Int),A0l Φ H nx (.build [(0,1),(1,1)] [.int .i64 0,.int .i64 0] [0,1]) [.t (iv f),.t (iv r)]=some (.t (.ag [iv f,iv r]),H,nx):=fun _ _=>rfl
        have st10:A0v 2 ((10,Row.cells 93 [.t (iv 0),.t (iv 0)])::Hj) (.ptr 10 0) (.t (.ag [iv s.to,iv tg]))=some ((10,prR c.2)::Hj):=by rw[<-a1,<-a2];rfl
        have wp:=wj.cons (k:=10) (r:=prR c.2) (by omega) (by omega) (by omega)
        obtain⟨Hp,hHp⟩:∃Hp,Hp=(10,prR c.2)::Hj:=⟨_,rfl⟩
        rw[<-hHp]at wp st10
        have p7:Abs.look Hp 7=some (ndR x):=by rw[hHp,look_cons,if_neg (by omega)];exact j7
        have p8:Abs.look Hp 8=some (arN ty 9 (AJ j)):=by rw[hHp,look_cons,if_neg (by omega)];exact j8
        have p9:A0i eArc 81 Hp 9 (AJ j):=by rw[hHp];exact j9.cons (by omega)
        have p10:Abs.look Hp 10=some (prR c.2):=by rw[hHp];rfl
        have agp:agOf [.t (iv (c.2.1:Int)),.t (iv (c.2.2:Int))] = .t (.ag [iv (c.2.1:Int),iv (c.2.2:Int)]):=rfl
        have lb10:∀{H:Heap},Abs.look H 10=some (prR c.2)->A0f true 2 H (.ptr 10 0)=some (.t (.ag [iv (c.2.1:Int),iv (c.2.2:Int)])):=fun h=>by simp[A0f,h,prR,agp]
        have r3:∀{kl ka:Nat} {H:Heap},Abs.look H 7=some (ndR x)->Abs.look H 8=some (arN ty ka (AJ j))->A0i eArc 81 H ka (AJ j)->Abs.look H 10=some (prR c.2) ->
          ∀q∈R2b x ty (AJ j)++[(10,prR c.2)],Abs.look H (σb kl 6 ka q.1)=some (A1v (σb kl 6 ka) q.2)/\q.1<11/\A1b 11 q.2=true/\q.1<=10:=fun h7 h8 h9 h10 q hq=>by
         rcases List.mem_append.1 hq with hq | hq
         ·exact G8p (by omega) h7 h8 h9 q hq
         ·rw[List.mem_singleton]at hq
          subst hq
          exact⟨h10,by show 10<11;omega,rfl,Nat.le_refl _⟩
        refine A0a cb8x ?_
        unfold SB2
        rw[<-hHj]
        simp -implicitDefEqProofs [u3,x.ok.len,hj']
        refine A0r (fun _:Unit=>SB2 tt tf ta tb x ty N i (LJ (j+1)) (AJ (j+1)) j) (fun _=>True) (fun _=>rfl) ?_ ?_
        ·refine A0h ?_
         refine A0a cb8x ?_
         simp -implicitDefEqProofs [u1,ipj,u2,u3,is,lf,tb8x,gs,extractV]
         refine A0a cb8x ?_
         simp -implicitDefEqProofs
         refine A0a cb8x ?_
         simp -implicitDefEqProofs [u3,is,lf,-evalK_build,bdP,st10]
         refine A0r (fun _:Unit=>SB3 tt tf ta tb x ty N i (LJ (j+1)) (AJ j) j c.2) (fun _=>True) (fun _=>rfl) ?_ ?_
         ·have gp:=E1x (IsS.tree ePr (LJ j)) (by have:=hLJl j;omega) c.2
          have tts:=E8q wp.lr (.ag [iv (c.2.1:Int),iv (c.2.2:Int)])
          by_cases hm:c.2∈LJ j
          ·have hpl:C5q (LJ j) c.2=(idxK (LJ j) c.2:Int):=if_pos hm
           have hneg:¬((idxK (LJ j) c.2:Int)<0):=by omega
           rw[hpl]at gp
           have hL3:LJ (j+1)=LJ j:=by rw[hL'];exact if_pos hm
           refine A0c cb8x ?_
           simp -implicitDefEqProofs [lb10 p10,-Abs.toTs,tts,tb8x,gp,hneg]
           refine Next.mk () trivial ?_
           unfold SB3
           rw[hL3]
           exact F2x (kl:=4) (kn:=6) (ka:=9) ⟨by omega,by omega,by omega,by omega⟩ (by omega) wp (r3 p7 p8 p9 p10) (by simp -implicitDefEqProofs [σb,ren,A0g,under,A0e])
          ·have hpl:C5q (LJ j) c.2 = -1:=if_neg hm
           rw[hpl]at gp
           have hL3:LJ (j+1)=LJ j++[c.2]:=by rw[hL'];exact if_neg hm
           have bsP:A1m 93 2 [.int .i64 0,.int .i64 0] 1 [(0,.t (.ag [iv (c.2.1:Int),iv (c.2.2:Int)]))] 11=some (.row 11 0 1 2,.cells 93 ((ePr.enc c.2).map .t)):=rfl
           have hll2:=hLJl j
           obtain⟨b',H',n',ap,r',ne',le',lk',ge'⟩:=A1k (e:=ePr) (ty:=93) (by':=16) (nx:=12) (m:=[c.2]) (wp.lr.cons (k:=11) (r:=.cells 93 ((ePr.enc c.2).map .t)) (by omega)) (A3d (b:=11) (ty:=93) c.2 (by simp)) (by simp;omega) (by simp;omega)
           rw[hzp]at ap
           have key:∀z,z≠4->z<11->Abs.look H' z=Abs.look Hp z:=fun z z4 z11=>by rw[lk' z z4 (by omega),look_cons,if_neg (by omega)]
           have wq:Bf tt tf ta tb b' 6 (LJ j++[c.2]) N H':=
            ⟨by rw[key 0 (by omega) (by omega)];exact wp.h0,by rw[key 1 (by omega) (by omega)];exact wp.h1,by rw[key 2 (by omega) (by omega)];exact wp.h2,by rw[key 3 (by omega) (by omega)];exact wp.h3,by rw[key 5 (by omega) (by omega)];exact wp.h4,r',wp.nr.imp id fun q=>by rw[key 6 (by omega) (by omega)];exact q⟩
           refine A0c cb8x ?_
           simp -implicitDefEqProofs [lb10 p10,-Abs.toTs,tts,tb8x,gp,bsP,ap]
           refine Next.mk () trivial ?_
           unfold SB3
           rw[hL3]
           exact F2x (kl:=b') (kn:=6) (ka:=9) ⟨by omega,by omega,by omega,by omega⟩ (by omega) wq (r3 (by rw[key 7 (by omega) (by omega)];exact p7) (by rw[key 8 (by omega) (by omega)];exact p8) (p9.imp id fun q=>by rw[key 9 (by omega) (by omega)];exact q) (by rw[key 10 (by omega) (by omega)];exact p10)) (by simp -implicitDefEqProofs [σb,ren,A0g,under,A0e])
         ·rintro _ _
          obtain⟨LL,hLL⟩:∃LL,LL=LJ (j+1):=⟨_,rfl⟩
          have hLLl:LL.length<=4096:=by rw[hLL];exact hLJl (j+1)
          rw[<-hLL]at hcm hA' ⊢
          have ws:=Bf.mk' (tt:=tt) (tf:=tf) (ta:=ta) (tb:=tb) LL N (R2b x ty (AJ j)++[(10,prR c.2)])
          obtain⟨s7,s8,s9⟩:=E4z (tt:=tt) (tf:=tf) (ta:=ta) (tb:=tb) (x:=x) (ty:=ty) (A:=AJ j) (R:=[(10,prR c.2)]) (L:=LL) (N:=N)
          have s10:Abs.look (bfH tt tf ta tb LL N (R2b x ty (AJ j)++[(10,prR c.2)])) 10=some (prR c.2):=by
           rw[C2f (by omega)]
           unfold R2b
           rw[List.cons_append,List.cons_append,look_cons,if_neg (by omega),look_cons,if_neg (by omega),C2e (by omega)]
           rfl
          obtain⟨Hs,hHs⟩:∃Hs,Hs=bfH tt tf ta tb LL N (R2b x ty (AJ j)++[(10,prR c.2)]):=⟨_,rfl⟩
          rw[<-hHs]at ws s7 s8 s9 s10
          have v1:A0f false 1 Hs (.ptr 8 1)=some (rowP eArc 9 (AJ j)):=by simp[A0f,s8,arN]
          have v3:A0f false 1 Hs (.ptr 7 1)=some (.t x.tree):=by simp[A0f,s7,ndR]
          have gp:=E1x (IsS.tree ePr LL) (by omega) c.2
          have tts:=E8q ws.lr (.ag [iv (c.2.1:Int),iv (c.2.2:Int)])
          have hpl:C5q LL c.2=(idxK LL c.2:Int):=if_pos hcm
          rw[hpl]at gp
          obtain⟨z,hz'⟩:∃z:Int,z=(idxK LL c.2:Int):=⟨_,rfl⟩
          rw[<-hz']at gp hA'
          have ts2:A9a 81 2 [.int .i64 0,.int .i64 0] 1 [(0,.t (.ag [iv s.feat,iv z]))]=some (.t (.sl 1 [iv s.feat,iv z])):=rfl
          obtain⟨b',H',n',ap,r',ne',le',lk',ge'⟩:=A1k (e:=eArc) (ty:=81) (by':=16) (nx:=11) (m:=[⟨s.feat,z⟩]) s9 (A7m (t:=.sl 1 [iv s.feat,iv z]) (.inr rfl)) (by simp;omega) (by simp;omega)
          rw[show eArc.z=2 from rfl,<-hA']at ap
          rw[<-hA']at r'
          have g8:Abs.look H' 8=some (arN ty 9 (AJ j)):=by rw[lk' 8 (by omega) (by omega)];exact s8
          have sto:A0v 1 H' (.ptr 8 1) (rowP eArc b' (AJ (j+1)))=some (upd H' 8 (arN ty b' (AJ (j+1)))):=by
           simp only[A0v,A7a,g8,arN]
           rfl
          have key:∀z,z≠8->z≠9->z<11->Abs.look (upd H' 8 (arN ty b' (AJ (j+1)))) z=Abs.look Hs z:=fun z z8 z9 z11=>by rw[A0n,if_neg z8,lk' z z9 (by omega)]
          refine A0c cb8x ?_
          unfold SB3
          rw[<-hHs]
          simp -implicitDefEqProofs [v1,v3,is,lf,lb10 s10,-Abs.toTs,tts,tb8x,gp,-evalK_build,bdP,ts2,ap,sto]
          refine Next.mk () trivial ?_
          unfold SB2
          refine F2x (kl:=4) (kn:=6) (ka:=b') ⟨by omega,by omega,by omega,by omega⟩ (by omega) (ws.keep fun z hz=>key z (by omega) (by omega) (by omega)) (G8p (by omega) (by rw[key 7 (by omega) (by omega) (by omega)];exact s7) (by rw[A0n,if_pos rfl,g8];rfl) (r'.imp id fun q=>by rw[A0n,if_neg (by omega)];exact q)) (by simp -implicitDefEqProofs [σb,ren,A0g,under,A0e])
        ·rintro _ _
         refine A0c cb8x ?_
         simp -implicitDefEqProofs [SB2,e2]
         exact A3e (by simp -implicitDefEqProofs)
      ·have wj:=Bf.mk' (tt:=tt) (tf:=tf) (ta:=ta) (tb:=tb) (LJ x.arcs.length) N (R2b x ty (AJ x.arcs.length)++[])
       obtain⟨j7,j8,j9⟩:=E4z (tt:=tt) (tf:=tf) (ta:=ta) (tb:=tb) (x:=x) (ty:=ty) (A:=AJ x.arcs.length) (R:=[]) (L:=LJ x.arcs.length) (N:=N)
       rw[List.append_nil]at wj j7 j8 j9
       obtain⟨Hj,hHj⟩:∃Hj,Hj=bfH tt tf ta tb (LJ x.arcs.length) N (R2b x ty (AJ x.arcs.length)):=⟨_,rfl⟩
       rw[<-hHj]at wj j7 j8 j9
       have u1:A0f false 1 Hj (.ptr 7 1)=some (.t x.tree):=by simp[A0f,j7,ndR]
       refine A0c cb8x ?_
       unfold SB2
       rw[<-hHj]
       simp -implicitDefEqProofs [u1,x.ok.len]
       refine Next.mk () trivial ?_
       refine(A9c [9]).trans ?_
       unfold SB4 A0b.frz
       refine F2x (kl:=4) (kn:=6) (ka:=9) ⟨by omega,by omega,by omega,by omega⟩ (by omega) (wj.frz (by omega) (by omega) (by omega)) (fun q hq=>?_) (by simp -implicitDefEqProofs [B3d,C4b,A9p wj.lr (show(4:Nat)≠9 by omega),σb,ren,A0g,under,A0e])
       rw[List.mem_singleton]at hq
       subst hq
       refine⟨?_,by show 8<9;omega,rfl,by show 8<=10;omega⟩
       show Abs.look _ 8=_
       rw[B0r j8 (by omega)]
       simp only[arN,A3c,List.map_cons,List.map_nil,B3d,B9c j9]
       rfl
     ·rintro _ _
      obtain⟨A,hA⟩:∃A,A=AJ x.arcs.length:=⟨_,rfl⟩
      have hLL:LJ x.arcs.length=L2:=by rw[hLJ,hL2f,hall]
      rw[<-hA,hLL]
      have ws:=Bf.mk' (tt:=tt) (tf:=tf) (ta:=ta) (tb:=tb) L2 N [(8,Row.cells 61 [.t (iv ty),.t (A0m eArc A)])]
      have s8:Abs.look (bfH tt tf ta tb L2 N [(8,Row.cells 61 [.t (iv ty),.t (A0m eArc A)])]) 8=some (Row.cells 61 [.t (iv ty),.t (A0m eArc A)]):=by rw[C2f (by omega)];rfl
      obtain⟨Hs,hHs⟩:∃Hs,Hs=bfH tt tf ta tb L2 N [(8,Row.cells 61 [.t (iv ty),.t (A0m eArc A)])]:=⟨_,rfl⟩
      rw[<-hHs]at ws s8
      have agN:agOf [.t (iv ty),.t (A0m eArc A)] = .t (.ag [iv ty,A0m eArc A]):=rfl
      have u1:A0f false 1 Hs (.ptr 5 0)=some (rowP eNd 6 N):=by simp[A0f,ws.h4,outR]
      have u2:A0f true 2 Hs (.ptr 8 0)=some (.t (.ag [iv ty,A0m eArc A])):=by simp[A0f,s8,agN]
      have bsN:A1m 61 2 [.int .i64 0,.slice none 0 0] 1 [(0,.t (.ag [iv ty,A0m eArc A]))] 9=some (.row 9 0 1 2,.cells 61 [.t (iv ty),.t (A0m eArc A)]):=rfl
      obtain⟨b',H',n',ap,r',ne',le',lk',ge'⟩:=A1k (e:=eNd) (ty:=61) (by':=32) (nx:=10) (m:=[mkNd ty A]) (ws.nr.cons (k:=9) (r:=.cells 61 [.t (iv ty),.t (A0m eArc A)]) (by omega)) (A3d (b:=9) (ty:=61) (mkNd ty A) rfl) (by simp;omega) (by simp;omega)
      rw[hz]at ap
      have g5:Abs.look H' 5=some (outR 6 N):=by rw[lk' 5 (by omega) (by omega),look_cons,if_neg (by omega)];exact ws.h4
      have sto:A0v 1 H' (.ptr 5 0) (rowP eNd b' (N++[mkNd ty A]))=some (upd H' 5 (outR b' (N++[mkNd ty A]))):=by
       simp only[A0v,A7a,g5,outR]
       rfl
      have wf:Bf tt tf ta tb 4 b' L2 (N++[mkNd ty A]) (upd H' 5 (outR b' (N++[mkNd ty A]))):=by
       have key:∀z,z≠5->z≠6->z<9->Abs.look (upd H' 5 (outR b' (N++[mkNd ty A]))) z=Abs.look Hs z:=fun z z5 z6 z9=>by
        rw[A0n,if_neg z5,lk' z z6 (by omega),look_cons,if_neg (by omega)]
       refine⟨?_,?_,?_,?_,?_,ws.lr.imp id fun q=>?_,r'.imp id fun q=>?_⟩
       ·rw[key 0 (by omega) (by omega) (by omega)];exact ws.h0
       ·rw[key 1 (by omega) (by omega) (by omega)];exact ws.h1
       ·rw[key 2 (by omega) (by omega) (by omega)];exact ws.h2
       ·rw[key 3 (by omega) (by omega) (by omega)];exact ws.h3
       ·rw[A0n,if_pos rfl,g5];rfl
       ·rw[key 4 (by omega) (by omega) (by omega)];exact q
       ·rw[A0n,if_neg (by omega)];exact q
      have hout:outN jn a b (i+1) L2=N++[mkNd ty A]:=by
       have hb2:BRan (B4c a b) L L2:=by rw[<-hLL];exact(hrun' x.arcs.length).1
       obtain⟨r,er⟩:=hb2.pre
       unfold outN
       rw[er,List.take_append_of_le_length (by omega),List.take_add_one,hp,List.map_append,<-er]
       congr 1
       ·rw[hN]
        unfold outN
        refine List.map_congr_left fun z hz=>?_
        rw[er]
        exact F9f (hiL.done z hz)
       ·show [mkNd (typP jn a b p) ((A1l a b p).map (arcK L2))]=[mkNd ty A]
        rw[<-hty,hA,hAJ,<-hLL,hall]
      refine A0c cb8x ?_
      unfold SB4
      rw[<-hHs]
      simp -implicitDefEqProofs [u1,u2,bsN,ap,sto]
      refine Next.mk () trivial ?_
      unfold SB1
      rw[hout]
      exact H0p (kl:=4) (kn:=b') (by omega) (by omega) wf (by simp -implicitDefEqProofs [σb,ren,A0g,under,A0e])
    ·rintro _ _
     refine A0c cb8x ?_
     simp -implicitDefEqProofs [SB1,e1]
     have hb2:L.length<=L2.length:=by
      rw[hL2f]
      obtain⟨r,er⟩:=(C1w (U:=B4c a b) (A1l a b p) L fun c hc=>hU p hpU c hc).1.pre
      rw[er]
      simp
     refine Next.mk (i+1) ⟨by rw[<-hL2];omega,by omega⟩ ?_
     rw[<-hL2]
     exact A3e (by simp -implicitDefEqProofs)
   ·have hil:L.length=i:=by omega
    have wj:=Bf.mk' (tt:=tt) (tf:=tf) (ta:=ta) (tb:=tb) L N []
    obtain⟨Hj,hHj⟩:∃Hj,Hj=bfH tt tf ta tb L N []:=⟨_,rfl⟩
    rw[<-hHj]at wj
    show MC _ _ _ _ _ _ (SB1 tt tf ta tb (A7j (A1l a b) (0,0) i) (outN jn a b i (A7j (A1l a b) (0,0) i)) i)
    rw[<-hL,<-hN]
    unfold SB1
    rw[<-hHj]
    refine A0c cb8x ?_
    simp -implicitDefEqProofs [A1q,hc]
    refine Next.mk i (by rw[<-hL];exact hil) ?_
    rw[<-hL,<-hN]
    refine(A9c [6]).trans ?_
    unfold SBE A0b.frz
    refine C4d (by omega) (fun q hq=>?_) (by simp -implicitDefEqProofs [C4b,under])
    simp only[List.mem_cons,List.not_mem_nil,or_false]at hq
    rcases hq with rfl | rfl
    ·exact⟨by rw[B0r wj.h3 (by omega),D7f],by show 3<7;omega,rfl⟩
    ·refine⟨?_,by show 5<7;omega,rfl⟩
     rw[B0r wj.h4 (by omega)]
     simp only[outR,A3c,List.map_cons,List.map_nil,B9c wj.nr]
 ·rintro i hi
  obtain⟨L,hL⟩:∃L,L=A7j (A1l a b) (0,0) i:=⟨_,rfl⟩
  have hiL:=hinv i
  have hll:=hLl i
  rw[<-hL]at hi hiL hll
  obtain⟨N,hN⟩:∃N,N=outN jn a b i L:=⟨_,rfl⟩
  rw[<-hL,<-hN]
  have hNc:N=A3z (A1l a b) (typP jn a b) L:=by
   rw[hN]
   unfold outN A3z
   rw[List.take_of_length_le (by omega)]
  have hcl:Closed (A1l a b) L:=fun z hz c hc=>hiL.done z (by rw[List.take_of_length_le (by omega)];exact hz) c hc
  have hpos:0<N.length:=by rw[hNc,A8a];exact(List.getElem?_eq_some_iff.1 hiL.head).1
  have hNs:A2t N:=by
   refine⟨by rw[hNc,A8a];omega,fun z hz=>?_⟩
   rw[hNc]at hz
   obtain⟨q,hq,rfl⟩:=A9q hz
   obtain⟨q1,q2⟩:=A4x.1 (hiL.sub q hq)
   show((A1l a b q).map _).length<=_
   rw[List.length_map]
   have hb1:=hb.nd q2
   refine Nat.le_trans (E8p ⟨0,0⟩ (hb.form.apart _ hb1.1) (fun t ht=>(hb.form.to _ hb1.1 t ht).1) _) ?_
   exact sa.arcs _ (ha.nd q1).1
  have gf:=E7d (IsS.tree eNd N) hNs (by rw[hNc];exact D7a hcl) (n:=0) hpos
  have hfr:A4n N 0=genL jn a b:=by
   refine G0g ?_ (fun z hz=>?_) (fun z hz=>?_)
   ·rw[hNc]
    exact G4s hiL (by omega) (by rw[hUl];exact Nat.le_refl _) (E8c ha hb)
   ·obtain⟨q,_,rfl⟩:=List.mem_map.1 hz
    rfl
   ·obtain⟨q,_,rfl⟩:=List.mem_map.1 hz
    rfl
  rw[hfr]at gf
  have hres:genT h a b = .ag [A0m eNd (genL jn a b)]:=by rw[hjn];rfl
  have gf:F1v [.ag [A0m eNd N],.v (.int .i64 0)]=some (.ag [A0m eNd (genL jn a b)]):=gf
  refine A0c cb8x ?_
  simp -implicitDefEqProofs [SBE,fsR,A0f,aga,tb8x,gf,cpa,A0v,A1h,hres]
end Go.Proofs.Ytbiadmfmjnoecaa
