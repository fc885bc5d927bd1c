/-
 Auxiliary facts. No statement of the program stands here.
-/
import Derived.Test.YtbiadmfmjnoecaaVRQ14
namespace Go.Proofs.Ytbiadmfmjnoecaa
set_option linter.unusedSimpArgs false
set_option linter.unusedVariables false
open Go Go.Abs
theorem F5o {b:T} {l:List W} (hb:decB b=some l) (i:Nat):A0y Try.prog G 116 [b,.v (.int .i64 (i:Int))] (· = uv (wd l i)):=by
 by_cases hi:i<l.length
 ·have hx:l[i]?=some (wd l i):=by simp[wd,hi]
  refine C2d.runs ctx0 rfl ?_
  simp -implicitDefEqProofs [B5q,A1v hb,A2g hb,A2k _ hx,hi]
 ·refine C2d.runs ctx0 rfl ?_
  have hw:wd l i=0:=by simp[wd,hi]
  simp -implicitDefEqProofs [B5q,A1v hb,hi,hw,uv]
theorem G2i:GOK Try.prog G 116 D8n:=by
 intro args r h
 unfold D8n at h
 split at h
 ·split at h
  ·rename_i i l hl
   split at h
   ·rename_i h0
    injection h with h;subst h
    obtain⟨n,rfl⟩:=Int.eq_ofNat_of_zero_le h0
    exact F5o hl n
   ·cases h
  ·cases h
 ·cases h
theorem D8t {t:T} {l:List W} (hb:decB t=some l) (hl:l.length<=1000):A0y Try.prog G 117 [t] (· = encB (A1x l)):=by
 refine C3z.call rfl ?_
 unfold B3s
 refine A0a ctx0 ?_
 simp -implicitDefEqProofs
 refine A0a ctx0 ?_
 simp -implicitDefEqProofs [A1v hb]
 refine A0s (Sn 23 t) (fun a=>a<=l.length/\A1x l=l.take a) (fun _=>rfl) ?_ ?_
 ·refine A0h ?_
  refine A2o (Sn 23 t) id (fun a=>a<=l.length/\A1x (l.take a)=A1x l) l.length (fun _=>rfl) ⟨Nat.le_refl _,by simp⟩ ?_ rfl ?_
  ·refine A0c rfl rfl ?_ ?_<;>simp -implicitDefEqProofs [Sn]
  ·rintro a ⟨ha,hn⟩
   refine A0d ctx0 ?_
   cases a with
   | zero=>
    simp -implicitDefEqProofs [Sn]
    refine Next.mk 0 ?_ (A0c rfl rfl ?_ ?_)
    ·exact⟨by omega,by rw[<-hn];simp[A1x]⟩
    all_goals simp -implicitDefEqProofs [Sn]
   | succ a=>
    have e1:IntKind.i64.wrap (a:Int)=(a:Int):=A8h (by omega) (by omega)
    obtain⟨x,hx⟩:∃x,l[a]?=some x:=⟨_,List.getElem?_eq_getElem (by omega)⟩
    have ha':a<l.length:=by omega
    by_cases h0:x=0
    ·subst h0
     simp -implicitDefEqProofs [Sn,e1,A2g hb,A2k _ hx,ha',uv]
     refine Next.mk a ?_ (A0c rfl rfl ?_ ?_)
     ·exact⟨⟨by omega,by rw[<-hn,D2c ha' hx]⟩,by simp⟩
     all_goals simp -implicitDefEqProofs [Sn]
    ·have h0':((x.toNat:Int)==0)=false:=by
      rw[beq_eq_false_iff_ne]
      exact fun h=>h0 (BitVec.eq_of_toNat_eq (by simpa using h))
     simp -implicitDefEqProofs [Sn,e1,A2g hb,A2k _ hx,ha',uv,h0']
     refine Next.mk (a+1) ?_ (A0c rfl rfl ?_ ?_)
     ·exact⟨by omega,by rw[<-hn,D2d hx h0]⟩
     all_goals simp -implicitDefEqProofs [Sn]
 ·rintro a ⟨ha,hn⟩
  refine A0d ctx0 ?_
  have b1:a*8<=140737488355328:=by omega
  have b2:a<=9223372036854775807:=by omega
  rcases B5r hb with⟨rfl,rfl⟩ | rfl
  ·have:a=0:=by simpa using ha
   subst this
   simp -implicitDefEqProofs [Sn,nilT,A1p,A5q,A9j,A4e,srcP,appM,encB,hn]
  ·have tk:allT (List.take a (l.map (PV.t∘uv)))=some (List.take a (l.map uv)):=by rw[<-allT_map_t,List.map_take,List.map_map]
   simp -implicitDefEqProofs [Sn,A1p,A5q,A9j,A4e,srcP,appM,encB,hn,ha,b1,b2,List.take_take,tk]
def gRN:List T->Option T
 | [t]=>match decB t with
  | some l=>if l.length<=1000 then some (encB (A1x l))else none
  | none=>none
 | _=>none
theorem D2n:GOK Try.prog G 117 gRN:=by
 intro args r h
 unfold gRN at h
 split at h
 ·split at h
  ·rename_i l hl
   split at h
   ·rename_i hlt
    injection h with h;subst h
    exact D8t hl hlt
   ·cases h
  ·cases h
 ·cases h
theorem F5p (l:List W) (n:Nat) (hn:n=l.length) (h:l.length<=1000):gRN [.sl n (l.map uv)]=some (encB (A1x l)):=by
 subst hn
 have:=A1h l
 unfold encB at this
 simp[gRN,this,h]
def tb2:Tbl:=[(117,gRN),(116,D8n)]
theorem ctx2:Ctx Try.prog G (orc tb2):=(A1t.cons D2n (A1t.cons G2i A1t.nil)).ctx A1u
def upTo (f:Nat->W) (n:Nat):List W:=(List.range n).map f
theorem C7j (f:Nat->W) (n:Nat):upTo f (n+1)=upTo f n++[f n]:=by simp[upTo,List.range_succ]
theorem A3t (f:Nat->W) (n:Nat):(upTo f n).length=n:=by simp[upTo]
def D8u:Nat->PV
 | 0=>.t (.v (.slice none 0 0))
 | k+1=>.row (2*k+1) 0 (k+1) 1
def B7a (f:Nat->W):Nat->Heap
 | 0=>[]
 | k+1=>[(2*k+1,.cells 142 ((upTo f (k+1)).map tw))]
def F5q (f:Nat->W):Nat->T
 | 0=>.v (.slice none 0 0)
 | k+1=>.sl (k+1) ((upTo f (k+1)).map uv)
def G5u:Nat->List Nat
 | 0=>[]
 | k+1=>[2*k+1]
theorem H0t (f:Nat->W) (j:Nat) (hj:j<=1000):appM 142 1 8 ((2*j,.cells 142 [.t (uv (f j))])::B7a f j) (2*j+1) (D8u j) (.row (2*j) 0 1 1)=some (D8u (j+1),B7a f (j+1)++[(2*j,.cells 142 [.t (uv (f j))])],2*(j+1)):=by
 cases j with
 | zero=>simp[appM,srcP,B7a,D8u,upTo,tw]
 | succ k=>
  have b1:(k+1+1)*8<=140737488355328:=by omega
  have b2:k+1+1<=9223372036854775807:=by omega
  have e:2*(k+1)=2*k+2:=by omega
  simp[appM,srcP,B7a,D8u,A3t,b1,b2,e,C7j,tw]
  omega
theorem H0u (f:Nat->W) (n:Nat):toT (B7a f n) (D8u n)=some (F5q f n,G5u n):=by
 cases n with
 | zero=>rfl
 | succ k=>
  have tk:List.take (k+1) ((upTo f (k+1)).map tw)=(upTo f (k+1)).map tw:=List.take_of_length_le (by simp[A3t])
  simp[B7a,D8u,F5q,G5u,A3t,tk,E2n]
theorem H0v (f:Nat->W) (n:Nat) (h:n<=1000):gRN [F5q f n]=some (encB (A1x (upTo f n))):=by
 cases n with
 | zero=>rfl
 | succ k=>exact F5p _ _ (A3t f _).symm (by rw[A3t];exact h)
def SR (N:Nat) (a b:T) (f:Nat->W) (j:Nat):A0b:=⟨[(6,.t (.v (.int .i64 (j:Int)))),(5,D8u j),(1,.t b),(0,.t a)],B7a f j,2*j,N⟩
theorem H3b {a b:T} {l m:List W} (ha:decB a=some l) (hb:decB b=some m) (hl:l.length<=1000) (hm:m.length<=1000):A0y Try.prog G 88 [a,b] (· = encB (A1x (upTo (fun i=>wd l i|||wd m i) (max l.length m.length)))):=by
 refine E6l.call rfl ?_
 unfold D4k
 refine A0a ctx2 ?_
 simp -implicitDefEqProofs
 refine A0a ctx2 ?_
 simp -implicitDefEqProofs
 obtain⟨n,hn⟩:∃n,n=max l.length m.length:=⟨_,rfl⟩
 rw[<-hn]
 have hmin:(if l.length<m.length then(m.length:Int)else(l.length:Int))=(n:Int):=by split<;>omega
 refine A0s (fun _:Unit=>SR 28 a b (fun i=>wd l i|||wd m i) n) (fun _=>True) (fun _=>rfl) ?_ ?_
 ·refine A0a ctx2 ?_
  simp -implicitDefEqProofs
  refine A0h ?_
  refine A1b (SR 28 a b (fun i=>wd l i|||wd m i)) n (fun _=>rfl) ?_ rfl ?_ ?_
  ·refine A0c rfl rfl ?_ ?_<;>simp -implicitDefEqProofs [SR,D8u,B7a]
  ·intro j hj
   refine A0d ctx2 ?_
   have w1:=A8i ha j
   have w2:=A8i hb j
   have e1:IntKind.i64.wrap ((j:Int)+1)=((j+1:Nat):Int):=A0l (by omega) (by omega)
   have fj:∀x:W,A5q (fun i=>some (i,1)) [.t (.v (.int .u64 0))] [(0,.t (uv x))]=some [.t (uv x)]:=fun x=>rfl
   have ap:=H0t (fun i=>wd l i|||wd m i) j (by omega)
   simp -implicitDefEqProofs [SR,hj,w1,w2,tb2,A1p,A9j,fj,ap,A1v ha,A1v hb,hmin,e1]
   refine A0c rfl rfl ?_ ?_<;>simp -implicitDefEqProofs [B7a]
  ·refine A0d ctx2 ?_
   simp -implicitDefEqProofs [SR,A1v ha,A1v hb,hmin]
   exact Next.mk () trivial (A0c rfl rfl (by simp -implicitDefEqProofs) (by cases n<;>simp -implicitDefEqProofs [B7a]))
 ·rintro _ -
  refine A0d ctx2 ?_
  have tt:=H0u (fun i=>wd l i|||wd m i) n
  have gn:=H0v (fun i=>wd l i|||wd m i) n (by omega)
  simp -implicitDefEqProofs [SR,tt,gn,tb2]
def S11 (a b:T) (j:Nat):A0b:=⟨[(5,.t (.v (.int .i64 (j:Int)))),(1,.t b),(0,.t a)],[],0,26⟩
theorem uv_ne {x y:W} (h:x≠y):((x.toNat:Int) !=(y.toNat:Int))=true:=by
 rw[bne_iff_ne]
 exact fun e=>h (BitVec.eq_of_toNat_eq (by omega))
theorem D2o:∀(l m:List W),l.length=m.length->l≠m->∃k,k<l.length/\(∀i,i<k->wd l i=wd m i)/\wd l k≠wd m k
 | [],[],_,h=>absurd rfl h
 | x::l,y::m,hl,h=>by
  by_cases hxy:x=y
  ·subst hxy
   obtain⟨k,h1,h2,h3⟩:=D2o l m (by simpa using hl) (fun e=>h (by rw[e]))
   refine⟨k+1,by simpa using h1,fun i hi=>?_,h3⟩
   cases i with
   | zero=>rfl
   | succ i=>exact h2 i (by omega)
  ·exact⟨0,by simp,fun i hi=>by omega,hxy⟩
theorem D8v {a b:T} {l m:List W} (ha:decB a=some l) (hb:decB b=some m) (hl:l.length<=1000) (hm:m.length<=1000):A0y Try.prog G 118 [a,b] (· = .v (.bool (l==m))):=by
 refine D1z.call rfl ?_
 unfold C2b
 refine A0a ctx0 ?_
 simp -implicitDefEqProofs
 by_cases hlen:l.length=m.length
 ·have hne:((l.length:Int) !=(m.length:Int))=false:=by simp[hlen]
  refine A0a ctx0 ?_
  simp -implicitDefEqProofs [A1v ha,A1v hb,hlen]
  have step:∀(j:Nat),j<l.length->wd l j=wd m j->∀(Q:Exit->A0b->Prop),True:=fun _ _ _ _=>trivial
  by_cases he:l=m
  ·subst he
   refine A0s (fun _:Unit=>S11 a b l.length) (fun _=>True) (fun _=>rfl) ?_ ?_
   ·refine A0a ctx0 ?_
    simp -implicitDefEqProofs
    refine A0h ?_
    refine A1b (S11 a b) l.length (fun _=>rfl) ?_ rfl ?_ ?_
    ·refine A0c rfl rfl ?_ ?_<;>simp -implicitDefEqProofs [S11]
    ·intro j hj
     refine A0d ctx0 ?_
     have x1:l[j]?=some (wd l j):=by simp[wd,hj]
     have e1:IntKind.i64.wrap ((j:Int)+1)=((j+1:Nat):Int):=A0l (by omega) (by omega)
     simp -implicitDefEqProofs [S11,hj,A1v ha,A2g ha,A2g hb,A2k _ x1,uv,e1]
     refine A0c rfl rfl ?_ ?_<;>simp -implicitDefEqProofs
    ·refine A0d ctx0 ?_
     simp -implicitDefEqProofs [S11,A1v ha]
     exact Next.mk () trivial (A0c rfl rfl (by simp -implicitDefEqProofs) (by simp -implicitDefEqProofs))
   ·rintro _ -
    refine A0d ctx0 ?_
    simp -implicitDefEqProofs [S11]
  ·obtain⟨k,hk,hsame,hdiff⟩:=D2o l m hlen he
   have hf:(l==m)=false:=by simpa using he
   rw[hf]
   refine A0s (fun _:Unit=>S11 a b l.length) (fun _=>False) (fun _=>rfl) ?_ ?_
   ·refine A0a ctx0 ?_
    simp -implicitDefEqProofs
    refine A0h ?_
    refine A1b (S11 a b) k (fun _=>rfl) ?_ rfl ?_ ?_
    ·refine A0c rfl rfl ?_ ?_<;>simp -implicitDefEqProofs [S11]
    ·intro j hj
     refine A0d ctx0 ?_
     have hjl:j<l.length:=by omega
     have hjm:j<m.length:=by omega
     have x1:l[j]?=some (wd l j):=by simp[wd,hjl]
     have x2:m[j]?=some (wd l j):=by rw[hsame j hj];simp[wd,hjm]
     have e1:IntKind.i64.wrap ((j:Int)+1)=((j+1:Nat):Int):=A0l (by omega) (by omega)
     simp -implicitDefEqProofs [S11,hjl,hjm,A1v ha,A2g ha,A2g hb,A2k _ x1,A2k _ x2,uv,e1]
     refine A0c rfl rfl ?_ ?_<;>simp -implicitDefEqProofs
    ·refine A0d ctx0 ?_
     have hkm:k<m.length:=by omega
     have x1:l[k]?=some (wd l k):=by simp[wd,hk]
     have x2:m[k]?=some (wd m k):=by simp[wd,hkm]
     simp -implicitDefEqProofs [S11,hk,hkm,A1v ha,A2g ha,A2g hb,A2k _ x1,A2k _ x2,uv,uv_ne hdiff]
   ·rintro _ h
    exact h.elim
 ·have hne:((l.length:Int) !=(m.length:Int))=true:=by simp;omega
  have hf:(l==m)=false:=by
   rw[beq_eq_false_iff_ne]
   exact fun e=>hlen (by rw[e])
  rw[hf]
  refine A0d ctx0 ?_
  simp -implicitDefEqProofs [A1v ha,A1v hb,hne]
def eU:Enc W:=⟨1,fun x=>[uv x],fun _=>rfl,by omega,fun a b h=>by
 injection h with h
 have:=D4l a
 rw[h,D4l]at this
 injection this with this
 exact this.symm⟩
def SU (N:Nat) (a b:T) (f:Nat->W) (j:Nat):A0b:=⟨[(6,.t (iv (j:Int))),(5,rowP eU 0 (upTo f j)),(1,.t b),(0,.t a)],rowH eU 142 0 (upTo f j),1,N⟩
theorem E6r (l:List W) (h:l.length<=1000):gRN [A0k eU l]=some (encB (A1x l)):=by
 cases l with
 | nil=>rfl
 | cons x r=>
  have:A0k eU (x::r) = .sl (x::r).length ((x::r).map uv):=by
   simp only[A0k,slT,eU]
   congr 1
   induction (x::r)with
   | nil=>rfl
   | cons y s ih=>simp only[List.flatMap_cons,List.map_cons,List.cons_append,List.nil_append,ih]
  rw[this]
  exact F5p _ _ rfl h
theorem H0w (f:Nat->W) (j:Nat) (hj:j<=1000):appM 142 1 8 (rowH eU 142 0 (upTo f j)) 1 (rowP eU 0 (upTo f j)) (.t (.sl 1 [uv (f j)]))=some (rowP eU 1 (upTo f j++[f j]),appH eU 142 (rowH eU 142 0 (upTo f j)) 1 0 (upTo f j) [f j],appN 1 (upTo f j) [f j]):=by
 have h:=A0j.head eU 142 [] 0 (upTo f j)
 rw[List.append_nil]at h
 exact F5g h (A3f (IsS.mk [f j])) (by rw[A3t];simp;omega) (by rw[A3t];simp;omega)
theorem F5r {a b:T} {l m:List W} (ha:decB a=some l) (hb:decB b=some m) (hl:l.length<=1000) (hm:m.length<=1000):A0y Try.prog G 89 [a,b] (· = encB (A1x (upTo (fun i=>wd l i&&&wd m i) (l.length)))):=by
 refine D8i.call rfl ?_
 unfold C6k
 refine A0a ctx2 ?_
 simp -implicitDefEqProofs
 refine A0a ctx2 ?_
 simp -implicitDefEqProofs
 obtain⟨f,hf⟩:∃f:Nat->W,f=fun i=>wd l i&&&wd m i:=⟨_,rfl⟩
 rw[<-hf]
 refine A0s (fun _:Unit=>SU 26 a b f l.length) (fun _=>True) (fun _=>rfl) ?_ ?_
 ·refine A0a ctx2 ?_
  simp -implicitDefEqProofs
  refine A0h ?_
  refine A1b (SU 26 a b f) l.length (fun _=>rfl) ?_ rfl ?_ ?_
  ·exact A0i (k:=0) (A0j.nil _ _ _ _) (by omega) (by omega) (by simp -implicitDefEqProofs [upTo,rowP,ren,under])
  ·intro j hj
   refine A0d ctx2 ?_
   have x1:l[j]?=some (wd l j):=by simp[wd,hj]
   have w2:=A8i hb j
   have i1:=A2g ha .i64 j (by omega) (by omega)
   simp only[Int.toNat_natCast]at i1
   have e1:IntKind.i64.wrap ((j:Int)+1)=((j+1:Nat):Int):=A0l (by omega) (by omega)
   have ap:=H0w f j (by omega)
   have fj:f j=(let i:=j;wd l i&&&wd m i):=by rw[hf]
   simp only at fj
   have ts:∀x:W,A6u 142 1 [.int .u64 0] 1 [(0,.t (uv x))]=some (.t (.sl 1 [uv x])):=fun x=>rfl
   simp -implicitDefEqProofs [SU,hj,i1,A2k _ x1,w2,tb2,A1v ha,ts,<-fj,ap,e1]
   rw[C7j]
   exact A0i A0j.app (by omega) (by omega) (by simp -implicitDefEqProofs [A0g,A0e,ren,under])
  ·refine A0d ctx2 ?_
   simp -implicitDefEqProofs [SU,A1v ha]
   exact Next.mk () trivial (Sub.trans (Sub.refl _) (A0i (k:=0) (A0j.head' _ _ _ _) (by omega) (by omega) (by simp -implicitDefEqProofs [A0g,A0e,ren,under])))
 ·rintro _ -
  refine A0d ctx2 ?_
  have tt:=(A0j.head' eU 142 0 (upTo f l.length)).toT
  have gn:=E6r (upTo f l.length) (by rw[A3t];exact hl)
  simp -implicitDefEqProofs [SU,tt,gn,tb2]
theorem E2s {a b:T} {l m:List W} (ha:decB a=some l) (hb:decB b=some m) (hl:l.length<=1000) (hm:m.length<=1000):A0y Try.prog G 111 [a,b] (· = encB (A1x (upTo (fun i=>wd l i &&& ~~~ wd m i) (l.length)))):=by
 refine C6m.call rfl ?_
 unfold B7v
 refine A0a ctx2 ?_
 simp -implicitDefEqProofs
 refine A0a ctx2 ?_
 simp -implicitDefEqProofs
 obtain⟨f,hf⟩:∃f:Nat->W,f=fun i=>wd l i &&& ~~~ wd m i:=⟨_,rfl⟩
 rw[<-hf]
 refine A0s (fun _:Unit=>SU 26 a b f l.length) (fun _=>True) (fun _=>rfl) ?_ ?_
 ·refine A0a ctx2 ?_
  simp -implicitDefEqProofs
  refine A0h ?_
  refine A1b (SU 26 a b f) l.length (fun _=>rfl) ?_ rfl ?_ ?_
  ·exact A0i (k:=0) (A0j.nil _ _ _ _) (by omega) (by omega) (by simp -implicitDefEqProofs [upTo,rowP,ren,under])
  ·intro j hj
   refine A0d ctx2 ?_
   have x1:l[j]?=some (wd l j):=by simp[wd,hj]
   have w2:=A8i hb j
   have i1:=A2g ha .i64 j (by omega) (by omega)
   simp only[Int.toNat_natCast]at i1
   have e1:IntKind.i64.wrap ((j:Int)+1)=((j+1:Nat):Int):=A0l (by omega) (by omega)
   have ap:=H0w f j (by omega)
   have fj:f j=(let i:=j;wd l i &&& ~~~ wd m i):=by rw[hf]
   simp only at fj
   have ts:∀x:W,A6u 142 1 [.int .u64 0] 1 [(0,.t (uv x))]=some (.t (.sl 1 [uv x])):=fun x=>rfl
   simp -implicitDefEqProofs [SU,hj,i1,A2k _ x1,w2,tb2,A1v ha,ts,<-fj,ap,e1]
   rw[C7j]
   exact A0i A0j.app (by omega) (by omega) (by simp -implicitDefEqProofs [A0g,A0e,ren,under])
  ·refine A0d ctx2 ?_
   simp -implicitDefEqProofs [SU,A1v ha]
   exact Next.mk () trivial (Sub.trans (Sub.refl _) (A0i (k:=0) (A0j.head' _ _ _ _) (by omega) (by omega) (by simp -implicitDefEqProofs [A0g,A0e,ren,under])))
 ·rintro _ -
  refine A0d ctx2 ?_
  have tt:=(A0j.head' eU 142 0 (upTo f l.length)).toT
  have gn:=E6r (upTo f l.length) (by rw[A3t];exact hl)
  simp -implicitDefEqProofs [SU,tt,gn,tb2]
theorem A6x (l:List W):A1x (l++[0])=A1x l:=by simp[A1x]
theorem A7t (l:List W) {x:W} (h:x≠0):A1x (l++[x])=l++[x]:=by
 have h':(x==0)=false:=by simpa using h
 simp only[A1x,List.reverse_append,List.reverse_cons,List.reverse_nil,List.nil_append,List.cons_append,List.dropWhile_cons,h',Bool.false_eq_true,if_false,List.reverse_reverse]
theorem E2t {p:List W->Prop} (h0:p []) (h1:∀l x,p l->p (l++[x])) (l:List W):p l:=by
 have:∀r:List W,p r.reverse:=by
  intro r
  induction r with
  | nil=>exact h0
  | cons x r ih=>rw[List.reverse_cons];exact h1 _ _ ih
 simpa using this l.reverse
theorem A9q (l:List W):(A1x l).length<=l.length:=by
 induction l using E2t with
 | h0=>simp[A1x]
 | h1 l x ih=>
  by_cases h:x=0
  ·subst h;rw[A6x];simp;omega
  ·rw[A7t l h];exact Nat.le_refl _
theorem F5s (l m:List W) (i:Nat):wd (l++m) i=if i<l.length then wd l i else wd m (i-l.length):=by
 simp only[wd,List.getD_eq_getElem?_getD,List.getElem?_append]
 split<;>rfl
theorem D0p {l:List W} {i:Nat} (h:l.length<=i):wd l i=0:=by simp[wd,h]
theorem B2d (l:List W) (i:Nat):wd (A1x l) i=wd l i:=by
 induction l using E2t with
 | h0=>simp[A1x]
 | h1 l x ih=>
  by_cases h:x=0
  ·subst h
   rw[A6x,ih,F5s]
   split
   ·rfl
   ·rename_i hi
    rw[D0p (by omega)]
    cases i-l.length with
    | zero=>rfl
    | succ k=>rfl
  ·rw[A7t l h]
def Norm (l:List W):Prop:=l=[]\/wd l (l.length-1)≠0
theorem B5t (l:List W):Norm (A1x l):=by
 induction l using E2t with
 | h0=>exact .inl rfl
 | h1 l x ih=>
  by_cases h:x=0
  ·subst h;rw[A6x];exact ih
  ·rw[A7t l h]
   right
   simpa[wd]using h
theorem Norm.len_le {l m:List W} (hl:Norm l) (h:∀i,wd l i=wd m i):l.length<=m.length:=by
 rcases hl with rfl | hl
 ·simp
 ·by_cases hlt:m.length<l.length
  ·exact absurd ((h _).trans (D0p (by omega))) hl
  ·omega
theorem Norm.ext {l m:List W} (hl:Norm l) (hm:Norm m) (h:∀i,wd l i=wd m i):l=m:=by
 have e:l.length=m.length:=Nat.le_antisymm (hl.len_le h) (hm.len_le fun i=>(h i).symm)
 apply List.ext_getElem e
 intro i h1 h2
 have:=h i
 simp only[wd,List.getD_eq_getElem?_getD,List.getElem?_eq_getElem h1,List.getElem?_eq_getElem h2,Option.getD_some]at this
 exact this
theorem D8w {l m:List W} (h:∀i,wd l i=wd m i):A1x l=A1x m:=
 (B5t l).ext (B5t m) fun i=>by rw[B2d,B2d,h]
theorem D4w (f:Nat->W) (n i:Nat):wd (upTo f n) i=if i<n then f i else 0:=by
 unfold wd upTo
 split
 ·rename_i h;simp[h]
 ·rename_i h;simp[h]
theorem E2u (l m:List W) (i:Nat):wd (andL l m) i=wd l i&&&wd m i:=by
 show wd (upTo _ _) i=_
 rw[D4w]
 split
 ·rfl
 ·rename_i h
  by_cases h1:l.length<=i
  ·rw[D0p h1];simp
  ·rw[D0p (l:=m) (by omega)];simp
theorem H0x (l m:List W) (i:Nat):wd (orL l m) i=wd l i|||wd m i:=by
 show wd (upTo _ _) i=_
 rw[D4w]
 split
 ·rfl
 ·rename_i h
  rw[D0p (l:=l) (by omega),D0p (l:=m) (by omega)];simp
theorem D8x (l m:List W) (i:Nat):wd (D8o l m) i=wd l i &&& ~~~ wd m i:=by
 show wd (upTo _ _) i=_
 rw[D4w]
 split
 ·rfl
 ·rename_i h
  rw[D0p (l:=l) (by omega)];simp
theorem G7h (l m:List W):A1x (upTo (fun i=>wd l i&&&wd m i) l.length)=A1x (andL l m):=D8w fun i=>by
 rw[E2u,D4w]
 split
 ·rfl
 ·rename_i h
  rw[D0p (l:=l) (by omega)];simp
def gB2 (f:List W->List W->T):List T->Option T
 | [a,b]=>match decB a,decB b with
  | some l,some m=>if l.length<=1000/\m.length<=1000 then some (f l m)else none
  | _,_=>none
 | _=>none
theorem B2y {F:Nat} {f:List W->List W->T} (h:∀{a b:T} {l m:List W},decB a=some l->decB b=some m->l.length<=1000->m.length<=1000->A0y Try.prog G F [a,b] (· = f l m)):GOK Try.prog G F (gB2 f):=by
 intro args r e
 unfold gB2 at e
 split at e
 ·split at e
  ·rename_i l m ha hb
   split at e
   ·rename_i hlm
    injection e with e;subst e
    exact h ha hb hlm.1 hlm.2
   ·cases e
  ·cases e
 ·cases e
theorem B7b {f:List W->List W->T} {a b:T} {l m:List W} (ha:decB a=some l) (hb:decB b=some m) (hl:l.length<=1000) (hm:m.length<=1000):gB2 f [a,b]=some (f l m):=by
 simp[gB2,ha,hb,hl,hm]
def fAnd (l m:List W):T:=encB (A1x (andL l m))
def F5t (l m:List W):T:=encB (A1x (D8o l m))
def G7i (l m:List W):T:=.v (.bool (l==m))
end Go.Proofs.Ytbiadmfmjnoecaa
