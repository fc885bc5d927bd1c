/-
 Auxiliary facts. No statement of the program stands here.
-/
import Derived.Test.YtbiadmfmjnoecaaRows
import Derived.Test.YtbiadmfmjnoecaaVPQ07
import Derived.Test.YtbiadmfmjnoecaaVPQ28
namespace Go.Proofs.Ytbiadmfmjnoecaa
set_option linter.unusedSimpArgs false
set_option linter.unusedVariables false
open Go Go.Abs Go.ChangeShapes Go.WideShapes Go.ChangeAt Go.RowKit
section
variable {H : Type} {enc : TypeId × Value -> H} {P : Program} {W : World} {spare : Nat -> Bool} {held : Bool}
theorem F5v {H:Type} (d:DataW H):1<=Rows.uptoBulk d:=by
 cases d with
 | lit l=>cases l<;>simp[Rows.uptoBulk]
 | nil=>simp[Rows.uptoBulk]
 | ptr d=>simp[Rows.uptoBulk]
 | slice elems spare=>simp[Rows.uptoBulk]
 | agg parts=>simp[Rows.uptoBulk]
 | iface t d=>simp[Rows.uptoBulk]
 | map entries=>simp[Rows.uptoBulk]
 | held h=>simp[Rows.uptoBulk]
theorem F1n {H:Type} {d:DataW H} {l:List (DataW H)} (h:d∈l):Rows.uptoBulk d<=Rows.uptoBulkAll l:=by
 induction l with
 | nil=>cases h
 | cons x r ih=>
  simp only[Rows.uptoBulkAll]
  cases List.mem_cons.1 h with
  | inl e=>subst e;omega
  | inr e=>have:=ih e;omega
theorem F5w {H:Type} (l:List (DataW H)):l.length<=Rows.uptoBulkAll l:=by
 induction l with
 | nil=>simp[Rows.uptoBulkAll]
 | cons x r ih=>have:=F5v x;simp only[Rows.uptoBulkAll,List.length_cons];omega
theorem F5x (a:Addr) (x y:Nat):a.add (x+y)=(a.add x).add y:=by
 unfold Addr.add
 by_cases hx:x=0<;>by_cases hy:y=0<;>simp[hx,hy,Nat.add_assoc]
def RdL (W:World) (ts:List T) (cs:List Value):Prop:=RepL (Old W) W ts cs/\∀x∈cs,x.oneCell'=true
theorem RdL.at' {ts:List T} {cs:List Value} (h:RdL W ts cs) {j:Nat} {c:T} (hj:ts[j]?=some c):∃x,cs[j]?=some x/\x.oneCell'=true/\RepT (Old W) W c x:=by
 obtain⟨x,hx,hr⟩:=h.1.at_ j hj
 exact⟨x,hx,h.2 x (List.mem_of_getElem? hx),hr⟩
theorem C6o {I:Nat->Prop} {w:World}:∀{ts ts':List T} {us us':List Value},RepL I w ts us->RepL I w ts' us'->RepL I w (ts++ts') (us++us')
 | [],ts',us,us',h,h'=>by simp only[RepL]at h;subst h;simpa using h'
 | t::ts,ts',us,us',h,h'=>by
  simp only[RepL]at h
  obtain⟨x,xs,rfl,hx,hxs⟩:=h
  simp only[List.cons_append,RepL]
  exact⟨x,xs++us',rfl,hx,C6o hxs h'⟩
theorem RdL.append {ts ts':List T} {cs cs':List Value} (h:RdL W ts cs) (h':RdL W ts' cs'):RdL W (ts++ts') (cs++cs'):=
 ⟨C6o h.1 h'.1,fun x hx=>by rcases List.mem_append.1 hx with hx | hx;exact h.2 x hx;exact h'.2 x hx⟩
def Rd (enc:TypeId×Value->H) (P:Program) (W:World) (spare:Nat->Bool) (held:Bool) (t:TypeId) (Q:Nat->List T->Prop):Prop:=
 ∀fuel cs d p,DataW.trod enc P W 0 spare held fuel t cs=some (d,p)->∃ts,RdL W ts cs/\Q (Rows.uptoBulk d) ts
theorem F1o {t:TypeId} {k:IntKind} (ht:P.underlying t=some (.int k)):Rd enc P W spare held t fun _ ts=>∃n,ts=[.v (.int k n)]:=by
 intro fuel cs d p h
 obtain⟨n,rfl,_,_⟩:=DataW.trod_int ht h
 exact⟨[.v (.int k n)],⟨by simp only[RepL,RepT];exact⟨_,_,rfl,rfl,rfl⟩,by simp[Value.oneCell']⟩,n,rfl⟩
theorem E2l {t:TypeId} (ht:P.underlying t=some .string):Rd enc P W spare held t fun b ts=>∃s:ByteArray,ts=[sv s]/\s.size<=b:=by
 intro fuel cs d p h
 obtain⟨s,rfl,e,_⟩:=DataW.trod_string ht h
 injection e with e1 _
 subst e1
 refine⟨[sv s],⟨by simp only[RepL,RepT];exact⟨_,_,rfl,rfl,rfl⟩,by simp[Value.oneCell']⟩,s,rfl,?_⟩
 simp only[Rows.uptoBulk]
 have:s.data.toList.length=s.size:=rfl
 omega
theorem B9e {α:Type} {e:Enc α} {t el:TypeId} {R:Nat->α->Prop} (ht:P.underlying t=some (.slice el)) (hc:P.cellsOf el=e.z) (hr:Rd enc P W spare held el fun b ts=>∃a,ts=e.enc a/\R b a) :
  Rd enc P W spare held t fun b ts=>∃x l,ts=[x]/\IsS e x l/\l.length<=b/\∀a∈l,∃b',b'<=b/\R b' a:=by
 intro fuel cs d p h
 rcases DataW.trod_slice ht h with⟨rfl,e0⟩ | ⟨a,len,cap,elems,rest,n,_,rfl,e0,_,hl,hm,hlen,hel,_,_⟩
 ·refine⟨[nilS],⟨by simp only[RepL,RepT];exact⟨_,_,rfl,rfl,rfl⟩,by simp[Value.oneCell']⟩,nilS,[],rfl,IsS.nil,by simp,fun a ha=>by cases ha⟩
 ·injection e0 with e1 _
  subst e1
  have each:∀i,i<len->∃(y:DataW H×List MemPlace) (cs:List Value) (a':α),elems[i]?=some y/\W.cells? 0 (a.add (i*e.z)) e.z=some cs/\RdL W (e.enc a') cs/\R (Rows.uptoBulk y.1) a':=by
   intro i hi
   obtain⟨y,hy⟩:∃y,elems[i]?=some y:=⟨_,List.getElem?_eq_getElem (by omega)⟩
   have:=hel i hi
   rw[hy,hc,Option.bind_eq_some_iff]at this
   obtain⟨cs,h1,h2⟩:=this
   obtain⟨ts,h3,a',rfl,h4⟩:=hr n cs y.1 y.2 h2
   exact⟨y,cs,a',hy,h1,h3,h4⟩
  have build:∀k,k<=len->∃l:List α,l.length=k/\∀(i:Nat) a',l[i]?=some a'->∃(y:DataW H×List MemPlace) (cs:List Value),elems[i]?=some y/\W.cells? 0 (a.add (i*e.z)) e.z=some cs/\RdL W (e.enc a') cs/\R (Rows.uptoBulk y.1) a':=by
   intro k
   induction k with
   | zero=>exact fun _=>⟨[],rfl,fun i a' h=>by simp at h⟩
   | succ k ih=>
    intro hk
    obtain⟨l,h1,h2⟩:=ih (by omega)
    obtain⟨y,cs,a',h3,h4,h5,h6⟩:=each k (by omega)
    refine⟨l++[a'],by simp[h1],fun i b hb=>?_⟩
    rw[List.getElem?_append]at hb
    split at hb
    ·exact h2 i b hb
    ·have:i-l.length=0:=by
      have:=(List.getElem?_eq_some_iff.1 hb).1
      simp at this
      omega
     have hi:i=k:=by omega
     rw[this]at hb
     simp at hb
     subst hb
     rw[hi]
     exact⟨y,cs,h3,h4,h5,h6⟩
  obtain⟨l,hll,hat⟩:=build len (Nat.le_refl _)
  have hbl:elems.length<=Rows.uptoBulkAll (elems.map (·.1)):=by
   have:=F5w (elems.map (·.1))
   simpa using this
  have hbulk:Rows.uptoBulk (DataW.slice (elems.map (·.1)) (rest.map (·.1)))=Rows.uptoBulkAll (elems.map (·.1))+Rows.uptoBulkAll (rest.map (·.1))+1:=by simp only[Rows.uptoBulk]
  refine⟨[slT e l],⟨?_,by simp[Value.oneCell']⟩,slT e l,l,rfl,IsS.mk l,by rw[hbulk];omega,fun a' ha=>?_⟩
  ·simp only[RepL]
   refine⟨_,_,rfl,?_,rfl⟩
   simp only[slT,RepT]
   refine⟨a,cap,by rw[hll],by omega,?_⟩
   by_cases h0:len=0
   ·left
    have:l=[]:=List.length_eq_zero_iff.1 (by omega)
    rw[this]
    simp
   ·right
    obtain⟨a0,ha0⟩:∃a0,l[0]?=some a0:=⟨_,List.getElem?_eq_getElem (by omega)⟩
    have hzp:=e.pos
    have cellAt:∀(i j:Nat) (a':α) (c:T),l[i]?=some a'->(e.enc a')[j]?=some c->∃x,W.cell? (a.add (i*e.z+j))=some x/\x.oneCell'=true/\RepT (Old W) W c x:=by
     intro i j a' c hi hj
     obtain⟨y,cs,_,h2,h3,_⟩:=hat i a' hi
     obtain⟨x,hx,h4,h5⟩:=h3.at' hj
     have hjl:j<e.z:=by rw[<-e.len a'];exact(List.getElem?_eq_some_iff.1 hj).1
     obtain⟨_,_,h6⟩:=World.cells?_some h2
     have:=h6 j hjl
     refine⟨x,?_,h4,h5⟩
     rw[<-hx,<-this]
     congr 1
     exact F5x a _ _
    obtain⟨c0,hc0⟩:∃c0,(e.enc a0)[0]?=some c0:=⟨_,List.getElem?_eq_getElem (by rw[e.len];exact hzp)⟩
    obtain⟨x0,hx0,_,_⟩:=cellAt 0 0 a0 c0 ha0 hc0
    have hs:a.spot=none:=by simpa[Addr.add]using World.cell?_spot hx0
    refine⟨hs,by simpa[Addr.add,Old]using F8b hx0,RepC.mk fun k c hk=>?_⟩
    have hkl:k<(l.flatMap e.enc).length:=(List.getElem?_eq_some_iff.1 hk).1
    rw[A1x]at hkl
    have hi:k / e.z<l.length:=Nat.div_lt_of_lt_mul (by rw[Nat.mul_comm];exact hkl)
    obtain⟨a',ha'⟩:∃a',l[k / e.z]?=some a':=⟨_,List.getElem?_eq_getElem hi⟩
    have hkz:k / e.z*e.z+k%e.z=k:=by rw[Nat.mul_comm];exact Nat.div_add_mod k e.z
    have hmod:=Nat.mod_lt k hzp
    have hd:=B2g e l (k / e.z) a' ha'
    have hj:(e.enc a')[k%e.z]?=some c:=by
     have h7:((l.flatMap e.enc).drop (k / e.z*e.z))[k%e.z]?=some c:=by rw[List.getElem?_drop,hkz];exact hk
     rw[hd,List.getElem?_append_left (by rw[e.len];exact hmod)]at h7
     exact h7
    obtain⟨x,hx,h8,h9⟩:=cellAt (k / e.z) (k%e.z) a' c ha' hj
    rw[hkz]at hx
    obtain⟨ab,ao,as'⟩:=a
    simp only at hs
    subst hs
    refine⟨x,?_,h8,h9⟩
    by_cases hk0:k=0
    ·subst hk0;simpa[Addr.add]using hx
    ·simpa[Addr.add,hk0]using hx
  ·obtain⟨i,hi,e1⟩:=List.getElem_of_mem ha
   obtain⟨y,cs,h1,_,_,h4⟩:=hat i a' (by rw[List.getElem?_eq_getElem hi,e1])
   refine⟨_,?_,h4⟩
   have:=F1n (d:=y.1) (l:=elems.map (·.1)) (List.mem_map_of_mem (List.mem_of_getElem? h1))
   rw[hbulk]
   omega
theorem F5y {α:Type} {l:List α} {n:Nat} (h:l.length=n):(l.drop 0).take n=l:=by rw[List.drop_zero,<-h,List.take_length]
theorem E6k {t:TypeId} {f0:Field} {Q0:Nat->List T->Prop} (ht:P.underlying t=some (.struct #[f0])) (ho:f0.offset=0) (hc:P.cellsOf t=P.cellsOf f0.type) (h0:Rd enc P W spare held f0.type Q0) :
  Rd enc P W spare held t fun b ts=>∃b0,b0<=b/\Q0 b0 ts:=by
 intro fuel cs d p h
 obtain⟨y0,n,e,hl,h1⟩:=trod_struct1 ht h
 injection e with e1 _
 subst e1
 rw[ho,<-hc,F5y hl]at h1
 obtain⟨ts,h2,h3⟩:=h0 n cs y0.1 y0.2 h1
 refine⟨ts,h2,_,?_,h3⟩
 simp only[Rows.uptoBulk,Rows.uptoBulkAll]
 omega
theorem C1b {t:TypeId} {f0 f1:Field} {Q0 Q1:Nat->List T->Prop} (ht:P.underlying t=some (.struct #[f0,f1])) (ho:f0.offset=0) (ho1:f1.offset=P.cellsOf f0.type) (hc:P.cellsOf t=P.cellsOf f0.type+P.cellsOf f1.type)
  (h0:Rd enc P W spare held f0.type Q0) (h1:Rd enc P W spare held f1.type Q1):Rd enc P W spare held t fun b ts=>∃b0 b1 t0 t1,b0<=b/\b1<=b/\ts=t0++t1/\Q0 b0 t0/\Q1 b1 t1:=by
 intro fuel cs d p h
 obtain⟨y0,y1,n,e,hl,g0,g1⟩:=trod_struct2 ht h
 injection e with e1 _
 subst e1
 rw[ho,List.drop_zero]at g0
 rw[ho1]at g1
 have ht1:(cs.drop (P.cellsOf f0.type)).take (P.cellsOf f1.type)=cs.drop (P.cellsOf f0.type):=List.take_of_length_le (by rw[List.length_drop];omega)
 rw[ht1]at g1
 obtain⟨t0,a0,b0⟩:=h0 n _ y0.1 y0.2 g0
 obtain⟨t1,a1,b1⟩:=h1 n _ y1.1 y1.2 g1
 refine⟨t0++t1,?_,_,_,t0,t1,?_,?_,rfl,b0,b1⟩
 ·have:=a0.append a1
  rwa[List.take_append_drop]at this
 ·simp only[Rows.uptoBulk,Rows.uptoBulkAll];omega
 ·simp only[Rows.uptoBulk,Rows.uptoBulkAll];omega
theorem E6l {t:TypeId} {f0 f1 f2:Field} {Q0 Q1 Q2:Nat->List T->Prop} (ht:P.underlying t=some (.struct #[f0,f1,f2])) (ho:f0.offset=0) (ho1:f1.offset=1) (ho2:f2.offset=2) (c0:P.cellsOf f0.type=1) (c1:P.cellsOf f1.type=1) (c2:P.cellsOf f2.type=1) (hc:P.cellsOf t=3)
  (h0:Rd enc P W spare held f0.type Q0) (h1:Rd enc P W spare held f1.type Q1) (h2:Rd enc P W spare held f2.type Q2):Rd enc P W spare held t fun b ts=>∃b0 b1 b2 t0 t1 t2,b0<=b/\b1<=b/\b2<=b/\ts=t0++(t1++t2)/\Q0 b0 t0/\Q1 b1 t1/\Q2 b2 t2:=by
 intro fuel cs d p h
 obtain⟨xs,n,_,e,hl,hlen,hf⟩:=DataW.trod_struct ht h
 injection e with e1 _
 subst e1
 rw[hc]at hl
 match xs,hlen,cs,hl with
 | [y0,y1,y2],_,[v0,v1,v2],_=>
  have g0:=hf 0 f0 rfl
  have g1:=hf 1 f1 rfl
  have g2:=hf 2 f2 rfl
  rw[ho,c0]at g0
  rw[ho1,c1]at g1
  rw[ho2,c2]at g2
  obtain⟨t0,a0,b0⟩:=h0 n [v0] y0.1 y0.2 g0
  obtain⟨t1,a1,b1⟩:=h1 n [v1] y1.1 y1.2 g1
  obtain⟨t2,a2,b2⟩:=h2 n [v2] y2.1 y2.2 g2
  refine⟨t0++(t1++t2),a0.append (a1.append a2),_,_,_,t0,t1,t2,?_,?_,?_,rfl,b0,b1,b2⟩
  ·simp only[List.map_cons,List.map_nil,Rows.uptoBulk,Rows.uptoBulkAll];omega
  ·simp only[List.map_cons,List.map_nil,Rows.uptoBulk,Rows.uptoBulkAll];omega
  ·simp only[List.map_cons,List.map_nil,Rows.uptoBulk,Rows.uptoBulkAll];omega
theorem Rd.mono {t:TypeId} {Q Q':Nat->List T->Prop} (h:Rd enc P W spare held t Q) (hq:∀b ts,Q b ts->Q' b ts):Rd enc P W spare held t Q':=fun fuel cs d p hd=>by
 obtain⟨ts,h1,h2⟩:=h fuel cs d p hd
 exact⟨ts,h1,hq _ _ h2⟩
end
open Go Go.Abs
def tH:Ty (List Typ×List Ft):=⟨fun t h=>∃u v,t = .ag [u,v]/\IsS eTyp u h.1/\IsS eFt v h.2,fun t a b h h'=>by
 obtain⟨u,v,e,h1,h2⟩:=h
 obtain⟨u',v',e',h1',h2'⟩:=h'
 rw[e]at e'
 injection e' with e'
 injection e' with e1 e2
 injection e2 with e2 _
 subst e1;subst e2
 exact Prod.ext ((tSl eTyp).uniq _ _ _ h1 h1') ((tSl eFt).uniq _ _ _ h2 h2')⟩
def TyOK (ty:List Typ):Prop:=∀x∈ty,x.code.length<=1000
noncomputable def tw12:Tbl:=[(71,gB2 fSub)]
theorem ctw12:Ctx Try.prog G (orc tw12):=(A1q.cons (B1l F4u) .nil).ctx A1w
theorem E6m {t f:T} {l:List Typ} (ht:IsS eTyp t l) {i j:Nat} {x y:Typ} (hx:l[i]?=some x) (hy:l[j]?=some y) (hxl:x.code.length<=1000) (hyl:y.code.length<=1000) :
  A0y Try.prog G 53 [.ag [t,f],iv (i:Int),iv (j:Int)] (· = bv (subL y.code x.code)):=by
 refine B2j.runs ctw12 rfl ?_
 have i1:=E2e ht hx
 have i2:=E2e ht hy
 have gs:gB2 fSub [encB y.code,encB x.code]=some (bv (subL y.code x.code)):=B5i (A1g _) (A1g _) hyl hxl
 have cp:A0s (.t (.ag [t,f]))=some [.t t,.t f]:=rfl
 simp -implicitDefEqProofs [A7s,cp,i1,i2,A0h,tw12,gs]
noncomputable def gHS:List T->Option T:=g3 tH tInt tInt fun h s t=>open Classical in if TyOK h.1/\(0<=s/\s<(h.1.length:Int))/\0<=t/\t<(h.1.length:Int)then some (bv (hsub h.1 s t))else none
theorem F9p {ty:List Typ} {s t:Int} (hs:0<=s/\s<(ty.length:Int)) (ht:0<=t/\t<(ty.length:Int)):∃(i j:Nat) (x y:Typ),s=(i:Int)/\t=(j:Int)/\ty[i]?=some x/\ty[j]?=some y/\hsub ty s t=subL y.code x.code:=by
 obtain⟨x,hx⟩:∃x,ty[s.toNat]?=some x:=⟨_,List.getElem?_eq_getElem (by omega)⟩
 obtain⟨y,hy⟩:∃y,ty[t.toNat]?=some y:=⟨_,List.getElem?_eq_getElem (by omega)⟩
 exact⟨s.toNat,t.toNat,x,y,by omega,by omega,hx,hy,by simp only[hsub,hx,hy]⟩
theorem F7o {F:Nat} (h:∀{t f:T} {l:List Typ},IsS eTyp t l->∀{i j:Nat} {x y:Typ},l[i]?=some x->l[j]?=some y->x.code.length<=1000->y.code.length<=1000->A0y Try.prog G F [.ag [t,f],iv (i:Int),iv (j:Int)] (· = bv (subL y.code x.code))):GOK Try.prog G F gHS:=D4e fun a b c hh s t r ha hb hc hr=>by
 obtain⟨u,v,rfl,hu,hv⟩:=ha
 obtain rfl:b=iv s:=hb
 obtain rfl:c=iv t:=hc
 split at hr
 ·rename_i hq
  injection hr with hr
  subst hr
  obtain⟨h0,h1,h2⟩:=hq
  obtain⟨i,j,x,y,rfl,rfl,hx,hy,e⟩:=F9p h1 h2
  rw[e]
  exact h hu hx hy (h0 x (List.mem_of_getElem? hx)) (h0 y (List.mem_of_getElem? hy))
 ·cases hr
theorem E2m {u v:T} {ty:List Typ} {fe:List Ft} (hu:IsS eTyp u ty) (hv:IsS eFt v fe) (h:TyOK ty) {s t:Int} (hs:0<=s/\s<(ty.length:Int)) (ht:0<=t/\t<(ty.length:Int)):gHS [.ag [u,v],iv s,iv t]=some (bv (hsub ty s t)):=
 (D7v (τ:=tH) (σ:=tInt) (ρ:=tInt) (x:=(ty,fe)) ⟨u,v,rfl,hu,hv⟩ rfl rfl).trans (if_pos ⟨h,hs,ht⟩)
theorem F5z:GOK Try.prog G 55 gHS:=F7o E6c
theorem E2n:GOK Try.prog G 53 gHS:=F7o E6m
theorem C6p (x:Nd) (f:Int):∃n,n<=x.arcs.length/\(∀(j:Nat) a,j<n->x.arcs[j]?=some a->¬a.feat=f)/\((n=x.arcs.length/\tgt x f = -1/\x.arcs.find? (fun a=>decide (a.feat=f))=none)\/∃a,x.arcs[n]?=some a/\a.feat=f/\tgt x f=a.to/\x.arcs.find? (fun a=>decide (a.feat=f))=some a):=by
 have key:∀l:List Arc,∃n,n<=l.length/\(∀(j:Nat) a,j<n->l[j]?=some a->¬a.feat=f)/\((n=l.length/\l.find? (fun a=>decide (a.feat=f))=none)\/∃a,l[n]?=some a/\a.feat=f/\l.find? (fun a=>decide (a.feat=f))=some a):=by
  intro l
  induction l with
  | nil=>exact⟨0,by simp,fun j a h=>by omega,.inl ⟨rfl,rfl⟩⟩
  | cons c l ih=>
   by_cases hc:c.feat=f
   ·exact⟨0,by simp,fun j a h=>by omega,.inr ⟨c,rfl,hc,by simp[hc]⟩⟩
   ·obtain⟨n,h1,h2,h3⟩:=ih
    refine⟨n+1,by simpa using h1,fun j a hj ha=>?_,?_⟩
    ·cases j with
     | zero=>simp at ha;rw[<-ha];exact hc
     | succ j=>exact h2 j a (by omega) (by simpa using ha)
    ·rcases h3 with⟨h4,h5⟩ | ⟨a,h4,h5,h6⟩
     ·exact .inl ⟨by simp[h4],by simp[hc,h5]⟩
     ·exact .inr ⟨a,by simpa using h4,h5,by simp[hc,h6]⟩
 obtain⟨n,h1,h2,h3⟩:=key x.arcs
 refine⟨n,h1,h2,?_⟩
 rcases h3 with⟨h4,h5⟩ | ⟨a,h4,h5,h6⟩
 ·exact .inl ⟨h4,by simp only[tgt,h5],h5⟩
 ·exact .inr ⟨a,h4,h5,by simp only[tgt,h6],h6⟩
def S54 (x:Nd) (f:Int) (j:Nat):A0b:=⟨[(10,.t (iv (j:Int))),(9,.t (iv (x.arcs.length:Int))),(8,.t x.tree),(1,.t (iv f))],[],1,21⟩
theorem D9q (x:Nd) (hx:x.arcs.length<=1000000) (f:Int):A0y Try.prog G 54 [.ag [iv x.type,x.tree],iv f] (· = iv (tgt x f)):=by
 have cp:A0s (.t (.ag [iv x.type,x.tree]))=some [.t (iv x.type),.t x.tree]:=rfl
 refine B1j.call rfl ?_
 unfold A6t
 refine A0a ctx0 ?_
 simp -implicitDefEqProofs [cp]
 obtain⟨n,hle,h0,hn⟩:=C6p x f
 refine A0q (fun _:Unit=>S54 x f x.arcs.length) (fun _=>tgt x f = -1) (fun _=>rfl) ?_ ?_
 ·refine A0a ctx0 ?_
  simp -implicitDefEqProofs [A0h,x.ok.len]
  refine A0g ?_
  refine A1a (S54 x f) n (fun _=>rfl) ?_ rfl ?_ ?_
  ·refine A0d rfl rfl ?_ ?_<;>simp -implicitDefEqProofs [S54]
  ·intro j hj
   have hjl:j<x.arcs.length:=by omega
   obtain⟨a,ha⟩:∃a,x.arcs[j]?=some a:=⟨_,List.getElem?_eq_getElem hjl⟩
   have ia:=A4d x.ok ha
   have ca:A0s (.t (.ag [iv a.feat,iv a.to]))=some [.t (iv a.feat),.t (iv a.to)]:=rfl
   have e1:IntKind.i64.wrap ((j:Int)+1)=((j+1:Nat):Int):=A0k (by omega) (by omega)
   have hf:=h0 j a hj ha
   refine A0c ctx0 ?_
   simp -implicitDefEqProofs [S54,hjl,ia,A0h,A1e,ca,A1t,hf,e1]
   exact C6j (by omega) (fun q hq=>by cases hq) (by simp -implicitDefEqProofs [under])
  ·refine A0c ctx0 ?_
   rcases hn with⟨e,h1,_⟩ | ⟨a,ha,hf,h1,_⟩
   ·have hnl:¬n<x.arcs.length:=by omega
    simp -implicitDefEqProofs [S54,hnl]
    exact Next.mk () h1 (A0d rfl rfl (by simp -implicitDefEqProofs [e]) (by simp -implicitDefEqProofs))
   ·have hjl:n<x.arcs.length:=(List.getElem?_eq_some_iff.1 ha).1
    have ia:=A4d x.ok ha
    rw[hf]at ia
    have ca:A0s (.t (.ag [iv f,iv a.to]))=some [.t (iv f),.t (iv a.to)]:=rfl
    simp -implicitDefEqProofs [S54,hjl,ia,A0h,A1e,ca,A1t,h1]
 ·rintro _ e
  refine A0c ctx0 ?_
  simp -implicitDefEqProofs [S54,e]
noncomputable def D9r:List T->Option T:=g2 (tAg eNd) tInt fun x f=>if x.arcs.length<=1000000 then some (iv (tgt x f))else none
theorem E6n:GOK Try.prog G 54 D9r:=A5x fun a b x y r ha hb hr=>by
 obtain rfl:a = .ag (eNd.enc x):=ha
 obtain rfl:b=iv y:=hb
 split at hr
 ·rename_i h;injection hr with hr;subst hr;exact D9q x h y
 ·cases hr
theorem E6o (x:Nd) (hx:x.arcs.length<=1000000) (f:Int):D9r [.ag [iv x.type,x.tree],iv f]=some (iv (tgt x f)):=
 (A4z (τ:=tAg eNd) (σ:=tInt) (x:=x) (show _=T.ag (eNd.enc x)from rfl) rfl).trans (if_pos hx)
def B3m (x:Nd) (f:Int):T:=match x.arcs.find? (fun a=>decide (a.feat=f))with
 | some a=>.tu [iv a.to,bv true]
 | none=>.tu [iv 0,bv false]
def S56 (x:Nd) (f:Int) (j:Nat):A0b:=⟨[(9,.t (iv (j:Int))),(8,.t x.tree),(2,.t (iv f))],[],1,34⟩
theorem F1p {t:T} {l:List Nd} (ht:IsS eNd t l) {n:Nat} {x:Nd} (hn:l[n]?=some x) (hx:x.arcs.length<=1000000) (f:Int):A0y Try.prog G 56 [.ag [t],iv (n:Int),iv f] (· = B3m x f):=by
 have cp:A0s (.t (.ag [t]))=some [.t t]:=rfl
 have ix:=A9o ht hn
 refine C9d.call rfl ?_
 unfold C0d
 refine A0a ctx0 ?_
 simp -implicitDefEqProofs [cp]
 refine A0a ctx0 ?_
 simp -implicitDefEqProofs [A0h,ix]
 clear hn
 obtain⟨n,hle,h0,hn⟩:=C6p x f
 refine A0q (fun _:Unit=>S56 x f x.arcs.length) (fun _=>B3m x f = .tu [iv 0,bv false]) (fun _=>rfl) ?_ ?_
 ·refine A0a ctx0 ?_
  simp -implicitDefEqProofs
  refine A0g ?_
  refine A1a (S56 x f) n (fun _=>rfl) ?_ rfl ?_ ?_
  ·refine A0d rfl rfl ?_ ?_<;>simp -implicitDefEqProofs [S56]
  ·intro j hj
   have hjl:j<x.arcs.length:=by omega
   obtain⟨a,ha⟩:∃a,x.arcs[j]?=some a:=⟨_,List.getElem?_eq_getElem hjl⟩
   have ia:=A4d x.ok ha
   have e1:IntKind.i64.wrap ((j:Int)+1)=((j+1:Nat):Int):=A0k (by omega) (by omega)
   have hf:=h0 j a hj ha
   refine A0c ctx0 ?_
   simp -implicitDefEqProofs [S56,hjl,x.ok.len,ia,A0h,hf,e1]
   refine A0d rfl rfl ?_ ?_<;>simp -implicitDefEqProofs
  ·refine A0c ctx0 ?_
   rcases hn with⟨e,_,h1⟩ | ⟨a,ha,hf,_,h1⟩
   ·have hnl:¬n<x.arcs.length:=by omega
    simp -implicitDefEqProofs [S56,hnl,x.ok.len]
    exact Next.mk () (by simp only[B3m,h1]) (A0d rfl rfl (by simp -implicitDefEqProofs [e]) (by simp -implicitDefEqProofs))
   ·have hjl:n<x.arcs.length:=(List.getElem?_eq_some_iff.1 ha).1
    have ia:=A4d x.ok ha
    have hr:B3m x f = .tu [iv a.to,bv true]:=by simp only[B3m,h1]
    simp -implicitDefEqProofs [S56,hjl,x.ok.len,ia,A0h,hf,hr]
 ·rintro _ hr
  refine A0c ctx0 ?_
  simp -implicitDefEqProofs [S56,hr]
noncomputable def F1q:List T->Option T:=g3 tFS tInt tInt fun l n f=>match l[n.toNat]? with
 | some x=>if 0<=n/\x.arcs.length<=1000000 then some (B3m x f)else none
 | none=>none
theorem F6a:GOK Try.prog G 56 F1q:=D4e fun a b c l n f r ha hb hc hr=>by
 obtain⟨u,rfl,hu⟩:=ha
 obtain rfl:b=iv n:=hb
 obtain rfl:c=iv f:=hc
 split at hr
 ·rename_i x hx
  split at hr
  ·rename_i h
   injection hr with hr
   subst hr
   have e:n=(n.toNat:Int):=by omega
   have:=F1p hu hx h.2 f
   rw[<-e]at this
   exact this
  ·cases hr
 ·cases hr
theorem E2o {t:T} {l:List Nd} (ht:IsS eNd t l) {n:Nat} {x:Nd} (hn:l[n]?=some x) (hx:x.arcs.length<=1000000) (f:Int):F1q [.ag [t],iv (n:Int),iv f]=some (B3m x f):=by
 refine(D7v (τ:=tFS) (σ:=tInt) (ρ:=tInt) ⟨t,rfl,ht⟩ rfl rfl).trans ?_
 simp only[Int.toNat_natCast,hn]
 rw[if_pos ⟨by omega,hx⟩]
theorem D6c {nt nf:Nat} {b:List Nd} (hb:A2j nt nf b) {x:Nd} (hx:x∈b) (f:Int):(tgt x f<0/\B3m x f = .tu [iv 0,bv false])\/(0<=tgt x f/\B3m x f = .tu [iv (tgt x f),bv true]):=by
 unfold tgt B3m
 cases h:x.arcs.find? (fun a=>decide (a.feat=f))with
 | none=>exact .inl ⟨by simp,rfl⟩
 | some a=>exact .inr ⟨(hb.form.to x hx a (List.mem_of_find?_eq_some h)).1,rfl⟩
theorem F1r (n:Nat):A6s [.int .i64 0] n=((List.replicate n (0:Int)).flatMap eInt.enc).map .t:=by
 refine List.ext_getElem? fun j=>?_
 have hl:(A6s [Value.int .i64 0] n).length=n:=by rw[A3r];simp
 have hr:(((List.replicate n (0:Int)).flatMap eInt.enc).map PV.t).length=n:=by rw[List.length_map,A1x];simp[eInt]
 by_cases h:j<n
 ·obtain⟨c,hc⟩:∃c,(A6s [Value.int .i64 0] n)[j]?=some c:=⟨_,List.getElem?_eq_getElem (by omega)⟩
  have:=(B7s hc).2
  rw[hc,this]
  have e:((List.replicate n (0:Int)).flatMap eInt.enc).map PV.t=List.replicate n (.t (iv 0)):=by
   clear hc this hl hr h
   induction n with
   | zero=>rfl
   | succ n ih=>
    rw[List.replicate_succ,List.replicate_succ,List.flatMap_cons,List.map_append,ih]
    rfl
  rw[e,List.getElem?_replicate,if_pos h]
  simp[Nat.mod_one]
 ·rw[List.getElem?_eq_none (by omega),List.getElem?_eq_none (by omega)]
theorem E2p {n nx:Nat} (h0:0<n) (h:n<=1000000):B7v 3 1 8 [.int .i64 0] (.t (iv (n:Int))) (.t (iv (n:Int))) nx=some (rowP eInt nx (List.replicate n 0),A1m eInt 3 (List.replicate n 0)):=by
 have hp:rowP eInt nx (List.replicate n (0:Int)) = .row nx 0 n 1:=by
  obtain⟨k,rfl⟩:∃k,n=k+1:=⟨n-1,by omega⟩
  rw[List.replicate_succ]
  simp[rowP,eInt]
 rw[hp]
 simp only[B7v,Int.toNat_natCast]
 rw[if_pos ⟨by omega,by omega,by omega,by omega⟩,F1r]
 rfl
theorem B1f {H:Heap} {b:Nat} {l:List Int} (h:A0j eInt 3 H b l) {i:Nat} (hi:i<l.length):A0h false 1 H (.ptr b i)=some (.t (iv (nAt l i))):=by
 have:=h.load (off:=0) (c:=iv (nAt l i)) (C6n hi) rfl
 simpa[eInt]using this
theorem A5l {b:Nat} {l:List Int} {i:Nat} (hi:i<l.length):A1k 1 (rowP eInt b l) (.t (iv (i:Int)))=some (.ptr b i):=by
 have:=A1p (e:=eInt) (b:=b) (C6n hi) .i64
 simpa[eInt]using this
theorem B3n {H:Heap} {b:Nat} {l:List Int} (h:A0j eInt 3 H b l) {i:Nat} (hi:i<l.length) (v:Int):A1e 1 H (.ptr b i) (.t (iv v))=some (upd H b (A1m eInt 3 (l.set i v))):=by
 have:=A9p (e:=eInt) (ty:=3) (off:=0) (y:=v) (c:=iv v) (h.resolve_left (fun e=>by rw[e]at hi;simp at hi)) (C6n hi) (by decide) rfl rfl
 simpa[eInt]using this
theorem A0j.upd_int {H:Heap} {b:Nat} {l:List Int} (h:A0j eInt 3 H b l) {i:Nat} (hi:i<l.length) (v:Int):A0j eInt 3 (upd H b (A1m eInt 3 (l.set i v))) b (l.set i v):=by
 right
 rw[A0o,if_pos rfl,h.resolve_left (fun e=>by rw[e]at hi;simp at hi)]
 rfl
theorem F6b {nt nf:Nat} {ty:List Typ} {a b:List Nd} {m:List Int} (ha:A2j nt nf a) (hp:PM ty a b m) {i:Nat} (hi:i<a.length) (hd:∀j,j<i->Done ty a b m j):0<=nAt m i:=by
 by_cases h0:i=0
 ·rw[h0,hp.root];omega
 ·obtain⟨j,z,c,h1,h2,h3,h4⟩:=ha.par (by omega:0<i) hi
  have:=((hd j h1).arc z h2 c h3).2
  have e:c.to.toNat=i:=by omega
  rw[e]at this
  exact this
theorem E2q {nt nf:Nat} {ty:List Typ} {a b:List Nd} (ha:A2j nt nf a) (hb:A2j nt nf b):PM ty a b ((rep a.length).set 0 0):=by
 have hpos:=ha.form.pos
 have hbp:=hb.form.pos
 have hl:0<(rep a.length).length:=by simp[rep];omega
 have hs:∀j,nAt ((rep a.length).set 0 0) j=if j=0 then 0 else nAt (rep a.length) j:=fun j=>C6g hl
 have hr:∀j,nAt (rep a.length) j<0\/nAt (rep a.length) j=0/\a.length<=j:=by
  intro j
  by_cases h:j<a.length
  ·left;unfold rep;rw[C6h h];omega
  ·right
   refine⟨?_,by omega⟩
   unfold nAt
   rw[List.getD_eq_getElem?_getD,List.getElem?_eq_none (by simp[rep];omega)]
   rfl
 refine⟨by simp[rep],by rw[hs,if_pos rfl],fun j=>?_,fun m' hm' j hj hp=>?_⟩
 ·rw[hs]
  split
  ·exact .inr ⟨by omega,by omega⟩
  ·rcases hr j with h | ⟨h,_⟩
   ·exact .inl h
   ·rw[h];exact .inr ⟨by omega,by omega⟩
 ·rw[hs]at hp ⊢
  split
  ·rename_i e
   rw[e,hm'.root]
  ·rename_i e
   rw[if_neg e]at hp
   rcases hr j with h | ⟨_,h⟩<;>omega
def B1t (n j:Nat):List Int:=List.replicate j (-1)++List.replicate (n-j) 0
theorem D6d {n j:Nat} (h:j<=n):(B1t n j).length=n:=by simp[B1t];omega
theorem D0m (n:Nat):B1t n 0=List.replicate n 0:=by simp[B1t]
theorem D6e (n:Nat):B1t n n=rep n:=by simp[B1t,rep]
theorem D6f {n j:Nat} (h:j<n):(B1t n j).set j (-1)=B1t n (j+1):=by
 unfold B1t
 rw[List.set_append_right _ _ (by simp)]
 obtain⟨k,hk⟩:∃k,n-j=k+1:=⟨n-j-1,by omega⟩
 have e:n-(j+1)=k:=by omega
 rw[hk,e,List.replicate_succ,List.replicate_succ']
 simp
def F1s (ty:List Typ) (a b:List Nd):Prop:=¬∃m,Mor ty a b m
noncomputable def tw13:Tbl:=[(53,gHS),(54,D9r)]
theorem A4o:Ctx Try.prog G (orc tw13):=(A1q.cons E2n (.cons E6n .nil)).ctx A1w
def R18 (tt tf ta tb:T):Heap:=[(0,.cells 29 [.t tt,.t tf]),(1,.cells 25 [.t ta]),(2,.cells 25 [.t tb])]
def S18a (tt tf ta tb:T) (n j:Nat):A0b:=⟨[(23,.t (iv (j:Int))),(22,.t (iv (n:Int))),(8,rowP eInt 3 (B1t n j)),(5,.ptr 2 0),(4,.ptr 1 0),(3,.ptr 0 0)],R18 tt tf ta tb++rowH eInt 3 3 (B1t n j),4,103⟩
def S18 (tt tf ta tb:T) (n:Nat) (s:Nat×List Int):A0b:=⟨[(35,.t (iv (s.1:Int))),(34,.t (iv (n:Int))),(33,.t ta),(10,.t (bv true)),(8,rowP eInt 3 s.2),(5,.ptr 2 0),(4,.ptr 1 0),(3,.ptr 0 0)],R18 tt tf ta tb++rowH eInt 3 3 s.2,4,103⟩
def E18 (s:Bool×List Int):A0b:=⟨[(10,.t (bv s.1)),(8,rowP eInt 3 s.2)],rowH eInt 3 3 s.2,4,103⟩
def R18i (tt tf ta tb:T) (x:Nd):Heap:=[(0,.cells 29 [.t tt,.t tf]),(1,.cells 25 [.t ta]),(2,.cells 25 [.t tb]),(4,ndR x)]
def S18i (tt tf ta tb:T) (n i:Nat) (x:Nd) (k:Int) (s:Nat×List Int):A0b:=
 ⟨[(62,.t (iv (s.1:Int))),(61,.t (iv (x.arcs.length:Int))),(60,.t x.tree),(13,.t (iv k)),(12,.ptr 4 0),(35,.t (iv (i:Int))),(34,.t (iv (n:Int))),(33,.t ta),(10,.t (bv true)),(8,rowP eInt 3 s.2),(5,.ptr 2 0),(4,.ptr 1 0),(3,.ptr 0 0)],R18i tt tf ta tb x++rowH eInt 3 3 s.2,5,103⟩
theorem D0n {tt tf ta tb:T} {H:Heap} {nx:Nat} (hn:3<=nx) (h0:Abs.look H 0=some (.cells 29 [.t tt,.t tf])) (h1:Abs.look H 1=some (.cells 25 [.t ta])) (h2:Abs.look H 2=some (.cells 25 [.t tb])) :
  ∀q∈R18 tt tf ta tb,Abs.look H q.1=some (A2k (fun x=>if x=3 then 3 else x) q.2)/\q.1<nx/\q.1≠3/\q.1≠3/\A1b nx q.2=true:=by
 intro q hq
 simp only[R18,List.mem_cons,List.not_mem_nil,or_false]at hq
 rcases hq with rfl | rfl | rfl
 ·exact⟨h0,by show 0<nx;omega,by omega,by omega,rfl⟩
 ·exact⟨h1,by show 1<nx;omega,by omega,by omega,rfl⟩
 ·exact⟨h2,by show 2<nx;omega,by omega,by omega,rfl⟩
theorem D9s {tt tf ta tb:T} {x:Nd} {H:Heap} (h0:Abs.look H 0=some (.cells 29 [.t tt,.t tf])) (h1:Abs.look H 1=some (.cells 25 [.t ta])) (h2:Abs.look H 2=some (.cells 25 [.t tb])) (h4:Abs.look H 4=some (ndR x)) :
  ∀q∈R18i tt tf ta tb x,Abs.look H q.1=some (A2k (fun x=>if x=3 then 3 else x) q.2)/\q.1<5/\q.1≠3/\q.1≠3/\A1b 5 q.2=true:=by
 intro q hq
 simp only[R18i,List.mem_cons,List.not_mem_nil,or_false]at hq
 rcases hq with rfl | rfl | rfl | rfl
 ·exact⟨h0,by omega,by omega,by omega,rfl⟩
 ·exact⟨h1,by omega,by omega,by omega,rfl⟩
 ·exact⟨h2,by omega,by omega,by omega,rfl⟩
 ·exact⟨h4,by omega,by omega,by omega,rfl⟩
set_option maxRecDepth 100000 in
set_option maxHeartbeats 4000000 in
theorem F1t {tt tf ta tb:T} {ty:List Typ} {fe:List Ft} {a b:List Nd} (hT:IsS eTyp tt ty) (hF:IsS eFt tf fe) (hta:IsS eNd ta a) (htb:IsS eNd tb b) (hok:TyOK ty) (ha:A2j ty.length fe.length a) (hb:A2j ty.length fe.length b) (sa:A3a a) (sb:A3a b) :
  A0y Try.prog G 18 [.ag [tt,tf],.ag [ta],.ag [tb]] (· = mapT ty a b):=by
 have cph:A0s (.t (.ag [tt,tf]))=some [.t tt,.t tf]:=rfl
 have cpa:A0s (.t (.ag [ta]))=some [.t ta]:=rfl
 have cpb:A0s (.t (.ag [tb]))=some [.t tb]:=rfl
 have agh:agOf [.t tt,.t tf] = .t (.ag [tt,tf]):=rfl
 have hpos:=ha.form.pos
 have hal:=sa.len
 refine B8h.call rfl ?_
 unfold B0p
 refine A0a A4o ?_
 simp -implicitDefEqProofs [cph,cpa,cpb]
 refine D0y ?_
 refine A0a A4o ?_
 simp -implicitDefEqProofs [A0h,hta.len,E2p (nx:=3) hpos (by omega:a.length<=1000000)]
 have hfl:∀{j},j<=a.length->(B1t a.length j).length=a.length:=fun h=>D6d h
 refine A0q (fun _:Unit=>S18a tt tf ta tb a.length a.length) (fun _=>True) (fun _=>rfl) ?_ ?_
 ·refine A0a A4o ?_
  simp -implicitDefEqProofs [A1o]
  refine A0g ?_
  refine A1a (S18a tt tf ta tb a.length) a.length (fun _=>rfl) ?_ rfl ?_ ?_
  ·unfold S18a
   rw[D0m]
   exact sub_rowR (k:=3) (.inr rfl) (by omega) (by omega) (D0n (by omega) rfl rfl rfl) (by simp -implicitDefEqProofs [A0f,A0e,ren,under])
  ·intro j hj
   have e1:IntKind.i64.wrap ((j:Int)+1)=((j+1:Nat):Int):=A0k (by omega) (by omega)
   have hl:=hfl (Nat.le_of_lt hj)
   have hjl:j<(B1t a.length j).length:=by omega
   obtain⟨H0,hH0⟩:∃H0,H0=R18 tt tf ta tb++rowH eInt 3 3 (B1t a.length j):=⟨_,rfl⟩
   have r3:A0j eInt 3 H0 3 (B1t a.length j):=by rw[hH0];exact A0j.right (A0j.head' _ _ _ _) (by simp[R18])
   have ia:=A5l (b:=3) hjl
   have st:=B3n r3 hjl (-1)
   have hu:=A0j.upd_int r3 hjl (-1)
   rw[D6f hj]at st hu
   have hrow:rowP eInt 3 (B1t a.length j)=rowP eInt 3 (B1t a.length (j+1)):=B1e _ _ (by rw[hl,hfl (by omega)])
   have st:A1e 1 H0 (.ptr 3 j) (.t (.v (.int .i64 (-1))))=_:=st
   refine A0c A4o ?_
   simp -implicitDefEqProofs [S18a,<-hH0,hj,ia,st,e1]
   refine sub_rowR (b:=3) (k:=3) (nx':=4) hu (by omega) (by omega) (D0n (by omega) ?_ ?_ ?_) (by simp -implicitDefEqProofs [A0f,A0e,ren,under,hrow])
   ·rw[A0o,if_neg (by omega),hH0];rfl
   ·rw[A0o,if_neg (by omega),hH0];rfl
   ·rw[A0o,if_neg (by omega),hH0];rfl
  ·refine A0c A4o ?_
   simp -implicitDefEqProofs [S18a]
   exact Next.mk () trivial (A4n (by simp -implicitDefEqProofs))
 ·rintro _ -
  obtain⟨H0,hH0⟩:∃H0,H0=R18 tt tf ta tb++rowH eInt 3 3 (rep a.length):=⟨_,rfl⟩
  have r3:A0j eInt 3 H0 3 (rep a.length):=by rw[hH0];exact A0j.right (A0j.head' _ _ _ _) (by simp[R18])
  have hrl:(rep a.length).length=a.length:=by simp[rep]
  have h0l:0<(rep a.length).length:=by omega
  have ia:A1k 1 (rowP eInt 3 (rep a.length)) (.t (.v (.int .i64 0)))=some (.ptr 3 0):=A5l (b:=3) h0l
  have st:A1e 1 H0 (.ptr 3 0) (.t (.v (.int .i64 0)))=_:=B3n r3 h0l 0
  have hu:=A0j.upd_int r3 h0l 0
  obtain⟨H1,hH1⟩:∃H1,H1=upd H0 3 (A1m eInt 3 ((rep a.length).set 0 0)):=⟨_,rfl⟩
  rw[<-hH1]at st hu
  have l0:Abs.look H1 0=some (.cells 29 [.t tt,.t tf]):=by rw[hH1,A0o,if_neg (by omega),hH0];rfl
  have l1:Abs.look H1 1=some (.cells 25 [.t ta]):=by rw[hH1,A0o,if_neg (by omega),hH0];rfl
  have l2:Abs.look H1 2=some (.cells 25 [.t tb]):=by rw[hH1,A0o,if_neg (by omega),hH0];rfl
  have ld1:A0h false 1 H1 (.ptr 1 0)=some (.t ta):=by simp[A0h,l1]
  have hrow:rowP eInt 3 (rep a.length)=rowP eInt 3 ((rep a.length).set 0 0):=B1e _ _ (by simp)
  refine A0a A4o ?_
  simp -implicitDefEqProofs [S18a,D6e,<-hH0,ia,st]
  refine A0a A4o ?_
  simp -implicitDefEqProofs
  refine A0a A4o ?_
  simp -implicitDefEqProofs
  refine A0q E18 (fun s=>if s.1=true then Mor ty a b s.2 else F1s ty a b) (fun _=>rfl) ?_ ?_
  ·refine A0a A4o ?_
   simp -implicitDefEqProofs [ld1,hta.len]
   refine A0g ?_
   refine A1r (S18 tt tf ta tb a.length) (fun s=>a.length-s.1) (fun s=>s.1<=a.length/\PM ty a b s.2/\∀j,j<s.1->Done ty a b s.2 j) (0,(rep a.length).set 0 0) (fun _=>rfl) ⟨by simp,E2q ha hb,fun j hj=>by simp at hj⟩ ?_ rfl ?_
   ·refine sub_rowR (k:=3) hu (by omega) (by omega) (D0n (by omega) l0 l1 l2) (by simp -implicitDefEqProofs [A0f,A0e,ren,under,hrow])
   ·rintro⟨i,m⟩ ⟨hi,hpm,hdone⟩
    simp only at hi hpm hdone
    obtain⟨Hm,hHm⟩:∃Hm,Hm=R18 tt tf ta tb++rowH eInt 3 3 m:=⟨_,rfl⟩
    have m3:A0j eInt 3 Hm 3 m:=by rw[hHm];exact A0j.right (A0j.head' _ _ _ _) (by simp[R18])
    have m0:Abs.look Hm 0=some (.cells 29 [.t tt,.t tf]):=by rw[hHm];rfl
    have m1:Abs.look Hm 1=some (.cells 25 [.t ta]):=by rw[hHm];rfl
    have m2:Abs.look Hm 2=some (.cells 25 [.t tb]):=by rw[hHm];rfl
    by_cases hlt:i<a.length
    ·obtain⟨x,hx⟩:∃x,a[i]?=some x:=⟨_,List.getElem?_eq_getElem hlt⟩
     have hxm:=List.mem_of_getElem? hx
     have hxa:=sa.arcs x hxm
     have hkp:=F6b ha hpm hlt hdone
     obtain⟨k,hk⟩:∃k:Nat,nAt m i=(k:Int):=⟨(nAt m i).toNat,by omega⟩
     have hkb:k<b.length:=by
      rcases hpm.val i with h | ⟨_,h⟩<;>omega
     obtain⟨y,hy⟩:∃y,b[k]?=some y:=⟨_,List.getElem?_eq_getElem hkb⟩
     have hym:=List.mem_of_getElem? hy
     have hnd:ndAt b (nAt m i)=y:=by rw[hk];exact B3l hy
     have e1:IntKind.i64.wrap ((i:Int)+1)=((i+1:Nat):Int):=A0k (by omega) (by omega)
     have hil:i<m.length:=by rw[hpm.len];exact hlt
     have ix:=A9o hta hx
     have iy:=A9o htb hy
     have iam:=A5l (b:=3) hil
     have cx:A0s (.t (.ag [iv x.type,x.tree]))=some [.t (iv x.type),.t x.tree]:=rfl
     have gh:=E2m (s:=x.type) (t:=y.type) hT hF hok ⟨ha.form.type x hxm,ha.type x hxm⟩ ⟨hb.form.type y hym,hb.type y hym⟩
     have lax:∀cs,A0h true 2 Hm (.t (.pt (iv x.type::x.tree::cs)))=some (.t (.ag [iv x.type,x.tree])):=fun cs=>by simp[A0h]
     refine A0a A4o ?_
     simp -implicitDefEqProofs [S18,<-hHm,hlt]
     refine A0a A4o ?_
     simp -implicitDefEqProofs
     refine A0q (fun m1:List Int=>S18 tt tf ta tb a.length (i,m1)) (fun m1=>PM ty a b m1/\∀j,j<i+1->Done ty a b m1 j) (fun _=>rfl) ?_ ?_
     ·refine A0g ?_
      refine A0a A4o ?_
      simp -implicitDefEqProofs [ix,lax,A1e,cx,A1t]
      obtain⟨H4,hH4⟩:∃H4,H4=(4,ndR x)::Hm:=⟨_,rfl⟩
      have n3:A0j eInt 3 H4 3 m:=by rw[hH4];exact m3.cons (by omega)
      have n0:Abs.look H4 0=some (.cells 29 [.t tt,.t tf]):=by rw[hH4,look_cons,if_neg (by omega)];exact m0
      have n1:Abs.look H4 1=some (.cells 25 [.t ta]):=by rw[hH4,look_cons,if_neg (by omega)];exact m1
      have n2:Abs.look H4 2=some (.cells 25 [.t tb]):=by rw[hH4,look_cons,if_neg (by omega)];exact m2
      have n4:Abs.look H4 4=some (ndR x):=by rw[hH4];rfl
      have ldk:=B1f n3 hil
      rw[hk]at ldk
      have ldh:A0h true 2 H4 (.ptr 0 0)=some (.t (.ag [tt,tf])):=by simp[A0h,n0,agh]
      have ldx:A0h false 1 H4 (.ptr 4 0)=some (.t (iv x.type)):=by simp[A0h,n4,ndR]
      have ldxt:A0h false 1 H4 (.ptr 4 1)=some (.t x.tree):=by simp[A0h,n4,ndR]
      have ldb:A0h false 1 H4 (.ptr 2 0)=some (.t tb):=by simp[A0h,n2]
      have lp:∀c cs,A0h false 1 H4 (.t (.pt (c::cs)))=some (.t c):=fun _ _=>rfl
      have hHr:(4,Row.cells 61 [.t (iv x.type),.t x.tree])::Hm=H4:=by rw[hH4];rfl
      rw[hHr]
      refine A0a A4o ?_
      simp -implicitDefEqProofs [iam,ldk]
      have hk0:¬((k:Int)<0):=by omega
      cases hs:hsub ty x.type y.type with
      | false=>
       rw[hs]at gh
       refine A0a A4o ?_
       simp -implicitDefEqProofs [hk0,ldh,ldx,ldb,iy,lp,tw13,gh]
       refine Next.mk (false,m) (show F1s ty a b from hpm.bad_type hx hkp (by rw[hnd];exact hs)) ?_
       exact A0i (k:=3) n3 (by omega) (by omega) (by simp -implicitDefEqProofs [A0f,A0e,ren,under])
      | true=>
       rw[hs]at gh
       refine A0a A4o ?_
       simp -implicitDefEqProofs [hk0,ldh,ldx,ldb,iy,lp,tw13,gh]
       refine A0a A4o ?_
       simp -implicitDefEqProofs [ldxt,x.ok.len]
       refine A0g ?_
       refine A1r (S18i tt tf ta tb a.length i x (k:Int)) (fun s=>x.arcs.length-s.1) (fun s=>s.1<=x.arcs.length/\PM ty a b s.2/\(∀j,j<i->Done ty a b s.2 j)/\nAt s.2 i=(k:Int)/\∀c∈x.arcs.take s.1,tgt y c.feat=nAt s.2 c.to.toNat/\0<=nAt s.2 c.to.toNat) (0,m) (fun _=>rfl) ⟨by simp,hpm,hdone,hk,fun c hc=>by simp at hc⟩ ?_ rfl ?_
       ·exact sub_rowR (k:=3) n3 (by omega) (by omega) (D9s n0 n1 n2 n4) (by simp -implicitDefEqProofs [A0f,A0e,ren,under])
       ·rintro⟨q,w⟩ ⟨hq,hw,hdw,hkw,harc⟩
        simp only at hq hw hdw hkw harc
        obtain⟨Hw,hHw⟩:∃Hw,Hw=R18i tt tf ta tb x++rowH eInt 3 3 w:=⟨_,rfl⟩
        have w3:A0j eInt 3 Hw 3 w:=by rw[hHw];exact A0j.right (A0j.head' _ _ _ _) (by simp[R18i])
        have w0:Abs.look Hw 0=some (.cells 29 [.t tt,.t tf]):=by rw[hHw];rfl
        have w1:Abs.look Hw 1=some (.cells 25 [.t ta]):=by rw[hHw];rfl
        have w2:Abs.look Hw 2=some (.cells 25 [.t tb]):=by rw[hHw];rfl
        have w4:Abs.look Hw 4=some (ndR x):=by rw[hHw];rfl
        have hwi:0<=nAt w i:=by omega
        have hndw:ndAt b (nAt w i)=y:=by rw[hkw];exact B3l hy
        by_cases hql:q<x.arcs.length
        ·obtain⟨c,hc⟩:∃c,x.arcs[q]?=some c:=⟨_,List.getElem?_eq_getElem hql⟩
         have hcm:=List.mem_of_getElem? hc
         have ic:=A4d x.ok hc
         obtain⟨h0,h1⟩:=ha.form.to x hxm c hcm
         obtain⟨n',hn'⟩:∃n':Nat,c.to=(n':Int):=⟨c.to.toNat,by omega⟩
         have hn2:c.to.toNat=n':=by omega
         have hnl:n'<w.length:=by rw[hw.len];omega
         have e2:IntKind.i64.wrap ((q:Int)+1)=((q+1:Nat):Int):=A0k (by omega) (by omega)
         have gt:=E6o y (sb.arcs y hym) c.feat
         rw[hn']at ic
         have cc:A0s (.t (.ag [iv c.feat,iv (n':Int)]))=some [.t (iv c.feat),.t (iv (n':Int))]:=rfl
         have lac:∀cs,A0h true 2 Hw (.t (.pt (iv c.feat::iv (n':Int)::cs)))=some (.t (.ag [iv c.feat,iv (n':Int)])):=fun cs=>by simp[A0h]
         obtain⟨to,hto⟩:∃to,to=tgt y c.feat:=⟨_,rfl⟩
         rw[<-hto]at gt
         have hto':tgt (ndAt b (nAt w i)) c.feat=to:=by rw[hndw,hto]
         obtain⟨H5,hH5⟩:∃H5,H5=(5,Row.cells 81 [.t (iv c.feat),.t (iv (n':Int))])::Hw:=⟨_,rfl⟩
         have v3:A0j eInt 3 H5 3 w:=by rw[hH5];exact w3.cons (by omega)
         have v0:Abs.look H5 0=some (.cells 29 [.t tt,.t tf]):=by rw[hH5,look_cons,if_neg (by omega)];exact w0
         have v1:Abs.look H5 1=some (.cells 25 [.t ta]):=by rw[hH5,look_cons,if_neg (by omega)];exact w1
         have v2:Abs.look H5 2=some (.cells 25 [.t tb]):=by rw[hH5,look_cons,if_neg (by omega)];exact w2
         have v4:Abs.look H5 4=some (ndR x):=by rw[hH5,look_cons,if_neg (by omega)];exact w4
         have v5:Abs.look H5 5=some (.cells 81 [.t (iv c.feat),.t (iv (n':Int))]):=by rw[hH5];rfl
         have ldb5:A0h false 1 H5 (.ptr 2 0)=some (.t tb):=by simp[A0h,v2]
         have ldf:A0h false 1 H5 (.ptr 5 0)=some (.t (iv c.feat)):=by simp[A0h,v5]
         have ldt:A0h false 1 H5 (.ptr 5 1)=some (.t (iv (n':Int))):=by simp[A0h,v5]
         have lay:∀cs,A0h true 2 H5 (.t (.pt (iv y.type::y.tree::cs)))=some (.t (.ag [iv y.type,y.tree])):=fun cs=>by simp[A0h]
         have ian:=A5l (b:=3) hnl
         have ldn:=B1f v3 hnl
         have stn:=B3n v3 hnl to
         have hun:=A0j.upd_int v3 hnl to
         have hrow:rowP eInt 3 w=rowP eInt 3 (w.set n' to):=B1e _ _ (by simp)
         refine A0a A4o ?_
         simp -implicitDefEqProofs [S18i,<-hHw,hql]
         refine A0a A4o ?_
         simp -implicitDefEqProofs
         have go:0<=to->(nAt w n'<0\/nAt w n'=to)->PM ty a b (w.set n' to)/\(∀j,j<i->Done ty a b (w.set n' to) j)/\nAt (w.set n' to) i=(k:Int)/\∀c∈x.arcs.take (q+1),tgt y c.feat=nAt (w.set n' to) c.to.toNat/\0<=nAt (w.set n' to) c.to.toNat:=by
          intro ht hor
          obtain⟨p1,p2,p3⟩:=hw.put ha hb hx hwi hcm (by rw[hto'];exact ht) (by rw[hto',hn2];exact hor)
          rw[hto',hn2]at p1 p2 p3
          refine⟨p1,fun j hj=>(hdw j hj).more p2,by rw[p2 i hwi];exact hkw,fun c' hc'=>?_⟩
          rw[List.take_add_one,hc]at hc'
          rcases List.mem_append.1 hc' with h | h
          ·obtain⟨h3,h4⟩:=harc c' h
           rw[p2 _ h4]
           exact⟨h3,h4⟩
          ·simp at h
           subst h
           rw[hn2,p3,<-hto]
           exact⟨rfl,ht⟩
         refine A0q (fun w1:List Int=>S18i tt tf ta tb a.length i x (k:Int) (q,w1)) (fun w1=>PM ty a b w1/\(∀j,j<i->Done ty a b w1 j)/\nAt w1 i=(k:Int)/\∀c∈x.arcs.take (q+1),tgt y c.feat=nAt w1 c.to.toNat/\0<=nAt w1 c.to.toNat) (fun _=>rfl) ?_ ?_
         ·refine A0g ?_
          refine A0a A4o ?_
          simp -implicitDefEqProofs [ic,lac,A1e,cc,A1t]
          rw[<-hH5]
          refine A0a A4o ?_
          simp -implicitDefEqProofs [ldb5,iy,lay,ldf,tw13,gt]
          by_cases ht:to<0
          ·have hno:F1s ty a b:=hw.bad_arc ha hx hwi hcm (by rw[hto'];exact ht)
           refine A0a A4o ?_
           simp -implicitDefEqProofs [ht]
           refine Next.mk (false,w) hno ?_
           exact A0i (k:=3) v3 (by omega) (by omega) (by simp -implicitDefEqProofs [A0f,A0e,ren,under])
          ·have ht':0<=to:=by omega
           by_cases hv:0<=nAt w n'
           ·by_cases he:nAt w n'=to
            ·have hgo:=go ht' (.inr he)
             refine A0a A4o ?_
             rw[he]at ldn
             simp -implicitDefEqProofs [ht,ht',ldt,ian,ldn]
             refine A0c A4o ?_
             simp -implicitDefEqProofs [ldt,ian,stn]
             refine Next.mk (w.set n' to) hgo ?_
             refine sub_rowR (k:=3) hun (by omega) (by omega) (D9s ?_ ?_ ?_ ?_) (by simp -implicitDefEqProofs [A0f,A0e,ren,under,hrow])
             ·rw[A0o,if_neg (by omega)];exact v0
             ·rw[A0o,if_neg (by omega)];exact v1
             ·rw[A0o,if_neg (by omega)];exact v2
             ·rw[A0o,if_neg (by omega)];exact v4
            ·have hno:F1s ty a b:=hw.bad_to ha hx hwi hcm (by rw[hn2];exact hv) (by rw[hn2,hto'];exact he)
             refine A0a A4o ?_
             simp -implicitDefEqProofs [ht,ldt,ian,ldn,hv,he]
             refine Next.mk (false,w) hno ?_
             exact A0i (k:=3) v3 (by omega) (by omega) (by simp -implicitDefEqProofs [A0f,A0e,ren,under])
           ·have hgo:=go ht' (.inl (by omega))
            refine A0a A4o ?_
            simp -implicitDefEqProofs [ht,ldt,ian,ldn,hv]
            refine A0c A4o ?_
            simp -implicitDefEqProofs [ldt,ian,stn]
            refine Next.mk (w.set n' to) hgo ?_
            refine sub_rowR (k:=3) hun (by omega) (by omega) (D9s ?_ ?_ ?_ ?_) (by simp -implicitDefEqProofs [A0f,A0e,ren,under,hrow])
            ·rw[A0o,if_neg (by omega)];exact v0
            ·rw[A0o,if_neg (by omega)];exact v1
            ·rw[A0o,if_neg (by omega)];exact v2
            ·rw[A0o,if_neg (by omega)];exact v4
         ·rintro w1 ⟨g1,g2,g3,g4⟩
          refine A0c A4o ?_
          simp -implicitDefEqProofs [S18i,e2]
          refine Next.mk (q+1,w1) ⟨⟨by show q+1<=_;omega,g1,g2,g3,g4⟩,by show x.arcs.length-(q+1)<x.arcs.length-q;omega⟩ ?_
          exact A4n (by simp -implicitDefEqProofs)
        ·refine A0c A4o ?_
         have hqe:q=x.arcs.length:=by omega
         simp -implicitDefEqProofs [S18i,<-hHw,hql]
         refine Next.mk w ⟨hw,fun j hj=>?_⟩ ?_
         ·by_cases e:j=i
          ·subst e
           refine⟨hwi,fun z hz=>?_,fun z hz c hc=>?_⟩
           ·rw[hx]at hz;injection hz with hz;subst hz
            rw[hndw];exact hs
           ·rw[hx]at hz;injection hz with hz;subst hz
            rw[hndw]
            exact harc c (by rw[hqe,List.take_length];exact hc)
          ·exact hdw j (by omega)
         ·exact sub_rowR (k:=3) w3 (by omega) (by omega) (D0n (by omega) w0 w1 w2) (by simp -implicitDefEqProofs [A0f,A0e,ren,under])
     ·rintro m1 ⟨h1,h2⟩
      refine A0c A4o ?_
      simp -implicitDefEqProofs [S18,e1]
      refine Next.mk (i+1,m1) ⟨⟨by show i+1<=_;omega,h1,h2⟩,by show a.length-(i+1)<a.length-i;omega⟩ ?_
      exact A4n (by simp -implicitDefEqProofs)
    ·refine A0c A4o ?_
     simp -implicitDefEqProofs [S18,<-hHm,hlt]
     refine Next.mk (true,m) ?_ ?_
     ·exact hpm.mor ha fun j hj=>hdone j (by omega)
     ·exact A0i (k:=3) m3 (by omega) (by omega) (by simp -implicitDefEqProofs [A0f,A0e,ren,under])
  ·rintro⟨fl,m⟩ hm
   refine A0c A4o ?_
   cases fl with
   | true=>
    have hm:Mor ty a b m:=by simpa using hm
    have hres:=D6b ha hm
    have t2:=C5x (A0j.head' eInt 3 3 m) (bv true)
    simp -implicitDefEqProofs [E18,-oneOf,t2,hres]
   | false=>
    have hm:F1s ty a b:=by simpa using hm
    have hres:=B9d hm
    simp -implicitDefEqProofs [E18,hres]
end Go.Proofs.Ytbiadmfmjnoecaa
