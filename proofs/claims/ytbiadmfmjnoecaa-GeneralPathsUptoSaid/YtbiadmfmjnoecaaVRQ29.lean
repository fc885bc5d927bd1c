/-
 Auxiliary facts. No statement of the program stands here.
-/
import Derived.Test.YtbiadmfmjnoecaaRows
import Derived.Test.YtbiadmfmjnoecaaVRQ07
import Derived.Test.YtbiadmfmjnoecaaVRQ28
import Derived.Test.YtbiadmfmjnoecaaVRQ13
import Derived.Test.YtbiadmfmjnoecaaVRQ14
import Derived.Test.YtbiadmfmjnoecaaVRQ21
import Derived.Test.YtbiadmfmjnoecaaVRQ15
namespace Go.Proofs.Ytbiadmfmjnoecaa
set_option linter.unusedSimpArgs false
set_option linter.unusedVariables false
open Go Go.Abs Go.ChangeShapes Go.WideShapes Go.ChangeAt Go.RowKit
section
variable {H : Type} {enc : TypeId × Value -> H} {P : Program} {W : World} {spare : Nat -> Bool} {held : Bool}
theorem G3o {H:Type} (d:DataW H):1<=Rows.uptoBulk d:=by
 cases d with
 | lit l=>cases l<;>simp[Rows.uptoBulk]
 | nil=>simp[Rows.uptoBulk]
 | ptr d=>simp[Rows.uptoBulk]
 | slice elems spare=>simp[Rows.uptoBulk]
 | agg parts=>simp[Rows.uptoBulk]
 | iface t d=>simp[Rows.uptoBulk]
 | map entries=>simp[Rows.uptoBulk]
 | held h=>simp[Rows.uptoBulk]
theorem F7x {H:Type} {d:DataW H} {l:List (DataW H)} (h:d∈l):Rows.uptoBulk d<=Rows.uptoBulkAll l:=by
 induction l with
 | nil=>cases h
 | cons x r ih=>
  simp only[Rows.uptoBulkAll]
  cases List.mem_cons.1 h with
  | inl e=>subst e;omega
  | inr e=>have:=ih e;omega
theorem G3p {H:Type} (l:List (DataW H)):l.length<=Rows.uptoBulkAll l:=by
 induction l with
 | nil=>simp[Rows.uptoBulkAll]
 | cons x r ih=>have:=G3o x;simp only[Rows.uptoBulkAll,List.length_cons];omega
theorem G3q (a:Addr) (x y:Nat):a.add (x+y)=(a.add x).add y:=by
 unfold Addr.add
 by_cases hx:x=0<;>by_cases hy:y=0<;>simp[hx,hy,Nat.add_assoc]
def RdL (W:World) (ts:List T) (cs:List Value):Prop:=RepL (Old W) W ts cs/\∀x∈cs,x.oneCell'=true
theorem RdL.at' {ts:List T} {cs:List Value} (h:RdL W ts cs) {j:Nat} {c:T} (hj:ts[j]?=some c):∃x,cs[j]?=some x/\x.oneCell'=true/\RepT (Old W) W c x:=by
 obtain⟨x,hx,hr⟩:=h.1.at_ j hj
 exact⟨x,hx,h.2 x (List.mem_of_getElem? hx),hr⟩
theorem C9e {I:Nat->Prop} {w:World}:∀{ts ts':List T} {us us':List Value},RepL I w ts us->RepL I w ts' us'->RepL I w (ts++ts') (us++us')
 | [],ts',us,us',h,h'=>by simp only[RepL]at h;subst h;simpa using h'
 | t::ts,ts',us,us',h,h'=>by
  simp only[RepL]at h
  obtain⟨x,xs,rfl,hx,hxs⟩:=h
  simp only[List.cons_append,RepL]
  exact⟨x,xs++us',rfl,hx,C9e hxs h'⟩
theorem RdL.append {ts ts':List T} {cs cs':List Value} (h:RdL W ts cs) (h':RdL W ts' cs'):RdL W (ts++ts') (cs++cs'):=
 ⟨C9e h.1 h'.1,fun x hx=>by rcases List.mem_append.1 hx with hx | hx;exact h.2 x hx;exact h'.2 x hx⟩
def Rd (enc:TypeId×Value->H) (P:Program) (W:World) (spare:Nat->Bool) (held:Bool) (t:TypeId) (Q:Nat->List T->Prop):Prop:=
 ∀fuel cs d p,DataW.trod enc P W 0 spare held fuel t cs=some (d,p)->∃ts,RdL W ts cs/\Q (Rows.uptoBulk d) ts
theorem F7y {t:TypeId} {k:IntKind} (ht:P.underlying t=some (.int k)):Rd enc P W spare held t fun _ ts=>∃n,ts=[.v (.int k n)]:=by
 intro fuel cs d p h
 obtain⟨n,rfl,_,_⟩:=DataW.trod_int ht h
 exact⟨[.v (.int k n)],⟨by simp only[RepL,RepT];exact⟨_,_,rfl,rfl,rfl⟩,by simp[Value.oneCell']⟩,n,rfl⟩
theorem E7p {t:TypeId} (ht:P.underlying t=some .string):Rd enc P W spare held t fun b ts=>∃s:ByteArray,ts=[sv s]/\s.size<=b:=by
 intro fuel cs d p h
 obtain⟨s,rfl,e,_⟩:=DataW.trod_string ht h
 injection e with e1 _
 subst e1
 refine⟨[sv s],⟨by simp only[RepL,RepT];exact⟨_,_,rfl,rfl,rfl⟩,by simp[Value.oneCell']⟩,s,rfl,?_⟩
 simp only[Rows.uptoBulk]
 have:s.data.toList.length=s.size:=rfl
 omega
theorem C0y {α:Type} {e:Enc α} {t el:TypeId} {R:Nat->α->Prop} (ht:P.underlying t=some (.slice el)) (hc:P.cellsOf el=e.z) (hr:Rd enc P W spare held el fun b ts=>∃a,ts=e.enc a/\R b a) :
  Rd enc P W spare held t fun b ts=>∃x l,ts=[x]/\IsS e x l/\l.length<=b/\∀a∈l,∃b',b'<=b/\R b' a:=by
 intro fuel cs d p h
 rcases DataW.trod_slice ht h with⟨rfl,e0⟩ | ⟨a,len,cap,elems,rest,n,_,rfl,e0,_,hl,hm,hlen,hel,_,_⟩
 ·refine⟨[nilS],⟨by simp only[RepL,RepT];exact⟨_,_,rfl,rfl,rfl⟩,by simp[Value.oneCell']⟩,nilS,[],rfl,IsS.nil,by simp,fun a ha=>by cases ha⟩
 ·injection e0 with e1 _
  subst e1
  have each:∀i,i<len->∃(y:DataW H×List MemPlace) (cs:List Value) (a':α),elems[i]?=some y/\W.cells? 0 (a.add (i*e.z)) e.z=some cs/\RdL W (e.enc a') cs/\R (Rows.uptoBulk y.1) a':=by
   intro i hi
   obtain⟨y,hy⟩:∃y,elems[i]?=some y:=⟨_,List.getElem?_eq_getElem (by omega)⟩
   have:=hel i hi
   rw[hy,hc,Option.bind_eq_some_iff]at this
   obtain⟨cs,h1,h2⟩:=this
   obtain⟨ts,h3,a',rfl,h4⟩:=hr n cs y.1 y.2 h2
   exact⟨y,cs,a',hy,h1,h3,h4⟩
  have build:∀k,k<=len->∃l:List α,l.length=k/\∀(i:Nat) a',l[i]?=some a'->∃(y:DataW H×List MemPlace) (cs:List Value),elems[i]?=some y/\W.cells? 0 (a.add (i*e.z)) e.z=some cs/\RdL W (e.enc a') cs/\R (Rows.uptoBulk y.1) a':=by
   intro k
   induction k with
   | zero=>exact fun _=>⟨[],rfl,fun i a' h=>by simp at h⟩
   | succ k ih=>
    intro hk
    obtain⟨l,h1,h2⟩:=ih (by omega)
    obtain⟨y,cs,a',h3,h4,h5,h6⟩:=each k (by omega)
    refine⟨l++[a'],by simp[h1],fun i b hb=>?_⟩
    rw[List.getElem?_append]at hb
    split at hb
    ·exact h2 i b hb
    ·have:i-l.length=0:=by
      have:=(List.getElem?_eq_some_iff.1 hb).1
      simp at this
      omega
     have hi:i=k:=by omega
     rw[this]at hb
     simp at hb
     subst hb
     rw[hi]
     exact⟨y,cs,h3,h4,h5,h6⟩
  obtain⟨l,hll,hat⟩:=build len (Nat.le_refl _)
  have hbl:elems.length<=Rows.uptoBulkAll (elems.map (·.1)):=by
   have:=G3p (elems.map (·.1))
   simpa using this
  have hbulk:Rows.uptoBulk (DataW.slice (elems.map (·.1)) (rest.map (·.1)))=Rows.uptoBulkAll (elems.map (·.1))+Rows.uptoBulkAll (rest.map (·.1))+1:=by simp only[Rows.uptoBulk]
  refine⟨[slT e l],⟨?_,by simp[Value.oneCell']⟩,slT e l,l,rfl,IsS.mk l,by rw[hbulk];omega,fun a' ha=>?_⟩
  ·simp only[RepL]
   refine⟨_,_,rfl,?_,rfl⟩
   simp only[slT,RepT]
   refine⟨a,cap,by rw[hll],by omega,?_⟩
   by_cases h0:len=0
   ·left
    have:l=[]:=List.length_eq_zero_iff.1 (by omega)
    rw[this]
    simp
   ·right
    obtain⟨a0,ha0⟩:∃a0,l[0]?=some a0:=⟨_,List.getElem?_eq_getElem (by omega)⟩
    have hzp:=e.pos
    have cellAt:∀(i j:Nat) (a':α) (c:T),l[i]?=some a'->(e.enc a')[j]?=some c->∃x,W.cell? (a.add (i*e.z+j))=some x/\x.oneCell'=true/\RepT (Old W) W c x:=by
     intro i j a' c hi hj
     obtain⟨y,cs,_,h2,h3,_⟩:=hat i a' hi
     obtain⟨x,hx,h4,h5⟩:=h3.at' hj
     have hjl:j<e.z:=by rw[<-e.len a'];exact(List.getElem?_eq_some_iff.1 hj).1
     obtain⟨_,_,h6⟩:=World.cells?_some h2
     have:=h6 j hjl
     refine⟨x,?_,h4,h5⟩
     rw[<-hx,<-this]
     congr 1
     exact G3q a _ _
    obtain⟨c0,hc0⟩:∃c0,(e.enc a0)[0]?=some c0:=⟨_,List.getElem?_eq_getElem (by rw[e.len];exact hzp)⟩
    obtain⟨x0,hx0,_,_⟩:=cellAt 0 0 a0 c0 ha0 hc0
    have hs:a.spot=none:=by simpa[Addr.add]using World.cell?_spot hx0
    refine⟨hs,by simpa[Addr.add,Old]using G6p hx0,RepC.mk fun k c hk=>?_⟩
    have hkl:k<(l.flatMap e.enc).length:=(List.getElem?_eq_some_iff.1 hk).1
    rw[A2e]at hkl
    have hi:k / e.z<l.length:=Nat.div_lt_of_lt_mul (by rw[Nat.mul_comm];exact hkl)
    obtain⟨a',ha'⟩:∃a',l[k / e.z]?=some a':=⟨_,List.getElem?_eq_getElem hi⟩
    have hkz:k / e.z*e.z+k%e.z=k:=by rw[Nat.mul_comm];exact Nat.div_add_mod k e.z
    have hmod:=Nat.mod_lt k hzp
    have hd:=B3t e l (k / e.z) a' ha'
    have hj:(e.enc a')[k%e.z]?=some c:=by
     have h7:((l.flatMap e.enc).drop (k / e.z*e.z))[k%e.z]?=some c:=by rw[List.getElem?_drop,hkz];exact hk
     rw[hd,List.getElem?_append_left (by rw[e.len];exact hmod)]at h7
     exact h7
    obtain⟨x,hx,h8,h9⟩:=cellAt (k / e.z) (k%e.z) a' c ha' hj
    rw[hkz]at hx
    obtain⟨ab,ao,as'⟩:=a
    simp only at hs
    subst hs
    refine⟨x,?_,h8,h9⟩
    by_cases hk0:k=0
    ·subst hk0;simpa[Addr.add]using hx
    ·simpa[Addr.add,hk0]using hx
  ·obtain⟨i,hi,e1⟩:=List.getElem_of_mem ha
   obtain⟨y,cs,h1,_,_,h4⟩:=hat i a' (by rw[List.getElem?_eq_getElem hi,e1])
   refine⟨_,?_,h4⟩
   have:=F7x (d:=y.1) (l:=elems.map (·.1)) (List.mem_map_of_mem (List.mem_of_getElem? h1))
   rw[hbulk]
   omega
theorem G3r {α:Type} {l:List α} {n:Nat} (h:l.length=n):(l.drop 0).take n=l:=by rw[List.drop_zero,<-h,List.take_length]
theorem F2n {t:TypeId} {f0:Field} {Q0:Nat->List T->Prop} (ht:P.underlying t=some (.struct #[f0])) (ho:f0.offset=0) (hc:P.cellsOf t=P.cellsOf f0.type) (h0:Rd enc P W spare held f0.type Q0) :
  Rd enc P W spare held t fun b ts=>∃b0,b0<=b/\Q0 b0 ts:=by
 intro fuel cs d p h
 obtain⟨y0,n,e,hl,h1⟩:=trod_struct1 ht h
 injection e with e1 _
 subst e1
 rw[ho,<-hc,G3r hl]at h1
 obtain⟨ts,h2,h3⟩:=h0 n cs y0.1 y0.2 h1
 refine⟨ts,h2,_,?_,h3⟩
 simp only[Rows.uptoBulk,Rows.uptoBulkAll]
 omega
theorem C3h {t:TypeId} {f0 f1:Field} {Q0 Q1:Nat->List T->Prop} (ht:P.underlying t=some (.struct #[f0,f1])) (ho:f0.offset=0) (ho1:f1.offset=P.cellsOf f0.type) (hc:P.cellsOf t=P.cellsOf f0.type+P.cellsOf f1.type)
  (h0:Rd enc P W spare held f0.type Q0) (h1:Rd enc P W spare held f1.type Q1):Rd enc P W spare held t fun b ts=>∃b0 b1 t0 t1,b0<=b/\b1<=b/\ts=t0++t1/\Q0 b0 t0/\Q1 b1 t1:=by
 intro fuel cs d p h
 obtain⟨y0,y1,n,e,hl,g0,g1⟩:=trod_struct2 ht h
 injection e with e1 _
 subst e1
 rw[ho,List.drop_zero]at g0
 rw[ho1]at g1
 have ht1:(cs.drop (P.cellsOf f0.type)).take (P.cellsOf f1.type)=cs.drop (P.cellsOf f0.type):=List.take_of_length_le (by rw[List.length_drop];omega)
 rw[ht1]at g1
 obtain⟨t0,a0,b0⟩:=h0 n _ y0.1 y0.2 g0
 obtain⟨t1,a1,b1⟩:=h1 n _ y1.1 y1.2 g1
 refine⟨t0++t1,?_,_,_,t0,t1,?_,?_,rfl,b0,b1⟩
 ·have:=a0.append a1
  rwa[List.take_append_drop]at this
 ·simp only[Rows.uptoBulk,Rows.uptoBulkAll];omega
 ·simp only[Rows.uptoBulk,Rows.uptoBulkAll];omega
theorem F2o {t:TypeId} {f0 f1 f2:Field} {Q0 Q1 Q2:Nat->List T->Prop} (ht:P.underlying t=some (.struct #[f0,f1,f2])) (ho:f0.offset=0) (ho1:f1.offset=1) (ho2:f2.offset=2) (c0:P.cellsOf f0.type=1) (c1:P.cellsOf f1.type=1) (c2:P.cellsOf f2.type=1) (hc:P.cellsOf t=3)
  (h0:Rd enc P W spare held f0.type Q0) (h1:Rd enc P W spare held f1.type Q1) (h2:Rd enc P W spare held f2.type Q2):Rd enc P W spare held t fun b ts=>∃b0 b1 b2 t0 t1 t2,b0<=b/\b1<=b/\b2<=b/\ts=t0++(t1++t2)/\Q0 b0 t0/\Q1 b1 t1/\Q2 b2 t2:=by
 intro fuel cs d p h
 obtain⟨xs,n,_,e,hl,hlen,hf⟩:=DataW.trod_struct ht h
 injection e with e1 _
 subst e1
 rw[hc]at hl
 match xs,hlen,cs,hl with
 | [y0,y1,y2],_,[v0,v1,v2],_=>
  have g0:=hf 0 f0 rfl
  have g1:=hf 1 f1 rfl
  have g2:=hf 2 f2 rfl
  rw[ho,c0]at g0
  rw[ho1,c1]at g1
  rw[ho2,c2]at g2
  obtain⟨t0,a0,b0⟩:=h0 n [v0] y0.1 y0.2 g0
  obtain⟨t1,a1,b1⟩:=h1 n [v1] y1.1 y1.2 g1
  obtain⟨t2,a2,b2⟩:=h2 n [v2] y2.1 y2.2 g2
  refine⟨t0++(t1++t2),a0.append (a1.append a2),_,_,_,t0,t1,t2,?_,?_,?_,rfl,b0,b1,b2⟩
  ·simp only[List.map_cons,List.map_nil,Rows.uptoBulk,Rows.uptoBulkAll];omega
  ·simp only[List.map_cons,List.map_nil,Rows.uptoBulk,Rows.uptoBulkAll];omega
  ·simp only[List.map_cons,List.map_nil,Rows.uptoBulk,Rows.uptoBulkAll];omega
theorem Rd.mono {t:TypeId} {Q Q':Nat->List T->Prop} (h:Rd enc P W spare held t Q) (hq:∀b ts,Q b ts->Q' b ts):Rd enc P W spare held t Q':=fun fuel cs d p hd=>by
 obtain⟨ts,h1,h2⟩:=h fuel cs d p hd
 exact⟨ts,h1,hq _ _ h2⟩
end
open Go Go.Abs
def tH:Ty (List Typ×List Ft):=⟨fun t h=>∃u v,t = .ag [u,v]/\IsS eTyp u h.1/\IsS eFt v h.2,fun t a b h h'=>by
 obtain⟨u,v,e,h1,h2⟩:=h
 obtain⟨u',v',e',h1',h2'⟩:=h'
 rw[e]at e'
 injection e' with e'
 injection e' with e1 e2
 injection e2 with e2 _
 subst e1;subst e2
 exact Prod.ext ((tSl eTyp).uniq _ _ _ h1 h1') ((tSl eFt).uniq _ _ _ h2 h2')⟩
def TyOK (ty:List Typ):Prop:=∀x∈ty,x.code.length<=1000
theorem E4e (x:Nd) (f:Int):∃n,n<=x.arcs.length/\(∀(j:Nat) a,j<n->x.arcs[j]?=some a->¬a.feat=f)/\((n=x.arcs.length/\tgt x f = -1/\x.arcs.find? (fun a=>decide (a.feat=f))=none)\/∃a,x.arcs[n]?=some a/\a.feat=f/\tgt x f=a.to/\x.arcs.find? (fun a=>decide (a.feat=f))=some a):=by
 have key:∀l:List Arc,∃n,n<=l.length/\(∀(j:Nat) a,j<n->l[j]?=some a->¬a.feat=f)/\((n=l.length/\l.find? (fun a=>decide (a.feat=f))=none)\/∃a,l[n]?=some a/\a.feat=f/\l.find? (fun a=>decide (a.feat=f))=some a):=by
  intro l
  induction l with
  | nil=>exact⟨0,by simp,fun j a h=>by omega,.inl ⟨rfl,rfl⟩⟩
  | cons c l ih=>
   by_cases hc:c.feat=f
   ·exact⟨0,by simp,fun j a h=>by omega,.inr ⟨c,rfl,hc,by simp[hc]⟩⟩
   ·obtain⟨n,h1,h2,h3⟩:=ih
    refine⟨n+1,by simpa using h1,fun j a hj ha=>?_,?_⟩
    ·cases j with
     | zero=>simp at ha;rw[<-ha];exact hc
     | succ j=>exact h2 j a (by omega) (by simpa using ha)
    ·rcases h3 with⟨h4,h5⟩ | ⟨a,h4,h5,h6⟩
     ·exact .inl ⟨by simp[h4],by simp[hc,h5]⟩
     ·exact .inr ⟨a,by simpa using h4,h5,by simp[hc,h6]⟩
 obtain⟨n,h1,h2,h3⟩:=key x.arcs
 refine⟨n,h1,h2,?_⟩
 rcases h3 with⟨h4,h5⟩ | ⟨a,h4,h5,h6⟩
 ·exact .inl ⟨h4,by simp only[tgt,h5],h5⟩
 ·exact .inr ⟨a,h4,h5,by simp only[tgt,h6],h6⟩
def C5f (x:Nd) (f:Int):T:=match x.arcs.find? (fun a=>decide (a.feat=f))with
 | some a=>.tu [iv a.to,bv true]
 | none=>.tu [iv 0,bv false]
noncomputable def G8f:List T->Option T:=g3 tFS tInt tInt fun l n f=>match l[n.toNat]? with
 | some x=>if 0<=n/\x.arcs.length<=1000000 then some (C5f x f)else none
 | none=>none
theorem G3s {t:T} {l:List Nd} (ht:IsS eNd t l) {n:Nat} {x:Nd} (hn:l[n]?=some x) (hx:x.arcs.length<=1000000) (f:Int):G8f [.ag [t],iv (n:Int),iv f]=some (C5f x f):=by
 refine(F0o (τ:=tFS) (σ:=tInt) (ρ:=tInt) ⟨t,rfl,ht⟩ rfl rfl).trans ?_
 simp only[Int.toNat_natCast,hn]
 rw[if_pos ⟨by omega,hx⟩]
theorem F7z {nt nf:Nat} {b:List Nd} (hb:A1n nt nf b) {x:Nd} (hx:x∈b) (f:Int):(tgt x f<0/\C5f x f = .tu [iv 0,bv false])\/(0<=tgt x f/\C5f x f = .tu [iv (tgt x f),bv true]):=by
 unfold tgt C5f
 cases h:x.arcs.find? (fun a=>decide (a.feat=f))with
 | none=>exact .inl ⟨by simp,rfl⟩
 | some a=>exact .inr ⟨(hb.form.to x hx a (List.mem_of_find?_eq_some h)).1,rfl⟩
noncomputable def D5v:List T->Option T:=g2 (tSl eCo) tInt fun l i=>open Classical in if l.length<=256/\(∀x∈l,x.code.length<=1000)/\0<=i/\i<(l.length:Int)then some (A0k eInt (A8l l i.toNat l.length))else none
theorem E4f:GOK Try.prog G 77 D5v:=A6w fun a b x y r ha hb hr=>by
 obtain rfl:b=iv y:=hb
 split at hr
 ·rename_i h
  injection hr with hr
  subst hr
  have e:y=(y.toNat:Int):=by omega
  have:=D9z ha h.1 h.2.1 (i:=y.toNat) (by omega)
  rw[<-e]at this
  exact this
 ·cases hr
theorem E4g {t:T} {l:List Co} (ht:IsS eCo t l) (hl:l.length<=256) (hs:∀x∈l,x.code.length<=1000) {i:Nat} (hi:i<l.length):D5v [t,iv (i:Int)]=some (A0k eInt (A8l l i l.length)):=
 (A5y (τ:=tSl eCo) (σ:=tInt) ht rfl).trans (if_pos ⟨hl,hs,by omega,by omega⟩)
noncomputable def D5w (d:List TD) (i:Nat) (c:Co):Typ:=⟨c.name,c.code,A0k eInt (A8l (A0q d) i (A0q d).length),apT d i⟩
noncomputable def tyUp (d:List TD):Nat->List Typ
 | 0=>[]
 | i+1=>match (A0q d)[i]? with
  | some c=>tyUp d i++[D5w d i c]
  | none=>tyUp d i
noncomputable def A8m (d:List TD):List Typ:=tyUp d (A0q d).length
theorem C0z (d:List TD):∀{i},i<=(A0q d).length->(tyUp d i).length=i
 | 0,_=>rfl
 | i+1,h=>by
  have hx:(A0q d)[i]?=some (A0q d)[i]:=List.getElem?_eq_getElem (by omega)
  simp only[tyUp,hx,List.length_append,C0z d (Nat.le_of_succ_le h),List.length_cons,List.length_nil]
theorem F8a (d:List TD):(A8m d).length=(A0q d).length:=C0z d (Nat.le_refl _)
theorem D5x {d:List TD} {x:Typ}:∀{i},x∈tyUp d i->∃c∈A0q d,x.code=c.code
 | 0,h=>by cases h
 | i+1,h=>by
  simp only[tyUp]at h
  split at h
  ·rename_i c hc
   rcases List.mem_append.1 h with h | h
   ·exact D5x h
   ·rw[List.mem_singleton]at h
    subst h
    exact⟨c,List.mem_of_getElem? hc,rfl⟩
  ·exact D5x h
theorem E7q (d:List TD):∀{n i:Nat},i<n->(A7a d n)[i]?=some (apT d i)
 | 0,i,h=>by omega
 | n+1,i,h=>by
  unfold A7a
  rw[List.getElem?_append,B4u]
  by_cases e:i<n
  ·rw[if_pos e];exact E7q d e
  ·have:i=n:=by omega
   subst this
   rw[if_neg e]
   simp
noncomputable def B6p (d:List TD):T:=if A1i d≠0 then .tu [.ag [nilS,nilS],iv (A1i d)]else .tu [.ag [A0k eTyp (A8m d),A0k eFt (ftL d)],iv 0]
noncomputable def tb30:Tbl:=[(75,gD C5d),(76,gD A4c),(77,D5v),(78,gD D0y)]
theorem C9f:Ctx Try.prog G (orc tb30):=(A1t.cons (B4m E3x) (.cons (B4m B6a) (.cons E4f (.cons (B4m D5o) .nil)))).ctx A1u
theorem G8g {α:Type} (e:Enc α) (ty b:Nat) (l:List α) (f y:T):∃q,agOf [rowP e b l,.t f]=q/\A0w q=some [rowP e b l,.t f]/\∀H,A0j e ty H b l->toT H (oneOf [q,.t y])=some (.tu [.ag [A0k e l,f],y],B1y b l):=by
 refine⟨_,rfl,?_,fun H h=>?_⟩
 ·cases l<;>rfl
 ·have ht:=h.toT
  cases l with
  | nil=>rfl
  | cons x r=>
   show toT H (.tu [.ag [rowP e b (x::r),.t f],.t y])=_
   simp only[Abs.toT,Abs.toTs,ht]
   simp[B1y]
noncomputable def R45 (ts:List Typ):Heap:=[(0,.cells 29 [.t nilS,.t nilS]),(1,.cells 29 [rowP eTyp 2 ts,.t nilS])]
noncomputable def S45 (t u v:T) (i:Nat) (ts:List Typ):A0b:=⟨[(9,.t (iv (i:Int))),(8,.ptr 1 0),(6,.t u),(4,.t v),(2,.ptr 0 0),(0,.t t)],R45 ts++rowH eTyp 105 2 ts,3,63⟩
theorem E0i {t:T} {d:List TD} (ht:IsS eTD t d) (hd:DOK d):A0y Try.prog G 45 [t] (· = B6p d):=by
 have gV:gD C5d [t]=some (C5d d):=B3e ht hd
 have gC:gD A4c [t]=some (A4c d):=B3e ht hd
 have gF:gD D0y [t]=some (D0y d):=B3e ht hd
 refine C0j.call rfl ?_
 unfold B2e
 refine A0a C9f ?_
 simp -implicitDefEqProofs
 by_cases hE:A1i d=0
 ·have hF:=A2q hd hE
  have hll:=hF.cod.len
  have hs':∀x∈A0q d,x.code.length<=1000:=fun x hx=>by have:=hF.cod.size x hx;omega
  obtain⟨u,hu⟩:∃u,u=A0k eCo (A0q d):=⟨_,rfl⟩
  have hU:IsS eCo u (A0q d):=hu▸IsS.tree eCo _
  rw[hF.codes,<-hu]at gC
  obtain⟨v,hv⟩:∃v,v=A0k eTr (A7a d (A0q d).length):=⟨_,rfl⟩
  have hV:IsS eTr v (A7a d (A0q d).length):=hv▸IsS.tree eTr _
  have hvT:C5d d = .tu [v,iv 0]:=by unfold C5d;rw[if_neg (by rw[hE];simp),hv]
  rw[hvT]at gV
  obtain⟨f,hf⟩:∃f,f=A0k eFt (ftL d):=⟨_,rfl⟩
  have hfT:D0y d = .tu [f,iv 0]:=by unfold D0y;rw[if_neg (by rw[hE];simp),hf]
  rw[hfT]at gF
  have hz:eTyp.z=4:=rfl
  refine A0a C9f ?_
  simp -implicitDefEqProofs [tb30,gV,extractV]
  refine A0a C9f ?_
  simp -implicitDefEqProofs
  refine A0a C9f ?_
  simp -implicitDefEqProofs [tb30,gC,extractV]
  refine A0a C9f ?_
  simp -implicitDefEqProofs
  refine A0s (fun _:Unit=>S45 t u v (A0q d).length (A8m d)) (fun _=>True) (fun _=>rfl) ?_ ?_
  ·refine A0a C9f ?_
   simp -implicitDefEqProofs
   refine A0h ?_
   refine A1b (fun i=>S45 t u v i (tyUp d i)) (A0q d).length (fun _=>rfl) ?_ rfl ?_ ?_
   ·refine sub_rowR (k:=2) (A0j.nil _ _ _ _) (by omega) (by omega) (fun q hq=>?_) (by simp -implicitDefEqProofs [ren,under])
    simp only[R45,tyUp,List.mem_cons,List.not_mem_nil,or_false]at hq
    rcases hq with rfl | rfl<;>simp[rowP,A2d,renL,ren,A0z,A1z,under]
   ·intro i hi
    obtain⟨c,hc⟩:∃c,(A0q d)[i]?=some c:=⟨_,List.getElem?_eq_getElem hi⟩
    have ic:=E3o hU hc
    have hva:=E7q d hi
    have iv':A1q 1 (.t v) (.t (iv (i:Int)))=some (.t (.pt (apT d i::rest eTr (A7a d (A0q d).length) i))):=hV.iaddr hva .i64
    have gs:=E4g hU hll hs' hi
    have e1:IntKind.i64.wrap ((i:Int)+1)=((i+1:Nat):Int):=A0l (by omega) (by omega)
    have htl:=C0z d (Nat.le_of_lt hi)
    have hnext:tyUp d (i+1)=tyUp d i++[D5w d i c]:=by simp only[tyUp,hc]
    obtain⟨ts,hts⟩:∃ts,ts=tyUp d i:=⟨_,rfl⟩
    rw[<-hts]at htl hnext
    obtain⟨su,hsu⟩:∃su,su=A0k eInt (A8l (A0q d) i (A0q d).length):=⟨_,rfl⟩
    obtain⟨va,hva'⟩:∃va,va=apT d i:=⟨_,rfl⟩
    rw[<-hsu]at gs
    rw[<-hva']at iv'
    have hcs:A0w (.t su)=some [.t su]:=by rw[hsu];cases A8l (A0q d) i (A0q d).length<;>rfl
    have hcv:A0w (.t va)=some [.t va]:=by rw[hva'];unfold apT;cases apUp d i (feats d).length<;>rfl
    have hcb:A0w (.t (encB c.code))=some [.t (encB c.code)]:=rfl
    have hcn:A0w (.t (sv c.name))=some [.t (sv c.name)]:=rfl
    have fl:A5q (fun k=>[(0,1),(1,1),(2,1),(3,1)][k]?) [.t (.v (.string ⟨#[]⟩)),.t nilS,.t nilS,.t nilS] [(0,.t (sv c.name)),(1,.t (encB c.code)),(2,.t su),(3,.t va)]=some [.t (sv c.name),.t (encB c.code),.t su,.t va]:=by
     simp[A5q,hcs,hcv,hcb,hcn,A1y]
    have ag:agOf [.t (sv c.name),.t (encB c.code),.t su,.t va] = .t (.ag [sv c.name,encB c.code,su,va]):=rfl
    have hen:eTyp.enc (D5w d i c)=[sv c.name,encB c.code,su,va]:=by rw[hsu,hva'];rfl
    have ts1:A6u 105 4 [.string ⟨#[]⟩,.slice none 0 0,.slice none 0 0,.slice none 0 0] 1 [(0,.t (.ag [sv c.name,encB c.code,su,va]))]=some (.t (A0k eTyp [D5w d i c])):=by
     have:A0k eTyp [D5w d i c] = .sl 1 [sv c.name,encB c.code,su,va]:=by
      show slT eTyp [D5w d i c]=_
      unfold slT
      simp[hen]
     rw[this]
     rfl
    obtain⟨H0,hH0⟩:∃H0,H0=R45 ts++rowH eTyp 105 2 ts:=⟨_,rfl⟩
    have l0:Abs.look H0 0=some (.cells 29 [.t nilS,.t nilS]):=by rw[hH0];rfl
    have l1:Abs.look H0 1=some (.cells 29 [rowP eTyp 2 ts,.t nilS]):=by rw[hH0];rfl
    have r2:A0j eTyp 105 H0 2 ts:=by rw[hH0];exact A0j.right (A0j.head' _ _ _ _) (by simp[R45])
    have ld1:A0f false 1 H0 (.ptr 1 0)=some (rowP eTyp 2 ts):=by simp[A0f,l1]
    have lp:∀c cs,A0f false 1 H0 (.t (.pt (c::cs)))=some (.t c):=fun _ _=>rfl
    have hsrc:srcP H0 eTyp.z (.t (A0k eTyp [D5w d i c]))=_:=A3f (IsS.tree eTyp [D5w d i c])
    obtain⟨b3,H3,n3,ap3,r3,ne3,le3,lk3,ge3⟩:=A1k (e:=eTyp) (ty:=105) (by':=88) (nx:=3) r2 hsrc (by simp;omega) (by simp;omega)
    rw[hz,<-hnext]at ap3
    rw[<-hnext]at r3
    have m0:Abs.look H3 0=some (.cells 29 [.t nilS,.t nilS]):=by rw[lk3 0 (by omega) (by omega)];exact l0
    have m1:Abs.look H3 1=some (.cells 29 [rowP eTyp 2 ts,.t nilS]):=by rw[lk3 1 (by omega) (by omega)];exact l1
    have sto:A1e 1 H3 (.ptr 1 0) (rowP eTyp b3 (tyUp d (i+1)))=some (upd H3 1 (.cells 29 [rowP eTyp b3 (tyUp d (i+1)),.t nilS])):=by
     simp only[A1e,B0z,m1]
     rfl
    refine A0d C9f ?_
    rw[<-hts]
    simp -implicitDefEqProofs [S45,<-hH0,hi,hU.len,ld1,ic,iv',lp,tb30,gs,fl,ag,ts1,ap3,sto,e1]
    refine sub_rowR (b:=2) (k:=b3) (nx':=3) (r3.imp id fun h=>by rw[A0u,if_neg (by omega)];exact h) (by omega) (by omega) (fun q hq=>?_) (by simp -implicitDefEqProofs [ren,under])
    simp only[R45,List.mem_cons,List.not_mem_nil,or_false]at hq
    rcases hq with rfl | rfl
    ·exact⟨by rw[A0u,if_neg (by omega),m0];rfl,by omega,by omega,by show 0≠b3;omega,rfl⟩
    ·exact⟨by rw[A0u,if_pos rfl,m1];simp[A2d,renL,A0g,ren],by omega,by omega,by show 1≠b3;omega,by simp[A0z,A1z,A0e,under]⟩
   ·refine A0d C9f ?_
    simp -implicitDefEqProofs [S45,hU.len]
    exact Next.mk () trivial (A7w (by simp -implicitDefEqProofs))
  ·rintro _ -
   have hres:B6p d = .tu [.ag [A0k eTyp (A8m d),f],iv 0]:=by unfold B6p;rw[if_neg (by rw[hE];simp),hf]
   obtain⟨ts,hts⟩:∃ts,ts=A8m d:=⟨_,rfl⟩
   rw[<-hts]at hres ⊢
   obtain⟨q,hq1,hq2,hq3⟩:=G8g eTyp 105 2 ts f (iv 0)
   obtain⟨H0,hH0⟩:∃H0,H0=R45 ts++rowH eTyp 105 2 ts:=⟨_,rfl⟩
   have l0:Abs.look H0 0=some (.cells 29 [.t nilS,.t nilS]):=by rw[hH0];rfl
   have l1:Abs.look H0 1=some (.cells 29 [rowP eTyp 2 ts,.t nilS]):=by rw[hH0];rfl
   have r2:A0j eTyp 105 H0 2 ts:=by rw[hH0];exact A0j.right (A0j.head' _ _ _ _) (by simp[R45])
   have hcf:A0w (.t f)=some [.t f]:=by rw[hf];cases ftL d<;>rfl
   have st1:A1e 1 H0 (.ptr 1 1) (.t f)=some (upd H0 1 (.cells 29 [rowP eTyp 2 ts,.t f])):=by
    simp only[A1e,hcf,l1]
    rfl
   obtain⟨H1,hH1⟩:∃H1,H1=upd H0 1 (.cells 29 [rowP eTyp 2 ts,.t f]):=⟨_,rfl⟩
   rw[<-hH1]at st1
   have k0:Abs.look H1 0=some (.cells 29 [.t nilS,.t nilS]):=by rw[hH1,A0u,if_neg (by omega)];exact l0
   have k1:Abs.look H1 1=some (.cells 29 [rowP eTyp 2 ts,.t f]):=by rw[hH1,A0u,if_pos rfl,l1];rfl
   have ld:A0f true 2 H1 (.ptr 1 0)=some q:=by simp[A0f,k1,hq1]
   have st2:A1e 2 H1 (.ptr 0 0) q=some (upd H1 0 (.cells 29 [rowP eTyp 2 ts,.t f])):=by
    simp only[A1e,hq2,k0]
    rfl
   obtain⟨H2,hH2⟩:∃H2,H2=upd H1 0 (.cells 29 [rowP eTyp 2 ts,.t f]):=⟨_,rfl⟩
   rw[<-hH2]at st2
   have j0:Abs.look H2 0=some (.cells 29 [rowP eTyp 2 ts,.t f]):=by rw[hH2,A0u,if_pos rfl,k0];rfl
   have ld':A0f true 2 H2 (.ptr 0 0)=some q:=by simp[A0f,j0,hq1]
   have tt:=hq3 H2 (r2.imp id fun h=>by rw[hH2,A0u,if_neg (by omega),hH1,A0u,if_neg (by omega)];exact h)
   refine A0d C9f ?_
   simp -implicitDefEqProofs [S45,<-hH0,tb30,gF,extractV,st1,ld,st2,ld',-oneOf,tt,hres]
 ·have hE':=A7h hE
  have hvT:C5d d = .tu [nilS,iv (A1i d)]:=by unfold C5d;rw[if_pos hE]
  rw[hvT]at gV
  have hres:B6p d = .tu [.ag [nilS,nilS],iv (A1i d)]:=by unfold B6p;rw[if_pos hE]
  have fl:A5q (fun k=>[(0,1),(1,1)][k]?) [.t nilS,.t nilS] []=some [.t nilS,.t nilS]:=rfl
  have ag:agOf [.t nilS,.t nilS] = .t (.ag [nilS,nilS]):=rfl
  have cg:A0w (.t (.ag [nilS,nilS]))=some [.t nilS,.t nilS]:=rfl
  refine A0a C9f ?_
  simp -implicitDefEqProofs [tb30,gV,extractV]
  refine A0a C9f ?_
  simp -implicitDefEqProofs [A0f,A1e,A1y,fl,ag,cg,hE,hE',hres]
end Go.Proofs.Ytbiadmfmjnoecaa
namespace Go.Abs
set_option linter.unusedSimpArgs false
set_option linter.unusedVariables false
open Go
def F2p (f:A0b->Option (Exit×A0b)):Nat->A0b->Option (Exit×A0b)
 | 0,_=>none
 | k+1,s=>match f s with
  | some (.normal,s')=>F2p f k s'
  | r=>r
def D5y:List (Nat×PV)->List Nat->List (Nat×PV)
 | [],_=>[]
 | (k,p)::r,seen=>if seen.contains k then D5y r seen else(k,p)::D5y r (k::seen)
theorem C9g:∀(l:List (Nat×PV)) (seen:List Nat) q,q∈D5y l seen->look l q.1=some q.2/\q.1∉seen
 | [],seen,q,h=>by simp[D5y]at h
 | (k,p)::r,seen,q,h=>by
  simp only[D5y]at h
  split at h
  ·rename_i hk
   obtain⟨h1,h2⟩:=C9g r seen q h
   have:k≠q.1:=fun e=>h2 (by rw[<-e];simpa using hk)
   simp[this,h1,h2]
  ·rename_i hk
   rcases List.mem_cons.1 h with rfl | h
   ·simpa using hk
   ·obtain⟨h1,h2⟩:=C9g r (k::seen) q h
    simp only[List.mem_cons,not_or]at h2
    have:k≠q.1:=fun e=>h2.1 e.symm
    simp[this,h1,h2.2]
def G6c:PV->List Nat
 | .row b _ _ _=>[b]
 | _=>[]
def G8h (H:Heap):List Nat:=H.flatMap fun q=>match q.2 with
 | .cells _ cs=>cs.flatMap G6c
 | _=>[]
def H1c:MK->Bool
 | .call _=>true
 | _=>false
def H1d:List Nat:=[104]
def given (m:Mini) (s:A0b):List Nat:=match m.k with
 | .call f=>if H1d.contains f then m.xs.flatMap (fun x=>G6c (x.ev s.env))else []
 | _=>[]
def preZ (m:Mini) (s:A0b):A0b:=if H1c m.k then(match G8h s.H++given m s with | []=>s | F=>s.frz F)else s
def runZ (Φ:A1c):List Mini->A0b->Option A0b
 | [],s=>some s
 | m::r,s=>match C4v Φ (preZ m s) m with
  | some s'=>runZ Φ r s'
  | none=>none
def eqV:Value->Value->Bool
 | .int k a,.int k' b=>decide (k=k')&&(a==b)
 | .bool a,.bool b=>a==b
 | .string a,.string b=>a.data.toList==b.data.toList
 | .slice none 0 0,.slice none 0 0=>true
 | _,_=>false
theorem H1e {a b:Value} (h:eqV a b=true):a=b:=by
 unfold eqV at h
 split at h
 ·simp only[Bool.and_eq_true,decide_eq_true_eq,beq_iff_eq]at h
  rw[h.1,h.2]
 ·simp at h;rw[h]
 ·rename_i a b
  simp only[beq_iff_eq]at h
  have:a=b:=by
   cases a;cases b
   congr
   exact Array.toList_inj.1 h
  rw[this]
 ·rfl
 ·cases h
mutual
def eqT:T->T->Bool
 | .v a,.v b=>eqV a b
 | .sl n l,.sl m r=>(n==m)&&eqTs l r
 | .ag l,.ag r=>eqTs l r
 | .tu l,.tu r=>eqTs l r
 | _,_=>false
def eqTs:List T->List T->Bool
 | [],[]=>true
 | a::l,b::r=>eqT a b&&eqTs l r
 | _,_=>false
end
mutual
theorem G6d:∀(a b:T),eqT a b=true->a=b
 | .v a,.v b,h=>by simp only[eqT]at h;rw[H1e h]
 | .sl n l,.sl m r,h=>by
  simp only[eqT,Bool.and_eq_true,beq_iff_eq]at h
  rw[h.1,C9h l r h.2]
 | .ag l,.ag r,h=>by simp only[eqT]at h;rw[C9h l r h]
 | .tu l,.tu r,h=>by simp only[eqT]at h;rw[C9h l r h]
 | .v _,.sl _ _,h=>by simp[eqT]at h
 | .v _,.ag _,h=>by simp[eqT]at h
 | .v _,.tu _,h=>by simp[eqT]at h
 | .v _,.pt _,h=>by simp[eqT]at h
 | .sl _ _,.v _,h=>by simp[eqT]at h
 | .sl _ _,.ag _,h=>by simp[eqT]at h
 | .sl _ _,.tu _,h=>by simp[eqT]at h
 | .sl _ _,.pt _,h=>by simp[eqT]at h
 | .ag _,.v _,h=>by simp[eqT]at h
 | .ag _,.sl _ _,h=>by simp[eqT]at h
 | .ag _,.tu _,h=>by simp[eqT]at h
 | .ag _,.pt _,h=>by simp[eqT]at h
 | .tu _,.v _,h=>by simp[eqT]at h
 | .tu _,.sl _ _,h=>by simp[eqT]at h
 | .tu _,.ag _,h=>by simp[eqT]at h
 | .tu _,.pt _,h=>by simp[eqT]at h
 | .pt _,_,h=>by simp[eqT]at h
theorem C9h:∀(a b:List T),eqTs a b=true->a=b
 | [],[],_=>rfl
 | a::l,b::r,h=>by
  simp only[eqTs,Bool.and_eq_true]at h
  rw[G6d a b h.1,C9h l r h.2]
 | [],_::_,h=>by simp[eqTs]at h
 | _::_,[],h=>by simp[eqTs]at h
end
def eqP:PV->PV->Bool
 | .t x,.t y=>eqT x y
 | .row b o n z,.row b' o' n' z'=>b==b'&&o==o'&&n==n'&&z==z'
 | .ptr b o,.ptr b' o'=>b==b'&&o==o'
 | _,_=>false
theorem H1f (x y:PV) (h:eqP x y=true):x=y:=by
 unfold eqP at h
 split at h
 ·rw[G6d _ _ h]
 ·simp at h;obtain⟨⟨⟨rfl,rfl⟩,rfl⟩,rfl⟩:=h;rfl
 ·simp at h;obtain⟨rfl,rfl⟩:=h;rfl
 ·cases h
def agnB (Φ:A1c) (pd:Pend) (H:Heap) (nx:Nat) (ks:List Nat):Bool:=ks.all fun i=>match look pd i with
 | some x=>(match A2n Φ H nx x.1 x.2.1 with
  | some v=>eqP v x.2.2
  | none=>false)
 | none=>false
theorem F2q {Φ:A1c} {pd:Pend} {H:Heap} {nx:Nat} {ks:List Nat} (h:agnB Φ pd H nx ks=true):agnP Φ pd H nx ks:=by
 intro i hi
 have:=List.all_eq_true.1 h i hi
 split at this
 ·rename_i x hx
  split at this
  ·rename_i v hv;exact⟨x,hx,by rw[hv,H1f _ _ this]⟩
  ·cases this
 ·cases this
def runB (Φ:A1c) (k:Nat):Nat->Nat->Pend->List GI->A0b->Option A0b
 | _,_,_,[],s=>some s
 | n,b,pd,.o m kp ag::r,s=>match valD Φ s m with
  | some (v,H',nx')=>if agnB Φ pd H' nx' ag then runB Φ k (n+1) b (D4f kp n m s v pd) r (({ s with H:=H',nx:=nx' }:A0b).put m.dst v)else none
  | none=>none
 | n,b,pd,.g j m::r,s=>match A0m Φ s.H ((if j=0 then s.nx else b)+k+j) m.k (m.xs.map (·.ev s.env))with
  | some (v,H',_)=>runB Φ k (n+1) (if j=0 then s.nx else b) pd r (({ s with H:=H',nx:=(if j=0 then s.nx else b)+2*k }:A0b).put m.dst v)
  | none=>none
theorem B6c {Φ:A1c} {k:Nat}:∀(l:List GI) {n b:Nat} {pd:Pend} {s s':A0b},runB Φ k n b pd l s=some s'->runG Φ k n b pd l s=some s'
 | [],n,b,pd,s,s',h=>h
 | .o m kp ag::r,n,b,pd,s,s',h=>by
  simp only[runB]at h
  simp only[runG]
  split at h
  ·rename_i hv
   split at h
   ·rename_i ha
    simp only[hv,if_pos (F2q ha)]
    exact B6c r h
   ·cases h
  ·cases h
 | .g j m::r,n,b,pd,s,s',h=>by
  simp only[runB]at h
  simp only[runG]
  split at h
  ·rename_i hv
   simp only[hv]
   exact B6c r h
  ·cases h
def runF (Φ:A1c) (k:Nat):A0n->A0b->Option (Exit×A0b)
 | .skip,s=>some (.normal,s)
 | .ops l,s=>match runZ Φ l s with
  | some s1=>some (.normal,s1)
  | none=>none
 | .draw l,s=>match runD Φ l s with
  | some s1=>some (.normal,s1)
  | none=>none
 | .drawG k l,s=>match runB Φ k 0 0 [] l s with
  | some s1=>some (.normal,s1)
  | none=>none
 | .seq a b,s=>match runF Φ k a s with
  | some (.normal,s1)=>runF Φ k b s1
  | r=>r
 | .cond c a b,s=>match c.ev s.env with
  | .t (.v (.bool t))=>bif t then runF Φ k a s else runF Φ k b s
  | _=>none
 | .block id b,s=>match runF Φ k b s with
  | some (.exit i,s1)=>if i=id then some (.normal,s1)else some (.exit i,s1)
  | r=>r
 | .loop b,s=>F2p (fun s=>match runF Φ k b { s with env:=D5y s.env [] }with
  | r=>r) k s
 | .exit id,s=>some (.exit id,s)
 | .ret,s=>some (.ret,s)
 | .scope b,s=>match runF Φ k b s with
  | some (.goto _,_)=>none
  | r=>r
section
variable {P : Program} {G : A1f} {B N : Nat} {Φ : A1c}
theorem G6e (m:Mini) (s:A0b):(preZ m s).n=s.n:=by
 unfold preZ
 split
 ·split<;>rfl
 ·rfl
theorem G3t (m:Mini) (s:A0b):Sub P G B s (preZ m s):=by
 unfold preZ
 split
 ·split
  ·exact Sub.refl s
  ·exact B0e _
 ·exact Sub.refl s
theorem G6f:∀{l:List Mini} {s s':A0b},runZ Φ l s=some s'->s'.n=s.n
 | [],s,s',h=>by simp only[runZ,Option.some.injEq]at h;rw[h]
 | m::r,s,s',h=>by
  simp only[runZ]at h
  split at h
  ·rename_i s1 h1;rw[G6f h,F5d h1,G6e]
  ·cases h
theorem E4h {ops:Array Oper} {Q Q':Exit->Act->World->Prop} (hq:∀e a w,Q e a w->Q' e a w):∀(l:List Oper) (a:Act) (w:World),wpList P ops Q l a w->wpList P ops Q' l a w:=by
 intro l
 induction l with
 | nil=>intro a w2 h;exact hq _ _ _ h
 | cons o r ih=>
  intro a w2 h
  unfold wpList at h ⊢
  split
  ·rename_i hw
   rw[if_pos hw]at h
   rcases h with h | ⟨h1,a0,w0,h2⟩
   ·exact .inl (A2t ih hq h)
   ·exact .inr ⟨h1,a0,w0,hq _ _ _ h2⟩
  ·rename_i hw
   rw[if_neg hw]at h
   exact ih _ _ h
theorem AOps.sub {ops:Array Oper} {l:List Oper} {Q:A0b->Prop} {s s':A0b} (h:Sub P G B s s') (hc:AOps P G B ops l Q s'):AOps P G B ops l Q s:=fun L a w hi=>by
 obtain⟨L',hi',hx,hb⟩:=h L a w hi
 exact E4h (fun _ _ _ hp=>Post.later hx hb hp) _ _ _ (hc L' a w hi')
theorem C3i (hΦ:Φ.Sound P G) {d:Bool} {ops:Array Oper} {Q:A0b->Prop}:∀(os:List Oper) {l:List Mini} {s s':A0b},B6i P G N d ops os l->s.n=N->runZ Φ l s=some s'->Q s'->AOps P G B ops os Q s
 | [],l,s,s',ha,hn,h,hq=>by
  simp only[B6i]at ha
  subst ha
  simp only[runZ,Option.some.injEq]at h
  subst h
  exact E5o hq
 | o::rest,l,s,s',ha,hn,h,hq=>by
  simp only[B6i]at ha
  obtain⟨m,l',rfl,hm,hr⟩:=ha
  obtain⟨hc,hdst,hd,hw⟩:=A5t hm
  simp only[runZ]at h
  refine AOps.sub (G3t m s) ?_
  have hn:(preZ m s).n=N:=(G6e m s).trans hn
  generalize preZ m s=s at h hn
  split at h
  ·rename_i s1 h1
   unfold C4v at h1
   rw[<-hw s]at h1
   have hd':∀k,o.dst=some k->k<s.n:=fun k hk=>by rw[hn];exact hd k hk
   rw[hdst]at h1
   split at h1
   ·rename_i hww
    split at h1
    ·rename_i r H' nx' hv
     injection h1 with h1
     subst h1
     exact D7d hww hd' (B3l hΦ hc hv) (C3i hΦ rest hr (by rw[C1q];exact hn) h hq)
    ·cases h1
   ·rename_i hww
    injection h1 with h1
    subst h1
    exact D7e hww hd' (C3i hΦ rest hr (by rw[C1q];exact hn) h hq)
   ·cases h1
  ·cases h
theorem B1h (k:Nat):∀(M:A0n) {s:A0b} {e:Exit} {s':A0b},runF Φ k M s=some (e,s')->s'.n=s.n
 | .skip,s,e,s',h=>by simp only[runF,Option.some.injEq,Prod.mk.injEq]at h;rw[h.2]
 | .ops l,s,e,s',h=>by
  simp only[runF]at h
  split at h
  ·rename_i s1 h1;simp only[Option.some.injEq,Prod.mk.injEq]at h;rw[<-h.2,G6f h1]
  ·cases h
 | .draw l,s,e,s',h=>by
  simp only[runF]at h
  split at h
  ·rename_i s1 h1;simp only[Option.some.injEq,Prod.mk.injEq]at h;rw[<-h.2,F5e h1]
  ·cases h
 | .drawG k l,s,e,s',h=>by
  simp only[runF]at h
  split at h
  ·rename_i s1 h1;simp only[Option.some.injEq,Prod.mk.injEq]at h;rw[<-h.2,E6f l (B6c l h1)]
  ·cases h
 | .seq a b,s,e,s',h=>by
  simp only[runF]at h
  split at h
  ·rename_i s1 h1;rw[B1h k b h,B1h k a h1]
  ·exact B1h k a h
 | .cond c a b,s,e,s',h=>by
  simp only[runF]at h
  split at h
  ·rename_i t ht
   cases t
   ·exact B1h k b h
   ·exact B1h k a h
  ·cases h
 | .block id b,s,e,s',h=>by
  simp only[runF]at h
  split at h
  ·rename_i i s1 h1
   split at h
   ·simp only[Option.some.injEq,Prod.mk.injEq]at h;rw[<-h.2,B1h k b h1]
   ·simp only[Option.some.injEq,Prod.mk.injEq]at h;rw[<-h.2,B1h k b h1]
  ·exact B1h k b h
 | .loop b,s,e,s',h=>by
  simp only[runF]at h
  have:∀(m:Nat) (s:A0b),F2p (fun s=>runF Φ k b { s with env:=D5y s.env [] }) m s=some (e,s')->s'.n=s.n:=by
   intro m
   induction m with
   | zero=>intro s h;cases h
   | succ m ih=>
    intro s h
    simp only[F2p]at h
    split at h
    ·rename_i s1 h1;have:=B1h k b h1;rw[ih s1 h,this]
    ·have:=B1h k b h;exact this
  exact this k s h
 | .exit id,s,e,s',h=>by simp only[runF,Option.some.injEq,Prod.mk.injEq]at h;rw[h.2]
 | .ret,s,e,s',h=>by simp only[runF,Option.some.injEq,Prod.mk.injEq]at h;rw[h.2]
 | .scope b,s,e,s',h=>by
  simp only[runF]at h
  split at h
  ·cases h
  ·exact B1h k b h
theorem F8b {s:A0b} (hu:True):Sub P G B s { s with env:=D5y s.env [] }:=by
 intro L a w hi
 exact⟨L,⟨hi.heap,hi.nx,hi.base,hi.size,hi.defers,fun k p h=>hi.env k p (C9g _ _ _ (A0p h)).1⟩,Ext.refl _ _ _,fun _ _=>rfl⟩
theorem A5h (hΦ:Ctx P G Φ) (k:Nat):∀(M:A0n) {Q:Exit->A0b->Prop} {s:A0b} {e:Exit} {s':A0b},runF Φ k M s=some (e,s')->Q e s'->MC P G B N M Q s
 | .skip,Q,s,e,s',h,hq=>A8a hΦ .skip h hq
 | .ops l,Q,s,e,s',h,hq=>by
  simp only[runF]at h
  split at h
  ·rename_i s1 h1
   simp only[Option.some.injEq,Prod.mk.injEq]at h
   obtain⟨rfl,rfl⟩:=h
   intro c hc hn
   obtain⟨id,ops,rfl,hl⟩:=A2u hc
   exact C3r (C3i hΦ.sound _ (A3e hl) hn h1 hq)
  ·cases h
 | .draw l,Q,s,e,s',h,hq=>A8a hΦ (.draw l) h hq
 | .drawG k l,Q,s,e,s',h,hq=>by
  simp only[runF]at h
  split at h
  ·rename_i s1 h1
   exact A8a hΦ (.drawG k l) (by simp only[runM,B6c l h1];exact h) hq
  ·cases h
 | .seq a b,Q,s,e,s',h,hq=>by
  intro c hc hn
  refine F5b ?_ c hc hn
  simp only[runF]at h
  split at h
  ·rename_i s1 h1
   exact A5h hΦ k a h1 ⟨(B1h k a h1).trans hn,A5h hΦ k b h hq⟩
  ·rename_i hne
   refine A5h hΦ k a h ?_
   cases e
   case normal=>exact absurd h (hne s')
   all_goals exact hq
 | .cond c a b,Q,s,e,s',h,hq=>by
  simp only[runF]at h
  split at h
  ·rename_i t ht
   refine F5c ht ?_
   cases t
   ·exact A5h hΦ k b h hq
   ·exact A5h hΦ k a h hq
  ·cases h
 | .block id b,Q,s,e,s',h,hq=>by
  refine A0h ?_
  simp only[runF]at h
  split at h
  ·rename_i i s1 h1
   refine A5h hΦ k b h1 ?_
   simp only[inBlock_exit]
   split at h
   ·rename_i hid
    rw[if_pos hid]
    simp only[Option.some.injEq,Prod.mk.injEq]at h
    obtain⟨rfl,rfl⟩:=h
    exact hq
   ·rename_i hid
    rw[if_neg hid]
    simp only[Option.some.injEq,Prod.mk.injEq]at h
    obtain⟨rfl,rfl⟩:=h
    exact hq
  ·rename_i hne
   refine A5h hΦ k b h ?_
   cases e
   case exit i=>exact absurd h (hne i s')
   all_goals exact hq
 | .loop b,Q,s,e,s',h,hq=>by
  simp only[runF]at h
  intro c hc hn
  refine E2l (fun m s=>s.n=N/\F2p (fun s=>runF Φ k b { s with env:=D5y s.env [] }) m s=some (e,s')) k ⟨hn,h⟩ (fun _ _ h=>h.1) ?_ c hc hn
  rintro m s ⟨hsn,hm⟩
  cases m with
  | zero=>cases hm
  | succ m=>
   refine MC.sub (F8b trivial) rfl ?_
   simp only[F2p]at hm
   split at hm
   ·rename_i s1 h1
    exact A5h hΦ k b h1 ⟨m,by omega,s1,Sub.refl s1,(B1h k b h1).trans hsn,hm⟩
   ·rename_i hne
    refine A5h hΦ k b hm ?_
    cases e
    case normal=>exact absurd hm (hne s')
    all_goals exact hq
 | .exit id,Q,s,e,s',h,hq=>A8a hΦ (.exit id) h hq
 | .ret,Q,s,e,s',h,hq=>A8a hΦ .ret h hq
 | .scope b,Q,s,e,s',h,hq=>by
  refine E6e ?_
  simp only[runF]at h
  split at h
  ·cases h
  ·rename_i hne
   refine A5h hΦ k b h ?_
   cases e
   case goto l=>exact absurd h (hne l s')
   all_goals exact hq
structure FnM where
 k:Nat
 N:Nat
 M:A0n
 vs:List RV
def endZ (s:A0b):A0b:=match G8h s.H with | []=>s | F=>s.frz F
def resT (vs:List RV) (s:A0b):Option T:=match resM s vs with
 | some ps=>match toT s.H (oneOf ps)with
  | some (r,_)=>some r
  | none=>none
 | none=>none
def F8c (tab:List (Nat×FnM)) (rounds:Nat) (Φ:A1c) (f:FuncId) (args:List T):Option T:=
 match look tab f with
 | some fm=>if args.length=fm.k then
   (match runF Φ rounds fm.M (startM fm.N args)with
   | some (.ret,s)=>resT fm.vs (endZ s)
   | _=>none)
  else none
 | none=>none
def D5z (nx:Nat) (H:Heap):Bool:=H.all fun q=>decide (q.1<nx)
def E7r (tab:List (Nat×FnM)) (rounds:Nat) (Φ:A1c) (f:FuncId) (ps:List PV) (H:Heap) (nx:Nat):Option (PV×Heap×Nat):=
 match look tab f with
 | some fm=>if ps.length=fm.k then
   (match runF Φ rounds fm.M ⟨startsP 0 ps,H,nx,fm.N⟩with
   | some (.normal,s)=>match resM s fm.vs with
    | some rs=>if D5z s.nx s.H then some (oneOf rs,s.H,s.nx)else none
    | none=>none
   | some (.ret,s)=>match resM s fm.vs with
    | some rs=>if D5z s.nx s.H then some (oneOf rs,s.H,s.nx)else none
    | none=>none
   | _=>none)
  else none
 | none=>none
def D6a (P:Program) (G:A1f) (tab:List (Nat×FnM)):Prop:=∀q∈tab,FnOK P G q.1 q.2.k q.2.N q.2.M q.2.vs
theorem G3u (s:A0b):Sub P G B s (endZ s):=by
 unfold endZ
 split
 ·exact Sub.refl s
 ·exact B0e _
theorem E0j (hm:P.follows .mixedOrders=true) {tab:List (Nat×FnM)} (ht:D6a P G tab) (rounds:Nat) (hΦ:Φ.Sound P G) (f:FuncId) (args:List T) (r:T) (h:F8c tab rounds Φ f args=some r):A0y P G f args (· = r):=by
 unfold F8c at h
 split at h
 ·rename_i fm hf
  split at h
  ·rename_i hk
   split at h
   ·rename_i s hr
    unfold resT at h
    split at h
    ·rename_i ps hps
     split at h
     ·rename_i r' F hT
      injection h with h;subst h
      refine(ht _ (A0p hf)).call hk fun c hc hn=>?_
      exact(A5h (Q:=fun e s1=>e = .ret/\s1=s) ⟨hm,hΦ⟩ rounds fm.M hr ⟨rfl,rfl⟩ c hc hn).post fun e s1 hq=>⟨endZ s1,G3u s1,by
       obtain⟨rfl,rfl⟩:=hq
       exact⟨.inr rfl,ps,r',F,hps,hT,rfl⟩⟩
     ·cases h
    ·cases h
   ·cases h
  ·cases h
 ·cases h
theorem E7s {nx:Nat} {H:Heap} (h:D5z nx H=true) (b:Nat) (x:Row) (hb:look H b=some x):b<nx:=by
 have:=List.all_eq_true.1 h _ (A0p hb)
 simpa using this
theorem A9y (hm:P.follows .mixedOrders=true) {tab:List (Nat×FnM)} (ht:D6a P G tab) (rounds:Nat) (hΦ:Φ.Sound P G) (f:FuncId) (ps:List PV) (H:Heap) (nx:Nat) (r:PV) (H':Heap) (nx':Nat)
  (h:E7r tab rounds Φ f ps H nx=some (r,H',nx')):A5s P G f ps H nx r H' nx'/\∀b x,look H' b=some x->b<nx':=by
 unfold E7r at h
 split at h
 ·rename_i fm hf
  split at h
  ·rename_i hk
   split at h
   ·rename_i s hr
    split at h
    ·rename_i rs hps
     split at h
     ·rename_i ha
      injection h with h;injection h with h1 h2;injection h2 with h2 h3;subst h1;subst h2;subst h3
      exact⟨(ht _ (A0p hf)).callP hk (A5h ⟨hm,hΦ⟩ rounds fm.M hr ⟨.inl rfl,s,rs,Sub.refl s,hps,rfl,rfl,rfl⟩),E7s ha⟩
     ·cases h
    ·cases h
   ·rename_i s hr
    split at h
    ·rename_i rs hps
     split at h
     ·rename_i ha
      injection h with h;injection h with h1 h2;injection h2 with h2 h3;subst h1;subst h2;subst h3
      exact⟨(ht _ (A0p hf)).callP hk (A5h ⟨hm,hΦ⟩ rounds fm.M hr ⟨.inr rfl,s,rs,Sub.refl s,hps,rfl,rfl,rfl⟩),E7s ha⟩
     ·cases h
    ·cases h
   ·cases h
  ·cases h
 ·cases h
end
end Go.Abs
namespace Go.Proofs.Ytbiadmfmjnoecaa
set_option linter.unusedSimpArgs false
set_option linter.unusedVariables false
open Go Go.Abs
def tabX:List (Nat×FnM):=[(128,⟨1,50,C5o,[(.tmp 2),(.tmp 3)]⟩),(118,⟨2,26,C2b,[(.tmp 4)]⟩),(20,⟨2,26,B6w,[(.tmp 4)]⟩),(141,⟨1,20,C2c,[(.tmp 2)]⟩),(89,⟨2,26,C6k,[(.tmp 4)]⟩),(70,⟨2,31,C6l,[(.tmp 4)]⟩),(88,⟨2,28,D4k,[(.tmp 4)]⟩),(111,⟨2,26,B7v,[(.tmp 4)]⟩),(131,⟨2,25,B3p,[(.tmp 4)]⟩),(71,⟨2,21,B1v,[(.tmp 4)]⟩),(81,⟨2,10,B3q,[(.tmp 4)]⟩),(130,⟨2,13,B7w,[(.tmp 4)]⟩),(72,⟨1,18,B3r,[(.tmp 2)]⟩),(133,⟨1,6,B7x,[(.tmp 2)]⟩),(95,⟨1,21,B1w,[(.tmp 2)]⟩),(117,⟨1,23,B3s,[(.tmp 2)]⟩),(116,⟨2,13,B5q,[(.tmp 4)]⟩),(94,⟨2,13,B1x,[(.tmp 4)]⟩),(96,⟨1,35,A5x,[(.tmp 2)]⟩),(45,⟨1,63,B2e,[(.cell 2 true 2),(.tmp 3)]⟩),(46,⟨0,21,C0k,[(.tmp 0)]⟩),(55,⟨3,20,B7c,[(.tmp 6)]⟩),(66,⟨3,60,D2u,[(.tmp 6)]⟩),(75,⟨1,63,B4d,[(.tmp 2),(.tmp 3)]⟩),(76,⟨1,92,B8f,[(.tmp 2),(.tmp 3)]⟩),(77,⟨2,62,B4e,[(.tmp 4)]⟩),(78,⟨1,51,B0g,[(.tmp 2),(.tmp 3)]⟩),(79,⟨3,39,D2v,[(.cell 6 true 3)]⟩),(90,⟨2,23,D2w,[(.tmp 4),(.tmp 5)]⟩),(97,⟨1,78,B8g,[(.tmp 2)]⟩),(98,⟨1,34,B8h,[(.tmp 2)]⟩),(99,⟨4,60,A8y,[(.tmp 8),(.tmp 9)]⟩),(100,⟨2,23,C2s,[(.tmp 4)]⟩),(101,⟨1,46,B8i,[(.tmp 2)]⟩),(102,⟨1,19,B8j,[(.tmp 2)]⟩),(103,⟨3,37,C2t,[(.tmp 6)]⟩),(104,⟨1,54,B4g,[(.tmp 2)]⟩),(105,⟨4,59,C2u,[(.tmp 8)]⟩),(106,⟨2,28,A7n,[(.tmp 4)]⟩),(107,⟨3,18,B0h,[(.tmp 6)]⟩),(108,⟨2,43,B8k,[(.tmp 4),(.tmp 5)]⟩),(109,⟨2,20,B4h,[(.tmp 4)]⟩),(119,⟨1,58,A6c,[(.tmp 2)]⟩),(120,⟨2,48,C7w,[(.tmp 4)]⟩),(121,⟨2,28,B8l,[(.tmp 4),(.tmp 5)]⟩),(122,⟨1,29,B8m,[(.tmp 2)]⟩),(123,⟨1,26,B8n,[(.tmp 2)]⟩),(124,⟨1,38,B4i,[(.tmp 2)]⟩),(125,⟨1,52,B4j,[(.tmp 2)]⟩),(126,⟨2,69,B8o,[(.tmp 4)]⟩),(127,⟨2,18,B8p,[(.tmp 4)]⟩),(129,⟨2,18,D5c,[(.tmp 4)]⟩),(132,⟨2,56,B2f,[(.tmp 4)]⟩),(135,⟨1,5,B2g,[(.tmp 2)]⟩),(136,⟨1,5,C2v,[(.tmp 2)]⟩),(137,⟨2,20,C2w,[(.tmp 4)]⟩),(138,⟨2,21,B8q,[(.tmp 4)]⟩),(139,⟨2,27,B0i,[(.tmp 4)]⟩),(140,⟨2,66,B8r,[(.tmp 4)]⟩),(142,⟨2,36,B8s,[(.tmp 4)]⟩),(143,⟨1,9,B2h,[(.tmp 2)]⟩),(144,⟨2,26,C2x,[(.tmp 4)]⟩),(145,⟨1,9,B2i,[(.tmp 2)]⟩),(146,⟨1,9,B2j,[(.tmp 2)]⟩),(3,⟨3,54,B0v,[(.tmp 6)]⟩),(4,⟨3,57,A7j,[(.tmp 6)]⟩),(5,⟨2,28,A8c,[(.tmp 4)]⟩),(6,⟨2,98,A8w,[(.tmp 4)]⟩),(15,⟨1,24,A5z,[(.cell 2 true 2)]⟩),(16,⟨2,23,B5s,[(.tmp 4)]⟩),(17,⟨0,101,A9n,[(.tmp 0)]⟩),(18,⟨3,103,B9z,[(.tmp 6),(.tmp 7)]⟩),(19,⟨3,123,D8p,[(.tmp 6),(.tmp 7)]⟩),(21,⟨3,17,A9o,[(.tmp 6)]⟩),(22,⟨3,26,B0w,[(.tmp 6)]⟩),(23,⟨3,23,C0b,[(.tmp 6)]⟩),(24,⟨1,9,B6x,[(.tmp 2)]⟩),(25,⟨2,9,C0c,[(.tmp 4)]⟩),(26,⟨2,54,B0x,[(.tmp 4)]⟩),(27,⟨2,58,C0d,[(.tmp 4)]⟩),(33,⟨2,9,B8a,[(.tmp 4)]⟩),(47,⟨1,23,B8b,[(.tmp 2)]⟩),(48,⟨2,57,B8c,[(.tmp 4)]⟩),(49,⟨0,17,C6x,[(.cell 0 true 2)]⟩),(50,⟨1,5,E6n,[(.cell 2 true 1)]⟩),(51,⟨2,32,D2e,[(.cell 4 true 2)]⟩),(52,⟨1,7,D2f,[(.cell 2 true 1)]⟩),(53,⟨3,20,B3v,[(.tmp 6)]⟩),(54,⟨2,21,B2w,[(.tmp 4)]⟩),(56,⟨3,34,D2g,[(.tmp 6),(.tmp 7)]⟩),(57,⟨3,17,B6y,[(.tmp 6)]⟩),(58,⟨2,21,B3w,[(.tmp 4)]⟩),(64,⟨2,42,B2a,[(.tmp 4)]⟩),(68,⟨2,88,C2i,[(.cell 4 true 1)]⟩),(80,⟨1,13,B2b,[(.cell 2 true 1),(.tmp 3)]⟩),(82,⟨2,20,C0f,[(.tmp 4)]⟩),(83,⟨3,39,A8d,[(.tmp 6)]⟩),(84,⟨2,28,A8e,[(.tmp 4)]⟩),(87,⟨1,55,B2c,[(.tmp 2)]⟩),(91,⟨2,62,A7r,[]⟩),(92,⟨1,52,B3x,[(.tmp 2)]⟩),(110,⟨1,40,C2j,[(.tmp 2)]⟩),(112,⟨1,6,C7b,[(.tmp 2)]⟩),(113,⟨1,18,E6o,[(.tmp 2)]⟩),(114,⟨3,39,A6m,[(.tmp 6)]⟩),(115,⟨2,17,A6n,[(.tmp 4)]⟩),(134,⟨2,52,C2k,[(.tmp 4)]⟩)]
theorem B9a:D6a Try.prog G tabX:=by
 intro q hq
 simp only[tabX,List.mem_cons,List.not_mem_nil,or_false]at hq
 rcases hq with rfl | rfl | rfl | rfl | rfl | rfl | rfl | rfl | rfl | rfl | rfl | rfl | rfl | rfl | rfl | rfl | rfl | rfl | rfl | rfl | rfl | rfl | rfl | rfl | rfl | rfl | rfl | rfl | rfl | rfl | rfl | rfl | rfl | rfl | rfl | rfl | rfl | rfl | rfl | rfl | rfl | rfl | rfl | rfl | rfl | rfl | rfl | rfl | rfl | rfl | rfl | rfl | rfl | rfl | rfl | rfl | rfl | rfl | rfl | rfl | rfl | rfl | rfl | rfl | rfl | rfl | rfl | rfl | rfl | rfl | rfl | rfl | rfl | rfl | rfl | rfl | rfl | rfl | rfl | rfl | rfl | rfl | rfl | rfl | rfl | rfl | rfl | rfl | rfl | rfl | rfl | rfl | rfl | rfl | rfl | rfl | rfl | rfl | rfl | rfl | rfl | rfl | rfl | rfl | rfl | rfl | rfl
 ·exact D4j
 ·exact D1z
 ·exact D0m
 ·exact D2a
 ·exact D8i
 ·exact D8j
 ·exact E6l
 ·exact C6m
 ·exact C6n
 ·exact B9v
 ·exact C3x
 ·exact C6o
 ·exact C3y
 ·exact C6p
 ·exact B9w
 ·exact C3z
 ·exact C2d
 ·exact B7y
 ·exact A9m
 ·exact C0j
 ·exact D5b
 ·exact D0r
 ·exact F1b
 ·exact C4d
 ·exact C7q
 ·exact C4e
 ·exact B7d
 ·exact F1c
 ·exact F1d
 ·exact C7r
 ·exact C7s
 ·exact B4f
 ·exact D2x
 ·exact C7t
 ·exact C7u
 ·exact D2y
 ·exact C4f
 ·exact D2z
 ·exact C4g
 ·exact B7e
 ·exact C7v
 ·exact C4h
 ·exact A9s
 ·exact D9d
 ·exact C7x
 ·exact C7y
 ·exact C7z
 ·exact C4i
 ·exact C4j
 ·exact C8a
 ·exact C8b
 ·exact E6y
 ·exact C0l
 ·exact C0m
 ·exact D3a
 ·exact D3b
 ·exact C8c
 ·exact B7f
 ·exact C8d
 ·exact C8e
 ·exact C8f
 ·exact D3c
 ·exact C8g
 ·exact C8h
 ·exact C2f
 ·exact B3u
 ·exact B6j
 ·exact B7z
 ·exact C6t
 ·exact F0r
 ·exact B9y
 ·exact D4n
 ·exact F5k
 ·exact C0a
 ·exact C2g
 ·exact D4o
 ·exact D0n
 ·exact D4p
 ·exact C2h
 ·exact D4q
 ·exact C6u
 ·exact C6v
 ·exact C6w
 ·exact E2p
 ·exact G2b
 ·exact F0s
 ·exact F0t
 ·exact C6y
 ·exact C4y
 ·exact F0u
 ·exact D0o
 ·exact C6z
 ·exact C0e
 ·exact D2h
 ·exact C7a
 ·exact D4r
 ·exact B6k
 ·exact B6l
 ·exact C0g
 ·exact B2x
 ·exact C4a
 ·exact D2i
 ·exact E2q
 ·exact G2c
 ·exact B3b
 ·exact B3c
 ·exact D2j
end Go.Proofs.Ytbiadmfmjnoecaa
namespace Go.Abs
set_option linter.unusedSimpArgs false
set_option linter.unusedVariables false
open Go
abbrev Memo:=List (Nat×List T×T)
def Memo.get (m:Memo) (f:Nat) (args:List T):Option T:=match m with
 | []=>none
 | (g,as',r)::rest=>if g=f then(if eqTs as' args then some r else Memo.get rest f args)else Memo.get rest f args
def A5m (P:Program) (G:A1f) (m:Memo):Prop:=∀q∈m,A0y P G q.1 q.2.1 (· = q.2.2)
theorem A5m.nil {P:Program} {G:A1f}:A5m P G []:=fun _ h=>by cases h
theorem A5m.cons {P:Program} {G:A1f} {m:Memo} {f:Nat} {as':List T} {r:T} (h:A0y P G f as' (· = r)) (hm:A5m P G m):A5m P G ((f,as',r)::m):=fun q hq=>by
 rcases List.mem_cons.1 hq with rfl | hq
 ·exact h
 ·exact hm q hq
theorem Memo.get_sound {P:Program} {G:A1f}:∀{m:Memo} {f:Nat} {args:List T} {r:T},A5m P G m->m.get f args=some r->A0y P G f args (· = r)
 | [],f,args,r,_,h=>by cases h
 | (g,as',r0)::rest,f,args,r,hm,h=>by
  have hr:A5m P G rest:=fun q hq=>hm q (List.mem_cons_of_mem _ hq)
  simp only[Memo.get]at h
  split at h
  ·rename_i hg
   split at h
   ·rename_i ha
    injection h with h
    subst h;subst hg
    rw[<-C9h _ _ ha]
    exact hm (g,as',r0) List.mem_cons_self
   ·exact Memo.get_sound hr h
  ·exact Memo.get_sound hr h
def E0k (tab:List (Nat×FnM)) (memo:Memo) (rounds:Nat):Nat->A1c
 | 0=>⟨memo.get,fun _ _ _ _=>none⟩
 | n+1=>⟨fun f args=>match memo.get f args with
   | some r=>some r
   | none=>F8c tab rounds (E0k tab memo rounds n) f args,E7r tab rounds (E0k tab memo rounds n)⟩
theorem A2r {P:Program} {G:A1f} (hm:P.follows .mixedOrders=true) {tab:List (Nat×FnM)} (ht:D6a P G tab) {memo:Memo} (hme:A5m P G memo) (rounds:Nat):∀n,(E0k tab memo rounds n).Sound P G
 | 0=>⟨fun _ _ _ h=>Memo.get_sound hme h,fun _ _ _ _ _ _ _ h=>(by cases h),fun _ _ _ _ _ _ _ h=>(by cases h)⟩
 | n+1=>⟨fun f args r h=>by
   simp only[E0k]at h
   split at h
   ·rename_i r' hr
    injection h with h
    subst h
    exact Memo.get_sound hme hr
   ·exact E0j hm ht rounds (A2r hm ht hme rounds n) f args r h,
   fun f ps H nx r H' nx' h=>(A9y hm ht rounds (A2r hm ht hme rounds n) f ps H nx r H' nx' h).1,
   fun f ps H nx r H' nx' h _=>(A9y hm ht rounds (A2r hm ht hme rounds n) f ps H nx r H' nx' h).2⟩
end Go.Abs
