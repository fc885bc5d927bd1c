/- Auxiliary facts. -/
import Derived.Test.YtmgjopafgboljaaGreatDoorVEQ12
import Derived.Test.YtmgjopafgboljaaGreatDoorVEQ07
import Derived.Test.YtmgjopafgboljaaGreatDoorVEQ11
set_option linter.unusedSimpArgs false
set_option linter.unusedVariables false
namespace Go.Proofs.YtmgjopafgboljaaGreatDoor
open Go Go.Abs Go.ChangeShapes Go.WideShapes Go.ChangeAt Go.RowKit
section
variable {H : Type} {enc : TypeId × Value -> H} {P : Program} {W : World} {spare : Nat -> Bool} {held : Bool}
theorem F2l {H:Type} (d:DataW H):1<=Rows.uptoBulk d:=by
 cases d with
 | lit l=>cases l<;>simp[Rows.uptoBulk]
 | nil=>simp[Rows.uptoBulk]
 | ptr d=>simp[Rows.uptoBulk]
 | slice elems spare=>simp[Rows.uptoBulk]
 | agg parts=>simp[Rows.uptoBulk]
 | iface t d=>simp[Rows.uptoBulk]
 | map entries=>simp[Rows.uptoBulk]
 | held h=>simp[Rows.uptoBulk]
theorem D8g {H:Type}:∀l:List (DataW H),Rows.uptoBulkAll l=(l.map Rows.uptoBulk).sum
 | []=>by simp[Rows.uptoBulkAll]
 | d::r=>by simp[Rows.uptoBulkAll,D8g r]
theorem F2m (a:Addr) (x y:Nat):a.add (x+y)=(a.add x).add y:=by
 unfold Addr.add;by_cases hx:x=0<;>by_cases hy:y=0<;>simp[hx,hy,Nat.add_assoc]
def RdL (W:World) (ts:List T) (cs:List Value):Prop:=RepL (Old W) W ts cs/\∀x∈cs,x.oneCell'=true
theorem RdL.at' {ts:List T} {cs:List Value} (h:RdL W ts cs) {j:Nat} {c:T} (hj:ts[j]?=some c):∃x,cs[j]?=some x/\x.oneCell'=true/\RepT (Old W) W c x:=by
 obtain⟨x,hx,hr⟩:=h.1.at_ j hj;exact⟨x,hx,h.2 x (List.mem_of_getElem? hx),hr⟩
theorem C1b {I:Nat->Prop} {w:World}:∀{ts ts':List T} {us us':List Value},RepL I w ts us->RepL I w ts' us'->RepL I w (ts++ts') (us++us')
 | [],ts',us,us',h,h'=>by simp only[RepL]at h;subst h;simpa using h'
 | t::ts,ts',us,us',h,h'=>by
  simp only[RepL]at h;obtain⟨x,xs,rfl,hx,hxs⟩:=h;simp only[List.cons_append,RepL];exact⟨x,xs++us',rfl,hx,C1b hxs h'⟩
theorem RdL.append {ts ts':List T} {cs cs':List Value} (h:RdL W ts cs) (h':RdL W ts' cs'):RdL W (ts++ts') (cs++cs'):=
 ⟨C1b h.1 h'.1,fun x hx=>by rcases List.mem_append.1 hx with hx | hx;exact h.2 x hx;exact h'.2 x hx⟩
def Rd (enc:TypeId×Value->H) (P:Program) (W:World) (spare:Nat->Bool) (held:Bool) (N:Nat) (t:TypeId) (Q:Nat->List T->Prop):Prop:=
 ∀fuel,fuel<N->∀cs x,DataW.trod enc P W 0 spare held fuel t cs=some x->∃ts,RdL W ts cs/\Q (Rows.uptoBulk x.1) ts
variable {N : Nat}
theorem Rd.less {t:TypeId} {Q:Nat->List T->Prop} {M:Nat} (h:Rd enc P W spare held N t Q) (hm:M<=N):Rd enc P W spare held M t Q:=fun fuel hf cs x hx=>h fuel (by omega) cs x hx
theorem Rd.mono {t:TypeId} {Q Q':Nat->List T->Prop} (h:Rd enc P W spare held N t Q) (hq:∀b ts,Q b ts->Q' b ts):Rd enc P W spare held N t Q':=fun fuel hf cs x hx=>by
 obtain⟨ts,h1,h2⟩:=h fuel hf cs x hx;exact⟨ts,h1,hq _ _ h2⟩
theorem C4x {t:TypeId} (ht:P.underlying t=some (.int .i64)):Rd enc P W spare held N t fun b ts=>∃n:Int,ts=[iv n]/\b=1/\(-9223372036854775808<=n/\n<=9223372036854775807):=by
 intro fuel _ cs x h;obtain⟨n,rfl,e,hw⟩:=DataW.trod_int ht h;refine⟨[iv n],⟨by simp only[RepL,RepT];exact⟨_,_,rfl,rfl,rfl⟩,by simp[Value.oneCell']⟩,n,rfl,by rw[e];simp[Rows.uptoBulk],?_⟩
 have e1:IntKind.i64.max=9223372036854775807:=by decide
 have e2:IntKind.i64.min = -9223372036854775808:=by decide
 simp only[Lit.wf,decide_eq_true_eq]at hw;rw[e1,e2]at hw;simpa using hw
theorem E6o {t:TypeId} (ht:P.underlying t=some .string):Rd enc P W spare held N t fun b ts=>∃s:ByteArray,ts=[sv s]/\b=s.size+1:=by
 intro fuel _ cs x h;obtain⟨s,rfl,e,_⟩:=DataW.trod_string ht h;refine⟨[sv s],⟨by simp only[RepL,RepT];exact⟨_,_,rfl,rfl,rfl⟩,by simp[Value.oneCell']⟩,s,rfl,?_⟩;rw[e];simp only[Rows.uptoBulk];rfl
theorem F2.snoc {α:Type} {R:Nat->α->Prop} {b:Nat} {a:α}:∀{bs:List Nat} {l:List α},F2 R bs l->R b a->F2 R (bs++[b]) (l++[a])
 | _,_,.nil,h=>.cons h .nil
 | _,_,.cons h1 h2,h=>.cons h1 (h2.snoc h)
theorem F2.len {α:Type} {R:Nat->α->Prop} {k:Nat} (hk:∀b a,R b a->k<=b):∀{bs:List Nat} {l:List α},F2 R bs l->k*l.length<=bs.sum
 | _,_,.nil=>by simp
 | _,_,.cons h1 h2=>by
  have:=hk _ _ h1;have:=h2.len hk;simp only[List.sum_cons,List.length_cons,Nat.mul_add,Nat.mul_one];omega
theorem F2.mem {α:Type} {R:Nat->α->Prop}:∀{bs:List Nat} {l:List α},F2 R bs l->∀a∈l,∃b,b<=bs.sum/\R b a
 | _,_,.nil,a,ha=>by cases ha
 | _,_,.cons h1 h2,a,ha=>by
  rcases List.mem_cons.1 ha with rfl | ha
  ·exact⟨_,by simp only[List.sum_cons];omega,h1⟩
  ·obtain⟨b,h3,h4⟩:=h2.mem a ha;exact⟨b,by simp only[List.sum_cons];omega,h4⟩
theorem B9k {α:Type} {e:Enc α} {t el:TypeId} {R:Nat->α->Prop} (ht:P.underlying t=some (.slice el)) (hc:P.cellsOf el=e.z) (hr:Rd enc P W spare held N el fun b ts=>∃a,ts=e.enc a/\R b a) :
  Rd enc P W spare held (N+1) t fun b ts=>∃x l bs,ts=[x]/\IsS e x l/\F2 R bs l/\bs.sum+1<=b:=by
 intro fuel hfu cs xx h;rcases DataW.trod_slice ht h with⟨rfl,e0⟩ | ⟨a,len,cap,elems,rest,n,hn,rfl,e0,_,hl,hm,hlen,hel,_,_⟩
 ·exact⟨[nilS],⟨by simp only[RepL,RepT];exact⟨_,_,rfl,rfl,rfl⟩,by simp[Value.oneCell']⟩,nilS,[],[],rfl,IsS.nil,.nil,by simpa using F2l _⟩
 ·have each:∀i,i<len->∃(y:DataW H×List MemPlace) (cs:List Value) (a':α),elems[i]?=some y/\W.cells? 0 (a.add (i*e.z)) e.z=some cs/\RdL W (e.enc a') cs/\R (Rows.uptoBulk y.1) a':=by
   intro i hi
   obtain⟨y,hy⟩:∃y,elems[i]?=some y:=⟨_,List.getElem?_eq_getElem (by omega)⟩
   have:=hel i hi;rw[hy,hc,Option.bind_eq_some_iff]at this;obtain⟨cs,h1,h2⟩:=this;obtain⟨ts,h3,a',rfl,h4⟩:=hr n (by omega) cs y h2;exact⟨y,cs,a',hy,h1,h3,h4⟩
  have build:∀k,k<=len->∃l:List α,l.length=k/\F2 R ((elems.take k).map fun y=>Rows.uptoBulk y.1) l/\∀(i:Nat) a',l[i]?=some a'->∃(cs:List Value),W.cells? 0 (a.add (i*e.z)) e.z=some cs/\RdL W (e.enc a') cs:=by
   intro k
   induction k with
   | zero=>exact fun _=>⟨[],rfl,.nil,fun i a' h=>by simp at h⟩
   | succ k ih=>
    intro hk;obtain⟨l,h1,h1b,h2⟩:=ih (by omega);obtain⟨y,cs,a',h3,h4,h5,h6⟩:=each k (by omega);refine⟨l++[a'],by simp[h1],?_,fun i b hb=>?_⟩
    ·rw[List.take_add_one,h3,List.map_append];exact h1b.snoc h6
    rw[List.getElem?_append]at hb;split at hb
    ·exact h2 i b hb
    ·have:i-l.length=0:=by
      have:=(List.getElem?_eq_some_iff.1 hb).1;simp at this;omega
     have hi:i=k:=by omega
     rw[this]at hb;simp at hb;subst hb;rw[hi];exact⟨cs,h4,h5⟩
  obtain⟨l,hll,hF,hat⟩:=build len (Nat.le_refl _);rw[List.take_of_length_le (by omega)]at hF;refine⟨[slT e l],⟨?_,by simp[Value.oneCell']⟩,slT e l,l,_,rfl,IsS.mk l,hF,?_⟩
  ·simp only[RepL];refine⟨_,_,rfl,?_,rfl⟩;simp only[slT,RepT];refine⟨a,cap,by rw[hll],by omega,?_⟩;by_cases h0:len=0
   ·left;have:l=[]:=List.length_eq_zero_iff.1 (by omega);rw[this];simp
   ·right
    obtain⟨a0,ha0⟩:∃a0,l[0]?=some a0:=⟨_,List.getElem?_eq_getElem (by omega)⟩
    have hzp:=e.pos
    have cellAt:∀(i j:Nat) (a':α) (c:T),l[i]?=some a'->(e.enc a')[j]?=some c->∃x,W.cell? (a.add (i*e.z+j))=some x/\x.oneCell'=true/\RepT (Old W) W c x:=by
     intro i j a' c hi hj;obtain⟨cs,h2,h3⟩:=hat i a' hi;obtain⟨x,hx,h4,h5⟩:=h3.at' hj
     have hjl:j<e.z:=by rw[<-e.len a'];exact(List.getElem?_eq_some_iff.1 hj).1
     obtain⟨_,_,h6⟩:=World.cells?_some h2;have:=h6 j hjl;refine⟨x,?_,h4,h5⟩;rw[<-hx,<-this];congr 1;exact F2m a _ _
    obtain⟨c0,hc0⟩:∃c0,(e.enc a0)[0]?=some c0:=⟨_,List.getElem?_eq_getElem (by rw[e.len];exact hzp)⟩
    obtain⟨x0,hx0,_,_⟩:=cellAt 0 0 a0 c0 ha0 hc0
    have hs:a.spot=none:=by simpa[Addr.add]using World.cell?_spot hx0
    refine⟨hs,by simpa[Addr.add,Old]using F6c hx0,RepC.mk fun k c hk=>?_⟩;have hkl:k<(l.flatMap e.enc).length:=(List.getElem?_eq_some_iff.1 hk).1;rw[A2p]at hkl;have hi:k / e.z<l.length:=Nat.div_lt_of_lt_mul (by rw[Nat.mul_comm];exact hkl)
    obtain⟨a',ha'⟩:∃a',l[k / e.z]?=some a':=⟨_,List.getElem?_eq_getElem hi⟩
    have hkz:k / e.z*e.z+k%e.z=k:=by rw[Nat.mul_comm];exact Nat.div_add_mod k e.z
    have hmod:=Nat.mod_lt k hzp;have hd:=B1d e l (k / e.z) a' ha'
    have hj:(e.enc a')[k%e.z]?=some c:=by
     have h7:((l.flatMap e.enc).drop (k / e.z*e.z))[k%e.z]?=some c:=by rw[List.getElem?_drop,hkz];exact hk
     rw[hd,List.getElem?_append_left (by rw[e.len];exact hmod)]at h7;exact h7
    obtain⟨x,hx,h8,h9⟩:=cellAt (k / e.z) (k%e.z) a' c ha' hj;rw[hkz]at hx;obtain⟨ab,ao,as'⟩:=a;simp only at hs;subst hs;refine⟨x,?_,h8,h9⟩;by_cases hk0:k=0
    ·subst hk0;simpa[Addr.add]using hx
    ·simpa[Addr.add,hk0]using hx
  ·have hbulk:Rows.uptoBulk (DataW.slice (elems.map (·.1)) (rest.map (·.1)))=Rows.uptoBulkAll (elems.map (·.1))+Rows.uptoBulkAll (rest.map (·.1))+1:=by simp only[Rows.uptoBulk]
   rw[e0];show _<=Rows.uptoBulk (DataW.slice (elems.map (·.1)) (rest.map (·.1)));rw[hbulk,D8g (elems.map (·.1)),List.map_map];show(elems.map fun y=>Rows.uptoBulk y.1).sum+1<=(elems.map fun y=>Rows.uptoBulk y.1).sum+_+1;omega
def F6s (P:Program):Nat->List Field->Prop
 | _,[]=>True
 | o,f::r=>f.offset=o/\F6s P (o+P.cellsOf f.type) r
def C1c (P:Program):Nat->List Field->Nat
 | o,[]=>o
 | o,f::r=>C1c P (o+P.cellsOf f.type) r
inductive E2u (enc:TypeId×Value->H) (P:Program) (W:World) (spare:Nat->Bool) (held:Bool) (N:Nat):List Field->List (Nat->List T->Prop)->Prop
 | nil:E2u enc P W spare held N [] []
 | cons {f:Field} {r:List Field} {q:Nat->List T->Prop} {s:List (Nat->List T->Prop)}:Rd enc P W spare held N f.type q->E2u enc P W spare held N r s->E2u enc P W spare held N (f::r) (q::s)
def PQ:List (Nat->List T->Prop)->Nat->List T->Prop
 | [],b,ts=>b=0/\ts=[]
 | q::r,b,ts=>∃b0 b1 t0 t1,b=b0+b1/\ts=t0++t1/\q b0 t0/\PQ r b1 t1
theorem D0s (P:Program):∀(o:Nat) (fs:List Field),o<=C1c P o fs
 | o,[]=>Nat.le_refl _
 | o,f::r=>by
  have:=D0s P (o+P.cellsOf f.type) r;rw[C1c];omega
theorem D0t {n:Nat} (hn:n<N) {cs:List Value}:∀(fs:List Field) (qs:List (Nat->List T->Prop)) (o:Nat) (xs:List (DataW H×List MemPlace)),F6s P o fs->E2u enc P W spare held N fs qs->xs.length=fs.length ->
  (∀(i:Nat) (f:Field),fs[i]?=some f->DataW.trod enc P W 0 spare held n f.type ((cs.drop f.offset).take (P.cellsOf f.type))=xs[i]?)->cs.length=C1c P o fs ->
  ∃ts,RdL W ts (cs.drop o)/\PQ qs (Rows.uptoBulkAll (xs.map (·.1))) ts
 | [],[],o,xs,_,_,hx,_,hl=>by
  obtain rfl:=List.eq_nil_of_length_eq_zero hx;rw[C1c]at hl;refine⟨[],⟨by rw[List.drop_of_length_le (by omega)];simp only[RepL],by rw[List.drop_of_length_le (by omega)];simp⟩,?_⟩;simp[PQ,Rows.uptoBulkAll]
 | [],_::_,_,_,_,hr,_,_,_=>by cases hr
 | _::_,[],_,_,_,hr,_,_,_=>by cases hr
 | f::r,q::s,o,xs,ho,hr,hx,hf,hl=>by
  cases xs with
  | nil=>simp at hx
  | cons x xs=>
   obtain⟨h1,h2⟩:=ho
   obtain⟨r1,r2⟩:Rd enc P W spare held N f.type q/\E2u enc P W spare held N r s:=by cases hr with | cons r1 r2=>exact⟨r1,r2⟩
   rw[C1c]at hl;have hle:=D0s P (o+P.cellsOf f.type) r;have g:=hf 0 f rfl;rw[h1]at g;obtain⟨t0,a0,q0⟩:=r1 n hn _ x g;obtain⟨t1,a1,q1⟩:=D0t hn r s (o+P.cellsOf f.type) xs h2 r2 (by simpa using hx) (fun i f' hi=>hf (i+1) f' hi) hl;refine⟨t0++t1,?_,_,_,t0,t1,?_,rfl,q0,q1⟩
   ·have:=a0.append a1;rwa[<-List.drop_drop,List.take_append_drop]at this
   ·simp only[List.map_cons,Rows.uptoBulkAll]
theorem B5k {t:TypeId} {fs:List Field} {qs:List (Nat->List T->Prop)} (ht:P.underlying t=some (.struct fs.toArray)) (ho:F6s P 0 fs) (hc:P.cellsOf t=C1c P 0 fs) (h:E2u enc P W spare held N fs qs) :
  Rd enc P W spare held (N+1) t fun b ts=>∃b0,b=b0+1/\PQ qs b0 ts:=by
 intro fuel hfu cs x hx;obtain⟨xs,n,hn,e,hl,hlen,hf⟩:=DataW.trod_struct ht hx;obtain⟨ts,h1,h2⟩:=D0t (N:=N) (n:=n) (by omega) fs qs 0 xs ho h (by simpa using hlen) (fun i f hi=>hf i f (by simpa using hi)) (by rw[hl,hc]);refine⟨ts,by simpa using h1,_,?_,h2⟩;rw[e];simp only[Rows.uptoBulk]
end
end Go.Proofs.YtmgjopafgboljaaGreatDoor
