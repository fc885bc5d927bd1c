/- Auxiliary facts. -/
import Derived.Test.YtmplckgbeaifkaaGreatDoorVCQ18
import Derived.Test.YtmplckgbeaifkaaGreatDoorVCQ22
import Derived.Test.YtmplckgbeaifkaaGreatDoorVCQ31
import Derived.Test.YtmplckgbeaifkaaGreatDoorVCQ43
set_option linter.unusedSimpArgs false
set_option linter.unusedVariables false
namespace Go.Proofs.YtmplckgbeaifkaaGreatDoor
open Go Go.Abs
def getI (id:ByteArray) (l:List It):Option It:=l.find? fun y=>decide (y.id=id)
def remI (id:ByteArray) (l:List It):List It:=l.filter fun y=>!decide (y.id=id)
theorem A7g.same {l:List It} (h:A7g l) {a b:It} (ha:a∈l) (hb:b∈l) (e:a.id=b.id):a=b:=by
 induction l with
 | nil=>cases ha
 | cons y r ih=>
  obtain⟨h1,h2⟩:=h.tail;rcases List.mem_cons.1 ha with ka | ka<;>rcases List.mem_cons.1 hb with kb | kb
  ·rw[ka,kb]
  ·rw[ka]at e;exact absurd e (B9v (h2 b kb))
  ·rw[kb]at e;exact absurd e.symm (B9v (h2 a ka))
  ·exact ih h1 ka kb
theorem B1j {l:List It} (h:A7g l) {id:ByteArray} {x:It}:getI id l=some x ↔ x∈l/\x.id=id:=by
 unfold getI;constructor
 ·intro e;have h1:=List.mem_of_find?_eq_some e;have h2:=List.find?_some e;exact⟨h1,by simpa using h2⟩
 ·rintro⟨h1,h2⟩
  cases e:l.find? fun y=>decide (y.id=id)with
  | none=>
   have:=List.find?_eq_none.1 e x h1;simp[h2]at this
  | some y=>
   have h3:=List.mem_of_find?_eq_some e;have h4:=List.find?_some e;rw[h.same h3 h1 (by rw[h2];simpa using h4)]
theorem F9n {α:Type} {a b:Option α} (h:∀x,a=some x ↔ b=some x):a=b:=by
 cases a with
 | none=>
  cases b with
  | none=>rfl
  | some y=>exact absurd ((h y).2 rfl) (by simp)
 | some x=>exact((h x).1 rfl).symm
theorem F4p {l:List It} (h:A7g l) (x:It):getI x.id (putI x l)=some x:=(B1j (A3e h)).2 ⟨(A4z h).2 (.inl rfl),rfl⟩
theorem E3y {l:List It} (h:A7g l) (x:It) {id:ByteArray} (hi:id≠x.id):getI id (putI x l)=getI id l:=by
 refine F9n fun y=>?_;rw[B1j (A3e h),B1j h,A4z h];constructor
 ·rintro⟨rfl | ⟨h1,_⟩,h2⟩
  ·exact absurd h2.symm hi
  ·exact⟨h1,h2⟩
 ·rintro⟨h1,h2⟩;exact⟨.inr ⟨h1,by rw[h2];exact hi⟩,h2⟩
theorem C9f {l:List It} {id:ByteArray} {y:It}:y∈remI id l ↔ y∈l/\y.id≠id:=by
 unfold remI;rw[List.mem_filter];simp
theorem C2n {l:List It} (h:A7g l) (id:ByteArray):A7g (remI id l):=List.Pairwise.filter _ h
theorem E3z {l:List It} (h:A7g l) (x:It):putI x (putI x l)=putI x l:=by
 refine B3y (A3e (A3e h)) (A3e h) fun y=>?_;rw[A4z (A3e h),A4z h];constructor
 ·rintro(e | ⟨e,_⟩)
  ·exact .inl e
  ·exact e
 ·rintro(e | ⟨e,k⟩)
  ·exact .inl e
  ·exact .inr ⟨.inr ⟨e,k⟩,k⟩
theorem F9o {l:List It} (h:A7g l) {x:It} (hn:getI x.id l=none):remI x.id (putI x l)=l:=by
 refine B3y (C2n (A3e h) _) h fun y=>?_;rw[C9f,A4z h];constructor
 ·rintro⟨rfl | ⟨e,_⟩,k⟩
  ·exact absurd rfl k
  ·exact e
 ·intro hy
  have:y.id≠x.id:=fun e=>by
   have:=(B1j h).2 ⟨hy,e⟩;rw[hn]at this;cases this
  exact⟨.inr ⟨hy,this⟩,this⟩
theorem F4q {l:List It} (h:A7g l) (id:ByteArray):getI id (remI id l)=none:=by
 cases e:getI id (remI id l)with
 | none=>rfl
 | some y=>
  obtain⟨h1,h2⟩:=(B1j (C2n h id)).1 e;exact absurd h2 (C9f.1 h1).2
theorem F4r (id:ByteArray) (l:List It):(remI id l).length<=l.length:=List.length_filter_le _ _
theorem F4s {l:List It} (h:A7g l) {id:ByteArray}:(remI id l).length=l.length ↔ getI id l=none:=by
 unfold remI;rw[List.length_filter_eq_length_iff];constructor
 ·intro k
  cases e:getI id l with
  | none=>rfl
  | some y=>
   obtain⟨h1,h2⟩:=(B1j h).1 e;have:=k y h1;simp[h2]at this
 ·intro k y hy
  cases e:decide (y.id=id)with
  | false=>rfl
  | true=>
   have:=(B1j h).2 ⟨hy,of_decide_eq_true e⟩;rw[k]at this;cases this
def remT (b:Tb) (id:ByteArray):Except Int Tb:=if(remI id b.items).length=b.items.length then .error 16 else .ok ⟨b.ver,remI id b.items⟩
theorem E8w {b c:Tb} {x:It} (hb:chkT b=0) (h:putT b x = .ok c) :
  chkT c=0/\getI x.id c.items=some x/\putT c x = .ok c/\(∃d,remT c x.id = .ok d/\chkT d=0/\getI x.id d.items=none/\(getI x.id b.items=none->d=b))/\(∀id,id≠x.id->getI id c.items=getI id b.items):=by
 obtain⟨h1,h2,h3,h4⟩:=A6t.1 hb;obtain⟨rfl,hc,k1,k2⟩:=B8q hb h;obtain⟨_,c2,c3,c4⟩:=A6t.1 hc;have hg:=F4p h4 x;refine⟨hc,hg,?_,⟨⟨b.ver,remI x.id (putI x b.items)⟩,?_,A6t.2 ⟨h1,Nat.le_trans (F4r _ _) c2,fun y hy=>c3 y (C9f.1 hy).1,C2n c4 _⟩,F4q c4 _,fun hn=>?_⟩,fun id hi=>E3y h4 x hi⟩
 ·unfold putT;rw[if_neg (by simp[k1]),if_neg (by simp[k2]),E3z h4]
  have:¬256<(putI x b.items).length:=by have:(putI x b.items).length<=256:=c2;omega
  rw[if_neg this]
 ·unfold remT;rw[if_neg];intro e;rw[(F4s c4).1 e]at hg;cases hg
 ·rw[F9o h4 hn]
end Go.Proofs.YtmplckgbeaifkaaGreatDoor
namespace Go.Abs
open Go
section
variable {P : Program} {G : A0w}
noncomputable def eOne (ps0:List PV) (H0:Heap) (nx0:Nat) (ch:A2w) (ps:List PV) (H:Heap) (nx:Nat):Option A2w:=
 open Classical in if ps = ps0 /\ H = H0 /\ nx = nx0 then some ch else none
noncomputable def eO (ps0:List PV) (H0:Heap) (nx0:Nat):Out->List PV->Heap->Nat->Option A2w
 | .ret _ _ _=>fun _ _ _=>none
 | .pan ch=>eOne ps0 H0 nx0 ch
end
end Go.Abs
namespace Go.Proofs.YtmplckgbeaifkaaGreatDoor
open Go Go.Abs
noncomputable def A8i:A0i:=cm Tryz.f14 156
theorem B5w {q:Gl}:FnOK Tryz.prog (G q) 14 3 156 A8i [(.tmp 6)]:=fk Tryz.func14 (by kernel_rfl) (by kernel_rfl)
end Go.Proofs.YtmplckgbeaifkaaGreatDoor
