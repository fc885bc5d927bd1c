/- Auxiliary facts. -/
import Derived.Test.YtmplckgbeaifkaaGreatDoorVCQ22
import Derived.Test.YtmplckgbeaifkaaGreatDoorVCQ43
set_option linter.unusedSimpArgs false
set_option linter.unusedVariables false
namespace Go.Proofs.YtmplckgbeaifkaaGreatDoor
open Go Go.Abs
theorem E8v {l:List It} (h:A7g l) {x y:It} (hxy:x.id≠y.id):putI y (putI x l)=putI x (putI y l):=by
 refine B3y (A3e (A3e h)) (A3e (A3e h)) fun z=>?_;rw[A4z (A3e h),A4z h,A4z (A3e h),A4z h];constructor
 ·rintro(rfl | ⟨rfl | ⟨e,k⟩,k'⟩)
  ·exact .inr ⟨.inl rfl,hxy.symm⟩
  ·exact .inl rfl
  ·exact .inr ⟨.inr ⟨e,k'⟩,k⟩
 ·rintro(rfl | ⟨rfl | ⟨e,k⟩,k'⟩)
  ·exact .inr ⟨.inl rfl,hxy⟩
  ·exact .inl rfl
  ·exact .inr ⟨.inr ⟨e,k'⟩,k⟩
theorem D2x {b c d:Tb} {x y:It} (hb:chkT b=0) (hl:b.items.length<=254) (hxy:x.id≠y.id) (h:putT b x = .ok c) (k:putT b y = .ok d):∃m,putT c y = .ok m/\putT d x = .ok m:=by
 obtain⟨_,_,_,h4⟩:=A6t.1 hb;obtain⟨rfl,_,k1,k2⟩:=B8q hb h;obtain⟨rfl,_,k3,k4⟩:=B8q hb k;refine⟨⟨b.ver,putI y (putI x b.items)⟩,?_,?_⟩
 ·unfold putT;have l1:=(B3x (x:=x) (l:=b.items)).2;have l2:=(B3x (x:=y) (l:=putI x b.items)).2;rw[if_neg (by simp[k3]),if_neg (by simp[k4]),if_neg (by show ¬256<(putI y (putI x b.items)).length;omega)]
 ·unfold putT;have l1:=(B3x (x:=y) (l:=b.items)).2;have l2:=(B3x (x:=x) (l:=putI y b.items)).2;rw[if_neg (by simp[k1]),if_neg (by simp[k2]),if_neg (by show ¬256<(putI x (putI y b.items)).length;omega),E8v h4 hxy]
noncomputable def A6f:A0i:=cm Tryz.f15 92
theorem B1t {q:Gl}:FnOK Tryz.prog (G q) 15 3 92 A6f [(.tmp 6)]:=fk Tryz.func15 (by kernel_rfl) (by kernel_rfl)
end Go.Proofs.YtmplckgbeaifkaaGreatDoor
