/- Auxiliary facts. -/
import Derived.Test.YtmgjopafgboljaaGreatDoorVEQ12
import Derived.Test.YtmgjopafgboljaaGreatDoorVEQ59
import Derived.Test.YtmgjopafgboljaaGreatDoorVEQ57
import Derived.Test.YtmgjopafgboljaaGreatDoorVEQ27
set_option linter.unusedSimpArgs false
set_option maxRecDepth 100000
set_option maxHeartbeats 0
set_option linter.unusedVariables false
namespace Go.Proofs.YtmgjopafgboljaaGreatDoor
open Go Go.Abs Go.ChangeShapes Go.WideShapes Go.ChangeAt Go.RowKit
theorem F9q {W:World} {base:Nat} {v:Value} (h:Value.okWide Tryz.prog W .any base 9 v):∃s,v = .string s:=okWide_string Tryz.underlying9 h
open Go Go.Abs
variable {q : Gl}
theorem F1h {s:List UInt8} {m:Mr} (h:parM s = .ok m):∃raw l,A7r (s.length+1) ⟨s,0,[]⟩=(⟨[],0,l⟩,raw):=by
 unfold parM at h;split at h
 ·cases h
 split at h
 ·cases h
 rename_i h1;obtain⟨m',seen,hEq,_⟩:=B6b (n:=s.length+1) (s:=s) (by omega) (by simpa using h1);exact⟨m',seen,hEq⟩
theorem F5b {s:List UInt8} {e:Int} (h:parM s = .error e):e≠0:=by
 unfold parM at h;split at h
 ·injection h with h;subst h;decide
 split at h
 ·rename_i h1;injection h with h;subst h;exact h1
 unfold finM at h;split at h
 ·injection h with h;subst h;decide
 split at h
 ·injection h with h;subst h;decide
 split at h
 ·injection h with h;subst h;decide
 split at h
 ·rename_i h1;injection h with h;subst h;exact h1
 ·cases h
theorem F9r {s:ByteArray} {m:Mr} (hs:s.size<=1000) (h:parM (wb s) = .ok m):SmM m:=by
 obtain⟨raw,l,hf⟩:=F1h h;rw[E1g h hf];exact F1e hs raw l hf
theorem F1i {s:ByteArray}:A1d Tryz.prog (G q) 8 [sv s] (· = bv true):=by
 have e0:=A1i [] (bv true);have C:Ctx Tryz.prog (G q) _:=(A0s.cons (hEx (q:=q)) .nil).ctx mixed;refine C3z.call rfl ?_;(conv in B3y=>cbv);refine A0a C ?_;simp -implicitDefEqProofs;by_cases hb:1000<s.size
 ·have d1:decide ((1000:Int)<(s.size:Int))=true:=decide_eq_true (by omega);refine A0a C ?_;simp -implicitDefEqProofs [d1,hb,e0]
 have d1:decide ((1000:Int)<(s.size:Int))=false:=decide_eq_false (by omega)
 have hs:s.size<=1000:=by omega
 have hP:=A4d (B4o (q:=q) (s:=s) (by omega) (F1e hs))
 cases hp:parM (wb s)with
 | error e=>
  have he:=F5b hp
  have d2:(e != 0)=true:=by rw[bne_iff_ne];exact he
  rw[hp]at hP;rw[show parT (.error e)=T.tu [.ag (encM mr0),iv e]from rfl]at hP;have g1:=A1i [sv s] (T.tu [.ag (encM mr0),iv e]);have s1:=sM (cs:=encM mr0) rfl;have C1:Ctx Tryz.prog (G q) _:=(A0s.cons hP (.cons (hEx (q:=q)) .nil)).ctx mixed;refine A0a C ?_;simp -implicitDefEqProofs [d1,hb];refine A0a C1 ?_;simp -implicitDefEqProofs [g1,s1];refine A0a C1 ?_;simp -implicitDefEqProofs [d2,e0]
 | ok m=>
  obtain⟨hck,hpr⟩:=F7n hp;have sm:=F9r hs hp;rw[hp]at hP;rw[show parT (.ok m)=T.tu [.ag (outC m),iv 0]from rfl]at hP;have hW:=A4d (B4m (q:=q) (C0a m) sm (A5t.1 hck).1);rw[hpr,F7h]at hW
  have ck:C2b [.ag (outC m)]=some (iv 0):=by
   have:=B3a (fun m=>iv (A3c A0h m)) (C0a m) sm;rw[hck]at this;exact this
  obtain⟨co,hco⟩:∃co,co=outC m:=⟨_,rfl⟩
  have h5:co.length=5:=by rw[hco];rfl
  rw[<-hco]at hP hW ck;have g1:=A1i [sv s] (T.tu [.ag co,iv 0]);have g2:=A1i [.ag co] (sv s);have s1:=sM h5;have l0:=lM5 h5 (H:=[(0,mRow co)]) (k:=0) rfl;have C1:Ctx Tryz.prog (G q) _:=(A0s.cons hP (.cons (D1s (q:=q)) (.cons hW (.cons (hEx (q:=q)) .nil)))).ctx mixed;refine A0a C ?_;simp -implicitDefEqProofs [d1,hb];refine A0a C1 ?_;simp -implicitDefEqProofs [g1,s1];refine MC.sub (s':=⟨[(4,.t (iv 0)),(3,.ptr 0 0),(0,.t (sv s))],[(0,mRow co)],1,29⟩) (A0d (by simp -implicitDefEqProofs)) rfl ?_;refine A0a C1 ?_;simp -implicitDefEqProofs;refine A0e C1 ?_;simp -implicitDefEqProofs [l0,ck,g2,e0]
end Go.Proofs.YtmgjopafgboljaaGreatDoor
