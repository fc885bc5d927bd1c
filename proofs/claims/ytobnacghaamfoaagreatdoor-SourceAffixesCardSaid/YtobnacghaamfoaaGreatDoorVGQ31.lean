/- Auxiliary facts. -/
import Derived.Test.YtobnacghaamfoaaGreatDoorVGQ30
import Derived.Test.YtobnacghaamfoaaGreatDoorVGQ25
import Derived.Test.YtobnacghaamfoaaGreatDoorVGQ14
import Derived.Test.YtobnacghaamfoaaGreatDoorVGQ10
set_option linter.unusedSimpArgs false
set_option linter.unusedVariables false
namespace Go.Proofs.YtobnacghaamfoaaGreatDoor
open Go Go.Abs
variable {q : Gl} {t : T} {l : List Tok} {i : Nat}
section
variable (X : Row) (R : Ab) (i j : Nat) (t : T) (k v : Int) (s : List UInt8)
theorem gw1:AM 1 ((2,X)::(0,pr t i)::R) (.ptr 0 1) (.t (iv (j:Int)))=some ((2,X)::(0,pr t j)::R):=rfl
end
variable {q : Gl} {t : T} {l : List Tok} {i : Nat}
def EP (L:List KT) (p:Nat) (k:Int):Bool:=match L[p]? with
 | some t=>decide (t.1=k)
 | none=>false
def Fz (L:List KT) (p:Nat):Int:=if L.length<=p then 9 else 8
theorem eG {x:Tok} (hx:l[i]?=some x) (k:Int):EP (l.map kt) i k=decide (x.k=k):=by
 unfold EP;rw[List.getElem?_map,hx];rfl
theorem eH (hi:l.length<=i) (k:Int):EP (l.map kt) i k=false:=by
 unfold EP;rw[List.getElem?_eq_none (by simpa using hi)]
noncomputable def MX (l:List Tok) (t:T) (ts:List T):Option T:=open Classical in match ts with
 | [t',.v (.int .i64 i),.v (.string s)]=>if t'=t/\0<=i then some (bv (Be (l.map kt) i.toNat s.data.toList))else none
 | _=>none
noncomputable def Ki (l:List Tok) (t:T) (ts:List T):Option T:=open Classical in match ts with
 | [t',.v (.int .i64 i),.v (.int .i64 k)]=>if t'=t/\0<=i then some (bv (EP (l.map kt) i.toNat k))else none
 | _=>none
noncomputable def Kj (l:List Tok) (t:T) (ts:List T):Option T:=open Classical in match ts with
 | [t',.v (.int .i64 i)]=>if t'=t/\0<=i then some (iv (Fz (l.map kt) i.toNat))else none
 | _=>none
theorem A2b (s:ByteArray):MX l t [t,iv (i:Int),sv s]=some (bv (Be (l.map kt) i s.data.toList)):=by
 unfold MX;simp
theorem Uf (k:Int):Ki l t [t,iv (i:Int),iv k]=some (bv (EP (l.map kt) i k)):=by
 unfold Ki;simp
theorem Ug:Kj l t [t,iv (i:Int)]=some (iv (Fz (l.map kt) i)):=by
 unfold Kj;simp
end Go.Proofs.YtobnacghaamfoaaGreatDoor
