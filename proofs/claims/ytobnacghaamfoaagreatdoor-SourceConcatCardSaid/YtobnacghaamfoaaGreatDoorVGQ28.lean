/- Auxiliary facts. -/
import Derived.Test.YtobnacghaamfoaaGreatDoorVGQ27
set_option linter.unusedSimpArgs false
set_option linter.unusedVariables false
open List renaming take_append_of_le_length->Xa,takeWhile_cons->Xb,cons_append->Xc
namespace Go.Proofs.YtobnacghaamfoaaGreatDoor
open Go Go.Abs
section
variable {α : Type} {z : Nat} {h : 0 < z} {R : α -> List T -> Prop} {t : T} {l : List α}
theorem IsL.nil:IsL z h R Ah ([]:List α):=⟨[],rfl,.inl ⟨rfl,rfl⟩,λ_ hp=>by cases hp⟩
end
def Sep (X:List UInt8):Prop:=∀c r,X=c::r->c.toNat=32\/c.toNat=10\/c.toNat=9\/c.toNat=13
theorem Uc {p:UInt8->Bool} (hp:∀c:UInt8,c.toNat=32\/c.toNat=10\/c.toNat=9\/c.toNat=13->p c=false) {X:List UInt8} (h:Sep X):∀D:List UInt8,(D++X).takeWhile p=D.takeWhile p
 | []=>by
  cases X with
  | nil=>rfl
  | cons c r=>rw[List.nil_append,Xb,zz (by rw[hp c (h c r rfl)];simp)];rfl
 | c::D=>by
  rw[Xc,Xb,Xb,Uc hp h D]
theorem dN (big:Bool) (c:UInt8) (h:c.toNat=32\/c.toNat=10\/c.toNat=9\/c.toNat=13):BL big c=false:=by
 unfold BL AR Bq B7;rcases h with h | h | h | h<;>rw[h]<;>cases big<;>rfl
theorem dO (c:UInt8) (h:c.toNat=32\/c.toNat=10\/c.toNat=9\/c.toNat=13):AR c=false:=by
 unfold AR;rcases h with h | h | h | h<;>rw[h]<;>rfl
theorem dP (big:Bool) (D:List UInt8) {X:List UInt8} (h:Sep X):AB big (D++X)=AB big D:=by
 unfold AB;rw[Uc (dN big) h]
theorem A1c (c:UInt8) (r X:List UInt8):Cu (c::r++X)=Cu (c::r):=rfl
theorem A1d (c:UInt8) (r:List UInt8):Cu (c::r)<=1:=by unfold Cu;split<;>omega
theorem A1e (c:UInt8) (r:List UInt8) {X:List UInt8} (h:Sep X):AX (c::r++X)=AX (c::r):=by
 unfold AX;rw[A1c,List.drop_append_of_le_length (by have:=A1d c r;simp;omega),Uc dO h]
theorem dQ:∀(D X:List UInt8),(A9 D).2=0->A9 (D++X)=A9 D
 | [],X,h=>by cases h
 | c::D,X,h=>by
  rw[Xc];rw[A9]at h ⊢;rw[A9];by_cases h1:c.toNat=34
  .rw[zy h1,zy h1]
  .rw[zz h1]at h ⊢;rw[zz h1];by_cases h2:prt c=true
   .rw[zy h2]at h ⊢;rw[zy h2,dQ D X h]
   .rw[zz h2]at h;cases h
theorem A1f (c:UInt8) (r:List UInt8) {X:List UInt8} (h:Sep X):A8 (c::r++X)=A8 (c::r):=by
 cases r with
 | nil=>
  cases X with
  | nil=>rfl
  | cons x X=>
   have hx:=h x X rfl;have e:[c]++x::X=c::x::X:=rfl;rw[e,HY,L3]
   have h1:(33==x)=false:=by rw[zu];intro e;subst e;rcases hx with h | h | h | h<;>revert h<;>decide
   have h2:(62==x)=false:=by rw[zu];intro e;subst e;rcases hx with h | h | h | h<;>revert h<;>decide
   rw[h1,h2];simp
 | cons d r=>
  have e:c::d::r++X=c::d::(r++X):=rfl;rw[e,HY,HY]
theorem dR (c:UInt8) (r:List UInt8) {X:List UInt8} (h:Sep X) (he:(Ax (c::r)).e=0):Ax (c::r++X)=Ax (c::r):=by
 have hcons:c::r++X=c::(r++X):=rfl;rw[Ax]at he
 have hL:Ax (c::r++X)=if B7 c then⟨1,(c::r++X).take (AB false (c::r++X)),if 32<AB false (c::r++X)then 7 else 0,AB false (c::r++X)⟩
  else if Bq c then⟨2,(c::r++X).take (AB true (c::r++X)),if 32<AB true (c::r++X)then 7 else 0,AB true (c::r++X)⟩
  else if AR c||decide (c.toNat=45)then⟨4,(c::r++X).take (AX (c::r++X)),D0 ((c::r++X).take (AX (c::r++X))),AX (c::r++X)⟩
  else if c.toNat=34 then⟨3,(r++X).take (A9 (r++X)).1,(A9 (r++X)).2,1+(A9 (r++X)).1+(if(A9 (r++X)).2=0 then 1 else 0)⟩
  else⟨5,(c::r++X).take (A8 (c::r++X)).1,(A8 (c::r++X)).2,(A8 (c::r++X)).1⟩:=by
  rw[hcons,Ax];rfl
 rw[hL,Ax];split
 .rename_i t1;rw[dP false _ h,Xa (IQ _ _)]
 .rename_i t1;rw[zz t1]at he;split
  .rename_i t2;rw[dP true _ h,Xa (IQ _ _)]
  .rename_i t2;rw[zz t2]at he;split
   .rename_i t3;rw[A1e c r h,Xa (MA _)]
   .rename_i t3;rw[zz t3]at he;split
    .rename_i t4;rw[zy t4]at he;have he':(A9 r).2=0:=he;have hq:=ME r;rw[dQ r X he',Xa hq.1];rfl
    .rename_i t4;rw[zz t4]at he;rw[A1f c r h,Xa];have:=(IR (c::r) rfl (by rw[Ax,zz t1,zz t2,zz t3,zz t4];exact he)).2;rw[Ax,zz t1,zz t2,zz t3,zz t4]at this;exact this
end Go.Proofs.YtobnacghaamfoaaGreatDoor
