/- Auxiliary facts. -/
import Derived.Test.YtobnacghaamfoaaGreatDoorVGQ43
import Derived.Test.YtobnacghaamfoaaGreatDoorVGQ27
set_option linter.unusedSimpArgs false
set_option linter.unusedVariables false
namespace Go.Proofs.YtobnacghaamfoaaGreatDoor
open Go Go.Abs
theorem EU.ok {d:Dfn} (h:EU d):OkD d:=⟨(Nr _ 1 h.s).sized.fine,by have:=h.l;omega,λk hk=>(Nr _ 1 (h.d k hk)).sized.fine⟩
section
variable {m : Md} {B : Nat} (G : CY B m)
include G
theorem CY.ok (hB:B<=65536):HW m.ml:=by
 obtain⟨n0,n1,n2,n3,n4,n5,n6,n7,n8⟩:=G.lens
 exact⟨by omega,by omega,by omega,by omega,by omega,by omega,by omega,by omega,by omega,
  λd hd=>by have:=G.t d hd;have h1:=this.ls;have h2:=this.lf;exact⟨by omega,by omega⟩,
  λd hd=>(G.tm d hd).1.ok,λd hd=>by have:=G.en d hd;exact⟨by omega,this.1.2.2.ok⟩,λd hd=>by have:=G.lx d hd;exact⟨by omega,this.1.d.ok⟩,
  λd hd=>(G.ru d hd).1.ok,λd hd=>(G.ro d hd).1.ok,λd hd=>by have:=G.ck d hd;omega⟩
end
end Go.Proofs.YtobnacghaamfoaaGreatDoor
