/- Auxiliary facts. -/
import Derived.Test.YtmgjopafgboljaaGreatDoorVEQ69
import Derived.Test.YtmgjopafgboljaaGreatDoorVEQ20
import Derived.Test.YtmgjopafgboljaaGreatDoorVEQ54
set_option linter.unusedSimpArgs false
set_option maxRecDepth 100000
set_option maxHeartbeats 0
set_option linter.unusedVariables false
namespace Go.Proofs.YtmgjopafgboljaaGreatDoor
open Go Go.Abs
variable {q : Gl}
section
variable {a b c : Mr} {ca cb cc : List T}
theorem F1m (ha:InM a ca) (hb:InM b cb) (hc:InM c cc):A1d Tryz.prog (G q) 9 [.ag ca,.ag cb,.ag cc] (· = bv true):=by
 have e0:=A1i [] (bv true);have c1:=cdM ha;have c2:=cdM hb;have c3:=cdM hc
 obtain⟨H0,hH0⟩:∃H0:Heap,H0=[(2,mRow cc),(1,mRow cb),(0,mRow ca)]:=⟨_,rfl⟩
 have l1:=allM ha (H:=H0) (k:=0) (by rw[hH0];rfl);have l2:=allM hb (H:=H0) (k:=1) (by rw[hH0];rfl);have l3:=allM hc (H:=H0) (k:=2) (by rw[hH0];rfl);have v1:=D3v ha (k:=5) (by omega);have v2:=D3v hb (k:=5) (by omega);have v3:=D3v hc (k:=5) (by omega);have C:Ctx Tryz.prog (G q) _:=(A0s.cons (hVl (q:=q)) (.cons (hSm (q:=q)) (.cons (hEx (q:=q)) .nil))).ctx mixed;refine B3f.call rfl ?_;(conv in A7a=>cbv);refine A0a C ?_;simp -implicitDefEqProofs [c1,c2,c3];refine MC.sub (s':=⟨[(5,.ptr 2 0),(4,.ptr 1 0),(3,.ptr 0 0)],H0,3,51⟩) (by rw[hH0];exact A0d (by simp -implicitDefEqProofs)) rfl ?_
 cases hva:valB a 5 with
 | false=>
  rw[hva]at v1;refine A0a C ?_;simp -implicitDefEqProofs [l1,v1,e0]
 | true=>
 rw[hva]at v1
 cases hvb:valB b 5 with
 | false=>
  rw[hvb]at v2;refine A0a C ?_;simp -implicitDefEqProofs [l1,v1,l2,v2,e0]
 | true=>
 rw[hvb]at v2
 cases hvc:valB c 5 with
 | false=>
  rw[hvc]at v3;refine A0a C ?_;simp -implicitDefEqProofs [l1,v1,l2,v2,l3,v3,e0]
 | true=>
 rw[hvc]at v3;refine A0a C ?_;simp -implicitDefEqProofs [l1,v1,l2,v2,l3,v3];obtain⟨ma,fa⟩:=B7x ha hva;obtain⟨mb,fb⟩:=B7x hb hvb;obtain⟨mc,fc⟩:=B7x hc hvc;have iff:∀{x y:Mr} {cx cy:List T},MtIn x cx->MtIn y cy->full x->((A1r (A1l x y) x y).isSome=true ↔ Corr x y):=fun hx hy fx=>B4g hx.lo.ok hy.lo.ok fx;have s1:=C6h ma fa ma fa;rw[(iff ma ma fa).2 (Corr.refl a)]at s1;have s2:=C6h ma fa mb fb;have s3:=C6h mb fb ma fa;have s4:=C6h mb fb mc fc;have s5:=C6h ma fa mc fc
 have e23:(A1r (A1l b a) b a).isSome=(A1r (A1l a b) a b).isSome:=by
  rw[Bool.eq_iff_iff,iff mb ma fb,iff ma mb fa];exact⟨fun h=>h.symm mb.lo.ok,fun h=>h.symm ma.lo.ok⟩
 rw[e23]at s3;have tr:(A1r (A1l a b) a b).isSome=true->(A1r (A1l b c) b c).isSome=true->(A1r (A1l a c) a c).isSome=true:=fun h1 h2=>(iff ma mc fa).2 (((iff ma mb fa).1 h1).trans ((iff mb mc fb).1 h2))
 obtain⟨x,hx⟩:∃x,x=(A1r (A1l a b) a b).isSome:=⟨_,rfl⟩
 obtain⟨y,hy⟩:∃y,y=(A1r (A1l b c) b c).isSome:=⟨_,rfl⟩
 obtain⟨z,hz⟩:∃z,z=(A1r (A1l a c) a c).isSome:=⟨_,rfl⟩
 rw[<-hx]at s2 s3 tr;rw[<-hy]at s4 tr;rw[<-hz]at s5 tr
 cases x with
 | false=>
  refine A0a C ?_;simp -implicitDefEqProofs [l1,l2,l3,s1,s2,s3];refine A0e C ?_;simp -implicitDefEqProofs [e0]
 | true=>
 cases y with
 | false=>
  refine A0a C ?_;simp -implicitDefEqProofs [l1,l2,l3,s1,s2,s3,s4];refine A0e C ?_;simp -implicitDefEqProofs [e0]
 | true=>
 rw[tr rfl rfl]at s5;refine A0a C ?_;simp -implicitDefEqProofs [l1,l2,l3,s1,s2,s3,s4,s5];refine A0e C ?_;simp -implicitDefEqProofs [e0]
end
end Go.Proofs.YtmgjopafgboljaaGreatDoor
