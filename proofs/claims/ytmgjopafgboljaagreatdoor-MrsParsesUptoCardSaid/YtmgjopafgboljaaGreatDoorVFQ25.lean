/- Auxiliary facts. -/
import Derived.Test.YtmgjopafgboljaaGreatDoorVFQ22
set_option linter.unusedSimpArgs false
set_option maxRecDepth 100000
set_option maxHeartbeats 0
set_option linter.unusedVariables false
open Go.Proofs.Tryz renaming prog->Xc
namespace Go.Proofs.YtmgjopafgboljaaGreatDoor
open Go Go.Abs
variable {q : Gl}
theorem A2e {s:List UInt8} {m:Mr} (h:DB s = .ok m):∃raw l,Dn (s.length+1) ⟨s,0,[]⟩=(⟨[],0,l⟩,raw):=by
 unfold DB at h;split at h
 .cases h
 split at h
 .cases h
 rename_i h1;obtain⟨m',seen,hEq,_⟩:=Ov (n:=s.length+1) (s:=s) (by omega) (by simpa using h1);exact⟨m',seen,hEq⟩
theorem A2f {s:ByteArray} {m:Mr} (hs:s.size<=1000) (h:DB (wb s) = .ok m):SmM m:=by
 obtain⟨raw,l,hf⟩:=A2e h;rw[A1x h hf];exact O9 hs raw l hf
theorem A2g:SmM mr0:=⟨by decide,by decide,by decide,by decide,by decide,by decide⟩
theorem A2h {s:ByteArray}:Bc Xc (G q) 7 [sv s] (· = bv true):=by
 have e0:=Gg [] (bv true);have C:Ctx Xc (G q) _:=(AB.cons (hEx (q:=q)) .nil).ctx mixed;refine A1c.call rfl ?_;(conv in bZ=>cbv);refine Ao C ?_;simp -implicitDefEqProofs;by_cases hb:1000<s.size
 .have d1:decide ((1000:Int)<(s.size:Int))=true:=zq (by omega);refine Ao C ?_;simp -implicitDefEqProofs [d1,hb,e0]
 have d1:decide ((1000:Int)<(s.size:Int))=false:=zt (by omega)
 have hs:s.size<=1000:=by omega
 have hP:=FG (bQ (q:=q) (s:=s) (by omega) (O9 hs));have hQ:=FG (A0u (q:=q) (s:=s) (by omega) (O9 hs))
 have key:∃(cp:List T) (e:Int),cp.length=5/\I5 (DB (wb s)) = .tu [.ag cp,iv e]/\∃m,BJ m cp/\SmM m:=by
  cases hp:DB (wb s)with
  | error e=>exact⟨Bm mr0,e,rfl,rfl,mr0,Ic _,A2g⟩
  | ok m=>exact⟨Dz m,0,rfl,rfl,m,R3 m,A2f hs hp⟩
 obtain⟨cp,e,h5,hpe,m,hm,sm⟩:=key;rw[hpe]at hP hQ;have hE:=FG (A0x (q:=q) hm hm sm);have g1:=Gg [sv s] (T.tu [.ag cp,iv e]);have g2:=Gg [.ag cp,.ag cp] (bv true);have s1:=sM h5;have l0:=lM5 h5 (H:=[(1,Br cp),(0,Br cp)]) (k:=0) rfl;have l1:=lM5 h5 (H:=[(1,Br cp),(0,Br cp)]) (k:=1) rfl;have C1:Ctx Xc (G q) _:=(AB.cons hP (.cons hQ (.cons hE (.cons (hEx (q:=q)) .nil)))).ctx mixed;refine Ao C ?_;simp -implicitDefEqProofs [d1,hb];refine Ao C1 ?_;simp -implicitDefEqProofs [g1,s1];refine Ao C1 ?_;simp -implicitDefEqProofs [g1,s1];refine MC.sub (s':=⟨[(6,.t (iv e)),(5,.ptr 1 0),(4,.t (iv e)),(3,.ptr 0 0)],[(1,Br cp),(0,Br cp)],2,32⟩) (Aw (by simp -implicitDefEqProofs)) rfl ?_;refine A8 C1 ?_;simp -implicitDefEqProofs [l0,l1,g2,e0]
end Go.Proofs.YtmgjopafgboljaaGreatDoor
