/-
  PROVED: GeneralPathsUptoSaid: for all declarations and feature structures of bulk at most 1048576 the law GeneralPaths returns true, and what came in reads behind the call as before. Its conditions are the statement's own.
-/
import Derived.Test.YtbiadmfmjnoecaaVRQ32
import Derived.Test.YtbiadmfmjnoecaaVRQ43
namespace Go.Proofs.Ytbiadmfmjnoecaa.generalPaths
set_option linter.unusedSimpArgs false
set_option linter.unusedVariables false
open Go Go.Abs Go.ChangeShapes Go.WideShapes Go.ChangeAt Go.RowKit
theorem own:ownKnob Try.prog.godebug=none:=by kernel_rfl
theorem laidOut:laidOutB Try.prog=true:=by kernel_rfl
set_option maxRecDepth 100000 in
theorem contract (H:Type) (enc:TypeId×Value->H) (W:World) (base:Nat) (args:Array Value) (ds gs:List (DataW H)) (A6o:List MemPlace)
  (hval:∀(j:Nat) t v,Try.f14.params[j]?=some t->args[j]?=some v->Value.okWide Try.prog W .any base t v)
  (hW:DataW.Whole enc Try.prog Try.f14.params.toList Rows.generalPathsSpec.vars false W args.toList ds gs A6o) (hk:Rows.uptoSmall H (ds++gs)=true) :
  Calls Try.prog 14 args W fun e W'=>∃v,e = .returned v/\Rows.generalPathsSpec.post enc Try.prog Try.f14 false true false false W args v W':=by
 have hW':=hW
 obtain⟨p,q,hA0,hV,rfl,hfz,hnd⟩:=hW
 have hA:DataW.TrodAll enc Try.prog W 0 (fun _=>true) true Try.f14.params.toList args.toList ds p:=hA0
 rw[Try.params14]at hA hval
 obtain⟨v0,vs0,d0,ds0,p0,q0,hargs,rfl,rfl,h0,r0⟩:=trodAll_cons hA
 obtain⟨v1,vs1,d1,ds1,p1,q1,rfl,rfl,rfl,h1,r1⟩:=trodAll_cons r0
 obtain⟨v2,vs2,d2,ds2,p2,q2,rfl,rfl,rfl,h2,r2⟩:=trodAll_cons r1
 obtain⟨rfl,rfl,rfl⟩:=trodAll_nil r2
 obtain rfl:args = #[v0,v1,v2]:=by cases args;simp_all
 obtain⟨rfl,rfl⟩:=trodVars_none hV
 obtain⟨a0,len0,cap0,e0⟩:=okWide_slice Try.underlying22 (hval 0 22 v0 (by simp) (by simp))
 obtain⟨u1,e1,_⟩:=okWide_struct Try.underlying25 (hval 1 25 v1 (by simp) (by simp))
 obtain⟨u2,e2,_⟩:=okWide_struct Try.underlying25 (hval 2 25 v2 (by simp) (by simp))
 have lt0:∀x∈p0,x.block<W.heap.size:=by obtain⟨m,hm⟩:=h0;exact DataW.trod_lt m _ _ _ hm
 have lt1:∀x∈p1,x.block<W.heap.size:=by obtain⟨m,hm⟩:=h1;exact DataW.trod_lt m _ _ _ hm
 have lt2:∀x∈p2,x.block<W.heap.size:=by obtain⟨m,hm⟩:=h2;exact DataW.trod_lt m _ _ _ hm
 have hb:Rows.uptoBulk d0<=1048576:=by
  have:Rows.uptoBulkAll ([d0,d1,d2]++[])<=1048576:=of_decide_eq_true hk
  simp only[List.cons_append,List.nil_append,Rows.uptoBulkAll]at this
  omega
 obtain⟨x0,l0,i0,k0,t0⟩:=F2t h0 e0 hb
 obtain⟨x1,l1,i1,t1⟩:=F8l h1 e1
 obtain⟨x2,l2,i2,t2⟩:=F8l h2 e2
 clear hA0
 refine((E5m i0 k0 i1 i2).true (fun g cs hg=>by cases hg) (us:=#[v0,v1,v2]) (by simp only[RepL];exact⟨_,_,rfl,t0,_,_,rfl,t1,_,_,rfl,t2,rfl⟩)).mono fun e W' ⟨he,bel⟩=>?_
 subst he
 exact⟨_,rfl,_,_,_,[],_,[],hW',trodAll_mk1 (shut_bool Try.underlying4 _),(trodAll_cons_mk (Below.trod laidOut (by kernel_rfl) (of_decide_eq_true (by kernel_rfl)) h0 bel lt0) (trodAll_cons_mk (Below.trod laidOut (by kernel_rfl) (of_decide_eq_true (by kernel_rfl)) h1 bel lt1) (trodAll_cons_mk (Below.trod laidOut (by kernel_rfl) (of_decide_eq_true (by kernel_rfl)) h2 bel lt2) trodAll_mk0))),rfl,bel.frame _,fun h=>by cases h⟩
set_option maxRecDepth 100000 in
theorem A4s (os:Os) (started:os.Started) (H:Type) (enc:TypeId×Value->H) (F:Stop.Interp) :
  ReturnsInHanded {} Try.checked os 14 .any ((Rows.OpenSpec.upto Rows.generalPathsSpec).pre6 enc Try.prog Try.f14 Rows.generalPathsUptoRow.domain false) (((Rows.OpenSpec.upto Rows.generalPathsSpec).at F).post enc Try.prog Try.f14 false true false false):=by
 refine returnsInHanded_of_cond (C:=Try.checked) (s:=Rows.OpenSpec.upto Rows.generalPathsSpec) (k:=Rows.uptoSmall) rfl own started (by kernel_rfl) Try.func14
  (OpenSpec.witness (enc:=enc) (C:=Try.checked) (s:=Rows.OpenSpec.upto Rows.generalPathsSpec) (k:=Rows.uptoSmall) rfl false ⟨#[],#[.slice none 0 0,.agg #[.slice none 0 0],.agg #[.slice none 0 0]],[]⟩ 8 (by kernel_rfl) (by kernel_rfl) (by kernel_rfl)
   (x:=([.nil,.agg [.nil],.agg [.nil]],[],[])) (by kernel_rfl) rfl (by kernel_rfl)) ?_
 intro W base args ds gs A6o hval hW _ hk _
 exact contract H enc W base args ds gs A6o hval hW hk
theorem over:Rows.generalPathsUptoRow.holds Try.pinned (Rows.OpenSpec.upto Rows.generalPathsSpec):=
 OpenClaim.holds_of_cond 14 Try.f14 rfl rfl rfl rfl rfl rfl rfl ⟨rfl,rfl,rfl,rfl,rfl⟩ rfl rfl rfl rfl rfl (by kernel_rfl) Try.func14 (by kernel_rfl)
  (of_decide_eq_true (by kernel_rfl)) (by unfold Func.isWrapper;first | (rw[if_pos (by decide +kernel)];kernel_rfl) | (rw[if_neg (by decide +kernel)];exact⟨rfl,rfl⟩))
  (fun os started H enc _ F=>A4s os started H enc F)
theorem proved:Rows.GeneralPathsUptoSaid:=
 over
end Go.Proofs.Ytbiadmfmjnoecaa.generalPaths
