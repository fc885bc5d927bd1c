/-
 Auxiliary facts. No statement of the program stands here.
-/
import Derived.Test.YtbiadmfmjnoecaaVRQ38
import Derived.Test.YtbiadmfmjnoecaaVRQ29
namespace Go.Proofs.Ytbiadmfmjnoecaa
set_option linter.unusedSimpArgs false
set_option linter.unusedVariables false
open Go Go.Abs
set_option maxRecDepth 100000
theorem C1o {α:Type} {e:Enc α} {ty b c:Nat} {l:List α} {H:Heap} (h:c≠b):Abs.look (rowH e ty b l++H) c=Abs.look H c:=by
 cases l with
 | nil=>rfl
 | cons x r=>simp only[rowH,List.cons_append,List.nil_append,look_cons,if_neg (Ne.symm h)]
theorem C3o {α:Type} {e:Enc α} {ty b c:Nat} {l:List α} {H:Heap} (h:c≠b):Abs.look (H++rowH e ty b l) c=Abs.look H c:=by
 have:Abs.look (rowH e ty b l) c=none:=by
  have:=C1o (e:=e) (ty:=ty) (l:=l) (H:=[]) h
  rwa[List.append_nil]at this
 rw[C9k,this,Option.or_none]
def B9i:List (List Nat):=[[],[],[],[1,2],[3],[4],[],[6],[7],[5,8],[9],[0,10],[11,0,1]]
theorem G4x:G4u o93Z B9i=true:=by kernel_rfl
theorem F3e:G4v o93Z=true:=by kernel_rfl
theorem G9h:o93Z.size=13:=by kernel_rfl
def T93Z (i:Nat) (f:Int) (p:List Int) (ps:List (List Int)):List (Nat×PV×PV):=
 [(63,rowP ePth 7 ps,.dead),(64,rowP ePth 7 ps,.dead),(65,.t (iv (i:Int)),.dead),(66,.ptr 7 i,.dead),(67,.t (A0k eInt p),.dead),(68,rowP eInt 9 p,.dead),(69,.ptr 8 0,.dead),(70,.t (iv f),.dead),
  (71,.t (.sl 1 [iv f]),.dead),(72,.t (A0k eInt (p++[f])),.dead),(73,.t (.sl 1 [A0k eInt (p++[f])]),.dead),(74,rowP ePth 10 (ps++[p++[f]]),.dead),(5,rowP ePth 10 (ps++[p++[f]]),rowP ePth 7 ps)]
def E93Z (l i j n:Nat) (s42 N s3:PV):List (Nat×PV):=[(44,.t (iv (j:Int))),(43,.t (iv (n:Int))),(42,s42),(8,.ptr 8 0),(6,.t (iv (i:Int))),(4,N),(3,s3),(1,.ptr 3 0),(0,yv l)]
structure F9u (b:Nat->Bool):Prop where
 a:b 5=true->b 4=true
 c:b 9=true->b 5=true/\b 8=true
 d:b 8=true->b 7=true
 e:b 10=true->b 9=true
 f:b 11=true->b 10=true
 g:b 12=true->b 11=true/\b 0=true/\b 1=true
def h93Z (p:List Int) (f:Int) (ps:List (List Int)) (H:Heap) (b:Nat->Bool):Heap:=
 if b 11 then rem H 7++rowH ePth 33 10 (ps++[p++[f]])else if b 9 then H else if b 5 then H++rowH eInt 3 9 p else H
structure H93Z (ps:List (List Int)) (f:Int) (H:Heap):Prop where
 all:∀q∈H,Abs.look H q.1=some q.2/\q.1<9/\A0z 9 q.2=true
 row:A0j ePth 33 H 7 ps
 arc:∃ty cs,Abs.look H 8=some (.cells ty (.t (iv f)::cs))
noncomputable def hx30:HTbl:=[(73,E1d)]
theorem cx30:Ctx Try.prog G (orh [] hx30):=A1t.nil.ctxH (A8b.cons E1e .nil) A1u
section
variable {l i j n : Nat} {s42 N s3 : PV} {f : Int} {p : List Int} {ps : List (List Int)} {H : Heap}
theorem G4y:((T93Z i f p ps).map (·.1)).Nodup:=by
 show [63,64,65,66,67,68,69,70,71,72,73,74,5].Nodup
 decide
theorem e93Z:∀q∈E93Z l i j n s42 N s3,q.1∉(T93Z i f p ps).map (·.1)/\Abs.look (E93Z l i j n s42 N s3) q.1=some q.2:=by
 intro q hq
 have e:(T93Z i f p ps).map (·.1)=[63,64,65,66,67,68,69,70,71,72,73,74,5]:=rfl
 rw[e]
 simp only[E93Z,List.mem_cons,List.not_mem_nil,or_false]at hq
 rcases hq with rfl | rfl | rfl | rfl | rfl | rfl | rfl | rfl | rfl<;>exact⟨by simp,rfl⟩
theorem u93Z (h1:under 9 s42=true) (h2:under 9 N=true) (h3:under 9 s3=true):∀q∈E93Z l i j n s42 N s3,under 9 q.2=true:=by
 intro q hq
 simp only[E93Z,List.mem_cons,List.not_mem_nil,or_false]at hq
 rcases hq with rfl | rfl | rfl | rfl | rfl | rfl | rfl | rfl | rfl<;>first | rfl | assumption
theorem t93Z {k:Nat} {y:Nat×PV×PV} (h:(T93Z i f p ps)[k]?=some y):(k≠5->k<11->under 9 y.2.1=true)/\(k=5->under 10 y.2.1=true)/\under 11 y.2.1=true/\under 9 y.2.2=true/\(k≠5->∀c,(if(10:Nat)=9 then c else 10)=10):=by
 refine⟨fun h5 h11=>?_,fun h5=>?_,?_,?_,fun _ c=>rfl⟩
 ·rcases k with _ | _ | _ | _ | _ | _ | _ | _ | _ | _ | _ | k<;>first | omega | (injection h with h;subst h;first | rfl | exact A0e _ _ _ _ (by omega))
 ·subst h5
  injection h with h
  subst h
  exact A0e _ _ _ _ (by omega)
 ·rcases k with _ | _ | _ | _ | _ | _ | _ | _ | _ | _ | _ | _ | _ | k<;>first | (injection h with h;subst h;first | rfl | exact A0e _ _ _ _ (by omega)) | (simp[T93Z]at h)
 ·rcases k with _ | _ | _ | _ | _ | _ | _ | _ | _ | _ | _ | _ | _ | k<;>first | (injection h with h;subst h;first | rfl | exact A0e _ _ _ _ (by omega)) | (simp[T93Z]at h)
def s93Z (l i j n:Nat) (s42 N s3:PV) (f:Int) (p:List Int) (ps:List (List Int)) (H:Heap) (b:Nat->Bool):A0b:=⟨envB (T93Z i f p ps) 0 b++E93Z l i j n s42 N s3,h93Z p f ps H b,11,76⟩
theorem B7o {b:Nat->Bool} {k:Nat} {x:Nat×PV×PV} {H0:Heap} (hx:(T93Z i f p ps)[k]?=some x) (h:H0=h93Z p f ps H fun m=>if k=m then true else b m) :
  Sub Try.prog G 5 (({ s93Z l i j n s42 N s3 f p ps H b with H:=H0,nx:=11 }:A0b).put (some x.1) x.2.1) (s93Z l i j n s42 N s3 f p ps H fun m=>if k=m then true else b m):=by
 subst h
 exact E7y G4y e93Z hx
theorem H93Z.look8 (hH:H93Z ps f H) (b:Nat->Bool):∃ty cs,Abs.look (h93Z p f ps H b) 8=some (.cells ty (.t (iv f)::cs)):=by
 obtain⟨ty,cs,h⟩:=hH.arc
 refine⟨ty,cs,?_⟩
 unfold h93Z
 split
 ·rw[C9k,A1m,if_neg (by omega),h]
  rfl
 ·split
  ·exact h
  ·split
   ·rw[C9k,h]
    rfl
   ·exact h
theorem H93Z.load (hH:H93Z ps f H) (b:Nat->Bool):A0f false 1 (h93Z p f ps H b) (.ptr 8 0)=some (.t (iv f)):=by
 obtain⟨ty,cs,h⟩:=hH.look8 (p:=p) b
 simp[A0f,h]
theorem E1j {b:Nat->Bool} (h5:b 5=false) (ok:F9u b):h93Z p f ps H b=H:=by
 have h9:b 9=false:=by cases e:b 9;rfl;rw[(ok.c e).1]at h5;cases h5
 have h10:b 10=false:=by cases e:b 10;rfl;rw[ok.e e]at h9;cases h9
 have h11:b 11=false:=by cases e:b 11;rfl;rw[ok.f e]at h10;cases h10
 unfold h93Z
 rw[h11,h9,h5]
 rfl
theorem A7e {b:Nat->Bool} {k:Nat} (ok:F9u b) (h5:k=5->b 4=true) (h9:k=9->b 5=true/\b 8=true) (h8:k=8->b 7=true) (h10:k=10->b 9=true) (h11:k=11->b 10=true) (h12:k=12->b 11=true/\b 0=true/\b 1=true):F9u fun m=>if k=m then true else b m:=by
 have up:∀m,b m=true->(if k=m then true else b m)=true:=fun m h=>by split;rfl;exact h
 refine⟨fun h=>?_,fun h=>?_,fun h=>?_,fun h=>?_,fun h=>?_,fun h=>?_⟩
 ·split at h
  ·rename_i e;exact up _ (h5 e)
  ·exact up _ (ok.a h)
 ·split at h
  ·rename_i e;exact⟨up _ (h9 e).1,up _ (h9 e).2⟩
  ·exact⟨up _ (ok.c h).1,up _ (ok.c h).2⟩
 ·split at h
  ·rename_i e;exact up _ (h8 e)
  ·exact up _ (ok.d h)
 ·split at h
  ·rename_i e;exact up _ (h10 e)
  ·exact up _ (ok.e h)
 ·split at h
  ·rename_i e;exact up _ (h11 e)
  ·exact up _ (ok.f h)
 ·split at h
  ·rename_i e;exact⟨up _ (h12 e).1,up _ (h12 e).2.1,up _ (h12 e).2.2⟩
  ·exact⟨up _ (ok.g h).1,up _ (ok.g h).2.1,up _ (ok.g h).2.2⟩
end
section
variable {l i j n : Nat} {s42 N s3 : PV} {f : Int} {p : List Int} {ps : List (List Int)} {H : Heap}
theorem ren9 {c k:Nat} {y:Nat×PV×PV} (h:(T93Z i f p ps)[k]?=some y) (h5:k≠5):ren (fun x=>if x=9 then c else x) y.2.1=y.2.1:=by
 by_cases h11:k<11
 ·exact A9h (n:=9) (fun b hb=>if_neg (by omega)) _ ((t93Z h).1 h5 h11)
 ·rcases k with _ | _ | _ | _ | _ | _ | _ | _ | _ | _ | _ | _ | _ | k
  all_goals first | omega | (injection h with h;subst h;simp only[A0g];rfl) | (simp[T93Z]at h)
theorem ren10 {c k:Nat} {y:Nat×PV×PV} (h:(T93Z i f p ps)[k]?=some y) (h11:k<11):ren (fun x=>if x=10 then c else x) y.2.1=y.2.1:=by
 refine A9h (n:=10) (fun b hb=>if_neg (by omega)) _ ?_
 by_cases h5:k=5
 ·exact(t93Z h).2.1 h5
 ·exact A4a (by omega) _ ((t93Z h).1 h5 h11)
theorem E5b {b:Nat->Bool} {k m:Nat} (h:k≠m):(if k=m then true else b m)=b m:=if_neg h
theorem F9v {Q:Exit->A0b->Prop} {id:Nat} (hH:H93Z ps f H) (hp:ps[i]?=some p) (hl:p.length<=1000000) (hps:ps.length<=1000000) (u42:under 9 s42=true) (uN:under 9 N=true) (u3:under 9 s3=true)
  (stop:Q .normal (s93Z l i j n s42 N s3 f p ps H fun _=>true)):A3l Try.prog G 5 (.region id o93Z true) Q ⟨(5,rowP ePth 7 ps)::E93Z l i j n s42 N s3,H,11,76⟩:=by
 have hz:eInt.z=1:=rfl
 have hzp:ePth.z=1:=rfl
 have hE:=u93Z (l:=l) (i:=i) (j:=j) (n:=n) u42 uN u3
 have i1:A1q 1 (rowP ePth 7 ps) (.t (iv (i:Int)))=some (.ptr 7 i):=by
  have:=A1r (e:=ePth) (b:=7) hp .i64
  rw[hzp,Nat.mul_one]at this
  exact this
 have l7:A0f false 1 H (.ptr 7 i)=some (.t (A0k eInt p)):=by
  have:=hH.row.load (off:=0) (c:=A0k eInt p) hp rfl
  rw[hzp,Nat.mul_one,Nat.add_zero]at this
  exact this
 refine C1a A1u cx30.sound G9a (s93Z l i j n s42 N s3 f p ps H) F9u (fun _=>rfl) (E5a F3e) ?_ ⟨fun h=>(by cases h),fun h=>(by cases h),fun h=>(by cases h),fun h=>(by cases h),fun h=>(by cases h),fun h=>(by cases h)⟩ (fun b ok k o m ho hm hbi hdeps=>?_) (fun b _ hall=>?_)
 ·refine E0q fun q hq=>?_
  rcases List.mem_append.1 hq with hq | hq
  ·obtain⟨k,x,h1,rfl⟩:=C1b hq
   have:∀x∈T93Z i f p ps,x.2.2 = .dead\/(x.1=5/\x.2.2=rowP ePth 7 ps):=by simp[T93Z]
   rcases this x (List.mem_of_getElem? h1)with h | ⟨h2,h3⟩
   ·exact .inl h
   ·right
    rw[h2]
    show some (rowP ePth 7 ps)=some x.2.2
    rw[h3]
  ·right
   have:=(e93Z (f:=f) (p:=p) (ps:=ps) q hq)
   have hne:(5:Nat)≠q.1:=fun e=>this.1 (by rw[<-e];simp[T93Z])
   show(if 5=q.1 then _ else _)=_
   rw[if_neg hne]
   exact this.2
 ·have hd:=E4z G4x ho hdeps
  have okq:(k≠5/\k≠9/\k≠8/\k≠10/\k≠11/\k≠12)->F9u fun m=>if k=m then true else b m:=fun h=>A7e ok (fun e=>absurd e h.1) (fun e=>absurd e h.2.1) (fun e=>absurd e h.2.2.1) (fun e=>absurd e h.2.2.2.1) (fun e=>absurd e h.2.2.2.2.1) (fun e=>absurd e h.2.2.2.2.2)
  rcases k with _ | _ | _ | _ | _ | _ | _ | _ | _ | _ | _ | _ | _ | k
  ·injection hm with hm;subst hm
   have h12:b 12=false:=by cases e:b 12;rfl;rw[(ok.g e).2.1]at hbi;cases hbi
   exact⟨rfl,rowP ePth 7 ps,h93Z p f ps H b,11,.inl (by simp -implicitDefEqProofs [s93Z,T93Z,envB,E93Z,h12]),okq (by omega),B7o (k:=0) rfl rfl⟩
  ·injection hm with hm;subst hm
   have h12:b 12=false:=by cases e:b 12;rfl;rw[(ok.g e).2.2]at hbi;cases hbi
   exact⟨rfl,rowP ePth 7 ps,h93Z p f ps H b,11,.inl (by simp -implicitDefEqProofs [s93Z,T93Z,envB,E93Z,h12]),okq (by omega),B7o (k:=1) rfl rfl⟩
  ·injection hm with hm;subst hm
   exact⟨rfl,.t (iv (i:Int)),h93Z p f ps H b,11,.inl (by simp -implicitDefEqProofs [s93Z,T93Z,envB,E93Z]),okq (by omega),B7o (k:=2) rfl rfl⟩
  ·injection hm with hm;subst hm
   have d1:b 1=true:=hd 1 (by simp[B9i])
   have d2:b 2=true:=hd 2 (by simp[B9i])
   exact⟨rfl,.ptr 7 i,h93Z p f ps H b,11,.inl (by simp -implicitDefEqProofs [s93Z,T93Z,envB,E93Z,d1,d2,i1]),okq (by omega),B7o (k:=3) rfl rfl⟩
  ·injection hm with hm;subst hm
   have d3:b 3=true:=hd 3 (by simp[B9i])
   have h5:b 5=false:=by cases e:b 5;rfl;rw[ok.a e]at hbi;cases hbi
   have hb:=E1j (p:=p) (f:=f) (ps:=ps) (H:=H) h5 ok
   exact⟨rfl,.t (A0k eInt p),h93Z p f ps H b,11,.inl (by simp -implicitDefEqProofs [s93Z,T93Z,envB,E93Z,d3,hb,l7]),okq (by omega),B7o (k:=4) rfl rfl⟩
  ·injection hm with hm;subst hm
   have d4:b 4=true:=hd 4 (by simp[B9i])
   have hb:=E1j (p:=p) (f:=f) (ps:=ps) (H:=H) hbi ok
   have h9:b 9=false:=by cases e:b 9;rfl;rw[(ok.c e).1]at hbi;cases hbi
   have h11:b 11=false:=by cases e:b 11;rfl;rw[ok.e (ok.f e)]at h9;cases h9
   have hc:=E1f (IsS.tree eInt p) hl (fun e=>by rw[e];rfl) H 11
   refine⟨rfl,rowP eInt 11 p,rowH eInt 3 11 p++H,12,.inl (by simp -implicitDefEqProofs [s93Z,T93Z,envB,E93Z,d4,hb,hx30,hc]),A7e ok (fun _=>d4) (fun e=>by omega) (fun e=>by omega) (fun e=>by omega) (fun e=>by omega) (fun e=>by omega),?_⟩
   have e1:h93Z p f ps H (fun m=>if 5=m then true else b m)=H++rowH eInt 3 9 p:=by
    show(if(if 5=11 then true else b 11)=true then _ else if(if 5=9 then true else b 9)=true then _ else _)=_
    rw[E5b (by omega),h11,E5b (by omega),h9]
    rfl
   show Sub _ _ _ ⟨(68,rowP eInt 11 p)::(envB (T93Z i f p ps) 0 b++E93Z l i j n s42 N s3),rowH eInt 3 11 p++H,12,76⟩ ⟨envB (T93Z i f p ps) 0 (fun m=>if 5=m then true else b m)++E93Z l i j n s42 N s3,h93Z p f ps H (fun m=>if 5=m then true else b m),11,76⟩
   rw[e1]
   refine sub_rowR (k:=11) (A0j.head _ _ _ _ _) (by omega) (by omega) (fun q hq=>?_) (D6d G4y e93Z (i:=5) (x:=(68,rowP eInt 9 p,.dead)) rfl (by rw[A0g];rfl) (A0e _ _ _ _ (by omega)) (fun k y hy hk=>⟨fun _=>⟨ren9 hy hk,(t93Z hy).2.2.1⟩,A9h (n:=9) (fun c hc=>if_neg (by omega)) _ (t93Z hy).2.2.2.1,A4a (by omega) _ (t93Z hy).2.2.2.1⟩) (fun q hq=>⟨A9h (n:=9) (fun c hc=>if_neg (by omega)) _ (hE q hq),A4a (by omega) _ (hE q hq)⟩))
   obtain⟨a1,a2,a3⟩:=hH.all q hq
   refine⟨?_,by omega,by omega,by omega,A3w (by omega) _ a3⟩
   rw[C1o (by omega),a1,B6e (n:=9) (fun c hc=>if_neg (by omega)) _ a3]
  ·injection hm with hm;subst hm
   exact⟨rfl,.ptr 8 0,h93Z p f ps H b,11,.inl (by simp -implicitDefEqProofs [s93Z,T93Z,envB,E93Z]),okq (by omega),B7o (k:=6) rfl rfl⟩
  ·injection hm with hm;subst hm
   have d6:b 6=true:=hd 6 (by simp[B9i])
   have ld:=hH.load (p:=p) b
   exact⟨rfl,.t (iv f),h93Z p f ps H b,11,.inl (by simp -implicitDefEqProofs [s93Z,T93Z,envB,E93Z,d6,ld]),okq (by omega),B7o (k:=7) rfl rfl⟩
  ·injection hm with hm;subst hm
   have d7:b 7=true:=hd 7 (by simp[B9i])
   have ts:A6u 3 1 [.int .i64 0] 1 [(0,.t (iv f))]=some (.t (.sl 1 [iv f])):=rfl
   exact⟨rfl,.t (.sl 1 [iv f]),h93Z p f ps H b,11,.inl (by simp -implicitDefEqProofs [s93Z,T93Z,envB,E93Z,d7,ts]),A7e ok (fun e=>by omega) (fun e=>by omega) (fun _=>d7) (fun e=>by omega) (fun e=>by omega) (fun e=>by omega),B7o (k:=8) rfl rfl⟩
  ·injection hm with hm;subst hm
   have d5:b 5=true:=hd 5 (by simp[B9i])
   have d8:b 8=true:=hd 8 (by simp[B9i])
   have h11:b 11=false:=by cases e:b 11;rfl;rw[ok.e (ok.f e)]at hbi;cases hbi
   have hb:h93Z p f ps H b=H++rowH eInt 3 9 p:=by
    unfold h93Z
    rw[h11,hbi,d5]
    rfl
   have r9:A0j eInt 3 (H++rowH eInt 3 9 p) 9 p:=A0j.right (A0j.head' _ _ _ _) fun q hq=>by have:=(hH.all q hq).2.1;omega
   obtain⟨b2,H2,n2,ap,r2,ne2,le2,lk2,ge2⟩:=A1k (e:=eInt) (by':=8) (nx:=11) (m:=[f]) r9 (A3f (t:=.sl 1 [iv f]) (.inr rfl)) (by simp;omega) (by simp;omega)
   rw[hz]at ap
   have hT:=r2.toT
   refine⟨rfl,.t (A0k eInt (p++[f])),remAll H2 (B1y b2 (p++[f])),n2,.inr (.inr ⟨rowP eInt b2 (p++[f]),H2,_,_,by simp -implicitDefEqProofs [s93Z,T93Z,envB,E93Z,d5,d8,hb,ap],hT,rfl,rfl⟩),A7e ok (fun e=>by omega) (fun _=>⟨d5,d8⟩) (fun e=>by omega) (fun e=>by omega) (fun e=>by omega) (fun e=>by omega),?_⟩
   have e1:h93Z p f ps H (fun m=>if 9=m then true else b m)=H:=by
    show(if(if 9=11 then true else b 11)=true then _ else H)=_
    rw[E5b (by omega),h11]
    rfl
   show Sub _ _ _ ⟨(72,.t (A0k eInt (p++[f])))::(envB (T93Z i f p ps) 0 b++E93Z l i j n s42 N s3),remAll H2 (B1y b2 (p++[f])),n2,76⟩ ⟨envB (T93Z i f p ps) 0 (fun m=>if 9=m then true else b m)++E93Z l i j n s42 N s3,h93Z p f ps H (fun m=>if 9=m then true else b m),11,76⟩
   rw[e1]
   refine B8y (by omega) (fun q hq=>?_) fun q hq=>?_
   ·obtain⟨a1,a2,a3⟩:=hH.all q hq
    refine⟨?_,by omega,A3w (by omega) _ a3⟩
    have hF:q.1∉B1y b2 (p++[f]):=by
     have:∀l:List Int,q.1∉B1y b2 l:=by
      intro l
      cases l with
      | nil=>simp[B1y]
      | cons x r=>simp[B1y];omega
     exact this _
    rw[B4z _ _ _ hF,lk2 _ (by omega) (by omega),C3o (by omega)]
    exact a1
   ·have:=D6d (nx:=11) (r:=.t (A0k eInt (p++[f]))) (b:=b) (σ:=fun x=>x) (G4y (i:=i) (f:=f) (p:=p) (ps:=ps)) (e93Z (l:=l) (i:=i) (j:=j) (n:=n) (s42:=s42) (N:=N) (s3:=s3)) (i:=9) (x:=(72,.t (A0k eInt (p++[f])),.dead)) rfl rfl rfl (fun k y hy hk=>⟨fun _=>⟨C4p _,(t93Z hy).2.2.1⟩,C4p _,A4a (by omega) _ (t93Z hy).2.2.2.1⟩) (fun q hq=>⟨C4p _,A4a (by omega) _ (hE q hq)⟩) q hq
    rw[C4p]at this
    exact this
  ·injection hm with hm;subst hm
   have d9:b 9=true:=hd 9 (by simp[B9i])
   have ts:A6u 33 1 [.slice none 0 0] 1 [(0,.t (A0k eInt (p++[f])))]=some (.t (.sl 1 [A0k eInt (p++[f])])):=by cases p<;>rfl
   exact⟨rfl,.t (.sl 1 [A0k eInt (p++[f])]),h93Z p f ps H b,11,.inl (by simp -implicitDefEqProofs [s93Z,T93Z,envB,E93Z,d9,ts]),A7e ok (fun e=>by omega) (fun e=>by omega) (fun e=>by omega) (fun _=>d9) (fun e=>by omega) (fun e=>by omega),B7o (k:=10) rfl rfl⟩
  ·injection hm with hm;subst hm
   have d0:b 0=true:=hd 0 (by simp[B9i])
   have d10:b 10=true:=hd 10 (by simp[B9i])
   have h9:b 9=true:=ok.e d10
   have h12:b 12=false:=by cases e:b 12;rfl;rw[(ok.g e).1]at hbi;cases hbi
   have hb:h93Z p f ps H b=H:=by
    unfold h93Z
    rw[hbi,h9]
    rfl
   obtain⟨b2,H2,n2,ap,r2,ne2,le2,lk2,ge2⟩:=A1k (e:=ePth) (by':=24) (nx:=11) (m:=[p++[f]]) hH.row (A3f (t:=.sl 1 [A0k eInt (p++[f])]) (.inr rfl)) (by simp;omega) (by simp;omega)
   rw[hzp]at ap
   refine⟨rfl,rowP ePth b2 (ps++[p++[f]]),H2,n2,.inl (by simp -implicitDefEqProofs [s93Z,T93Z,envB,E93Z,d0,d10,hb,ap]),A7e ok (fun e=>by omega) (fun e=>by omega) (fun e=>by omega) (fun e=>by omega) (fun _=>d10) (fun e=>by omega),?_⟩
   have e1:h93Z p f ps H (fun m=>if 11=m then true else b m)=rem H 7++rowH ePth 33 10 (ps++[p++[f]]):=rfl
   show Sub _ _ _ ⟨(74,rowP ePth b2 (ps++[p++[f]]))::(envB (T93Z i f p ps) 0 b++E93Z l i j n s42 N s3),H2,n2,76⟩ ⟨envB (T93Z i f p ps) 0 (fun m=>if 11=m then true else b m)++E93Z l i j n s42 N s3,h93Z p f ps H (fun m=>if 11=m then true else b m),11,76⟩
   rw[e1]
   refine sub_rowR (k:=b2) r2 (by omega) (by omega) (fun q hq=>?_) (D6d G4y e93Z (i:=11) (x:=(74,rowP ePth 10 (ps++[p++[f]]),.dead)) rfl (by rw[A0g];rfl) (A0e _ _ _ _ (by omega)) (fun k y hy hk=>⟨fun hbk=>⟨?_,(t93Z hy).2.2.1⟩,A9h (n:=9) (fun c hc=>if_neg (by omega)) _ (t93Z hy).2.2.2.1,A4a (by omega) _ (t93Z hy).2.2.2.1⟩) (fun q hq=>⟨A9h (n:=9) (fun c hc=>if_neg (by omega)) _ (hE q hq),A4a (by omega) _ (hE q hq)⟩))
   ·obtain⟨hq1,hq2⟩:=E7x hq
    obtain⟨a1,a2,a3⟩:=hH.all q hq1
    refine⟨?_,by omega,by omega,by omega,A3w (by omega) _ a3⟩
    rw[lk2 _ hq2 (by omega),a1,B6e (n:=9) (fun c hc=>if_neg (by omega)) _ a3]
   ·have hk12:k≠12:=fun e=>by rw[e,h12]at hbk;cases hbk
    have hkl:k<13:=(List.getElem?_eq_some_iff.1 hy).1
    exact ren10 hy (by omega)
  ·injection hm with hm;subst hm
   have d11:b 11=true:=hd 11 (by simp[B9i])
   have d0:b 0=true:=hd 0 (by simp[B9i])
   have d1:b 1=true:=hd 1 (by simp[B9i])
   exact⟨rfl,rowP ePth 10 (ps++[p++[f]]),h93Z p f ps H b,11,.inl (by simp -implicitDefEqProofs [s93Z,T93Z,envB,E93Z,d11]),A7e ok (fun e=>by omega) (fun e=>by omega) (fun e=>by omega) (fun e=>by omega) (fun e=>by omega) (fun _=>⟨d11,d0,d1⟩),B7o (k:=12) rfl rfl⟩
  ·simp[l93Z]at hm
 ·have h:=fun i hi=>hall i (by rw[G9h];exact hi)
  have e:s93Z l i j n s42 N s3 f p ps H b=s93Z l i j n s42 N s3 f p ps H fun _=>true:=by
   simp only[s93Z,T93Z,envB,h93Z,h 0 (by omega),h 1 (by omega),h 2 (by omega),h 3 (by omega),h 4 (by omega),h 5 (by omega),h 6 (by omega),h 7 (by omega),h 8 (by omega),h 9 (by omega),h 10 (by omega),h 11 (by omega),h 12 (by omega)]
  rw[e]
  exact stop
end
def B1k (n:Nat) (ns:List Nat):List Bool:=(List.range n).map fun j=>decide (j∈ns)
theorem B6h (n:Nat) (ns:List Nat):(B1k n ns).length=n:=by simp[B1k]
theorem B5i {n m:Nat} {ns:List Nat} (h:m<n):(B1k n ns)[m]?=some (decide (m∈ns)):=by simp[B1k,h]
theorem E8u {n m:Nat} {ns:List Nat} (h:m<n):(B1k n ns).set m true=B1k n (ns++[m]):=by
 refine List.ext_getElem? fun j=>?_
 by_cases hj:j<n
 ·rw[B5i hj]
  by_cases e:m=j
  ·subst e
   rw[List.getElem?_set_self (by rw[B6h];exact hj)]
   simp
  ·rw[List.getElem?_set_ne e,B5i hj]
   simp[Ne.symm e]
 ·rw[List.getElem?_eq_none (by simp[B6h];omega),List.getElem?_eq_none (by simp[B6h];omega)]
theorem F9w (n:Nat):B1k n []=List.replicate n false:=by
 refine List.ext_getElem? fun j=>?_
 by_cases hj:j<n
 ·rw[B5i hj,List.getElem?_replicate,if_pos hj]
  simp
 ·rw[List.getElem?_eq_none (by simp[B6h];omega),List.getElem?_eq_none (by simp;omega)]
theorem F3f (n:Nat):A9j [Value.bool false] n=((List.replicate n false).flatMap A6k.enc).map .t:=by
 refine List.ext_getElem? fun j=>?_
 have hl:(A9j [Value.bool false] n).length=n:=by rw[A5i];simp
 have hr:(((List.replicate n false).flatMap A6k.enc).map PV.t).length=n:=by rw[List.length_map,A2e];simp[A6k]
 by_cases h:j<n
 ·obtain⟨c,hc⟩:∃c,(A9j [Value.bool false] n)[j]?=some c:=⟨_,List.getElem?_eq_getElem (by omega)⟩
  have:=(C5k hc).2
  rw[hc,this]
  have e:((List.replicate n false).flatMap A6k.enc).map PV.t=List.replicate n (.t (bv false)):=by
   clear hc this hl hr h
   induction n with
   | zero=>rfl
   | succ n ih=>
    rw[List.replicate_succ,List.replicate_succ,List.flatMap_cons,List.map_append,ih]
    rfl
  rw[e,List.getElem?_replicate,if_pos h]
  simp[Nat.mod_one]
 ·rw[List.getElem?_eq_none (by omega),List.getElem?_eq_none (by omega)]
theorem F9x {n nx:Nat} (h0:0<n) (h:n<=1000000):B9p 4 1 1 [.bool false] (.t (iv (n:Int))) (.t (iv (n:Int))) nx=some (rowP A6k nx (B1k n []),A1g A6k 4 (B1k n [])):=by
 rw[F9w]
 have hp:rowP A6k nx (List.replicate n false) = .row nx 0 n 1:=by
  obtain⟨k,rfl⟩:∃k,n=k+1:=⟨n-1,by omega⟩
  rw[List.replicate_succ]
  simp[rowP,A6k]
 rw[hp]
 simp only[B9p,Int.toNat_natCast]
 rw[if_pos ⟨by omega,by omega,by omega,by omega⟩,F3f]
 rfl
def R93 (t:T) (l:Nat) (x:Loop) (outs:List (List Int)) (n:Nat) (ns:List Nat):Heap:=
 [(1,A1g ePth 33 outs),(2,.cells 55 [rowP ePth 1 outs]),(3,.cells 25 [.t t]),(4,.lp l x 3 (.ptr 2 0)),(5,A1g A6k 4 (B1k n ns))]
def H93 (t:T) (l:Nat) (x:Loop) (outs:List (List Int)) (n:Nat) (st:PSt):Heap:=R93 t l x outs n st.1++(rowH eNat 3 6 st.1++rowH ePth 33 7 st.2)
def s393 (n:Nat) (ns:List Nat):PV:=rowP A6k 5 (B1k n ns)
def S93 (t:T) (l:Nat) (x:Loop) (outs:List (List Int)) (n:Nat) (st:PSt) (i:Nat):A0b:=⟨E93Y l i (rowP eNat 6 st.1) (rowP ePth 7 st.2) (s393 n st.1),H93 t l x outs n st,8,76⟩
def S93i (t:T) (l:Nat) (x:Loop) (outs:List (List Int)) (n:Nat) (st:PSt) (i:Nat) (ta:T) (k j:Nat):A0b:=
 ⟨[(44,.t (iv (j:Int))),(43,.t (iv (k:Int))),(42,.t ta),(6,.t (iv (i:Int))),(5,rowP ePth 7 st.2),(4,rowP eNat 6 st.1),(3,s393 n st.1),(1,.ptr 3 0),(0,yv l)],H93 t l x outs n st,8,76⟩
section
variable {t : T} {l n : Nat} {x : Loop} {outs : List (List Int)} {st : PSt}
theorem F9y (n:Nat) (ns ns':List Nat):s393 n ns=s393 n ns':=by
 unfold s393
 cases n with
 | zero=>rfl
 | succ n=>
  have:∀l:List Bool,l.length=n+1->rowP A6k 5 l = .row 5 0 (n+1) 1:=by
   intro l hl
   cases l with
   | nil=>simp at hl
   | cons y r=>
    rw[<-hl]
    rfl
  rw[this _ (B6h _ _),this _ (B6h _ _)]
theorem A8r (n:Nat) (ns:List Nat) {k:Nat} (h:5<k):under k (s393 n ns)=true:=A0e _ _ _ _ h
theorem B2u {ns:List Nat} {X:Heap} {q:Nat×Row} (hq:q∈R93 t l x outs n ns):Abs.look (R93 t l x outs n ns++X) q.1=some q.2/\q.1<6/\A0z 6 q.2=true:=by
 simp only[R93,List.mem_cons,List.not_mem_nil,or_false]at hq
 rcases hq with rfl | rfl | rfl | rfl | rfl
 ·exact⟨rfl,by simp,A0t _ _ _ _⟩
 ·refine⟨rfl,by simp,?_⟩
  have:=A0e ePth 6 1 outs (by omega)
  simp only[A0z,A1z,this,Bool.and_self]
 ·exact⟨rfl,by simp,rfl⟩
 ·exact⟨rfl,by simp,rfl⟩
 ·exact⟨rfl,by simp,A0t _ _ _ _⟩
theorem row6 (t:T) (l n:Nat) (x:Loop) (outs:List (List Int)) (st:PSt):A0j eNat 3 (H93 t l x outs n st) 6 st.1:=A0j.right (A0j.head _ _ _ _ _) fun q hq=>by have:=(B2u (X:=[]) hq).2.1;omega
theorem row7 (t:T) (l n:Nat) (x:Loop) (outs:List (List Int)) (st:PSt):A0j ePth 33 (H93 t l x outs n st) 7 st.2:=by
 refine A0j.right (A0j.right (A0j.head' _ _ _ _) fun q hq=>?_) fun q hq=>?_
 ·obtain⟨_,rfl⟩:=A1j hq
  simp
 ·have:=(B2u (X:=[]) hq).2.1
  omega
theorem F9z {q:Nat×Row} (hq:q∈H93 t l x outs n st):Abs.look (H93 t l x outs n st) q.1=some q.2/\q.1<8/\A0z 8 q.2=true:=by
 rcases List.mem_append.1 hq with hq | hq
 ·obtain⟨h1,h2,h3⟩:=B2u (X:=rowH eNat 3 6 st.1++rowH ePth 33 7 st.2) hq
  exact⟨h1,by omega,A3w (by omega) _ h3⟩
 ·rcases List.mem_append.1 hq with hq | hq
  ·obtain⟨h1,rfl⟩:=A1j hq
   exact⟨(row6 t l n x outs st).resolve_left h1,by simp,A0t _ _ _ _⟩
  ·obtain⟨h1,rfl⟩:=A1j hq
   exact⟨(row7 t l n x outs st).resolve_left h1,by simp,A0t _ _ _ _⟩
end
theorem G0a {P:Program} {G:A1f} {B N:Nat} {Q:Exit->A0b->Prop} {s:A0b} {x:Operand} {c d:Code} {b:Bool} (hc:s.ev G x = .t (.v (.bool b))) (h:AK P G B N (if b then c else d) Q s):AK P G B N (.cond x c d) Q s:=fun hn=>D1i hc (h hn)
section
variable {t ta : T} {l n i j : Nat} {x : Loop} {outs : List (List Int)} {st : PSt} {a : List Nd} {p : List Int} {arcs : List Arc}
def H93m (t:T) (l:Nat) (x:Loop) (outs:List (List Int)) (n:Nat) (f:Int) (m:Nat) (ns:List Nat) (ps:List (List Int)):Heap:=
 ((8,.cells 81 [.t (iv f),.t (iv (m:Int))])::R93 t l x outs n ns)++(rowH ePth 33 7 ps++rowH eNat 3 6 ns)
theorem G0b {f:Int} {m:Nat} {ns:List Nat} {ps:List (List Int)}:H93Z ps f (H93m t l x outs n f m ns ps):=by
 have r7:A0j ePth 33 (H93m t l x outs n f m ns ps) 7 ps:=A0j.right (A0j.head _ _ _ _ _) fun q hq=>by
  rcases List.mem_cons.1 hq with rfl | hq
  ·simp
  ·have:=(B2u (X:=[]) hq).2.1;omega
 have r6:A0j eNat 3 (H93m t l x outs n f m ns ps) 6 ns:=by
  refine A0j.right (A0j.right (A0j.head' _ _ _ _) fun q hq=>?_) fun q hq=>?_
  ·obtain⟨_,rfl⟩:=A1j hq
   simp
  ·rcases List.mem_cons.1 hq with rfl | hq
   ·simp
   ·have:=(B2u (X:=[]) hq).2.1;omega
 refine⟨fun q hq=>?_,r7,⟨_,_,rfl⟩⟩
 rcases List.mem_append.1 hq with hq | hq
 ·rcases List.mem_cons.1 hq with rfl | hq
  ·exact⟨rfl,by simp,rfl⟩
  ·obtain⟨h1,h2,h3⟩:=B2u (X:=rowH ePth 33 7 ps++rowH eNat 3 6 ns) hq
   refine⟨?_,by omega,A3w (by omega) _ h3⟩
   show Abs.look ((8,_)::(R93 t l x outs n ns++_)) q.1=_
   rw[look_cons,if_neg (by omega)]
   exact h1
 ·rcases List.mem_append.1 hq with hq | hq
  ·obtain⟨h1,rfl⟩:=A1j hq
   exact⟨r7.resolve_left h1,by simp,A0t _ _ _ _⟩
  ·obtain⟨h1,rfl⟩:=A1j hq
   exact⟨r6.resolve_left h1,by simp,A0t _ _ _ _⟩
set_option maxHeartbeats 1000000 in
theorem G9i {Q:Exit->A0b->Prop} {f:Int} {m:Nat} (hx:IsS eArc ta arcs) (hj:arcs[j]?=some ⟨f,(m:Int)⟩) (hk:arcs.length<=1000000) (hm:m<n) (hp:st.2[i]?=some p) (hpl:p.length<=1000000) (hsl:st.2.length<=1000000) (hsl1:st.1.length<=1000000)
  (next:∀s,Sub Try.prog G 5 s (S93i t l x outs n (arcP p st ⟨f,(m:Int)⟩) i ta arcs.length (j+1))->s.n=76->Q .normal s):AK Try.prog G 5 76 E93 Q (S93i t l x outs n st i ta arcs.length j):=by
 have hjl:=(List.getElem?_eq_some_iff.1 hj).1
 have ia:=A7k hx hj
 have ca:A0w (.t (.ag [iv f,iv (m:Int)]))=some [.t (iv f),.t (iv (m:Int))]:=rfl
 have e1:IntKind.i64.wrap ((j:Int)+1)=((j+1:Nat):Int):=A0l (by omega) (by omega)
 obtain⟨ns,ps⟩:=st
 simp only at hp hsl hsl1
 obtain⟨H0,hH0⟩:∃H0,H0=H93 t l x outs n (ns,ps):=⟨_,rfl⟩
 have r5:Abs.look H0 5=some (A1g A6k 4 (B1k n ns)):=by rw[hH0];rfl
 have r6:A0j eNat 3 H0 6 ns:=by rw[hH0];exact row6 t l n x outs (ns,ps)
 have r7:A0j ePth 33 H0 7 ps:=by rw[hH0];exact row7 t l n x outs (ns,ps)
 have i5:A1q 1 (s393 n ns) (.t (iv (m:Int)))=some (.ptr 5 m):=by
  have:=A1r (e:=A6k) (b:=5) (B5i (ns:=ns) hm) .i64
  rw[show A6k.z=1 from rfl,Nat.mul_one]at this
  exact this
 obtain⟨ar,har⟩:∃ar,ar=Row.cells 81 [.t (iv f),.t (iv (m:Int))]:=⟨_,rfl⟩
 have l5:A0f false 1 ((8,ar)::H0) (.ptr 5 m)=some (.t (bv (decide (m∈ns)))):=by
  have:=A0j.load (e:=A6k) (off:=0) (c:=bv (decide (m∈ns))) (A0j.cons (k:=8) (r:=ar) (.inr r5) (by omega)) (B5i hm) rfl
  simpa[A6k]using this
 have l8:A0f false 1 ((8,ar)::H0) (.ptr 8 1)=some (.t (iv (m:Int))):=by rw[har];simp[A0f]
 rw[G6h]
 refine A2i ctx0 H2e ?_
 unfold G8x
 unfold S93i
 simp only
 rw[<-hH0]
 simp -implicitDefEqProofs [hjl]
 refine A2i ctx0 H2f ?_
 unfold G8y
 simp -implicitDefEqProofs
 refine F8q (fun _:Unit=>S93i t l x outs n (arcP p (ns,ps) ⟨f,(m:Int)⟩) i ta arcs.length j) (fun _=>True) (fun _=>rfl) ?_ ?_
 ·refine C5t ?_
  rw[H1q]
  refine A2i ctx0 c93g1 ?_
  unfold H1z
  have lt:∀cs,A0f true 2 H0 (.t (.pt (iv f::iv (m:Int)::cs)))=some (.t (.ag [iv f,iv (m:Int)])):=fun cs=>by simp[A0f]
  simp -implicitDefEqProofs [ia,lt,A1e,ca,A1y]
  rw[<-har]
  refine A2i ctx0 c93g2 ?_
  unfold H2a
  simp -implicitDefEqProofs [l8,i5,l5]
  by_cases hin:m∈ns
  ·have hd:decide (m∈ns)=true:=decide_eq_true hin
   refine G0a (b:=false) (by simp[A0b.ev,Abs.look,hd]) ?_
   simp only[Bool.false_eq_true,if_false]
   refine fun _=>D1h ?_
   have ea:arcP p (ns,ps) ⟨f,(m:Int)⟩=(ns,ps):=by
    unfold arcP
    rw[if_pos (by simpa using hin)]
   refine Next.mk () trivial ?_
   rw[ea]
   unfold S93i
   refine B8y (by omega) (fun q hq=>?_) ?_
   ·obtain⟨h1,h2,h3⟩:=F9z hq
    refine⟨?_,by omega,h3⟩
    rw[look_cons,if_neg (by omega),hH0]
    exact h1
   ·simp -implicitDefEqProofs [under,A0e,A8r,yv]
  ·have hd:decide (m∈ns)=false:=decide_eq_false hin
   refine G0a (b:=true) (by simp[A0b.ev,Abs.look,hd]) ?_
   simp only[if_true]
   have ea:arcP p (ns,ps) ⟨f,(m:Int)⟩=(ns++[m],ps++[p++[f]]):=by
    unfold arcP
    rw[if_neg (by simpa using hin)]
    rfl
   have st:A1e 1 ((8,ar)::H0) (.ptr 5 m) (.t (bv true))=some ((8,ar)::upd H0 5 (A1g A6k 4 (B1k n (ns++[m])))):=by
    have:=B0y (e:=A6k) (ty:=4) (off:=0) (y:=true) (c:=bv true) (H:=(8,ar)::H0) (b:=5) (by rw[look_cons,if_neg (by omega)];exact r5) (B5i hm) (by decide) rfl rfl
    rw[E8u hm,show A6k.z=1 from rfl,Nat.mul_one]at this
    exact this
   obtain⟨H1,hH1⟩:∃H1,H1=(8,ar)::upd H0 5 (A1g A6k 4 (B1k n (ns++[m]))):=⟨_,rfl⟩
   have k5:Abs.look H1 5=some (A1g A6k 4 (B1k n (ns++[m]))):=by rw[hH1,look_cons,if_neg (by omega),A0u,if_pos rfl,r5];rfl
   have kc:∀c,c≠5->Abs.look H1 c=Abs.look ((8,ar)::H0) c:=fun c hc=>by rw[hH1,look_cons,look_cons];split;rfl;rw[A0u,if_neg hc]
   have k6:A0j eNat 3 H1 6 ns:=r6.imp id fun h=>by rw[kc 6 (by omega),look_cons,if_neg (by omega)];exact h
   have l81:A0f false 1 H1 (.ptr 8 1)=some (.t (iv (m:Int))):=by
    have:Abs.look H1 8=some ar:=by rw[kc 8 (by omega)];rfl
    rw[har]at this
    simp[A0f,this]
   rw[G4r]
   refine A2i ctx0 c93p1 ?_
   unfold H2b
   simp -implicitDefEqProofs [l8,i5,st]
   rw[<-hH1]
   have bs:A1p 3 1 [.int .i64 0] 1 [(0,.t (iv (m:Int)))] 9=some (.row 9 0 1 1,.cells 3 [.t (iv (m:Int))]):=rfl
   obtain⟨b2,H2,n2,ap,r2,ne2,le2,lk2,ge2⟩:=A1k (e:=eNat) (ty:=3) (by':=8) (nx:=10) (m:=[m]) (k6.cons (k:=9) (r:=.cells 3 ((eNat.enc m).map .t)) (by omega)) (A3r (b:=9) (ty:=3) m (by simp)) (by simp;omega) (by simp;omega)
   have ap:appM 3 1 8 ((9,.cells 3 [.t (iv (m:Int))])::H1) 10 (rowP eNat 6 ns) (.row 9 0 1 1)=some (rowP eNat b2 (ns++[m]),H2,n2):=ap
   refine A2i ctx0 c93p2 ?_
   unfold H2c
   simp -implicitDefEqProofs [l81,bs,ap]
   refine fun _=>?_
   have lk:∀c,c≠6->c<9->Abs.look H2 c=Abs.look H1 c:=fun c h1 h2=>by rw[lk2 c h1 (by omega),look_cons,if_neg (by omega)]
   refine A3l.sub (s':=⟨(5,rowP ePth 7 ps)::E93Z l i j arcs.length (.t ta) (rowP eNat 6 (ns++[m])) (s393 n (ns++[m])),H93m t l x outs n f m (ns++[m]) ps,11,76⟩) ?_ (F9v G0b hp hpl hsl rfl (A0e _ _ _ _ (by omega)) (A8r _ _ (by omega)) ?_)
   ·refine C0w (k:=b2) r2 (r7.imp id fun h=>?_) (by omega) (by omega) (by omega) (by omega) (by omega) (fun q hq=>?_) ?_
    ·rw[lk 7 (by omega) (by omega),kc 7 (by omega),look_cons,if_neg (by omega)]
     exact h
    ·rcases List.mem_cons.1 hq with rfl | hq
     ·refine⟨?_,by simp,by simp,by simp only;omega,rfl⟩
      rw[lk 8 (by omega) (by omega),kc 8 (by omega),look_cons,if_pos rfl,har]
      rfl
     ·obtain⟨_,h2,h3⟩:=B2u (X:=[]) hq
      refine⟨?_,by omega,by omega,by omega,A3w (by omega) _ h3⟩
      rw[lk _ (by omega) (by omega),B6e (n:=6) (fun c hc=>if_neg (by omega)) _ h3]
      simp only[R93,List.mem_cons,List.not_mem_nil,or_false]at hq
      rcases hq with rfl | rfl | rfl | rfl | rfl
      ·rw[kc 1 (by omega),look_cons,if_neg (by omega),hH0];rfl
      ·rw[kc 2 (by omega),look_cons,if_neg (by omega),hH0];rfl
      ·rw[kc 3 (by omega),look_cons,if_neg (by omega),hH0];rfl
      ·rw[kc 4 (by omega),look_cons,if_neg (by omega),hH0];rfl
      ·exact k5
    ·rw[F9y n (ns++[m]) ns]
     have u3:=A8r n ns (k:=11) (by omega)
     have f3:ren (fun x=>if x=6 then b2 else x) (s393 n ns)=s393 n ns:=A9h (n:=6) (fun c hc=>if_neg (by omega)) _ (A8r n ns (by omega))
     simp -implicitDefEqProofs [E93Z,A0g,A0e,ren,under,u3,f3,yv]
   ·refine Next.mk () trivial ?_
    rw[ea]
    have hm':=G0b (t:=t) (l:=l) (n:=n) (x:=x) (outs:=outs) (f:=f) (m:=m) (ns:=ns++[m]) (ps:=ps)
    have h6:Abs.look (H93m t l x outs n f m (ns++[m]) ps) 6=some (A1g eNat 3 (ns++[m])):=by
     have:A0j eNat 3 (H93m t l x outs n f m (ns++[m]) ps) 6 (ns++[m]):=by
      refine A0j.right (A0j.right (A0j.head' _ _ _ _) fun q hq=>?_) fun q hq=>?_
      ·obtain⟨_,rfl⟩:=A1j hq
       simp
      ·rcases List.mem_cons.1 hq with rfl | hq
       ·simp
       ·have:=(B2u (X:=[]) hq).2.1;omega
     exact this.resolve_left (by simp)
    refine C0w (k:=10) (l:=ps++[p++[f]]) (l':=ns++[m]) (A0j.right (A0j.head' _ _ _ _) fun q hq=>by have:=(hm'.all q (E7x hq).1).2.1;omega) (.inr ?_) (by omega) (by omega) (by omega) (by omega) (by omega) (fun q hq=>?_) ?_
    ·show Abs.look (rem _ 7++rowH _ _ 10 _) 6=_
     rw[C3o (by omega),A1m,if_neg (by omega)]
     exact h6
    ·obtain⟨_,h2,h3⟩:=B2u (X:=[]) hq
     refine⟨?_,by omega,by omega,by omega,A3w (by omega) _ h3⟩
     show Abs.look (rem _ 7++rowH _ _ 10 _) q.1=_
     rw[C3o (by omega),A1m,if_neg (by omega),B6e (n:=6) (fun c hc=>if_neg (by omega)) _ h3]
     exact(hm'.all q (List.mem_append_left _ (List.mem_cons_of_mem _ hq))).1
    ·have u3:=A8r n (ns++[m]) (k:=8) (by omega)
     have f3:ren (fun x=>if x=7 then 10 else x) (s393 n (ns++[m]))=s393 n (ns++[m]):=A9h (n:=6) (fun c hc=>if_neg (by omega)) _ (A8r n _ (by omega))
     simp -implicitDefEqProofs [T93Z,envB,E93Z,A0g,A0e,ren,under,u3,f3,yv]
 ·rintro _ -
  refine C3k ctx0 c93e3 ?_
  unfold H1y
  simp -implicitDefEqProofs [S93i,e1]
  exact next _ (A9g (by simp -implicitDefEqProofs [S93i])) rfl
end
def R93a (t:T) (l:Nat) (x:Loop) (outs:List (List Int)):Heap:=[(1,A1g ePth 33 outs),(2,.cells 55 [rowP ePth 1 outs]),(3,.cells 25 [.t t]),(4,.lp l x 3 (.ptr 2 0))]
def G6j (l:Nat) (x:Loop) (k:Nat):Prop:=∀(H:Heap) (nx m:Nat) (p:List Int) (outs:List (List Int)),Abs.look H 1=some (A1g ePth 33 outs)->Abs.look H 2=some (.cells 55 [rowP ePth 1 outs]) ->
 Abs.look H 4=some (.lp l x 3 (.ptr 2 0))->outs.length=k->m<k->F8o Try.prog G l [.t (iv (m:Int)),.t (A0k eInt p)] H nx (.t (bv true)) (upd H 1 (A1g ePth 33 (outs.set m p))) nx
theorem G0c {b:Nat} {outs outs':List (List Int)} (h:outs.length=outs'.length):rowP ePth b outs=rowP ePth b outs':=by
 cases outs<;>cases outs'<;>simp_all [rowP]
theorem G9j {P:Program} {G:A1f} {B N:Nat} {Q:Exit->A0b->Prop} {s:A0b} {c d:Code} (h:A3l P G B c (Then P G B d Q) s):AK P G B N (.seq c d) Q s:=fun _=>A8s h
section
variable {nf : Nat} {ty : List Typ} {t : T} {l : Nat} {x : Loop} {a : List Nd}
set_option maxHeartbeats 2000000 in
theorem E1k (ht:IsS eNd t a) (ha:A1n ty.length nf a) (hs:A3g a) (hy:G6j l x a.length) :
  A5s Try.prog G 93 [yv l,.ptr 3 0] (R93a t l x (List.replicate a.length [])) 5 (.t (.tu [])) (R93a t l x (A1d a)) 5:=by
 obtain⟨n,hn⟩:∃n,n=a.length:=⟨_,rfl⟩
 have hnl:n<=4096:=by rw[hn];exact ha.form.le
 have hpos:0<n:=by rw[hn];exact ha.form.pos
 have hb0:=hs.len
 refine D6e (vs:=[]) (N:=76) Try.func93 E8q (by kernel_rfl) (by kernel_rfl) (by kernel_rfl) ?_
 rw[H1n,<-hn]
 have mk:=F9x (nx:=5) hpos (by omega)
 have hl:=ht.len
 rw[<-hn]at hl
 refine A2i ctx0 c93a1 ?_
 unfold H1r
 unfold R93a
 simp -implicitDefEqProofs [A0f,hl,mk]
 have i0:A1q 1 (rowP A6k 5 (B1k n [])) (.t (iv 0))=some (.ptr 5 0):=by
  have:=A1r (e:=A6k) (b:=5) (B5i (ns:=[]) hpos) .i64
  rw[Nat.zero_mul]at this
  exact this
 have st0:∀X:Heap,A1e 1 ((5,A1g A6k 4 (B1k n []))::X) (.ptr 5 0) (.t (bv true))=some ((5,A1g A6k 4 (B1k n [0]))::X):=fun X=>by
  have:=B0y (e:=A6k) (ty:=4) (off:=0) (y:=true) (c:=bv true) (H:=(5,A1g A6k 4 (B1k n []))::X) (b:=5) (by rw[look_cons,if_pos rfl]) (B5i hpos) (by decide) rfl rfl
  rw[E8u hpos,Nat.zero_mul]at this
  exact this
 refine A2i ctx0 c93a2 ?_
 unfold H1s
 simp -implicitDefEqProofs [i0,st0]
 have bs1:A1p 3 1 [.int .i64 0] 1 [(0,.t (iv 0))] 6=some (.row 6 0 1 1,.cells 3 [.t (iv 0)]):=rfl
 have bs2:A1p 33 1 [.slice none 0 0] 1 [(0,.t nilS)] 7=some (.row 7 0 1 1,.cells 33 [.t nilS]):=rfl
 refine A2i ctx0 c93a3 ?_
 unfold H1t
 simp -implicitDefEqProofs [bs1,bs2]
 refine A2i ctx0 c93a4 ?_
 unfold H1u
 simp -implicitDefEqProofs
 refine C5t ?_
 refine E7z (fun i=>S93 t l x (outP a i) n (bfsP a i) i) (fun i=>n-i) (fun i=>i<=(bfsP a i).1.length) 0 (fun _=>rfl) (by simp) ?_ ?_
 ·have e0:outP a 0=List.replicate n []:=by rw[hn];rfl
  have e1:bfsP a 0=([0],[[]]):=rfl
  unfold S93 H93
  rw[e0,e1]
  refine B8y (by omega) (fun q hq=>?_) ?_
  ·obtain⟨_,h2,h3⟩:=F9z hq
   refine⟨?_,h2,h3⟩
   simp only[R93,rowH,List.cons_append,List.nil_append,List.append_nil,List.mem_cons,List.not_mem_nil,or_false]at hq
   rcases hq with rfl | rfl | rfl | rfl | rfl | rfl | rfl<;>rfl
  ·have e3:s393 n [0]=rowP A6k 5 (B1k n []):=F9y n [0] []
   have r6:rowP eNat 6 [0] = .row 6 0 1 1:=rfl
   have r7:rowP ePth 7 [[]] = .row 7 0 1 1:=rfl
   simp -implicitDefEqProofs [E93Y,e3,r6,r7,A0e,under,yv]
 ·intro i hi
  obtain⟨hinv,_⟩:=B6f ha i
  have hile:(bfsP a i).1.length<=n:=by rw[hn];exact hinv.le
  have e1:IntKind.i64.wrap ((i:Int)+1)=((i+1:Nat):Int):=A0l (by omega) (by omega)
  have ho:=B6g a i
  rw[<-hn]at ho
  rw[H1o]
  refine A2i ctx0 c93c1 ?_
  unfold H1v
  unfold S93 E93Y
  by_cases hil:i<(bfsP a i).1.length
  ·obtain⟨g1,g2⟩:=hinv.get hil
   obtain⟨m,hm⟩:∃m,m=C1l (bfsP a i) i:=⟨_,rfl⟩
   obtain⟨p,hp⟩:∃p,p=C9w (bfsP a i) i:=⟨_,rfl⟩
   rw[<-hm]at g1
   rw[<-hp]at g2
   have eb:bfsP a (i+1)=midP p (bfsP a i) (A2s a m):=by
    show(if i<(bfsP a i).1.length then midP (C9w (bfsP a i) i) (bfsP a i) (A2s a (C1l (bfsP a i) i))else bfsP a i)=_
    rw[if_pos hil,hm,hp]
   have eo:outP a (i+1)=(outP a i).set m p:=by
    show(if i<(bfsP a i).1.length then(outP a i).set (C1l (bfsP a i) i) (C9w (bfsP a i) i)else outP a i)=_
    rw[if_pos hil,hm,hp]
   have hml:m<n:=by rw[hn];exact hinv.lt m (List.mem_of_getElem? g1)
   simp -implicitDefEqProofs [A2f,hil]
   refine F8q (fun _:Unit=>⟨E93Y l i (rowP eNat 6 (bfsP a (i+1)).1) (rowP ePth 7 (bfsP a (i+1)).2) (s393 n (bfsP a (i+1)).1),H93 t l x (outP a (i+1)) n (bfsP a (i+1)),8,76⟩) (fun _=>True) (fun _=>rfl) ?_ ?_
   ·refine C5t ?_
    rw[H1p]
    refine F8q (fun _:Unit=>⟨E93Y l i (rowP eNat 6 (bfsP a i).1) (rowP ePth 7 (bfsP a i).2) (s393 n (bfsP a i).1),H93 t l x (outP a (i+1)) n (bfsP a i),8,76⟩) (fun _=>True) (fun _=>rfl) ?_ ?_
    ·have r6:=row6 t l n x (outP a i) (bfsP a i)
     have r7:=row7 t l n x (outP a i) (bfsP a i)
     have i1:A1q 1 (rowP eNat 6 (bfsP a i).1) (.t (iv (i:Int)))=some (.ptr 6 i):=by
      have:=A1r (e:=eNat) (b:=6) g1 .i64
      rw[show eNat.z=1 from rfl,Nat.mul_one]at this
      exact this
     have i2:A1q 1 (rowP ePth 7 (bfsP a i).2) (.t (iv (i:Int)))=some (.ptr 7 i):=by
      have:=A1r (e:=ePth) (b:=7) g2 .i64
      rw[show ePth.z=1 from rfl,Nat.mul_one]at this
      exact this
     have l1:∀H,A0j eNat 3 H 6 (bfsP a i).1->A0f false 1 H (.ptr 6 i)=some (.t (iv (m:Int))):=fun H h=>by
      have:=h.load (off:=0) (c:=iv (m:Int)) g1 rfl
      rw[show eNat.z=1 from rfl,Nat.mul_one,Nat.add_zero]at this
      exact this
     have l2:∀H,A0j ePth 33 H 7 (bfsP a i).2->A0f false 1 H (.ptr 7 i)=some (.t (A0k eInt p)):=fun H h=>by
      have:=h.load (off:=0) (c:=A0k eInt p) g2 rfl
      rw[show ePth.z=1 from rfl,Nat.mul_one,Nat.add_zero]at this
      exact this
     have hup:upd (H93 t l x (outP a i) n (bfsP a i)) 1 (A1g ePth 33 ((outP a i).set m p))=H93 t l x (outP a (i+1)) n (bfsP a i):=by
      have:rowP ePth 1 (outP a i)=rowP ePth 1 ((outP a i).set m p):=G0c (by simp)
      rw[eo]
      unfold H93 R93
      rw[this]
      rfl
     have hyy:=hy (H93 t l x (outP a i) n (bfsP a i)) 8 m p (outP a i) rfl rfl rfl (by rw[ho,hn]) (by omega)
     rw[hup]at hyy
     refine G9j (A3l.sub (s':=⟨E93Y l i (rowP eNat 6 (bfsP a i).1) (rowP ePth 7 (bfsP a i).2) (s393 n (bfsP a i).1),H93 t l x (outP a i) n (bfsP a i),8,76⟩) (A9g (by simp -implicitDefEqProofs [E93Y])) (F9t ctx0.sound i1 i2 (l1 _ r6) (l2 _ r7) (l1 _ (row6 t l n x _ _)) (l2 _ (row7 t l n x _ _)) hyy ?_))
     refine C3k ctx0 c93cY ?_ rfl
     unfold H1w
     simp -implicitDefEqProofs [s93Y,T93Y,envB]
     exact Next.mk () trivial (A9g (by simp -implicitDefEqProofs [E93Y]))
    ·rintro _ -
     obtain⟨y,hy'⟩:∃y,y=ndAt a (m:Int):=⟨_,rfl⟩
     have hx:=(ha.nd (i:=m) (by omega)).2
     rw[<-hy']at hx
     have hym:=List.mem_of_getElem? hx
     have ix:=B6m ht hx
     have hyl:=hs.arcs y hym
     have ea:A2s a m=y.arcs:=by unfold A2s;rw[hy']
     rw[ea]at eb
     have i1:A1q 1 (rowP eNat 6 (bfsP a i).1) (.t (iv (i:Int)))=some (.ptr 6 i):=by
      have:=A1r (e:=eNat) (b:=6) g1 .i64
      rw[show eNat.z=1 from rfl,Nat.mul_one]at this
      exact this
     obtain⟨H0,hH0⟩:∃H0,H0=H93 t l x (outP a (i+1)) n (bfsP a i):=⟨_,rfl⟩
     have l1:A0f false 1 H0 (.ptr 6 i)=some (.t (iv (m:Int))):=by
      rw[hH0]
      have:=(row6 t l n x (outP a (i+1)) (bfsP a i)).load (off:=0) (c:=iv (m:Int)) g1 rfl
      rw[show eNat.z=1 from rfl,Nat.mul_one,Nat.add_zero]at this
      exact this
     have l3:A0f false 1 H0 (.ptr 3 0)=some (.t t):=by
      have:Abs.look H0 3=some (.cells 25 [.t t]):=by rw[hH0];rfl
      simp[A0f,this]
     have lp:∀c cs,A0f false 1 H0 (.t (.pt (c::cs)))=some (.t c):=fun _ _=>rfl
     refine A2i ctx0 c93d1 ?_
     unfold H1x
     unfold E93Y
     rw[<-hH0]
     simp -implicitDefEqProofs [l3,i1,l1,ix,lp,y.ok.len]
     refine C5t ?_
     refine E7z (fun j=>S93i t l x (outP a (i+1)) n (midP p (bfsP a i) (y.arcs.take j)) i y.tree y.arcs.length j) (fun j=>y.arcs.length-j) (fun j=>j<=y.arcs.length) 0 (fun _=>rfl) (by simp) ?_ ?_
     ·have e0:midP p (bfsP a i) (y.arcs.take 0)=bfsP a i:=rfl
      rw[e0,hH0]
      exact A9g (by simp -implicitDefEqProofs [S93i])
     ·intro j hj
      obtain⟨hv,⟨⟨r1,q1⟩,⟨r2,q2⟩⟩,_⟩:=PInv.mid ha (y.arcs.take j) hinv g1 g2 (fun c hc=>by rw[ea];exact List.mem_of_mem_take hc)
      have hvl:=hv.le
      have hvs:=hv.len
      by_cases hjl:j<y.arcs.length
      ·obtain⟨c,hc⟩:∃c,y.arcs[j]?=some c:=⟨_,List.getElem?_eq_getElem hjl⟩
       have hto:=ha.tor (i:=m) (by omega) (s:=c) (by rw[ea];exact List.mem_of_getElem? hc)
       obtain⟨f,to⟩:=c
       obtain⟨k,rfl⟩:∃k:Nat,to=(k:Int):=⟨to.toNat,by simp only at hto;omega⟩
       simp only[Int.toNat_natCast]at hto
       have e5:=F9q (p:=p) (st:=bfsP a i) hc
       refine G9i (p:=p) y.ok hc hyl (by omega) (by rw[q2];exact D3t g2) ?_ (by omega) (by omega) fun s hsub hn'=>?_
       ·have:=hinv.short i p g2
        omega
       ·rw[<-e5]at hsub
        exact Next.mk (j+1) ⟨by omega,by omega⟩ hsub
      ·have ej:j=y.arcs.length:=by omega
       subst ej
       rw[List.take_length]at *
       rw[G6h]
       refine A2i ctx0 H2e ?_
       unfold G8x
       unfold S93i
       simp -implicitDefEqProofs
       refine A2i ctx0 H2f ?_
       unfold G8y
       simp -implicitDefEqProofs
       refine Next.mk () trivial ?_
       rw[eb]
       exact A9g (by simp -implicitDefEqProofs [E93Y])
   ·rintro _ -
    refine C3k ctx0 H2d ?_
    unfold G6i
    unfold E93Y
    simp -implicitDefEqProofs [e1]
    refine Next.mk (i+1) ⟨?_,by omega⟩ (A9g (by simp -implicitDefEqProofs [S93,E93Y]))
    obtain⟨⟨r,er⟩,_⟩:=E8p ha i
    rw[er,List.length_append]
    omega
  ·have ei:i=(bfsP a i).1.length:=by omega
   obtain⟨k,hk⟩:∃k,a.length=i+k:=⟨a.length-i,by omega⟩
   have ef:A1d a=outP a i:=by
    unfold A1d
    rw[hk]
    exact(E1g (by omega) k).2
   rw[ef]
   simp -implicitDefEqProofs [A2f,hil]
   refine⟨.inl rfl,⟨[],R93a t l x (outP a i),5,76⟩,[],B8y (by omega) (fun q hq=>?_) (by simp),rfl,rfl,rfl,rfl⟩
   simp only[R93a,List.mem_cons,List.not_mem_nil,or_false]at hq
   rcases hq with rfl | rfl | rfl | rfl
   ·exact⟨rfl,by simp,A0t _ _ _ _⟩
   ·exact⟨rfl,by simp,by have:=A0e ePth 5 1 (outP a i) (by omega);simp only[A0z,A1z,this,Bool.and_self]⟩
   ·exact⟨rfl,by simp,rfl⟩
   ·exact⟨rfl,by simp,rfl⟩
end
def asC:Code->Code
 | .rangeFunc _ _ a _=>a
 | c=>c
def bdC:Code->Code
 | .rangeFunc _ _ _ b=>b
 | c=>c
noncomputable def b39:Code:=match Try.f39.body with
 | some c=>c
 | none=>.skip
noncomputable def RF39:Code:=inC (tlC (hdC (tlC (tlC b39))))
noncomputable def as39:Code:=asC RF39
noncomputable def bd39:Code:=bdC RF39
noncomputable def o39a:Array Oper:=E4w (hdC as39)
noncomputable def o39b:Array Oper:=E4w (tlC as39)
noncomputable def o39c:Array Oper:=E4w (inC bd39)
theorem G9k:RF39 = .rangeFunc (.tmp 11) #[12,13] as39 bd39:=by kernel_rfl
theorem G9l:as39 = .seq (.region (idC (hdC as39)) o39a false) (.region (idC (tlC as39)) o39b false):=by kernel_rfl
theorem G9m:bd39 = .block 1 (.region (idC (inC bd39)) o39c false):=by kernel_rfl
def l39a:List Mini:=[⟨some 4,.mv,[.tmp 12],none⟩]
def l39b:List Mini:=[⟨some 5,.mv,[.tmp 13],none⟩]
def l39c:List Mini:=[⟨some 14,.load false 1,[.tmp 3],none⟩,⟨some 15,.mv,[.tmp 4],none⟩,⟨some 16,.mv,[.tmp 5],none⟩,⟨some 17,.iaddr 1,[.tmp 14,.tmp 15],none⟩,⟨none,.store 1,[.tmp 17,.tmp 16],none⟩]
theorem G9n:o39a.toList.mapM (A2c Try.prog G 19 false o39a)=some l39a:=by kernel_rfl
theorem G9o:o39b.toList.mapM (A2c Try.prog G 19 false o39b)=some l39b:=by kernel_rfl
theorem G9p:o39c.toList.mapM (A2c Try.prog G 19 false o39c)=some l39c:=by kernel_rfl
def E5c (ops:Array Oper):Bool:=ops.toList.all fun o=>match o.op with
 | .defer _=>false
 | _=>true
theorem E8v {ops:Array Oper} (h:E5c ops=true):∀o∈ops.toList,∀c,o.op ≠ .defer c:=by
 intro o ho c e
 have:=List.all_eq_true.1 h o ho
 rw[e]at this
 cases this
theorem nd39a:E5c o39a=true:=by kernel_rfl
theorem nd39b:E5c o39b=true:=by kernel_rfl
theorem nd39c:E5c o39c=true:=by kernel_rfl
structure L39 (x:Loop):Prop where
 state:x.state = .ready
 pend:x.pending=none
 params:x.params = #[12,13]
 assign:x.assign=as39
 body:x.body=bd39
 size:x.tmps.size=19
section
variable {P : Program} {Gl : A1f} {L L' : Abs.Loc} {H H' K : Heap} {w w' : World}
theorem E1l (h:A1o P Gl L H w) (e:∀b,Abs.look H' b=Abs.look H b):A1o P Gl L H' w:=
 ⟨h.lt,fun b r hb=>h.rep b r (by rw[<-e];exact hb),fun b r hb=>h.apart b r (by rw[<-e];exact hb),fun b b' r r' hb hb'=>h.inj b b' r r' (by rw[<-e];exact hb) (by rw[<-e];exact hb'),fun b r hb=>h.nx b r (by rw[<-e];exact hb),h.glob⟩
theorem G0d (h:Ext L K w L' H w') (e:∀b,Abs.look H' b=Abs.look H b):Ext L K w L' H' w':=
 ⟨h.size,h.same,h.more,h.new,fun g ⟨b,r,hb,q⟩=>h.mine g ⟨b,r,by rw[<-e];exact hb,q⟩,h.shape,h.outer⟩
theorem G4z (hok:A1o P Gl L H w) (hx:Ext L H w L' H' w') (hn:L.nx<=L'.nx) (hμ:∀b,b<L.nx->L'.μ b=L.μ b):Mono L w L' w':=⟨hx.keeps hok,hn,hμ,hx.size,hx.shape⟩
theorem D6x {b l k:Nat} {x y:Loop} {p:PV} (hok:A1o P Gl L H w) (hl:Abs.look H b=some (.lp l x k p)) (ht:y.tmps=x.tmps) :
  A1o P Gl L (upd H b (.lp l y k p)) (w.putObj l (.loop y))/\Mono L w L (w.putObj l (.loop y))/\Ext L H w L (upd H b (.lp l y k p)) (w.putObj l (.loop y)):=by
 have hr:=hok.rep b _ hl
 simp only[A4b]at hr
 obtain⟨e,h1,h2⟩:=hr
 have hlt:l<w.heap.size:=by rw[<-e];exact(Array.getElem?_eq_some_iff.1 h1).1
 refine B0p hok ⟨rfl,rfl,rfl⟩ hl World.putObj_size (fun g hg=>World.putObj_heap_other (by rw[<-e];exact hg)) (fun g hg arr ty fz he=>?_) fun hm=>?_
 ·by_cases hgl:g=l
  ·rw[hgl,World.putObj_heap_same hlt]at he
   cases he
  ·rw[World.putObj_heap_other hgl]at he
   exact⟨arr,fz,he,rfl⟩
 ·simp only[A4b]
  refine⟨e,?_,?_⟩
  ·rw[e]
   exact World.putObj_heap_same hlt
  ·rw[ht]
   exact RepV.keep hm p h2
end
theorem D0e {ro:Option Nat} {B:Nat} {id:Nat} {ops:Array Oper} {l:List Mini} {s s':A0b} (hn:s.n=19) (hl:ops.toList.mapM (A2c Try.prog G 19 false ops)=some l) (hd:E5c ops=true) (hr:runL (orc []) l s=some s') {L:Abs.Loc} {a:Act} {w:World} (hi:Interp Try.prog G B L s a w) :
  (Code.region id ops false).wpIn (F2u ro) 0 Try.prog (Post Try.prog G B (fun e s2=>e = .normal/\s2=s') L s.H w) a w:=
 F8n (Q:=fun s2=>s2=s') (.inr (E8v hd)) (B0s ctx0.sound _ (A3e hl) hn hr rfl) hi
theorem G9q {ro:Option Nat} {B:Nat} {ops:Array Oper} {l:List Mini} {s s':A0b} (hn:s.n=19) (hl:ops.toList.mapM (A2c Try.prog G 19 false ops)=some l) (hd:E5c ops=true) (hr:runL (orc []) l s=some s') {L:Abs.Loc} {a:Act} {w:World} (hi:Interp Try.prog G B L s a w) :
  wpListIn (F2u ro) 0 Try.prog ops (Post Try.prog G B (fun e s2=>e = .normal/\s2=s') L s.H w) ops.toList a w:=by
 refine D6c ?_ _ (.inr (E8v hd)) (B0s (Q:=fun s2=>s2=s') ctx0.sound _ (A3e hl) hn hr rfl L a w hi)
 rintro⟨a0,w0,s1,L1,⟨e,_⟩,_⟩
 cases e
end Go.Proofs.Ytbiadmfmjnoecaa
