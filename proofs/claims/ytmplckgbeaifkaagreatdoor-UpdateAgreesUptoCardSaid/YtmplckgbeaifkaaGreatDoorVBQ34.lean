/-
 Auxiliary facts. No statement of the program stands here.
-/
import Derived.StillTailTactics
import Derived.Sort.Grow
import Derived.Test.YtmplckgbeaifkaaGreatDoorVBQ32
namespace Go.Proofs.YtmplckgbeaifkaaGreatDoor
set_option linter.unusedSimpArgs false
set_option linter.unusedVariables false
open Go Go.RowKit Go.Lib Go.Sort
theorem D3o (x:Int) (w:World):Calls Tryz.prog 181 #[.int .i64 x] w fun e w'=>e = .returned (.bool false)/\w'=w:=by
 go_enter Tryz.func181,Tryz.ntmps181
 go_wp2
 go_ret
 simp
theorem D0l (x:ByteArray) (w:World):Calls Tryz.prog 182 #[.string x] w fun e w'=>e = .returned (.bool false)/\w'=w:=by
 go_enter Tryz.func182,Tryz.ntmps182
 go_wp2
 go_ret
 simp
theorem E6b (x y:Int) (w:World):Calls Tryz.prog 149 #[.int .i64 x,.int .i64 y] w fun e w'=>e = .returned (.int .i64 (Go.Abs.cmpI x y))/\w'=w:=by
 have h1:=fun v W=>D3o v W
 go_enter Tryz.func149,Tryz.ntmps149
 go_wp2_with (go_at_call 181;refine(h1 _ _).mono ?_;rintro e w' ⟨rfl,rfl⟩)
 all_goals go_ret
 all_goals refine⟨?_,rfl⟩
 ·rw[show Abs.cmpI x y = -1 from by unfold Abs.cmpI;rw[if_pos (by assumption)]];rfl
 ·rw[show Abs.cmpI x y=1 from by unfold Abs.cmpI;rw[if_neg (by omega),if_pos (by assumption)]];rfl
 ·rw[show Abs.cmpI x y=0 from by unfold Abs.cmpI;rw[if_neg (by omega),if_neg (by omega)]];rfl
theorem F5g (P:Program) (x y:ByteArray) (w:World):(binOp BinOp.gtr 9 (.string x) (.string y)).run P w = .ok (.bool (decide (Abs.lbs y<Abs.lbs x))) w:=by
 have e:(binOp BinOp.gtr 9 (.string x) (.string y)).run P w = .ok (.bool (!(Op.bytesLess x.toList y.toList||x.toList==y.toList))) w:=rfl;rw[e,Abs.C5w,A5v]
theorem E0g (x y:ByteArray) (w:World):Calls Tryz.prog 150 #[.string x,.string y] w fun e w'=>e = .returned (.int .i64 (Go.Abs.cmpS x y))/\w'=w:=by
 have h1:=fun v W=>D0l v W;have hg:=F5g Tryz.prog x y
 obtain⟨c,hc⟩:∃c,c=Abs.cmpS x y:=⟨_,rfl⟩
 rw[<-hc];by_cases h:Abs.lbs x<Abs.lbs y
 ·have e:Abs.cmpS x y = -1:=if_pos h
  have hl:Op.bytesLess x.toList y.toList=true:=by rw[Abs.C4z,A5v];simpa using h
  go_enter Tryz.func150,Tryz.ntmps150
  go_wp2_with (go_at_call 182;refine(h1 _ _).mono ?_;rintro e w' ⟨rfl,rfl⟩)
  go_ret
  rw[hc,e];exact⟨rfl,rfl⟩
 ·have hl:Op.bytesLess x.toList y.toList=false:=by rw[Abs.C4z,A5v];simpa using h
  by_cases k:Abs.lbs y<Abs.lbs x
  ·have e:Abs.cmpS x y=1:=by unfold Abs.cmpS;rw[if_neg h,if_pos k]
   simp only[k,decide_true]at hg
   go_enter Tryz.func150,Tryz.ntmps150
   go_wp2_with (go_at_call 182;refine(h1 _ _).mono ?_;rintro e w' ⟨rfl,rfl⟩)
   go_ret
   rw[hc,e];exact⟨rfl,rfl⟩
  ·have e:Abs.cmpS x y=0:=by unfold Abs.cmpS;rw[if_neg h,if_neg k]
   simp only[k,decide_false]at hg
   go_enter Tryz.func150,Tryz.ntmps150
   go_wp2_with (go_at_call 182;refine(h1 _ _).mono ?_;rintro e w' ⟨rfl,rfl⟩)
   go_ret
   rw[hc,e];exact⟨rfl,rfl⟩
theorem E6c (a b c d:Int) (g cap:Nat) (w:World) (h0:w.cell? ⟨g,0,none⟩=some (.int .i64 a)) (h1:w.cell? ⟨g,1,none⟩=some (.int .i64 b)) (h2:w.cell? ⟨g,2,none⟩=some (.int .i64 c)) (h3:w.cell? ⟨g,3,none⟩=some (.int .i64 d)) :
  Calls Tryz.prog 148 #[.slice (some ⟨g,0,none⟩) 4 cap] w fun e w'=>e = .returned (.int .i64 (orI [a,b,c,d]))/\w'=w:=by
 go_enter Tryz.func148,Tryz.ntmps148
 go_wp2
 refine wp_loop_rounds 5 ?_;have oz:∀(x:Int) (l:List Int),(x != 0)=false->orI (x::l)=orI l:=fun x l h=>if_pos (by simpa using h);have on:∀(x:Int) (l:List Int),(x != 0)=true->orI (x::l)=x:=fun x l h=>if_neg (by simpa using h);rw[rounds_succ]
 go_wp2
 ·rename_i ha
  go_ret
  rw[on a _ ha];exact⟨rfl,rfl⟩
 rename_i ha;rw[rounds_succ]
 go_wp2
 ·rename_i hb
  go_ret
  rw[oz a _ ha,on b _ hb];exact⟨rfl,rfl⟩
 rename_i hb;rw[rounds_succ]
 go_wp2
 ·rename_i hc
  go_ret
  rw[oz a _ ha,oz b _ hb,on c _ hc];exact⟨rfl,rfl⟩
 rename_i hc;rw[rounds_succ]
 go_wp2
 ·rename_i hd
  go_ret
  rw[oz a _ ha,oz b _ hb,oz c _ hc,on d _ hd];exact⟨rfl,rfl⟩
 rename_i hd;rw[rounds_succ]
 go_wp2
 go_ret
 rw[oz a _ ha,oz b _ hb,oz c _ hc,oz d _ hd];exact⟨rfl,rfl⟩
theorem F0z (w:World) (o1 o2:Obj) (n:Nat) (os:Array Obj):grow ((((w.alloc o1).alloc o2).drew).drewN n) os=grow (w.drewN (n+1)) (#[o1,o2]++os):=by
 have h1:((w.alloc o1).alloc o2).heap++os=w.heap++(#[o1,o2]++os):=by
  rw[<-Array.append_assoc];rfl
 have h2:w.drawn+1+n=w.drawn+(n+1):=by omega
 show(⟨((w.alloc o1).alloc o2).heap++os,w.tape,w.drawn+1+n,w.os,w.output⟩:World)=⟨w.heap++(#[o1,o2]++os),w.tape,w.drawn+(n+1),w.os,w.output⟩
 rw[h1,h2]
theorem E6d (a b c d:Int):orI [a,b,c,d]=Abs.A3k a (Abs.A3k b (Abs.A3k c d)):=by
 simp only[orI,Abs.A3k];split
 ·split
  ·split
   ·split<;>simp_all
   ·rfl
  ·rfl
 ·rfl
def encP (p:Abs.Pr):List Value:=[.int .i64 p.kind,.string p.name,.int .i64 p.frm,.int .i64 p.to]
set_option maxRecDepth 100000 in
theorem D3p (x y:Abs.Pr) (w:World):Calls Tryz.prog 115 #[.agg (encP x).toArray,.agg (encP y).toArray] w fun e w'=>e = .returned (.int .i64 (Abs.ordP x y))/\∃n os,w'=grow (w.drewN n) os:=by
 obtain⟨k,n,f,t⟩:=x;obtain⟨k',n',f',t'⟩:=y;have c1:=fun a b W=>E6b a b W;have c2:=fun a b W=>E0g a b W
 go_enter Tryz.func115,Tryz.ntmps115
 go_wp2
 obtain⟨W,hW⟩:∃W,W=(w.alloc (Obj.cells (encP ⟨k,n,f,t⟩).toArray 59)).alloc (Obj.cells (encP ⟨k',n',f',t'⟩).toArray 59):=⟨_,rfl⟩
 rw[<-hW]
 have a0:W.heap[w.heap.size]?=some (.cells (encP ⟨k,n,f,t⟩).toArray 59 (0,0)):=by
  rw[hW];simp only[World.alloc,Array.getElem?_push,Array.size_push];rw[if_neg (by omega),if_pos trivial]
 have a1:W.heap[w.heap.size+1]?=some (.cells (encP ⟨k',n',f',t'⟩).toArray 59 (0,0)):=by
  rw[hW];simp only[World.alloc,Array.getElem?_push,Array.size_push];rw[if_pos trivial]
 have ed:∀a,W.drew.cell? a=W.cell? a:=fun _=>rfl;have e0:W.drew.cell? ⟨w.heap.size,0,none⟩=some (.int .i64 k):=(ed _).trans (by simp[World.cell?,a0,encP]);have e1:W.drew.cell? ⟨w.heap.size,1,none⟩=some (.string n):=(ed _).trans (by simp[World.cell?,a0,encP]);have e2:W.drew.cell? ⟨w.heap.size,2,none⟩=some (.int .i64 f):=(ed _).trans (by simp[World.cell?,a0,encP]);have e3:W.drew.cell? ⟨w.heap.size,3,none⟩=some (.int .i64 t):=(ed _).trans (by simp[World.cell?,a0,encP]);have i0:W.drew.cell? ⟨w.heap.size+1,0,none⟩=some (.int .i64 k'):=(ed _).trans (by simp[World.cell?,a1,encP]);have i1:W.drew.cell? ⟨w.heap.size+1,1,none⟩=some (.string n'):=(ed _).trans (by simp[World.cell?,a1,encP]);have i2:W.drew.cell? ⟨w.heap.size+1,2,none⟩=some (.int .i64 f'):=(ed _).trans (by simp[World.cell?,a1,encP]);have i3:W.drew.cell? ⟨w.heap.size+1,3,none⟩=some (.int .i64 t'):=(ed _).trans (by simp[World.cell?,a1,encP])
 have hg:∀os n,∃n' os',grow (W.drew.drewN n) os=grow (w.drewN n') os':=fun os n=>⟨_,_,by rw[hW];exact F0z w _ _ n os⟩
 refine wp_region_still_tail 20 (by kernel_rfl) (by kernel_rfl) ?_;simp only[World.drew_eq];simp only[List.take_succ_cons,List.take_zero,List.drop_succ_cons,List.drop_zero];generalize W.drew=V at *;clear a0 a1 hW ed
 iterate 3
  iterate 4 still_step
  still_call (c1 _ _ _)
 iterate 4 still_step
 still_call (c2 _ _ _)
 refine wpStill_nil ?_
 have f0:∀o:Obj,(V.alloc o).heap[V.heap.size]?=some o:=fun o=>by
  simp only[World.alloc,Array.getElem?_push];rw[if_pos trivial]
 have hor:∀a b c d cap,Calls Tryz.prog 148 #[.slice (some ⟨V.heap.size,0,none⟩) 4 cap] (V.alloc (Obj.cells #[.int .i64 a,.int .i64 b,.int .i64 c,.int .i64 d] 3)) fun e w'=>e = .returned (.int .i64 (orI [a,b,c,d]))/\w'=V.alloc (Obj.cells #[.int .i64 a,.int .i64 b,.int .i64 c,.int .i64 d] 3):=fun a b c d cap=>
  E6c a b c d _ cap _ (by simp only[World.cell?,f0];rfl) (by simp only[World.cell?,f0];rfl) (by simp only[World.cell?,f0];rfl) (by simp only[World.cell?,f0];rfl)
 clear f0
 go_wp2_with (go_at_call 148;refine(hor _ _ _ _ _).mono ?_;rintro e w' ⟨rfl,rfl⟩)
 go_ret
 refine⟨?_,?_⟩
 ·show Ending.returned (.int .i64 _)=_;rw[E6d];rfl
 ·rw[alloc_eq_grow];exact hg _ 0
open Go Go.Abs
def A9t:A0i:=(.seq (.ops [⟨(some 2),.mv,[(.k (.t (.v (.slice none 0 0))))],none⟩]) (.seq (.seq (.ops [⟨(some 6),.mv,[(.tmp 0)],none⟩,⟨(some 7),.lensl,[(.tmp 6)],none⟩,⟨(some 8),(.bin false .lss none),[(.tmp 7),(.k (.t (.v (.int .i64 2))))],none⟩]) (.cond (.tmp 8) (.seq (.ops [⟨(some 9),.mv,[(.tmp 0)],none⟩,⟨(some 2),.mv,[(.tmp 9)],none⟩]) .ret) .skip)) (.seq (.seq (.ops [⟨(some 3),.mv,[(.k (.t (.v (.int .i64 1))))],none⟩]) (.block 0 (.loop (.seq (.seq (.ops [⟨(some 10),.mv,[(.tmp 3)],none⟩,⟨(some 11),.mv,[(.tmp 0)],none⟩,⟨(some 12),.lensl,[(.tmp 11)],none⟩,⟨(some 13),(.bin false .lss none),[(.tmp 10),(.tmp 12)],none⟩]) (.cond (.tmp 13) .skip (.exit 0))) (.seq (.block 1 (.seq (.draw [⟨(some 16),.mv,[(.tmp 0)],none⟩,⟨(some 17),.mv,[(.tmp 3)],none⟩,⟨(some 18),(.iaddr 4),[(.tmp 16),(.tmp 17)],none⟩,⟨(some 19),(.load true 4),[(.tmp 18)],none⟩,⟨(some 20),.mv,[(.tmp 0)],none⟩,⟨(some 21),.mv,[(.tmp 3)],none⟩,⟨(some 22),(.bin false .sub none),[(.tmp 21),(.k (.t (.v (.int .i64 1))))],none⟩,⟨(some 23),(.iaddr 4),[(.tmp 20),(.tmp 22)],none⟩,⟨(some 24),(.load true 4),[(.tmp 23)],none⟩,⟨(some 25),(.ex (.eqs false [.i,.s,.i,.i])),[(.tmp 19),(.tmp 24)],none⟩]) (.cond (.tmp 25) (.seq (.ops [⟨(some 26),.mv,[(.tmp 0)],none⟩,⟨(some 27),.mv,[(.tmp 3)],none⟩,⟨(some 28),(.slice 4 true false),[(.tmp 26),(.tmp 27)],none⟩,⟨(some 4),.mv,[(.tmp 28)],none⟩]) (.seq (.seq (.ops [⟨(some 5),.mv,[(.k (.t (.v (.int .i64 1))))],none⟩]) (.block 2 (.loop (.seq (.seq (.ops [⟨(some 29),.mv,[(.tmp 5)],none⟩,⟨(some 30),.mv,[(.tmp 4)],none⟩,⟨(some 31),.lensl,[(.tmp 30)],none⟩,⟨(some 32),(.bin false .lss none),[(.tmp 29),(.tmp 31)],none⟩]) (.cond (.tmp 32) .skip (.exit 2))) (.seq (.block 3 (.seq (.draw [⟨(some 35),.mv,[(.tmp 4)],none⟩,⟨(some 36),.mv,[(.tmp 5)],none⟩,⟨(some 37),(.iaddr 4),[(.tmp 35),(.tmp 36)],none⟩,⟨(some 38),(.load true 4),[(.tmp 37)],none⟩,⟨(some 39),.mv,[(.tmp 4)],none⟩,⟨(some 40),.mv,[(.tmp 5)],none⟩,⟨(some 41),(.bin false .sub none),[(.tmp 40),(.k (.t (.v (.int .i64 1))))],none⟩,⟨(some 42),(.iaddr 4),[(.tmp 39),(.tmp 41)],none⟩,⟨(some 43),(.load true 4),[(.tmp 42)],none⟩,⟨(some 44),(.ex (.eqs true [.i,.s,.i,.i])),[(.tmp 38),(.tmp 43)],none⟩]) (.cond (.tmp 44) (.seq (.ops [⟨(some 45),.mv,[(.tmp 0)],none⟩,⟨(some 46),.mv,[(.tmp 3)],none⟩,⟨(some 47),.mv,[(.tmp 4)],none⟩,⟨(some 48),.mv,[(.tmp 5)],none⟩,⟨(some 49),(.iaddr 4),[(.tmp 47),(.tmp 48)],none⟩,⟨(some 50),(.load true 4),[(.tmp 49)],none⟩,⟨(some 51),(.iaddr 4),[(.tmp 45),(.tmp 46)],none⟩,⟨none,(.store 4),[(.tmp 51),(.tmp 50)],none⟩]) (.ops [⟨(some 52),.mv,[(.tmp 3)],none⟩,⟨(some 53),(.bin false .add none),[(.tmp 52),(.k (.t (.v (.int .i64 1))))],none⟩,⟨(some 3),.mv,[(.tmp 53)],none⟩])) .skip))) (.ops [⟨(some 33),.mv,[(.tmp 5)],none⟩,⟨(some 34),(.bin false .add none),[(.tmp 33),(.k (.t (.v (.int .i64 1))))],none⟩,⟨(some 5),.mv,[(.tmp 34)],none⟩])))))) (.seq (.ops [⟨(some 54),.mv,[(.tmp 0)],none⟩,⟨(some 55),.mv,[(.tmp 3)],none⟩,⟨(some 56),(.slice 4 true false),[(.tmp 54),(.tmp 55)],none⟩,⟨none,(.hx (.clr 4 [(.int .i64 0),(.string ⟨#[]⟩),(.int .i64 0),(.int .i64 0)])),[(.tmp 56)],none⟩]) (.seq (.ops [⟨(some 57),.mv,[(.tmp 0)],none⟩,⟨(some 58),.mv,[(.tmp 3)],none⟩,⟨(some 59),(.slice 4 false true),[(.tmp 57),(.tmp 58)],none⟩,⟨(some 2),.mv,[(.tmp 59)],none⟩]) .ret)))) .skip))) (.ops [⟨(some 14),.mv,[(.tmp 3)],none⟩,⟨(some 15),(.bin false .add none),[(.tmp 14),(.k (.t (.v (.int .i64 1))))],none⟩,⟨(some 3),.mv,[(.tmp 15)],none⟩])))))) (.seq (.ops [⟨(some 60),.mv,[(.tmp 0)],none⟩,⟨(some 2),.mv,[(.tmp 60)],none⟩]) .ret))))
theorem B7v {q:Gl}:FnOK Tryz.prog (G q) 118 1 61 A9t [(.tmp 2)]:=⟨Tryz.f118,Tryz.func118,by kernel_rfl,by kernel_rfl,by kernel_rfl,by kernel_rfl⟩
variable {q : Gl}
section
variable {α : Type}
theorem F1a (e:Enc α) {l:List α} {k:Nat} (x:α) (hk:k<l.length):(l.flatMap e.enc).take (k*e.z)++e.enc x++(l.flatMap e.enc).drop (k*e.z+e.z)=(l.set k x).flatMap e.enc:=by
 rw[B0p,show k*e.z+e.z=(k+1)*e.z by rw[Nat.succ_mul],C8l,List.set_eq_take_append_cons_drop,if_pos hk,List.flatMap_append,List.flatMap_cons,List.append_assoc]
theorem F5h {e:Enc α} {ty b:Nat} {H:Heap} {l:List α} (h:Abs.look H b=some (A1b e ty l)) {k:Nat} (x:α) (hk:k<l.length) (hz:1<e.z) :
  A0t e.z H (.ptr b (k*e.z)) (.t (.ag (e.enc x)))=some (upd H b (A1b e ty (l.set k x))):=by
 have hl:((l.flatMap e.enc).map PV.t).length=l.length*e.z:=by rw[List.length_map,A1i]
 have h1:(k+1)*e.z<=l.length*e.z:=Nat.mul_le_mul_right _ hk;rw[Nat.succ_mul]at h1;have hc:A1m (.t (.ag (e.enc x)))=some ((e.enc x).map .t):=rfl;simp only[A0t,hc,h,A1b,List.length_map,e.len,true_and];rw[if_pos (by rw[A1i];exact h1),B3p (by rw[hl,List.length_map,e.len];exact h1)];rw[List.length_map,e.len,<-List.map_take,<-List.map_drop,<-List.map_append,<-List.map_append,F1a e x hk]
end
theorem C6n {H:Heap} {b:Nat} {x:Row} (h:Abs.look H b=some x):upd H b x=H:=by
 induction H with
 | nil=>cases h
 | cons y r ih=>
  obtain⟨k,z⟩:=y;rw[look_cons]at h;rw[upd];split at h
  ·rename_i e;injection h with h;rw[if_pos e,h]
  ·rename_i e;rw[if_neg e,ih h]
theorem E6e {H:Heap} {b:Nat} {x y:Row}:upd (upd H b x) b y=upd H b y:=by
 induction H with
 | nil=>rfl
 | cons z r ih=>
  obtain⟨k,z⟩:=z;rw[upd,upd];split
  ·rename_i e;rw[upd,if_pos e]
  ·rename_i e;rw[upd,if_neg e,ih]
theorem A2m {H:Heap} {b:Nat} {x y:Row} (h:Abs.look H b=some x):Abs.look (upd H b y) b=some y:=by rw[A1h,if_pos rfl,h];rfl
theorem C0x:∀(a:List Pr) (y x:Pr),dedP (a++[y,x])=if y=x then dedP (a++[y])else dedP (a++[y])++[x]
 | [],y,x=>by
  simp only[List.nil_append,dedP];split<;>simp_all
 | [z],y,x=>by
  have ih:=C0x [] y x;simp only[List.cons_append,List.nil_append,dedP]at ih ⊢;split<;>split<;>simp_all
 | z::w::a,y,x=>by
  have ih:=C0x (w::a) y x;simp only[List.cons_append,dedP]at ih ⊢;split
  ·exact ih
  ·rw[ih];split<;>simp
theorem D0m {l:List Pr} {p:Nat} {x y:Pr} (hp:1<=p) (hy:l[p-1]?=some y) (hx:l[p]?=some x):dedP (l.take (p+1))=if x=y then dedP (l.take p)else dedP (l.take p)++[x]:=by
 obtain⟨m,rfl⟩:∃m,p=m+1:=⟨p-1,by omega⟩
 simp only[Nat.add_sub_cancel]at hy
 have e1:l.take (m+1)=l.take m++[y]:=by rw[List.take_add_one,hy];rfl
 have e2:l.take (m+1+1)=l.take m++[y,x]:=by rw[List.take_add_one,hx,e1];simp
 rw[e2,e1,C0x];by_cases h:x=y
 ·rw[if_pos h,if_pos h.symm]
 ·rw[if_neg h,if_neg (Ne.symm h)]
theorem C6o:∀l:List Pr,(dedP l).length<=l.length
 | []=>Nat.le_refl _
 | [_]=>Nat.le_refl _
 | x::y::r=>by
  have:=C6o (y::r);rw[dedP];split
  ·simp only[List.length_cons]at this ⊢;omega
  ·simp only[List.length_cons]at this ⊢;omega
abbrev zPr:Pr:=⟨0,⟨#[]⟩,0,0⟩
def cmpR (l:List Pr):List Pr:=dedP l++List.replicate (l.length-(dedP l).length) zPr
theorem F1b (l:List Pr):(cmpR l).length=l.length:=by
 have:=C6o l;unfold cmpR;rw[List.length_append,List.length_replicate];omega
theorem D0n {l:List Pr} (h:dedP l=l):cmpR l=l:=by unfold cmpR;rw[h,Nat.sub_self];simp
theorem F5i (k:Nat):(A6f [.int .i64 0,.string ⟨#[]⟩,.int .i64 0,.int .i64 0] k).map (fun x=>PV.t (.v x))=((List.replicate k zPr).flatMap ePr.enc).map .t:=by
 have hz:∀k,((List.replicate k zPr).flatMap ePr.enc).length=k*4:=fun k=>by rw[A1i,List.length_replicate];rfl
 apply List.ext_getElem?;intro j
 have hsz:(A6f [.int .i64 0,.string ⟨#[]⟩,.int .i64 0,.int .i64 0] k).length=k*4:=by simp[A6f,Builtin.zeroCells]
 by_cases hj:j<k*4
 ·have hr:∀(k:Nat) (j:Nat),j<k*4->((List.replicate k zPr).flatMap ePr.enc)[j]?=[iv 0,sv ⟨#[]⟩,iv 0,iv 0][j%4]?:=by
   intro k
   induction k with
   | zero=>intro j hj;omega
   | succ k ih=>
    intro j hj;rw[List.replicate_succ,List.flatMap_cons];by_cases h4:j<4
    ·rw[List.getElem?_append_left (by rw[ePr.len];exact h4),Nat.mod_eq_of_lt h4];rfl
    ·rw[List.getElem?_append_right (by rw[ePr.len];show 4<=j;omega),show(ePr.enc zPr).length=4 from rfl,ih (j-4) (by omega),<-Nat.mod_eq_sub_mod (by omega)]
  rw[List.getElem?_map,List.getElem?_map,hr k j hj]
  have:(A6f [.int .i64 0,.string ⟨#[]⟩,.int .i64 0,.int .i64 0] k)[j]?=some ([.int .i64 0,.string ⟨#[]⟩,.int .i64 0,.int .i64 0][j%4]!):=by
   simp only[A6f,Builtin.zeroCells,Array.getElem?_toList,Array.getElem?_map,Array.getElem?_range];rw[if_pos (by simpa using hj)];simp
  rw[this];have h4:j%4<4:=Nat.mod_lt _ (by omega)
  match h:j%4,h4 with
  | 0,_=>rfl
  | 1,_=>rfl
  | 2,_=>rfl
  | 3,_=>rfl
 ·rw[List.getElem?_eq_none (by rw[List.length_map,hsz];omega),List.getElem?_eq_none (by rw[List.length_map,hz];omega)]
theorem clr_p {H:Heap} {nx g k:Nat} {m:List Pr} (hg:Abs.look H g=some (A1b ePr 59 m)) (hk:k<m.length) :
  hxM (.clr 4 [.int .i64 0,.string ⟨#[]⟩,.int .i64 0,.int .i64 0]) H nx [.row g (k*4) (m.length-k) 4]=some (.t (.tu []),upd H g (A1b ePr 59 (m.take k++List.replicate (m.length-k) zPr)),nx):=by
 have hl:((m.flatMap ePr.enc).map PV.t).length=m.length*4:=by rw[List.length_map,A1i];rfl
 have hz:(A6f [.int .i64 0,.string ⟨#[]⟩,.int .i64 0,.int .i64 0] (m.length-k)).length=(m.length-k)*4:=by simp[A6f,Builtin.zeroCells]
 have hfit:k*4+(m.length-k)*4=m.length*4:=by omega
 simp only[hxM,hg,A1b];rw[if_pos ⟨trivial,by omega,by rw[hz,hl];omega⟩,F5i];rw[B3p (by rw[hl,List.length_map,A1i,List.length_replicate];show _+_*4<=_;omega)];congr 3;rw[List.length_map,A1i,List.length_replicate,<-List.map_take,<-List.map_drop,<-List.map_append,<-List.map_append,List.flatMap_append];rw[show(k*4:Nat)=k*ePr.z from rfl,B0p,List.drop_of_length_le (by rw[A1i];show _*4<=k*4+_*4;omega),List.append_nil]
theorem D6w {g n k:Nat} (hk:k<n):A5x 4 (.row g 0 n 4) (some (.t (iv (k:Int)))) none=some (.row g (k*4) (n-k) 4):=by
 simp[A5x,boundV,hk]
theorem F1c {g n k:Nat} (h0:0<k) (hk:k<=n):A5x 4 (.row g 0 n 4) none (some (.t (iv (k:Int))))=some (.row g 0 k 4):=by
 simp[A5x,boundV,h0,hk]
def SC1 (g n:Nat) (H:Heap) (nx:Nat) (k:Nat):A0b:=⟨[(3,.t (iv (k:Int))),(0,.row g 0 n 4)],H,nx,61⟩
def SC2 (g n K:Nat) (H:Heap) (nx:Nat) (a:Nat×Nat×List Pr):A0b:=⟨[(5,.t (iv (a.2.1:Int))),(4,.row g (K*4) (n-K) 4),(3,.t (iv (a.1:Int))),(0,.row g 0 n 4)],upd H g (A1b ePr 59 a.2.2),nx,61⟩
structure OkC2 (l:List Pr) (K:Nat) (a:Nat×Nat×List Pr):Prop where
 k2:1<=a.2.1
 le:K+a.2.1<=l.length
 len:a.2.2.length=l.length
 k1:1<=a.1
 kle:a.1<=K+a.2.1-1
 take:a.2.2.take a.1=dedP (l.take (K+a.2.1))
 drop:a.2.2.drop (K+a.2.1-1)=l.drop (K+a.2.1-1)
theorem B7k {H:Heap} {nx g:Nat} {l:List Pr} (hg:A0p ePr 59 H g l) (hl:l.length<=1000000) :
  A2g Tryz.prog (G q) 118 [rowP ePr g l] H nx (if l.isEmpty then .t nilS else .row g 0 (dedP l).length 4) (if l.isEmpty then H else upd H g (A1b ePr 59 (cmpR l))) nx:=by
 refine B7v.callP rfl ?_;unfold A9t
 match l,hg,hl with
 | [],_,_=>
  refine A0c A0x ?_;simp -implicitDefEqProofs [rowP];exact⟨.inr rfl,_,_,Sub.refl _,rfl,rfl,rfl,rfl⟩
 | [x],hg,_=>
  have hg:=hg.resolve_left (by simp)
  have e:upd H g (A1b ePr 59 (cmpR [x]))=H:=by
   rw[D0n rfl];exact C6n hg
  refine A0c A0x ?_;simp -implicitDefEqProofs [rowP];exact⟨.inr rfl,_,_,Sub.refl _,rfl,rfl,e.symm,rfl⟩
 | x0::x1::r,hg,hl=>
  have hg:=hg.resolve_left (by simp);have hrp:rowP ePr g (x0::x1::r) = .row g 0 (x0::x1::r).length 4:=rfl
  have hn:2<=(x0::x1::r).length:=by simp
  have hne:(x0::x1::r).isEmpty=false:=rfl;have h1:dedP ((x0::x1::r).take 1)=(x0::x1::r).take 1:=rfl;rw[hne,hrp];simp only[Bool.false_eq_true,if_false];generalize x0::x1::r=l at *
  have hn2:¬l.length<2:=by omega
  have hn3:¬(l.length:Int)<2:=by omega
  refine A0a A0x ?_;simp -implicitDefEqProofs;refine A0a A0x ?_;simp -implicitDefEqProofs [B1z,hn3];refine A0o (α:=Unit) (fun _=>⟨[(0,.row g 0 l.length 4)],H,nx,61⟩) (fun _=>dedP l=l) (fun _=>rfl) ?_ ?_
  ·refine A0a A0x ?_;simp -implicitDefEqProofs;refine A0f ?_;refine A0k (SC1 g l.length H nx) (fun k=>l.length-k) (fun k=>1<=k/\k<=l.length/\dedP (l.take k)=l.take k) 1 (fun _=>rfl) ⟨Nat.le_refl _,by omega,h1⟩ ?_ rfl ?_
   ·refine A0d ?_;simp -implicitDefEqProofs [SC1]
   rintro k ⟨hk1,hkn,hded⟩;by_cases hlt:k<l.length
   ·obtain⟨x,hx⟩:∃x,l[k]?=some x:=⟨_,List.getElem?_eq_getElem hlt⟩
    obtain⟨y,hy⟩:∃y,l[k-1]?=some y:=⟨_,List.getElem?_eq_getElem (by omega)⟩
    have i1:A1o 4 (.row g 0 l.length 4) (.t (iv (k:Int)))=some (.ptr g (k*4)):=B6d (e:=ePr) hx;have i2:A1o 4 (.row g 0 l.length 4) (.t (iv ((k-1:Nat):Int)))=some (.ptr g ((k-1)*4)):=B6d (e:=ePr) hy;have e0:IntKind.i64.wrap ((k:Int)-1)=((k-1:Nat):Int):=A0h (by omega) (by omega);have e1:IntKind.i64.wrap ((k:Int)+1)=((k+1:Nat):Int):=A0h (by omega) (by omega);have ld1:A0g true 4 H (.ptr g (k*4))=some (.t (.ag (ePr.enc x))):=A0p.loadAg (e:=ePr) (.inr hg) hx;have ld2:A0g true 4 H (.ptr g ((k-1)*4))=some (.t (.ag (ePr.enc y))):=A0p.loadAg (e:=ePr) (.inr hg) hy;have eq:=C2b x y;have hdt:=D0m hk1 hy hx;refine A0a A0x ?_;simp -implicitDefEqProofs [SC1,B1z,hlt];refine A3m ?_;refine A0f ?_;refine A0a A0x ?_;simp -implicitDefEqProofs [i1,i2,e0,ld1,ld2,eq];by_cases hxy:x=y
    ·rw[if_pos hxy]at hdt;refine B2r (t:=true) (by simp -implicitDefEqProofs [hxy]) ?_;have s1:=D6w (g:=g) hlt;refine A0a A0x ?_;simp -implicitDefEqProofs [s1];refine A0o (α:=Nat×List Pr) (fun a=>⟨[(3,.t (iv (a.1:Int))),(0,.row g 0 l.length 4)],upd H g (A1b ePr 59 a.2),nx,61⟩) (fun a=>a.2.length=l.length/\1<=a.1/\a.1<l.length/\a.2.take a.1=dedP l) (fun _=>rfl) ?_ ?_
     ·refine A0a A0x ?_;simp -implicitDefEqProofs;refine A0f ?_;refine A0k (SC2 g l.length k H nx) (fun a=>l.length-(k+a.2.1)) (OkC2 l k) (k,1,l) (fun _=>rfl) ⟨Nat.le_refl _,by show k+1<=_;omega,rfl,hk1,by show k<=k+1-1;omega,by show l.take k=dedP (l.take (k+1));rw[hdt,hded],rfl⟩ ?_ rfl ?_
      ·unfold SC2;rw[C6n hg];refine A0d ?_;simp -implicitDefEqProofs
      rintro⟨j,k2,m⟩ ⟨hk2,hle,hml,hj1,hj,htk,hdr⟩;simp only at hk2 hle hml hj1 hj htk hdr;have hgm:=A2m (y:=A1b ePr 59 m) hg
      obtain⟨H1,hH1⟩:∃H1,H1=upd H g (A1b ePr 59 m):=⟨_,rfl⟩
      rw[<-hH1]at hgm;by_cases hlt2:k+k2<l.length
      ·obtain⟨u,hu⟩:∃u,l[k+k2]?=some u:=⟨_,List.getElem?_eq_getElem hlt2⟩
       obtain⟨v,hv⟩:∃v,l[k+k2-1]?=some v:=⟨_,List.getElem?_eq_getElem (by omega)⟩
       have hum:m[k+k2]?=some u:=by
        have:=congrArg (fun z=>z[1]?) hdr;simp only[List.getElem?_drop]at this;rw[show k+k2-1+1=k+k2 by omega]at this;rw[this,hu]
       have hvm:m[k+k2-1]?=some v:=by
        have:=congrArg (fun z=>z[0]?) hdr;simp only[List.getElem?_drop,Nat.add_zero]at this;rw[this,hv]
       have i3:A1o 4 (.row g (k*4) (l.length-k) 4) (.t (iv (k2:Int)))=some (.ptr g ((k+k2)*4)):=by
        simp only[A1o,Int.toNat_natCast];rw[if_pos (by omega)];congr 2;omega
       have i4:A1o 4 (.row g (k*4) (l.length-k) 4) (.t (iv ((k2-1:Nat):Int)))=some (.ptr g ((k+k2-1)*4)):=by
        simp only[A1o,Int.toNat_natCast];rw[if_pos (by omega)];congr 2;omega
       have e3:IntKind.i64.wrap ((k2:Int)-1)=((k2-1:Nat):Int):=A0h (by omega) (by omega);have e4:IntKind.i64.wrap ((k2:Int)+1)=((k2+1:Nat):Int):=A0h (by omega) (by omega);have e5:IntKind.i64.wrap ((j:Int)+1)=((j+1:Nat):Int):=A0h (by omega) (by omega);have ld3:A0g true 4 H1 (.ptr g ((k+k2)*4))=some (.t (.ag (ePr.enc u))):=A0p.loadAg (e:=ePr) (.inr hgm) hum;have ld4:A0g true 4 H1 (.ptr g ((k+k2-1)*4))=some (.t (.ag (ePr.enc v))):=A0p.loadAg (e:=ePr) (.inr hgm) hvm;have eq2:=C2b u v
       have hjm:j<m.length:=by omega
       have st:A0t 4 H1 (.ptr g (j*4)) (.t (.ag (ePr.enc u)))=some (upd H1 g (A1b ePr 59 (m.set j u))):=F5h hgm u hjm (by show 1<4;omega)
       have i5:A1o 4 (.row g 0 l.length 4) (.t (iv (j:Int)))=some (.ptr g (j*4)):=by
        rw[<-hml];exact B6d (e:=ePr) (List.getElem?_eq_getElem hjm)
       have hdt2:=D0m (by omega) hv hu
       have lt2:(k2:Int)<((l.length-k:Nat):Int):=by omega
       refine A0c A0x ?_;by_cases huv:u=v
       ·rw[if_pos huv]at hdt2
        have hb:decide (u=v)=true:=by simpa using huv
        simp -implicitDefEqProofs [SC2,<-hH1,B1z,lt2,i3,i4,e3,ld3,ld4,eq2,hb,e4];rw[hH1]
        exact Abs.Next.mk (j,k2+1,m) ⟨⟨by show 1<=k2+1;omega,by show k+(k2+1)<=_;omega,hml,hj1,by show j<=k+(k2+1)-1;omega,by show m.take j=dedP (l.take (k+(k2+1)));rw[<-Nat.add_assoc,hdt2,htk],by
         show m.drop (k+(k2+1)-1)=l.drop (k+(k2+1)-1);have:=congrArg (fun z=>z.drop 1) hdr;simp only[List.drop_drop]at this;rw[show k+(k2+1)-1=k+k2-1+1 by omega]
         exact this⟩,by show l.length-(k+(k2+1))<l.length-(k+k2);omega⟩ (A0d (by simp -implicitDefEqProofs [SC2]))
       ·rw[if_neg huv]at hdt2
        have hb:decide (u=v)=false:=by simpa using huv
        simp -implicitDefEqProofs [SC2,<-hH1,B1z,lt2,i3,i4,i5,e3,ld3,ld4,eq2,hb,e4,e5,st];rw[hH1,E6e];refine Abs.Next.mk (j+1,k2+1,m.set j u) ⟨⟨by show 1<=k2+1;omega,by show k+(k2+1)<=_;omega,by rw[List.length_set];exact hml,by show 1<=j+1;omega,by show j+1<=k+(k2+1)-1;omega,?_,?_⟩,by show l.length-(k+(k2+1))<l.length-(k+k2);omega⟩ (A0d (by simp -implicitDefEqProofs [SC2]))
        ·show(m.set j u).take (j+1)=dedP (l.take (k+(k2+1)));rw[<-Nat.add_assoc,hdt2,<-htk,List.take_add_one,List.take_set,List.getElem?_set_self hjm];rw[List.set_eq_of_length_le (by rw[List.length_take];omega)];rfl
        ·show(m.set j u).drop (k+(k2+1)-1)=l.drop (k+(k2+1)-1);have:=congrArg (fun z=>z.drop 1) hdr;simp only[List.drop_drop]at this;rw[show k+(k2+1)-1=k+k2-1+1 by omega,List.drop_set_of_lt (by omega)];exact this
      ·have lt2:¬(k2:Int)<((l.length-k:Nat):Int):=by omega
       refine A0c A0x ?_;simp -implicitDefEqProofs [SC2,B1z,lt2];exact Abs.Next.mk (j,m) ⟨hml,hj1,by show j<_;omega,by show m.take j=_;rw[htk,List.take_of_length_le (by omega)]⟩ (A0d (by simp -implicitDefEqProofs))
     ·rintro⟨j,m⟩ ⟨hml,hj1,hjn,htk⟩;simp only at hml hj1 hjn htk;have hgm:=A2m (y:=A1b ePr 59 m) hg;have s2:=D6w (g:=g) hjn;have s3:=F1c (g:=g) (show 0<j by omega) (show j<=l.length by omega);have hc:=clr_p (nx:=nx) hgm (show j<m.length by omega);rw[hml,E6e]at hc
      have hjl:(dedP l).length=j:=by rw[<-htk,List.length_take];omega
      have hr:m.take j++List.replicate (l.length-j) zPr=cmpR l:=by rw[htk,cmpR,hjl]
      rw[hr]at hc;refine A0c A0x ?_;simp -implicitDefEqProofs [s2,s3,hc];exact⟨.inr rfl,_,_,Sub.refl _,rfl,by rw[hjl];rfl,rfl,rfl⟩
    ·rw[if_neg hxy]at hdt;refine B2r (t:=false) (by simp -implicitDefEqProofs [hxy]) ?_;refine A0c A0x ?_;simp -implicitDefEqProofs;refine⟨rfl,?_⟩;refine A0c A0x ?_;simp -implicitDefEqProofs [e1];exact Abs.Next.mk (k+1) ⟨⟨by omega,by omega,by rw[hdt,hded,List.take_add_one,hx];rfl⟩,by omega⟩ (A0d (by simp -implicitDefEqProofs [SC1]))
   ·refine A0c A0x ?_;simp -implicitDefEqProofs [SC1,B1z,hlt]
    have e:k=l.length:=by omega
    subst e;rw[List.take_length]at hded;exact Abs.Next.mk () hded (A0d (by simp -implicitDefEqProofs))
  ·rintro _ hded
   have e:upd H g (A1b ePr 59 (cmpR l))=H:=by
    rw[D0n hded];exact C6n hg
   rw[e,hded];refine A0c A0x ?_;simp -implicitDefEqProofs;exact⟨.inr rfl,_,_,Sub.refl _,rfl,rfl,rfl,rfl⟩
end Go.Proofs.YtmplckgbeaifkaaGreatDoor
