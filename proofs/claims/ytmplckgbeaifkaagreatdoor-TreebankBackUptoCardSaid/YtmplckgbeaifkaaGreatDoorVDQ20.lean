/- Auxiliary facts. -/
import Derived.Test.YtmplckgbeaifkaaGreatDoorVDQ19
import Derived.Defers
import Derived.Recover
import Derived.Deep.RegionHeld3
set_option linter.unusedSimpArgs false
set_option linter.unusedVariables false
namespace Go.Proofs.YtmplckgbeaifkaaGreatDoor
open Go Go.RowKit
def recW (w:World) (g0 g1:Nat) (er:Int):World:=
 (((((((w.alloc (.cells #[.int .i64 er] 208)).setCell ⟨g0,0,none⟩ (.int .i64 0)).setCell ⟨g0,1,none⟩ (.string ⟨#[]⟩)).setCell ⟨g0,2,none⟩ (.int .i64 0)).setCell ⟨g0,3,none⟩ (.int .i64 0)).setCell ⟨g0,4,none⟩ (.slice none 0 0)).setCell ⟨g1,0,none⟩ (.int .i64 er)).drew
theorem E3c {er:Int} {g0 g1:Nat} {w:World} {x0 x1 x2 x3 x4 y0:Value} (h0:w.heap[g0]?=some (.cells #[x0,x1,x2,x3,x4] 26 (0,0))) (h1:w.heap[g1]?=some (.cells #[y0] 32 (0,0)))
  (d1:g0≠g1) (l0:g0<w.heap.size) (l1:g1<w.heap.size) :
  CallsD Tryz.prog 198 #[.pointer (some ⟨g0,0,none⟩),.pointer (some ⟨g1,0,none⟩)] (.panicking (Go.Proofs.YtmplckgbeaifkaaGreatDoor.errC er)) w fun e u' w'=>
   e = .returned (.tuple #[])/\u' = .panicking [{ v:=.iface 208 (.agg #[.int .i64 er]),recovered:=true }]/\w'=recW w g0 g1 er:=by
 have c0:w.cell? ⟨g0,0,none⟩=some x0:=by simp[World.cell?,h0]
 have c1:w.cell? ⟨g0,1,none⟩=some x1:=by simp[World.cell?,h0]
 have c2:w.cell? ⟨g0,2,none⟩=some x2:=by simp[World.cell?,h0]
 have c3:w.cell? ⟨g0,3,none⟩=some x3:=by simp[World.cell?,h0]
 have c4:w.cell? ⟨g0,4,none⟩=some x4:=by simp[World.cell?,h0]
 have c5:w.cell? ⟨g1,0,none⟩=some y0:=by simp[World.cell?,h1]
 have f0:∀o,w.frozen? ⟨g0,o,none⟩=false:=fun o=>by simp[World.frozen?,h0]
 have f1:∀o,w.frozen? ⟨g1,o,none⟩=false:=fun o=>by simp[World.frozen?,h1]
 have e1:g1≠g0:=Ne.symm d1
 have n0:w.heap.size≠g0:=by omega
 have n1:w.heap.size≠g1:=by omega
 have m0:g0≠w.heap.size:=by omega
 have m1:g1≠w.heap.size:=by omega
 refine callsD_of_wpS Tryz.func198 rfl fun c₀ cs hu=>?_;simp only[Tryz.ntmps198,List.size_toArray,List.length_cons,List.length_nil,Nat.reduceAdd,Nat.reduceSub,Array.replicate_succ,Array.replicate_zero,List.push_toArray,List.append_toArray,List.nil_append,List.cons_append]
 have hta:∀w:World,(Instr.typeAssert (.iface 208 (.agg #[.int .i64 er])) 20 208 true).run Tryz.prog w = .ok (.tuple #[.agg #[.int .i64 er],.bool true]) w:=fun w=>by kernel_rfl
 apply wpS_seq;apply wpS_region;simp[wpOpsS,go_sem,recoverD,hu,Tryz.ntmps198,Exit.thenS];apply wpS_seq;apply wpS_region;simp[wpOpsS,go_sem,Exit.thenS];refine wpS_cond (t:=true) (by simp[Act.eval,Array.replicate]) ?_;simp only[if_true];refine wpS_of_wp ?_;clear hu
 go_wp2
 obtain⟨N,hN⟩:∃N,N=w.heap.size:=⟨_,rfl⟩
 obtain⟨W,hW⟩:∃W,W=w.alloc (.cells #[.int .i64 er] 208):=⟨_,rfl⟩
 have a0:W.heap[g0]?=some (.cells #[x0,x1,x2,x3,x4] 26 (0,0)):=by rw[hW];simp only[World.alloc,Array.getElem?_push];rw[if_neg m0];exact h0
 have a1:W.heap[g1]?=some (.cells #[y0] 32 (0,0)):=by rw[hW];simp only[World.alloc,Array.getElem?_push];rw[if_neg m1];exact h1
 have a2:W.heap[N]?=some (.cells #[.int .i64 er] 208 (0,0)):=by rw[hW,hN];simp only[World.alloc,Array.getElem?_push];rw[if_pos trivial]
 have k0:W.cell? ⟨g0,0,none⟩=some x0:=by simp[World.cell?,a0]
 have k1:W.cell? ⟨g0,1,none⟩=some x1:=by simp[World.cell?,a0]
 have k2:W.cell? ⟨g0,2,none⟩=some x2:=by simp[World.cell?,a0]
 have k3:W.cell? ⟨g0,3,none⟩=some x3:=by simp[World.cell?,a0]
 have k4:W.cell? ⟨g0,4,none⟩=some x4:=by simp[World.cell?,a0]
 have k5:W.cell? ⟨g1,0,none⟩=some y0:=by simp[World.cell?,a1]
 have k6:W.cell? ⟨N,0,none⟩=some (.int .i64 er):=by simp[World.cell?,a2]
 have z0:∀o,W.frozen? ⟨g0,o,none⟩=false:=fun o=>by simp[World.frozen?,a0]
 have z1:∀o,W.frozen? ⟨g1,o,none⟩=false:=fun o=>by simp[World.frozen?,a1]
 clear a0 a1 a2
 have hr:recW w g0 g1 er=((((((W.setCell ⟨g0,0,none⟩ (.int .i64 0)).setCell ⟨g0,1,none⟩ (.string ⟨#[]⟩)).setCell ⟨g0,2,none⟩ (.int .i64 0)).setCell ⟨g0,3,none⟩ (.int .i64 0)).setCell ⟨g0,4,none⟩ (.slice none 0 0)).setCell ⟨g1,0,none⟩ (.int .i64 er)).drew:=by rw[hW];rfl
 rw[<-hW,<-hN];rw[<-hN]at n0 n1 m0 m1;clear c0 c1 c2 c3 c4 c5 f0 f1 hta hN hW l0 l1 h0 h1
 go_region_held3 (fun w'=>w'.cell? ⟨N,0,none⟩=some (.int .i64 er)) (((try dsimp only);(repeat' apply And.intro)<;>simp[go_sem, *])) (fail)
 show bodyPostS _ _ _ _ _ _ _ _ _;cases c₀;simp[bodyPostS,results,Tryz.results198,hr]
theorem D8b {g0 g1:Addr} {w:World} :
  CallsD Tryz.prog 198 #[.pointer (some g0),.pointer (some g1)] .returning w fun e u' w'=>e = .returned (.tuple #[])/\u' = .returning/\w'=w:=by
 refine callsD_of_wpS Tryz.func198 rfl fun c₀ cs hu=>?_;simp only[Tryz.ntmps198,List.size_toArray,List.length_cons,List.length_nil,Nat.reduceAdd,Nat.reduceSub,Array.replicate_succ,Array.replicate_zero,List.push_toArray,List.append_toArray,List.nil_append,List.cons_append];apply wpS_seq;apply wpS_region;simp[wpOpsS,go_sem,recoverD,hu,Exit.thenS];apply wpS_seq;apply wpS_region;simp[wpOpsS,go_sem,Exit.thenS];refine wpS_cond (t:=false) (by simp[Act.eval]) ?_;simp only[Bool.false_eq_true,if_false];refine wpS_of_wp (wp_skip ?_);cases c₀;simp_all [bodyPostS,results,Tryz.results198]
abbrev zV:Value:=.agg #[.int .i64 0,.string ⟨#[]⟩,.int .i64 0,.int .i64 0,.slice none 0 0]
abbrev zC:Obj:=.cells #[.int .i64 0,.string ⟨#[]⟩,.int .i64 0,.int .i64 0,.slice none 0 0] 26
abbrev preW (w:World) (x:ByteArray):World:=((w.alloc zC).alloc (.cells #[.int .i64 0] 32)).alloc (.cells #[.string x,.int .i64 0] 212)
def putW (w:World) (g:Nat) (k f t:Int) (n:ByteArray) (X:Option Addr) (m c:Nat):World:=
 ((((w.setCell ⟨g,0,none⟩ (.int .i64 k)).setCell ⟨g,1,none⟩ (.string n)).setCell ⟨g,2,none⟩ (.int .i64 f)).setCell ⟨g,3,none⟩ (.int .i64 t)).setCell ⟨g,4,none⟩ (.slice X m c)
theorem A2t {w:World} {g o:Nat} {v:Value} {arr:Array Value} {ty:TypeId} {fz:Nat×Nat} (h:w.heap[g]?=some (.cells arr ty fz)):(w.setCell ⟨g,o,none⟩ v).heap[g]?=some (.cells (arr.setIfInBounds o v) ty fz):=by
 simp[World.setCell,Array.getElem?_modify,h]
theorem A1k {w:World} {g o k:Nat} {v:Value} (h:g≠k):(w.setCell ⟨g,o,none⟩ v).heap[k]?=w.heap[k]?:=by
 simp[World.setCell,Array.getElem?_modify,h]
theorem A3r {w:World} {g o:Nat} {v:Value}:(w.setCell ⟨g,o,none⟩ v).heap.size=w.heap.size:=by simp[World.setCell]
theorem B5f (w:World):w.drew.heap=w.heap:=rfl
section
variable {w : World} {g0 g1 : Nat} {er : Int} {x0 x1 x2 x3 x4 y0 : Value} (h0 : w.heap[g0]? = some (.cells #[x0, x1, x2, x3, x4] 26 (0, 0))) (h1 : w.heap[g1]? = some (.cells #[y0] 32 (0, 0))) (d1 : g0 ≠ g1)
theorem C9a {w:World} {o:Obj} {k:Nat} {x:Obj} (h:w.heap[k]?=some x):(w.alloc o).heap[k]?=some x:=by
 have hk:k<w.heap.size:=(Array.getElem?_eq_some_iff.1 h).1;simp only[World.alloc,Array.getElem?_push];rw[if_neg (by omega)];exact h
include h0 d1 in
theorem E9y:(recW w g0 g1 er).heap[g0]?=some zC:=by
 rw[recW,B5f,A1k (Ne.symm d1),A2t (A2t (A2t (A2t (A2t (C9a h0)))))];rfl
include h1 d1 in
theorem E9z:(recW w g0 g1 er).heap[g1]?=some (.cells #[.int .i64 er] 32 (0,0)):=by
 rw[recW,B5f,A2t (by rw[A1k d1,A1k d1,A1k d1,A1k d1,A1k d1];exact C9a h1)];rfl
theorem E3d {k:Nat} (hk:k<w.heap.size) (e0:g0≠k) (e1:g1≠k):(recW w g0 g1 er).heap[k]?=w.heap[k]?:=by
 rw[recW,B5f,A1k e1,A1k e0,A1k e0,A1k e0,A1k e0,A1k e0];simp only[World.alloc,Array.getElem?_push];rw[if_neg (by omega)]
theorem C9b:(recW w g0 g1 er).heap.size=w.heap.size+1:=by
 rw[recW,B5f];simp only[A3r,World.alloc,Array.size_push]
end
theorem C9c {w1:World} {s:Nat} {er:Int} {x0 x1 x2 x3 x4 y0:Value} (h0:w1.heap[s]?=some (.cells #[x0,x1,x2,x3,x4] 26 (0,0))) (h1:w1.heap[s+1]?=some (.cells #[y0] 32 (0,0))) :
  CallsD Tryz.prog 198 #[.pointer (some ⟨s,0,none⟩),.pointer (some ⟨s+1,0,none⟩)] (.panicking (Go.Proofs.YtmplckgbeaifkaaGreatDoor.errC er)) w1 fun e u' w'=>
   e = .returned (.tuple #[])/\u' = .panicking [{ v:=.iface 208 (.agg #[.int .i64 er]),recovered:=true }]/\w'=recW w1 s (s+1) er:=
 E3c h0 h1 (by omega) (Array.getElem?_eq_some_iff.1 h0).1 (Array.getElem?_eq_some_iff.1 h1).1
theorem E3e {x:ByteArray} {er:Int} {w:World} {J:World->Prop} (hs:¬(65536:Int)<(x.size:Int))
  (hJ:∀w',J w'->w'.heap[w.heap.size]?=some zC/\w'.heap[w.heap.size+1]?=some (.cells #[.int .i64 0] 32 (0,0)))
  (hd:Calls Tryz.prog 199 #[.pointer (some ⟨w.heap.size+2,0,none⟩),.int .i64 1] (preW w x) fun e w'=>e = .panicked (errC er)/\J w') :
  Calls Tryz.prog 165 #[.string x] w fun e w'=>∃w1,J w1/\e = .returned (.tuple #[zV,.int .i64 er])/\w'=recW w1 w.heap.size (w.heap.size+1) er:=by
 have hmf:∀(fn:Fn) (first cap:Array Value) (w:World),(Instr.makeFunc fn first cap).run Tryz.prog w = .ok (.func fn first cap) w:=fun _ _ _ _=>rfl
 go_enter_defers Tryz.func165,Tryz.ntmps165
 go_wp2_with (go_at_call 199;refine hd.mono ?_)
 rintro e w1 rfl hj;obtain⟨h0,h1⟩:=hJ w1 hj;refine leaves_cons (f:=198) (args:=#[.pointer (some ⟨w.heap.size,0,none⟩),.pointer (some ⟨w.heap.size+1,0,none⟩)]) (by simp) (by simp[go_sem]) ?_;refine(C9c h0 h1).mono ?_;rintro e u' w' ⟨rfl,rfl,rfl⟩;simp only[Leaves,settle,List.dropWhile_nil];refine⟨_,?_,w1,hj,rfl,rfl⟩;have c0:=E9y (g1:=w.heap.size+1) (er:=er) h0 (by omega);have c1:=E9z (g0:=w.heap.size) (er:=er) h1 (by omega);generalize recW w1 w.heap.size (w.heap.size+1) er=W at c0 c1
 have e0:W.cell? ⟨w.heap.size,0,none⟩=some (.int .i64 0):=by simp[World.cell?,c0]
 have e1:W.cell? ⟨w.heap.size,1,none⟩=some (.string ⟨#[]⟩):=by simp[World.cell?,c0]
 have e2:W.cell? ⟨w.heap.size,2,none⟩=some (.int .i64 0):=by simp[World.cell?,c0]
 have e3:W.cell? ⟨w.heap.size,3,none⟩=some (.int .i64 0):=by simp[World.cell?,c0]
 have e4:W.cell? ⟨w.heap.size,4,none⟩=some (.slice none 0 0):=by simp[World.cell?,c0]
 have e5:W.cell? ⟨w.heap.size+1,0,none⟩=some (.int .i64 er):=by simp[World.cell?,c1]
 simp[results,Tryz.results165,go_sem,e0,e1,e2,e3,e4,e5]
section
variable {w : World} {g : Nat} {k f t : Int} {n : ByteArray} {X : Option Addr} {m c : Nat} {x0 x1 x2 x3 x4 : Value}
theorem D1p (h:w.heap[g]?=some (.cells #[x0,x1,x2,x3,x4] 26 (0,0))):(putW w g k f t n X m c).heap[g]?=some (.cells #[.int .i64 k,.string n,.int .i64 f,.int .i64 t,.slice X m c] 26 (0,0)):=by
 rw[putW,A2t (A2t (A2t (A2t (A2t h))))];rfl
theorem B6g {b:Nat} (h:g≠b):(putW w g k f t n X m c).heap[b]?=w.heap[b]?:=by
 rw[putW,A1k h,A1k h,A1k h,A1k h,A1k h]
theorem A8l:(putW w g k f t n X m c).heap.size=w.heap.size:=by
 rw[putW,A3r,A3r,A3r,A3r,A3r]
end
theorem D8c {x:ByteArray} {w:World} (hs:(65536:Int)<(x.size:Int)) :
  Calls Tryz.prog 165 #[.string x] w fun e w'=>e = .returned (.tuple #[zV,.int .i64 7])/\Abs.A1t w w'/\w.heap.size<=w'.heap.size/\∀g,g<w.heap.size->w'.heap[g]?=w.heap[g]?:=by
 go_enter_defers Tryz.func165,Tryz.ntmps165
 go_wp2
 have a2:((w.alloc zC).alloc (.cells #[.int .i64 7] 32)).heap.size=w.heap.size+2:=by simp only[World.alloc,Array.size_push]
 have a0:((w.alloc zC).alloc (.cells #[.int .i64 7] 32)).heap[w.heap.size]?=some zC:=by
  simp only[World.alloc,Array.getElem?_push,Array.size_push];rw[if_neg (by omega),if_pos trivial]
 have a1:((w.alloc zC).alloc (.cells #[.int .i64 7] 32)).heap[w.heap.size+1]?=some (.cells #[.int .i64 7] 32 (0,0)):=by
  simp only[World.alloc,Array.getElem?_push,Array.size_push];rw[if_pos trivial]
 have a3:∀g,g<w.heap.size->((w.alloc zC).alloc (.cells #[.int .i64 7] 32)).heap[g]?=w.heap[g]?:=fun g hg=>by
  simp only[World.alloc,Array.getElem?_push,Array.size_push];rw[if_neg (by omega),if_neg (by omega)]
 have a4:Abs.A1t w ((w.alloc zC).alloc (.cells #[.int .i64 7] 32)):=⟨rfl,rfl,rfl⟩
 generalize (w.alloc zC).alloc (.cells #[.int .i64 7] 32)=W at a0 a1 a2 a3 a4
 have e0:W.cell? ⟨w.heap.size,0,none⟩=some (.int .i64 0):=by simp[World.cell?,a0]
 have e1:W.cell? ⟨w.heap.size,1,none⟩=some (.string ⟨#[]⟩):=by simp[World.cell?,a0]
 have e2:W.cell? ⟨w.heap.size,2,none⟩=some (.int .i64 0):=by simp[World.cell?,a0]
 have e3:W.cell? ⟨w.heap.size,3,none⟩=some (.int .i64 0):=by simp[World.cell?,a0]
 have e4:W.cell? ⟨w.heap.size,4,none⟩=some (.slice none 0 0):=by simp[World.cell?,a0]
 have e5:W.cell? ⟨w.heap.size+1,0,none⟩=some (.int .i64 7):=by simp[World.cell?,a1]
 refine⟨_,?_,rfl,a4,by omega,a3⟩;simp[results,Tryz.results165,go_sem,e0,e1,e2,e3,e4,e5]
abbrev JT:=Int->ByteArray->Int->Int->Option Addr->Nat->Nat->World->Prop
def D1q (J:JT) (e:Ending) (w':World):Prop:=∃k n f t X m c,e = .returned (.agg #[.int .i64 k,.string n,.int .i64 f,.int .i64 t,.slice X m c])/\J k n f t X m c w'
def F2b (J:World->Prop) (er:Int) (e:Ending) (w':World):Prop:=e = .panicked (Go.Proofs.YtmplckgbeaifkaaGreatDoor.errC er)/\J w'
theorem D8d {x:ByteArray} {er p:Int} {w:World} {J:JT} {J2:World->Prop} (hs:¬(65536:Int)<(x.size:Int)) (hp:p<(x.size:Int))
  (hJ:∀k n f t X m c w',J k n f t X m c w'->w'.heap[w.heap.size]?=some zC/\w'.heap[w.heap.size+1]?=some (.cells #[.int .i64 0] 32 (0,0))/\w'.cell? ⟨w.heap.size+2,1,none⟩=some (.int .i64 p))
  (hd:Calls Tryz.prog 199 #[.pointer (some ⟨w.heap.size+2,0,none⟩),.int .i64 1] (preW w x) (D1q J))
  (hf:∀k n f t X m c w1,J k n f t X m c w1->Calls Tryz.prog 200 #[.pointer (some ⟨w.heap.size+2,0,none⟩)] (putW w1 w.heap.size k f t n X m c) (F2b J2 er))
  (hJ2:∀w',J2 w'->∃x0 x1 x2 x3 x4 y0,w'.heap[w.heap.size]?=some (.cells #[x0,x1,x2,x3,x4] 26 (0,0))/\w'.heap[w.heap.size+1]?=some (.cells #[y0] 32 (0,0))) :
  Calls Tryz.prog 165 #[.string x] w fun e w'=>∃w1,J2 w1/\e = .returned (.tuple #[zV,.int .i64 er])/\w'=recW w1 w.heap.size (w.heap.size+1) er:=by
 have hmf:∀(fn:Fn) (first cap:Array Value) (w:World),(Instr.makeFunc fn first cap).run Tryz.prog w = .ok (.func fn first cap) w:=fun _ _ _ _=>rfl
 go_enter_defers Tryz.func165,Tryz.ntmps165
 go_wp2_with (go_at_call 199;refine hd.mono ?_)
 intro e w1 hn;obtain⟨k,n,f,t,X,m,c,rfl,hj⟩:=hn;obtain⟨h0,h1,h2⟩:=hJ k n f t X m c w1 hj;have hf:=hf k n f t X m c w1 hj
 have e0:w1.cell? ⟨w.heap.size,0,none⟩=some (.int .i64 0):=by simp[World.cell?,h0]
 have e1:w1.cell? ⟨w.heap.size,1,none⟩=some (.string ⟨#[]⟩):=by simp[World.cell?,h0]
 have e2:w1.cell? ⟨w.heap.size,2,none⟩=some (.int .i64 0):=by simp[World.cell?,h0]
 have e3:w1.cell? ⟨w.heap.size,3,none⟩=some (.int .i64 0):=by simp[World.cell?,h0]
 have e4:w1.cell? ⟨w.heap.size,4,none⟩=some (.slice none 0 0):=by simp[World.cell?,h0]
 have f0:∀o,w1.frozen? ⟨w.heap.size,o,none⟩=false:=fun o=>by simp[World.frozen?,h0]
 have n1:w.heap.size+1≠w.heap.size:=by omega
 have n2:w.heap.size+1+1≠w.heap.size:=by omega
 have h2:w1.cell? ⟨w.heap.size+1+1,1,none⟩=some (.int .i64 p):=h2;clear h0 h1
 go_wp2_with (go_at_call 200;refine hf.mono ?_)
 intro e w2 hn;obtain⟨rfl,hj2⟩:=hn;obtain⟨x0,x1,x2,x3,x4,y0,h0,h1⟩:=hJ2 w2 hj2;refine leaves_cons (f:=198) (args:=#[.pointer (some ⟨w.heap.size,0,none⟩),.pointer (some ⟨w.heap.size+1,0,none⟩)]) (by simp) (by simp[go_sem]) ?_;refine(C9c h0 h1).mono ?_;rintro e u' w' ⟨rfl,rfl,rfl⟩;simp only[Leaves,settle,List.dropWhile_nil];refine⟨_,?_,w2,hj2,rfl,rfl⟩;have c0:=E9y (g1:=w.heap.size+1) (er:=er) h0 (by omega);have c1:=E9z (g0:=w.heap.size) (er:=er) h1 (by omega);generalize recW w2 w.heap.size (w.heap.size+1) er=W at c0 c1
 have e0:W.cell? ⟨w.heap.size,0,none⟩=some (.int .i64 0):=by simp[World.cell?,c0]
 have e1:W.cell? ⟨w.heap.size,1,none⟩=some (.string ⟨#[]⟩):=by simp[World.cell?,c0]
 have e2:W.cell? ⟨w.heap.size,2,none⟩=some (.int .i64 0):=by simp[World.cell?,c0]
 have e3:W.cell? ⟨w.heap.size,3,none⟩=some (.int .i64 0):=by simp[World.cell?,c0]
 have e4:W.cell? ⟨w.heap.size,4,none⟩=some (.slice none 0 0):=by simp[World.cell?,c0]
 have e5:W.cell? ⟨w.heap.size+1,0,none⟩=some (.int .i64 er):=by simp[World.cell?,c1]
 simp[results,Tryz.results165,go_sem,e0,e1,e2,e3,e4,e5]
theorem E3f {x:ByteArray} {p:Int} {w:World} {J:JT} (hs:¬(65536:Int)<(x.size:Int)) (hp:¬p<(x.size:Int))
  (hJ:∀k n f t X m c w',J k n f t X m c w'->w'.heap[w.heap.size]?=some zC/\w'.heap[w.heap.size+1]?=some (.cells #[.int .i64 0] 32 (0,0))/\w'.cell? ⟨w.heap.size+2,1,none⟩=some (.int .i64 p))
  (hd:Calls Tryz.prog 199 #[.pointer (some ⟨w.heap.size+2,0,none⟩),.int .i64 1] (preW w x) (D1q J)) :
  Calls Tryz.prog 165 #[.string x] w fun e w'=>∃k n f t X m c w1,J k n f t X m c w1/\e = .returned (.tuple #[.agg #[.int .i64 k,.string n,.int .i64 f,.int .i64 t,.slice X m c],.int .i64 0])/\w'=(putW (putW w1 w.heap.size k f t n X m c) w.heap.size k f t n X m c).setCell ⟨w.heap.size+1,0,none⟩ (.int .i64 0):=by
 have hmf:∀(fn:Fn) (first cap:Array Value) (w:World),(Instr.makeFunc fn first cap).run Tryz.prog w = .ok (.func fn first cap) w:=fun _ _ _ _=>rfl
 go_enter_defers Tryz.func165,Tryz.ntmps165
 go_wp2_with (go_at_call 199;refine hd.mono ?_)
 intro e w1 hn;obtain⟨k,n,f,t,X,m,c,rfl,hj⟩:=hn;obtain⟨h0,h1,h2⟩:=hJ k n f t X m c w1 hj
 have e0:w1.cell? ⟨w.heap.size,0,none⟩=some (.int .i64 0):=by simp[World.cell?,h0]
 have e1:w1.cell? ⟨w.heap.size,1,none⟩=some (.string ⟨#[]⟩):=by simp[World.cell?,h0]
 have e2:w1.cell? ⟨w.heap.size,2,none⟩=some (.int .i64 0):=by simp[World.cell?,h0]
 have e3:w1.cell? ⟨w.heap.size,3,none⟩=some (.int .i64 0):=by simp[World.cell?,h0]
 have e4:w1.cell? ⟨w.heap.size,4,none⟩=some (.slice none 0 0):=by simp[World.cell?,h0]
 have e5:w1.cell? ⟨w.heap.size+1,0,none⟩=some (.int .i64 0):=by simp[World.cell?,h1]
 have f0:∀o,w1.frozen? ⟨w.heap.size,o,none⟩=false:=fun o=>by simp[World.frozen?,h0]
 have f1:∀o,w1.frozen? ⟨w.heap.size+1,o,none⟩=false:=fun o=>by simp[World.frozen?,h1]
 have n1:w.heap.size+1≠w.heap.size:=by omega
 have n2:w.heap.size+1+1≠w.heap.size:=by omega
 have h2:w1.cell? ⟨w.heap.size+1+1,1,none⟩=some (.int .i64 p):=h2
 have n3:w.heap.size≠w.heap.size+1:=by omega
 have keep:w1.heap[w.heap.size]?=some zC/\w1.heap[w.heap.size+1]?=some (.cells #[.int .i64 0] 32 (0,0)):=⟨h0,h1⟩
 clear h0 h1
 go_wp2
 refine leaves_cons (f:=198) (args:=#[.pointer (some ⟨w.heap.size,0,none⟩),.pointer (some ⟨w.heap.size+1,0,none⟩)]) (by simp) (by simp[go_sem]) ?_;refine D8b.mono ?_;rintro e u' w' ⟨rfl,rfl,rfl⟩;simp only[Leaves,settle];refine⟨_,?_,k,n,f,t,X,m,c,w1,hj,rfl,rfl⟩
 obtain⟨W,hW⟩:∃W,W=(putW (putW w1 w.heap.size k f t n X m c) w.heap.size k f t n X m c).setCell ⟨w.heap.size+1,0,none⟩ (.int .i64 0):=⟨_,rfl⟩
 have b0:W.heap[w.heap.size]?=some (.cells #[.int .i64 k,.string n,.int .i64 f,.int .i64 t,.slice X m c] 26 (0,0)):=by
  rw[hW,A1k n1,D1p (D1p keep.1)]
 have b1:W.heap[w.heap.size+1]?=some (.cells #[.int .i64 0] 32 (0,0)):=by
  rw[hW,A2t (by rw[B6g n3,B6g n3];exact keep.2)];rfl
 have g0:W.cell? ⟨w.heap.size,0,none⟩=some (.int .i64 k):=by simp[World.cell?,b0]
 have g1:W.cell? ⟨w.heap.size,1,none⟩=some (.string n):=by simp[World.cell?,b0]
 have g2:W.cell? ⟨w.heap.size,2,none⟩=some (.int .i64 f):=by simp[World.cell?,b0]
 have g3:W.cell? ⟨w.heap.size,3,none⟩=some (.int .i64 t):=by simp[World.cell?,b0]
 have g4:W.cell? ⟨w.heap.size,4,none⟩=some (.slice X m c):=by simp[World.cell?,b0]
 have g5:W.cell? ⟨w.heap.size+1,0,none⟩=some (.int .i64 0):=by simp[World.cell?,b1]
 show(Go.results _ _).run _ ((putW (putW w1 w.heap.size k f t n X m c) w.heap.size k f t n X m c).setCell ⟨w.heap.size+1,0,none⟩ (.int .i64 0))=_;rw[<-hW];simp[results,Tryz.results165,go_sem,g0,g1,g2,g3,g4,g5];rw[hW];rfl
open Go Go.Abs
variable {q : Gl} {l : List UInt8}
section
variable {w : World} {x : ByteArray}
theorem E3g:(preW w x).heap.size=w.heap.size+3:=by simp only[preW,World.alloc,Array.size_push]
theorem D4v {k:Nat} (h:k<w.heap.size):(preW w x).heap[k]?=w.heap[k]?:=by
 simp only[preW,World.alloc,Array.getElem?_push,Array.size_push];rw[if_neg (by omega),if_neg (by omega),if_neg (by omega)]
theorem F4y:(preW w x).heap[w.heap.size]?=some zC:=by
 simp only[preW,World.alloc,Array.getElem?_push,Array.size_push];rw[if_neg (by omega),if_neg (by omega),if_pos trivial]
theorem F4z:(preW w x).heap[w.heap.size+1]?=some (.cells #[.int .i64 0] 32 (0,0)):=by
 simp only[preW,World.alloc,Array.getElem?_push,Array.size_push];rw[if_neg (by omega),if_pos trivial]
theorem F5a:(preW w x).heap[w.heap.size+2]?=some (.cells #[.string x,.int .i64 0] 212 (0,0)):=by
 simp only[preW,World.alloc,Array.getElem?_push,Array.size_push];rw[if_pos trivial]
theorem E7p:A1t w (preW w x):=⟨rfl,rfl,rfl⟩
theorem A1t.set {a:Addr} {v:Value}:A1t w (w.setCell a v):=⟨rfl,rfl,rfl⟩
theorem A1t.al {o:Obj}:A1t w (w.alloc o):=⟨rfl,rfl,rfl⟩
theorem A1t.drew:A1t w w.drew:=⟨rfl,rfl,rfl⟩
theorem D4w {g0 g1:Nat} {er:Int}:A1t w (recW w g0 g1 er):=(((((((A1t.al.trans A1t.set).trans A1t.set).trans A1t.set).trans A1t.set).trans A1t.set).trans A1t.set).trans A1t.drew)
theorem D4x {g:Nat} {k f t:Int} {n:ByteArray} {X:Option Addr} {m c:Nat}:A1t w (putW w g k f t n X m c):=((((A1t.set.trans A1t.set).trans A1t.set).trans A1t.set).trans A1t.set)
end
structure Aft (s:Nat) (w w':World):Prop where
 out:A1t w w'
 size:w.heap.size<=w'.heap.size
 same:∀k,k<w.heap.size->k≠s->k≠s+1->w'.heap[k]?=w.heap[k]?
theorem Aft.put {s:Nat} {w w':World} {k f t:Int} {n:ByteArray} {X:Option Addr} {m c:Nat} (h:Aft s w w'):Aft s w (putW w' s k f t n X m c):=
 ⟨h.out.trans D4x,by rw[A8l];exact h.size,fun b hb h0 h1=>(B6g (Ne.symm h0)).trans (h.same b hb h0 h1)⟩
theorem Aft.refl (s:Nat) (w:World):Aft s w w:=⟨A1t.refl w,Nat.le_refl _,fun _ _ _ _=>rfl⟩
theorem Aft.set1 {s:Nat} {w w':World} {v:Value} (h:Aft s w w'):Aft s w (w'.setCell ⟨s+1,0,none⟩ v):=
 ⟨h.out.trans A1t.set,by rw[A3r];exact h.size,fun b hb h0 h1=>(A1k (Ne.symm h1)).trans (h.same b hb h0 h1)⟩
theorem Aft.rcv {s:Nat} {er:Int} {w w':World} (h:Aft s w w'):Aft s w (recW w' s (s+1) er):=
 ⟨h.out.trans D4w,by rw[C9b];exact Nat.le_succ_of_le h.size,fun b hb h0 h1=>(E3d (Nat.lt_of_lt_of_le hb h.size) (Ne.symm h0) (Ne.symm h1)).trans (h.same b hb h0 h1)⟩
theorem D4y {G:A0q} {I I':Nat->Prop} {w W0 w1 w':World} (s0:W0.heap.size=w.heap.size+3) (old:∀k,k<w.heap.size->W0.heap[k]?=w.heap[k]?) (out:A1t w W0) (hL:Left G I W0 (w.heap.size+2) I' w1) (hA:Aft w.heap.size w1 w') :
  A1t w w'/\w.heap.size<=w'.heap.size/\(∀g,g<w.heap.size->w'.heap[g]?=w.heap[g]?)/\(∀g,I g->I' g)/\(∀g,I' g->I g\/w.heap.size<=g)/\(∀g,I' g->g<w'.heap.size):=by
 have h1:=hL.size;rw[s0]at h1;have h2:=hA.size;refine⟨out.trans (hL.out.trans hA.out),by omega,fun g hg=>?_,hL.more,fun g hg=>?_,fun g hg=>Nat.lt_of_lt_of_le (hL.lt g hg) h2⟩
 ·exact(hA.same g (by omega) (by omega) (by omega)).trans ((hL.same g (by omega) (by omega)).trans (old g hg))
 ·rcases hL.new g hg with h2 | h2 | h2
  ·exact .inl h2
  ·exact .inr (by omega)
  ·exact .inr (by omega)
theorem E3h {α:Type} {e:Enc α} {l:List α} {I:Nat->Prop} {w:World} {t:T} {u:Value} (h:IsS e t l) (hr:RepT I w t u):∃A n c,u = .slice A n c:=by
 rcases h with⟨rfl,rfl⟩ | rfl
 ·simp only[RepT]at hr;exact⟨_,_,_,hr⟩
 ·simp only[slT,RepT]at hr;obtain⟨a,c,e,_⟩:=hr;exact⟨_,_,_,e⟩
theorem C5m {I:Nat->Prop} {w:World}:RepT I w (.ag (encD A1y)) zV:=by
 rw[encZ];simp only[RepT,RepL];exact⟨_,rfl,by simp[Value.oneCell'],_,_,rfl,rfl,_,_,rfl,rfl,_,_,rfl,rfl,_,_,rfl,rfl,_,_,rfl,rfl,rfl⟩
theorem C5n {I:Nat->Prop} {w:World} {x:T} {v:Value} {a:Int} (h:RepT I w x v):RepT I w (.tu [x,iv a]) (.tuple #[v,.int .i64 a]):=by
 simp only[RepT,RepL];exact⟨_,rfl,_,_,rfl,h,_,_,rfl,rfl,rfl⟩
theorem F5b {I:Nat->Prop} {w:World} {d:Dv} {v:Value} (hv:RepT I w (.ag (encD d)) v):∃k n f t X m c,v = .agg #[.int .i64 k,.string n,.int .i64 f,.int .i64 t,.slice X m c]:=by
 cases d with
 | mk kind name frm to kids=>
  rw[C4p]at hv;simp only[RepT,RepL]at hv;obtain⟨us,rfl,_,a1,r1,e1,rfl,a2,r2,e2,rfl,a3,r3,e3,rfl,a4,r4,e4,rfl,a5,r5,e5,h5,e6⟩:=hv;obtain⟨X,m,c,rfl⟩:=E3h (IsS.tree eD kids) h5;subst e6;subst e5;subst e4;subst e3;subst e2;exact⟨kind,name,frm,to,X,m,c,by congr 1;rw[<-Array.toList_inj];exact e1⟩
theorem D8e:IsFn Tryz.prog 165:=⟨_,_,Tryz.func165,rfl,rfl⟩
theorem E7q:A0z Tryz.prog (G q) 165 [sv (bs l)] (· = parT l):=by
 refine⟨D8e,fun I w us hlt hglob hrep=>?_⟩
 obtain rfl:us = #[.string (bs l)]:=by
  simp only[RepL,RepT]at hrep;obtain⟨x,xs,e1,rfl,rfl⟩:=hrep;rw[<-Array.toList_inj];exact e1
 by_cases hbig:65536<l.length
 ·rw[E7d hbig];refine(D8c (x:=bs l) (by rw[A0l];omega)).mono ?_;rintro e w' ⟨rfl,out,size,same⟩;exact⟨_,_,I,rfl,rfl,C5n C5m,out,size,same,fun _ h=>h,fun _ h=>.inl h,fun b hb=>Nat.lt_of_lt_of_le (hlt b hb) size⟩
 have hsz:¬(65536:Int)<((bs l).size:Int):=by rw[A0l];omega
 have hkp:B3w I I w (preW w (bs l)):=fun b hb=>⟨hb,D4v (hlt b hb)⟩
 have s0:=E3g (w:=w) (x:=bs l);have old:∀k,k<w.heap.size->(preW w (bs l)).heap[k]?=w.heap[k]?:=fun k hk=>D4v hk;have w0:=F4y (w:=w) (x:=bs l);have w1:=F4z (w:=w) (x:=bs l);have w2:=F5a (w:=w) (x:=bs l);have hout:=E7p (w:=w) (x:=bs l)
 have hlt3:¬I (w.heap.size+2):=fun h=>by have:=hlt _ h;omega
 have hlt4:∀b,I b->b<(preW w (bs l)).heap.size:=fun b hb=>by have:=hlt b hb;rw[s0];exact Nat.lt_of_lt_of_le this (Nat.le_add_right _ _)
 have hD:=D4u (q:=q) (E7o (q:=q) (l:=l) (i:=0) (by omega) (by omega)) (I:=I) (w:=preW w (bs l)) (g:=w.heap.size+2) (vs:=[.int .i64 1]) hlt4
  (fun g cs h=>⟨(hglob g cs h).1,RepG.keep hkp (hglob g cs h).1 (hglob g cs h).2⟩) w2 rfl rfl hlt3 (fun L=>by simp only[List.map_cons,List.map_nil,A0m,RepV,RepT];exact⟨_,_,rfl,rfl,rfl⟩)
 rw[List.drop_zero]at hD;have pre0:∀{I' w1},Left (G q) I (preW w (bs l)) (w.heap.size+2) I' w1->w1.heap[w.heap.size]?=some zC:=fun h=>(h.same _ (by omega) (by omega)).trans w0;have pre1:∀{I' w1},Left (G q) I (preW w (bs l)) (w.heap.size+2) I' w1->w1.heap[w.heap.size+1]?=some (.cells #[.int .i64 0] 32 (0,0)):=fun h=>(h.same _ (by omega) (by omega)).trans w1;unfold parT parD;rw[if_neg hbig]
 cases hd:A2i 64 l with
 | error er=>
  rw[hd]at hD;have hR:=E3e (er:=er) (J:=fun w'=>∃I',Left (G q) I (preW w (bs l)) (w.heap.size+2) I' w') hsz (fun w' ⟨I',h⟩=>⟨pre0 h,pre1 h⟩) (hD.mono fun e w' ⟨I',h1,h2⟩=>⟨h1,I',h2⟩);refine hR.mono ?_;rintro e w' ⟨v1,⟨I',hL⟩,rfl,rfl⟩;exact⟨_,_,I',rfl,rfl,C5n C5m,D4y s0 old hout hL (Aft.refl _ _).rcv⟩
 | ok y=>
  obtain⟨d,r⟩:=y;rw[hd]at hD
  have hat:At l (l.length-r.length) r:=by
   have h9:At l 0 (prtD d++r):=⟨by omega,by rw[List.drop_zero];exact B4s _ _ _ _ hd⟩
   exact h9.suf.1
  obtain⟨p,hp⟩:∃p,p=l.length-r.length:=⟨_,rfl⟩
  obtain⟨J,hJ⟩:∃J:JT,J=fun k n f t X m c w'=>∃(I':Nat->Prop) (ar:Array Value),RepT I' w' (.ag (encD d)) (.agg #[.int .i64 k,.string n,.int .i64 f,.int .i64 t,.slice X m c])/\w'.heap[w.heap.size+2]?=some (.cells ar 212 (0,0))/\ar[0]?=some (.string (bs l))/\ar[1]?=some (.int .i64 (p:Int))/\Left (G q) I (preW w (bs l)) (w.heap.size+2) I' w'/\¬I' (w.heap.size+2):=⟨_,rfl⟩
  have hN:Calls Tryz.prog 199 #[.pointer (some ⟨w.heap.size+2,0,none⟩),.int .i64 1] (preW w (bs l)) (D1q J):=hD.mono fun e w' ⟨I',h1,h2⟩=>by
   obtain⟨v,ar,rfl,hv,ha,a0,a1,hn⟩:=h1;obtain⟨k,n,f,t,X,m,c,rfl⟩:=F5b hv;exact⟨k,n,f,t,X,m,c,rfl,by rw[hJ];exact⟨I',ar,hv,ha,a0,by rw[hp];exact a1,h2,hn⟩⟩
  have hJ0:∀k n f t X m c w',J k n f t X m c w'->w'.heap[w.heap.size]?=some zC/\w'.heap[w.heap.size+1]?=some (.cells #[.int .i64 0] 32 (0,0))/\w'.cell? ⟨w.heap.size+2,1,none⟩=some (.int .i64 (p:Int)):=fun k n f t X m c w' h=>by
   rw[hJ]at h;obtain⟨I',ar,hv,ha,a0,a1,hL,hn⟩:=h;exact⟨pre0 hL,pre1 hL,by simp only[World.cell?,ha];exact a1⟩
  have hI:∀{I' w1},Left (G q) I (preW w (bs l)) (w.heap.size+2) I' w1->¬I' (w.heap.size+2)->∀b,I' b->b≠w.heap.size/\b≠w.heap.size+1:=fun {I' w1} hL hn b hb=>by
   rcases hL.new b hb with h2 | h2 | h2
   ·have:=hlt b h2;omega
   ·rw[s0]at h2;omega
   ·rw[h2]at hb;exact absurd hb hn
  cases r with
  | nil=>
   have hpl:¬(p:Int)<((bs l).size:Int):=by rw[A0l,hp,List.length_nil];omega
   have hR:=E3f hsz hpl hJ0 hN;refine hR.mono ?_;rintro e w' ⟨k,n,f,t,X,m,c,v1,hj,rfl,rfl⟩;rw[hJ]at hj;obtain⟨I',ar,hv,ha,a0,a1,hL,hn⟩:=hj;have hA:Aft w.heap.size v1 ((putW (putW v1 w.heap.size k f t n X m c) w.heap.size k f t n X m c).setCell ⟨w.heap.size+1,0,none⟩ (.int .i64 0)):=(Aft.refl _ _).put.put.set1
   have hk2:B3w I' I' v1 ((putW (putW v1 w.heap.size k f t n X m c) w.heap.size k f t n X m c).setCell ⟨w.heap.size+1,0,none⟩ (.int .i64 0)):=fun b hb=>⟨hb,hA.same b (hL.lt b hb) (hI hL hn b hb).1 (hI hL hn b hb).2⟩
   exact⟨_,_,I',rfl,rfl,C5n (RepT.keep hk2 _ hv),D4y s0 old hout hL hA⟩
  | cons z r=>
   have hpl:(p:Int)<((bs l).size:Int):=by
    have:=hat.le;have h9:=congrArg List.length hat.eq;rw[List.length_drop]at h9;rw[A0l,hp];simp only[List.length_cons]at h9 ⊢;omega
   obtain⟨J2,hJ2⟩:∃J2:World->Prop,J2=fun w'=>A1t w w'/\w.heap.size<=w'.heap.size/\(∀k,k<w.heap.size->w'.heap[k]?=w.heap[k]?)/\(∃x0 x1 x2 x3 x4 y0,w'.heap[w.heap.size]?=some (.cells #[x0,x1,x2,x3,x4] 26 (0,0))/\w'.heap[w.heap.size+1]?=some (.cells #[y0] 32 (0,0))):=⟨_,rfl⟩
   have hR:=D8d (er:=8) (J2:=J2) hsz hpl hJ0 hN (fun k n f t X m c w1 hj=>?_) (fun w' h=>by rw[hJ2]at h;exact h.2.2.2)
   ·refine hR.mono ?_;rintro e w' ⟨v1,hj,rfl,rfl⟩;rw[hJ2]at hj;obtain⟨out,size,same,_⟩:=hj;have hs9:=C9b (w:=v1) (g0:=w.heap.size) (g1:=w.heap.size+1) (er:=8);exact⟨_,_,I,rfl,rfl,C5n C5m,out.trans D4w,by omega,fun g hg=>(E3d (by omega) (by omega) (by omega)).trans (same g hg),fun _ h=>h,fun _ h=>.inl h,fun b hb=>by have:=hlt b hb;omega⟩
   ·rw[hJ]at hj;obtain⟨I',ar,hv,ha,a0,a1,hL,hn⟩:=hj;have hA:Aft w.heap.size w1 (putW w1 w.heap.size k f t n X m c):=(Aft.refl _ _).put
    have hk2:B3w I' I' w1 (putW w1 w.heap.size k f t n X m c):=fun b hb=>⟨hb,hA.same b (hL.lt b hb) (hI hL hn b hb).1 (hI hL hn b hb).2⟩
    have hsz1:=hL.size
    have hF:=D4u (q:=q) (E2x (q:=q) (l:=l) (i:=p)) (I:=I') (w:=putW w1 w.heap.size k f t n X m c) (g:=w.heap.size+2) (vs:=[]) (fun b hb=>by rw[A8l];exact hL.lt b hb)
     (fun g cs h=>⟨(hL.glob g cs h).1,RepG.keep hk2 (hL.glob g cs h).1 (hL.glob g cs h).2⟩) (by rw[B6g (by omega)];exact ha) a0 a1 hn (fun L=>by simp only[List.map_nil,A0m])
    refine hF.mono ?_;rintro e w' ⟨I2,h1,h2⟩
    have e8:eosE (l.drop p)=8:=by rw[hp,hat.eq];rfl
    rw[e8]at h1;refine⟨h1,?_⟩;rw[hJ2];have hs2:=h2.size;rw[A8l]at hs2;refine⟨hout.trans (hL.out.trans (D4x.trans h2.out)),by omega,fun b hb=>?_,?_⟩
    ·exact(h2.same b (by rw[A8l];omega) (by omega)).trans ((B6g (by omega)).trans ((hL.same b (by omega) (by omega)).trans (old b hb)))
    ·refine⟨_,_,_,_,_,_,(h2.same _ (by rw[A8l];omega) (by omega)).trans (D1p (pre0 hL)),(h2.same _ (by rw[A8l];omega) (by omega)).trans ((B6g (by omega)).trans (pre1 hL))⟩
end Go.Proofs.YtmplckgbeaifkaaGreatDoor
