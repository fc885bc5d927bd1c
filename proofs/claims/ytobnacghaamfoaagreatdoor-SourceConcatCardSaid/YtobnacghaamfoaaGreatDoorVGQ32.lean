/- Auxiliary facts. -/
import Derived.Test.YtobnacghaamfoaaGreatDoorVGQ30
import Derived.Defers
import Derived.Recover
import Derived.Deep.RegionHeld3
import Derived.Test.YtobnacghaamfoaaGreatDoorVGQ29
set_option linter.unusedSimpArgs false
set_option maxRecDepth 100000
set_option maxHeartbeats 0
set_option linter.unusedVariables false
open Go.Proofs.Tryz renaming prog->Xa,ntmps155->Yb,func133->Yd,func155->Yl,results155->Yw,ntmps133->Yy,results133->Yz
open Go.Abs renaming upd->Xb,rowP->X9
open List renaming length_map->Xc,getElem?_eq_getElem->Xe,drop_of_length_le->Xg,drop_eq_getElem_cons->Xh,mem_of_getElem?->Xi,getElem?_eq_some_iff->Xj,drop_zero->Xn,getElem?_map->Xp,mem_singleton->Xq,length_drop->Xt,length_cons->Xx,append_nil->Xy,drop_eq_nil_of_le->Xz,mem_cons->X0,take_succ_cons->X6,drop->X7,take_of_length_le->X8,nil_append->Yc,takeWhile_cons->Yf,isEmpty_cons->Yg,length_append->Yh,size_toArray->Ym,length_nil->Yn,push_toArray->Ys,append_toArray->Yt,cons_append->Yu,drop_drop->Y3,mem_or_eq_of_mem_set->Y7,not_mem_nil->Y8,eq_nil_of_length_eq_zero->Za,any_cons->Zb,all_cons->Zc
open Go.IntKind renaming i64->Xd
open Nat renaming zero_le->Xf,le_succ->Xl,le_refl->Xo,zero_add->Xs,lt_succ_self->Xu,lt_of_lt_of_le->Ye,reduceAdd->Yo,reduceSub->Yp,le_add_right->Y1,mul_le_mul->Y5,succ_le_succ->Y6
open Bool renaming false_eq_true->Xk,false_and->Ya,and_eq_true->Yk,not_eq_true'->Y9,true_and->Zd
open Option renaming map_some->Xm,bind_some->Xv
open Array renaming size_push->Xr,getElem?_push->Xw,replicate_succ->Yq,replicate_zero->Yr,replicate->Yv,getElem?_modify->Yx,toList_inj->Y0,getElem?_eq_getElem->Ze
open Int renaming toNat_natCast->Yi,eq_ofNat_of_zero_le->Yj
open UInt8 renaming toNat_inj->Y4
namespace Go.Proofs.YtobnacghaamfoaaGreatDoor
open Go Go.RowKit
def Hi (w:World) (g0 g1 g2:Nat) (er:Int):World:=
 (((((w.setCell ⟨g0,0,none⟩ (.int .i64 0)).setCell ⟨g0,1,none⟩ (.string ⟨#[]⟩)).setCell ⟨g0,2,none⟩ (.slice none 0 0)).setCell ⟨g0,3,none⟩ (.slice none 0 0)).setCell ⟨g1,0,none⟩ (.int .i64 0)).setCell ⟨g2,0,none⟩ (.int .i64 er)
theorem A2c {er:Int} {g0 g1 g2:Nat} {w:World} {x0 x1 x2 x3 y0 z0:Value} (h0:w.heap[g0]?=some (.cells #[x0,x1,x2,x3] 57 (0,0))) (h1:w.heap[g1]?=some (.cells #[y0] 3 (0,0))) (h2:w.heap[g2]?=some (.cells #[z0] 24 (0,0)))
  (d1:g0≠g1) (d2:g0≠g2) (d3:g1≠g2) :
  CallsD Xa 155 #[.pointer (some ⟨g0,0,none⟩),.pointer (some ⟨g1,0,none⟩),.pointer (some ⟨g2,0,none⟩)] (.panicking (C7 er)) w λe u' w'=>
   e = .returned (.tuple #[])/\u' = .panicking [{ v:=.iface 24 (.int .i64 er),recovered:=true }]/\w'=Hi w g0 g1 g2 er:=by
 have c0:w.cell? ⟨g0,0,none⟩=some x0:=by simp[World.cell?,h0]
 have c1:w.cell? ⟨g0,1,none⟩=some x1:=by simp[World.cell?,h0]
 have c2:w.cell? ⟨g0,2,none⟩=some x2:=by simp[World.cell?,h0]
 have c3:w.cell? ⟨g0,3,none⟩=some x3:=by simp[World.cell?,h0]
 have c4:w.cell? ⟨g1,0,none⟩=some y0:=by simp[World.cell?,h1]
 have c5:w.cell? ⟨g2,0,none⟩=some z0:=by simp[World.cell?,h2]
 have f0:∀o,w.frozen? ⟨g0,o,none⟩=false:=λo=>by simp[World.frozen?,h0]
 have f1:∀o,w.frozen? ⟨g1,o,none⟩=false:=λo=>by simp[World.frozen?,h1]
 have f2:∀o,w.frozen? ⟨g2,o,none⟩=false:=λo=>by simp[World.frozen?,h2]
 have e1:g1≠g0:=Ne.symm d1;have e2:g2≠g0:=Ne.symm d2;have e3:g2≠g1:=Ne.symm d3;clear h0 h1 h2;refine callsD_of_wpS Yl rfl λc₀ cs hu=>?_;simp only[Yb,Ym,Xx,Yn,Yo,Yp,Yq,Yr,Ys,Yt,Yc,Yu]
 have hta:∀w:World,(Instr.typeAssert (.iface 24 (.int .i64 er)) 20 24 true).run Xa w = .ok (.tuple #[.int .i64 er,.bool true]) w:=λw=>by kernel_rfl
 apply wpS_seq;apply wpS_region;simp[wpOpsS,go_sem,recoverD,hu,Yb,Exit.thenS];apply wpS_seq;apply wpS_region;simp[wpOpsS,go_sem,Exit.thenS];refine wpS_cond (t:=true) (by simp[Act.eval,Yv]) ?_;simp only[if_true];refine wpS_of_wp ?_;clear hu
 go_wp2
 cases c₀;simp_all [bodyPostS,results,Yw,Hi]
theorem A2d {g0 g1 g2:Addr} {w:World} :
  CallsD Xa 155 #[.pointer (some g0),.pointer (some g1),.pointer (some g2)] .returning w λe u' w'=>e = .returned (.tuple #[])/\u' = .returning/\w'=w:=by
 refine callsD_of_wpS Yl rfl λc₀ cs hu=>?_;simp only[Yb,Ym,Xx,Yn,Yo,Yp,Yq,Yr,Ys,Yt,Yc,Yu];apply wpS_seq;apply wpS_region;simp[wpOpsS,go_sem,recoverD,hu,Exit.thenS];apply wpS_seq;apply wpS_region;simp[wpOpsS,go_sem,Exit.thenS];refine wpS_cond (t:=false) (by simp[Act.eval]) ?_;simp only[Xk,if_false];refine wpS_of_wp (wp_skip ?_);cases c₀;simp_all [bodyPostS,results,Yw]
abbrev Ea (w:World) (x:Value) (i:Int):World:=(((w.alloc (.cells #[.int .i64 0,.string ⟨#[]⟩,.slice none 0 0,.slice none 0 0] 57)).alloc (.cells #[.int .i64 0] 3)).alloc (.cells #[.int .i64 0] 24)).alloc (.cells #[x,.int .i64 i] 198)
theorem MY {w:World} {g o:Nat} {v:Value} {arr:Array Value} {ty:TypeId} {fz:Nat×Nat} (h:w.heap[g]?=some (.cells arr ty fz)):(w.setCell ⟨g,o,none⟩ v).heap[g]?=some (.cells (arr.setIfInBounds o v) ty fz):=by
 simp[World.setCell,Yx,h]
theorem Gh {w:World} {g o k:Nat} {v:Value} (h:g≠k):(w.setCell ⟨g,o,none⟩ v).heap[k]?=w.heap[k]?:=by
 simp[World.setCell,Yx,h]
theorem A2e {w:World} {g o:Nat} {v:Value}:(w.setCell ⟨g,o,none⟩ v).heap.size=w.heap.size:=by simp[World.setCell]
section
variable {w : World} {g0 g1 g2 : Nat} {er : Int} {x0 x1 x2 x3 y0 z0 : Value} (h0 : w.heap[g0]? = some (.cells #[x0, x1, x2, x3] 57 (0, 0))) (h1 : w.heap[g1]? = some (.cells #[y0] 3 (0, 0))) (h2 : w.heap[g2]? = some (.cells #[z0] 24 (0, 0)))
 (d1:g0≠g1) (d2:g0≠g2) (d3:g1≠g2)
include h0 d1 d2 in
theorem A2f:(Hi w g0 g1 g2 er).heap[g0]?=some (.cells #[.int .i64 0,.string ⟨#[]⟩,.slice none 0 0,.slice none 0 0] 57 (0,0)):=by
 unfold Hi;rw[Gh (Ne.symm d2),Gh (Ne.symm d1),MY (MY (MY (MY h0)))];rfl
include h1 d1 d3 in
theorem A2g:(Hi w g0 g1 g2 er).heap[g1]?=some (.cells #[.int .i64 0] 3 (0,0)):=by
 unfold Hi;rw[Gh (Ne.symm d3),MY (by rw[Gh d1,Gh d1,Gh d1,Gh d1];exact h1)];rfl
include h2 d2 d3 in
theorem A2h:(Hi w g0 g1 g2 er).heap[g2]?=some (.cells #[.int .i64 er] 24 (0,0)):=by
 unfold Hi;rw[MY (by rw[Gh d3,Gh d2,Gh d2,Gh d2,Gh d2];exact h2)];rfl
end
theorem A2i {x:Value} {i er:Int} {w:World} {J:World->Prop} (A:Option Addr) (n c:Nat) (hx:x = .slice A n c)
  (hJ:∀w',J w'->w'.heap[w.heap.size]?=some (.cells #[.int .i64 0,.string ⟨#[]⟩,.slice none 0 0,.slice none 0 0] 57 (0,0))/\w'.heap[w.heap.size+1]?=some (.cells #[.int .i64 0] 3 (0,0))/\w'.heap[w.heap.size+2]?=some (.cells #[.int .i64 0] 24 (0,0)))
  (hd:Calls Xa 156 #[.pointer (some ⟨w.heap.size+3,0,none⟩),.int .i64 1] (Ea w x i) λe w'=>e = .panicked (C7 er)/\J w') :
  Calls Xa 133 #[x,.int .i64 i] w λe w'=>∃w1,J w1/\e = .returned (.tuple #[.agg #[.int .i64 0,.string ⟨#[]⟩,.slice none 0 0,.slice none 0 0],.int .i64 0,.int .i64 er])/\w'=Hi w1 w.heap.size (w.heap.size+1) (w.heap.size+2) er:=by
 have hmf:∀(fn:Fn) (first cap:Array Value) (w:World),(Instr.makeFunc fn first cap).run Xa w = .ok (.func fn first cap) w:=λ_ _ _ _=>rfl;subst hx
 go_enter_defers Yd,Yy
 go_wp2_with (go_at_call 156;refine hd.mono ?_)
 rintro e w1 ⟨rfl,hj⟩;obtain⟨h0,h1,h2⟩:=hJ w1 hj;refine leaves_cons (f:=155) (args:=#[.pointer (some ⟨w.heap.size,0,none⟩),.pointer (some ⟨w.heap.size+1,0,none⟩),.pointer (some ⟨w.heap.size+1+1,0,none⟩)]) (by simp) (by simp[go_sem]) ?_;refine(A2c h0 h1 h2 (by omega) (by omega) (by omega)).mono ?_;rintro e u' w' ⟨rfl,rfl,rfl⟩;simp only[Leaves,settle,List.dropWhile_nil];refine⟨_,?_,w1,hj,rfl,rfl⟩;have c0:=A2f (g1:=w.heap.size+1) (g2:=w.heap.size+1+1) (er:=er) h0 (by omega) (by omega);have c1:=A2g (g0:=w.heap.size) (g2:=w.heap.size+1+1) (er:=er) h1 (by omega) (by omega);have c2:=A2h (g0:=w.heap.size) (g1:=w.heap.size+1) (er:=er) h2 (by omega) (by omega);generalize Hi w1 w.heap.size (w.heap.size+1) (w.heap.size+1+1) er=W at c0 c1 c2
 have e0:W.cell? ⟨w.heap.size,0,none⟩=some (.int .i64 0):=by simp[World.cell?,c0]
 have e1:W.cell? ⟨w.heap.size,1,none⟩=some (.string ⟨#[]⟩):=by simp[World.cell?,c0]
 have e2:W.cell? ⟨w.heap.size,2,none⟩=some (.slice none 0 0):=by simp[World.cell?,c0]
 have e3:W.cell? ⟨w.heap.size,3,none⟩=some (.slice none 0 0):=by simp[World.cell?,c0]
 have e4:W.cell? ⟨w.heap.size+1,0,none⟩=some (.int .i64 0):=by simp[World.cell?,c1]
 have e5:W.cell? ⟨w.heap.size+1+1,0,none⟩=some (.int .i64 er):=by simp[World.cell?,c2]
 simp[results,Yz,go_sem,e0,e1,e2,e3,e4,e5]
 trace_state
structure Aft (s:Nat) (w w':World):Prop where
 out:Abs.Ca w w'
 size:w'.heap.size=w.heap.size
 same:∀k,k≠s->k≠s+1->k≠s+2->w'.heap[k]?=w.heap[k]?
theorem Aft.refl (s:Nat) (w:World):Aft s w w:=⟨Abs.Ca.refl w,rfl,λ_ _ _ _=>rfl⟩
theorem Aft.set {s g o:Nat} {v:Value} {w w':World} (h:Aft s w w') (hg:g=s\/g=s+1\/g=s+2):Aft s w (w'.setCell ⟨g,o,none⟩ v):=
 ⟨h.out,A2e.trans h.size,λk h0 h1 h2=>(Gh (by omega)).trans (h.same k h0 h1 h2)⟩
theorem Aft.drew {s:Nat} {w w':World} (h:Aft s w w'):Aft s w w'.drew:=⟨h.out,h.size,h.same⟩
theorem A2j {x:Value} {i p:Int} {w:World} {J:Int->ByteArray->Option Addr->Nat->Nat->Option Addr->Nat->Nat->World->Prop} (A:Option Addr) (n c:Nat) (hx:x = .slice A n c)
  (hJ:∀a b X k1 l1 Y k2 l2 w',J a b X k1 l1 Y k2 l2 w'->w'.heap[w.heap.size]?=some (.cells #[.int .i64 0,.string ⟨#[]⟩,.slice none 0 0,.slice none 0 0] 57 (0,0))/\w'.heap[w.heap.size+1]?=some (.cells #[.int .i64 0] 3 (0,0))/\w'.heap[w.heap.size+2]?=some (.cells #[.int .i64 0] 24 (0,0)) /\
   w'.cell? ⟨w.heap.size+3,1,none⟩=some (.int .i64 p))
  (hd:Calls Xa 156 #[.pointer (some ⟨w.heap.size+3,0,none⟩),.int .i64 1] (Ea w x i) λe w'=>∃a b X k1 l1 Y k2 l2,e = .returned (.agg #[.int .i64 a,.string b,.slice X k1 l1,.slice Y k2 l2])/\J a b X k1 l1 Y k2 l2 w') :
  Calls Xa 133 #[x,.int .i64 i] w λe w'=>∃a b X k1 l1 Y k2 l2 w1,J a b X k1 l1 Y k2 l2 w1/\e = .returned (.tuple #[.agg #[.int .i64 a,.string b,.slice X k1 l1,.slice Y k2 l2],.int .i64 p,.int .i64 0])/\Aft w.heap.size w1 w':=by
 have hmf:∀(fn:Fn) (first cap:Array Value) (w:World),(Instr.makeFunc fn first cap).run Xa w = .ok (.func fn first cap) w:=λ_ _ _ _=>rfl;subst hx
 go_enter_defers Yd,Yy
 go_wp2_with (go_at_call 156;refine hd.mono ?_)
 rintro e w1 ⟨a,b,X,k1,l1,Y,k2,l2,rfl,hj⟩;obtain⟨h0,h1,h2,h3⟩:=hJ a b X k1 l1 Y k2 l2 w1 hj
 have e0:w1.cell? ⟨w.heap.size,0,none⟩=some (.int .i64 0):=by simp[World.cell?,h0]
 have e1:w1.cell? ⟨w.heap.size,1,none⟩=some (.string ⟨#[]⟩):=by simp[World.cell?,h0]
 have e2:w1.cell? ⟨w.heap.size,2,none⟩=some (.slice none 0 0):=by simp[World.cell?,h0]
 have e3:w1.cell? ⟨w.heap.size,3,none⟩=some (.slice none 0 0):=by simp[World.cell?,h0]
 have e4:w1.cell? ⟨w.heap.size+1,0,none⟩=some (.int .i64 0):=by simp[World.cell?,h1]
 have e5:w1.cell? ⟨w.heap.size+1+1,0,none⟩=some (.int .i64 0):=by simp[World.cell?,h2]
 have f0:∀o,w1.frozen? ⟨w.heap.size,o,none⟩=false:=λo=>by simp[World.frozen?,h0]
 have f1:∀o,w1.frozen? ⟨w.heap.size+1,o,none⟩=false:=λo=>by simp[World.frozen?,h1]
 have f2:∀o,w1.frozen? ⟨w.heap.size+1+1,o,none⟩=false:=λo=>by simp[World.frozen?,h2]
 have n1:w.heap.size+1≠w.heap.size:=by omega
 have n2:w.heap.size+1+1≠w.heap.size:=by omega
 have n3:w.heap.size+1+1+1≠w.heap.size:=by omega
 have h3:w1.cell? ⟨w.heap.size+1+1+1,1,none⟩=some (.int .i64 p):=h3;clear h0 h1 h2
 go_wp2
 obtain⟨W,hW⟩:∃W,W=((((w1.setCell ⟨w.heap.size,0,none⟩ (.int .i64 a)).setCell ⟨w.heap.size,1,none⟩ (.string b)).setCell ⟨w.heap.size,2,none⟩ (.slice X k1 l1)).setCell ⟨w.heap.size,3,none⟩ (.slice Y k2 l2)):=⟨_,rfl⟩
 rw[<-hW]
 have g0:W.cell? ⟨w.heap.size,0,none⟩=some (.int .i64 a):=by rw[hW];simp[go_sem,e0,e1,e2,e3]
 have g1:W.cell? ⟨w.heap.size,1,none⟩=some (.string b):=by rw[hW];simp[go_sem,e0,e1,e2,e3]
 have g2:W.cell? ⟨w.heap.size,2,none⟩=some (.slice X k1 l1):=by rw[hW];simp[go_sem,e0,e1,e2,e3]
 have g3:W.cell? ⟨w.heap.size,3,none⟩=some (.slice Y k2 l2):=by rw[hW];simp[go_sem,e0,e1,e2,e3]
 have g4:W.cell? ⟨w.heap.size+1,0,none⟩=some (.int .i64 0):=by rw[hW];simp[go_sem,e4,n1]
 have g5:W.cell? ⟨w.heap.size+1+1,0,none⟩=some (.int .i64 0):=by rw[hW];simp[go_sem,e5,n2]
 have g6:W.cell? ⟨w.heap.size+1+1+1,1,none⟩=some (.int .i64 p):=by rw[hW];simp[go_sem,h3,n3]
 have z0:∀o,W.frozen? ⟨w.heap.size,o,none⟩=false:=λo=>by rw[hW];simp[go_sem,f0]
 have z1:∀o,W.frozen? ⟨w.heap.size+1,o,none⟩=false:=λo=>by rw[hW];simp[go_sem,f1]
 have z2:∀o,W.frozen? ⟨w.heap.size+1+1,o,none⟩=false:=λo=>by rw[hW];simp[go_sem,f2]
 have hA:Aft w.heap.size w1 W:=by
  rw[hW];exact((((Aft.refl _ _).set (.inl rfl)).set (.inl rfl)).set (.inl rfl)).set (.inl rfl)
 clear e0 e1 e2 e3 e4 e5 h3 f0 f1 f2 hmf hd hW
 go_region_held3 (λw'=>w'.cell? ⟨w.heap.size,0,none⟩=some (.int .i64 a)/\w'.cell? ⟨w.heap.size,1,none⟩=some (.string b)/\w'.cell? ⟨w.heap.size,2,none⟩=some (.slice X k1 l1)/\w'.cell? ⟨w.heap.size,3,none⟩=some (.slice Y k2 l2)/\w'.cell? ⟨w.heap.size+1+1+1,1,none⟩=some (.int .i64 p)) (((try dsimp only);(repeat' apply And.intro)<;>simp[go_sem, *])) (fail)
 go_wp2
 refine leaves_cons (f:=155) (args:=#[.pointer (some ⟨w.heap.size,0,none⟩),.pointer (some ⟨w.heap.size+1,0,none⟩),.pointer (some ⟨w.heap.size+1+1,0,none⟩)]) (by simp) (by simp[go_sem]) ?_;refine A2d.mono ?_;rintro e u' w' ⟨rfl,rfl,rfl⟩;simp only[Leaves,settle];refine⟨_,?_,a,b,X,k1,l1,Y,k2,l2,w1,hj,rfl,?_⟩
 .simp[results,Yz,go_sem,g0,g1,g2,g3,g4,g5,n1,n2]
 .exact((((((hA.set (.inl rfl)).set (.inl rfl)).set (.inl rfl)).set (.inl rfl)).set (.inr (.inl rfl))).set (.inr (.inr rfl))).drew
open Go Go.Abs
variable {q : Gl} {t : T} {l : List Tok} {i : Nat}
def zDs:Ds:=.mk 0 ⟨#[]⟩ [] []
def Uh:Res Ds->T
 | .ok (d,p)=>.tu [dT d,iv (p:Int),iv 0]
 | .error e=>.tu [dT zDs,iv 0,iv e]
section
variable {w : World} {x : Value} {i : Int}
theorem A2k:(Ea w x i).heap.size=w.heap.size+4:=by simp only[Ea,World.alloc,Xr]
theorem eI {k:Nat} (h:k<w.heap.size):(Ea w x i).heap[k]?=w.heap[k]?:=by
 simp only[Ea,World.alloc,Xw,Xr];rw[zz (by omega),zz (by omega),zz (by omega),zz (by omega)]
theorem A2l:(Ea w x i).heap[w.heap.size]?=some (.cells #[.int .i64 0,.string ⟨#[]⟩,.slice none 0 0,.slice none 0 0] 57 (0,0)):=by
 simp only[Ea,World.alloc,Xw,Xr];rw[zz (by omega),zz (by omega),zz (by omega),zy trivial]
theorem A2m:(Ea w x i).heap[w.heap.size+1]?=some (.cells #[.int .i64 0] 3 (0,0)):=by
 simp only[Ea,World.alloc,Xw,Xr];rw[zz (by omega),zz (by omega),zy trivial]
theorem A2n:(Ea w x i).heap[w.heap.size+2]?=some (.cells #[.int .i64 0] 24 (0,0)):=by
 simp only[Ea,World.alloc,Xw,Xr];rw[zz (by omega),zy trivial]
theorem A2o:(Ea w x i).heap[w.heap.size+3]?=some (.cells #[x,.int .i64 i] 198 (0,0)):=by
 simp only[Ea,World.alloc,Xw,Xr];rw[zy trivial]
theorem A2p:Ca w (Ea w x i):=⟨rfl,rfl,rfl⟩
end
theorem Ui {α:Type} {e:Enc α} {l:List α} {I:Nat->Prop} {w:World} {t:T} {u:Value} (h:IsS e t l) (hr:Ao I w t u):∃A n c,u = .slice A n c:=by
 rcases h with⟨rfl,rfl⟩ | rfl
 .simp only[Ao]at hr;exact⟨_,_,_,hr⟩
 .simp only[slT,Ao]at hr;obtain⟨a,c,e,_⟩:=hr;exact⟨_,_,_,e⟩
theorem A2q {w:World} {s:Nat} {er:Int}:Aft s w (Hi w s (s+1) (s+2) er):=
 (((((Aft.refl s w).set (.inl rfl)).set (.inl rfl)).set (.inl rfl)).set (.inl rfl) |>.set (.inr (.inl rfl))).set (.inr (.inr rfl))
theorem eJ {I I':Nat->Prop} {w W0 w1 w':World} (s0:W0.heap.size=w.heap.size+4) (old:∀k,k<w.heap.size->W0.heap[k]?=w.heap[k]?) (out:Ca w W0) (hL:Left I W0 (w.heap.size+3) I' w1) (hA:Aft w.heap.size w1 w') :
  Ca w w'/\w.heap.size<=w'.heap.size/\(∀g,g<w.heap.size->w'.heap[g]?=w.heap[g]?)/\(∀g,I g->I' g)/\(∀g,I' g->I g\/w.heap.size<=g)/\(∀g,I' g->g<w'.heap.size):=by
 have h1:=hL.size;rw[s0]at h1;refine⟨out.trans (hL.out.trans hA.out),by rw[hA.size];omega,λg hg=>?_,hL.more,λg hg=>?_,λg hg=>by rw[hA.size];exact hL.lt g hg⟩
 .exact(hA.same g (by omega) (by omega) (by omega)).trans ((hL.same g (by omega) (by omega)).trans (old g hg))
 .rcases hL.new g hg with h2 | h2 | h2
  .exact .inl h2
  .exact .inr (by omega)
  .exact .inr (by omega)
theorem MZ {I I':Nat->Prop} {w W0 w1:World} (s0:W0.heap.size=w.heap.size+4) (hL:Left I W0 (w.heap.size+3) I' w1) {k:Nat} (hk:k<3):w1.heap[w.heap.size+k]?=W0.heap[w.heap.size+k]?:=hL.same _ (by omega) (by omega)
theorem A2r {I:Nat->Prop} {w:World}:Ao I w (dT zDs) (.agg #[.int .i64 0,.string ⟨#[]⟩,.slice none 0 0,.slice none 0 0]):=by
 rw[zDs,dT,II];simp only[Ao,Bf,Aq];exact⟨_,rfl,by simp[Value.oneCell'],_,_,rfl,rfl,_,_,rfl,rfl,_,_,rfl,rfl,_,_,rfl,rfl,rfl⟩
theorem eK {I:Nat->Prop} {w:World} {x:T} {v:Value} {a b:Int} (h:Ao I w x v):Ao I w (.tu [x,iv a,iv b]) (.tuple #[v,.int .i64 a,.int .i64 b]):=by
 simp only[Ao,Bf];exact⟨_,rfl,_,_,rfl,h,_,_,rfl,rfl,_,_,rfl,rfl,rfl⟩
theorem A2s {I:Nat->Prop} {w:World} {d:Ds} {v:Value} (hv:Ao I w (dT d) v):∃a b X k1 l1 Y k2 l2,v = .agg #[.int .i64 a,.string b,.slice X k1 l1,.slice Y k2 l2]:=by
 cases d with
 | mk op name path kids=>
  rw[dT,II]at hv;simp only[Ao,Bf]at hv;obtain⟨us,rfl,_,a1,r1,e1,rfl,a2,r2,e2,rfl,a3,r3,e3,h3,a4,r4,e4,h4,e5⟩:=hv;obtain⟨X,k1,l1,rfl⟩:=Ui (IsS.tree Ak path) h3;obtain⟨Y,k2,l2,rfl⟩:=Ui (IsS.tree eD kids) h4;subst e5;subst e4;subst e3;subst e2;exact⟨op,name,X,k1,l1,Y,k2,l2,by congr 1;rw[<-Y0];exact e1⟩
theorem A2t:KS Xa 133:=⟨_,_,Yd,rfl,rfl⟩
theorem A2u (ht:IsS Aw t l) (hlim:l.length<=1000000) (hi:i<=l.length):A1 Xa (G q) 133 [t,iv (i:Int)] (· = Uh (AA (l.map kt) 64 i)):=by
 refine⟨A2t,λI w us hlt hglob hrep=>?_⟩
 obtain⟨x,hx,rfl,A,n,c,rfl⟩:∃x,Ao I w t x/\us = #[x,.int .i64 (i:Int)]/\∃A n c,x = .slice A n c:=by
  simp only[Bf,Ao]at hrep;obtain⟨x,xs,e1,hx,y,ys,e2,e3,e4⟩:=hrep;subst e3;subst e4;subst e2;refine⟨x,hx,?_,Ui ht hx⟩;rw[<-Y0];exact e1
 have hkp:FV I I w (Ea w (.slice A n c) i):=λb hb=>⟨hb,eI (hlt b hb)⟩
 have s0:=A2k (w:=w) (x:=.slice A n c) (i:=(i:Int));have old:∀k,k<w.heap.size->(Ea w (.slice A n c) i).heap[k]?=w.heap[k]?:=λk hk=>eI hk;have w0:=A2l (w:=w) (x:=.slice A n c) (i:=(i:Int));have w1:=A2m (w:=w) (x:=.slice A n c) (i:=(i:Int));have w2:=A2n (w:=w) (x:=.slice A n c) (i:=(i:Int));have hout:=A2p (w:=w) (x:=.slice A n c) (i:=(i:Int))
 have hlt3:¬I (w.heap.size+3):=λh=>by have:=hlt _ h;omega
 have hlt4:∀b,I b->b<(Ea w (.slice A n c) i).heap.size:=λb hb=>by have:=hlt b hb;rw[s0];exact Ye this (Y1 _ _)
 have hD:=A2a (q:=q) (w:=Ea w (.slice A n c) i) (g:=w.heap.size+3) (I:=I) ht hlim hlt4
  (λg cs h=>⟨(hglob g cs h).1,EW.keep hkp (hglob g cs h).1 (hglob g cs h).2⟩) (Ao.keep hkp t hx) rfl hi A2o hlt3
 cases hd:AA (l.map kt) 64 i with
 | error er=>
  rw[hd]at hD
  have hR:=A2i (er:=er) (J:=λw'=>∃I',Left I (Ea w (.slice A n c) i) (w.heap.size+3) I' w') A n c rfl (λw' ⟨I',h⟩=>
   ⟨(MZ (k:=0) s0 h (by omega)).trans w0,(MZ (k:=1) s0 h (by omega)).trans w1,(MZ (k:=2) s0 h (by omega)).trans w2⟩) (hD.mono λe w' ⟨I',h1,h2⟩=>⟨h1,I',h2⟩)
  refine hR.mono ?_;rintro e w' ⟨v1,⟨I',hL⟩,rfl,rfl⟩;exact⟨_,_,I',rfl,rfl,eK A2r,eJ s0 old hout hL A2q⟩
 | ok y=>
  obtain⟨d,p⟩:=y;rw[hd]at hD
  have hR:=A2j (p:=(p:Int)) (J:=λa b X k1 l1 Y k2 l2 w'=>∃I',Ao I' w' (dT d) (.agg #[.int .i64 a,.string b,.slice X k1 l1,.slice Y k2 l2])/\w'.cell? ⟨w.heap.size+3,1,none⟩=some (.int .i64 (p:Int))/\Left I (Ea w (.slice A n c) i) (w.heap.size+3) I' w'/\¬I' (w.heap.size+3)) A n c rfl (λa b X k1 l1 Y k2 l2 w' ⟨I',_,hc,h,_⟩=>
   ⟨(MZ (k:=0) s0 h (by omega)).trans w0,(MZ (k:=1) s0 h (by omega)).trans w1,(MZ (k:=2) s0 h (by omega)).trans w2,hc⟩) (hD.mono λe w' ⟨I',h1,h2⟩=>by
   obtain⟨v,arr,rfl,hv,ha,hp,hn⟩:=h1;obtain⟨a,b,X,k1,l1,Y,k2,l2,rfl⟩:=A2s hv
   exact⟨a,b,X,k1,l1,Y,k2,l2,rfl,I',hv,by simp only[World.cell?,ha];exact hp,h2,hn⟩)
  refine hR.mono ?_;rintro e w' ⟨a,b,X,k1,l1,Y,k2,l2,v1,⟨I',hv,_,hL,hn⟩,rfl,hA⟩
  have hI:∀b,I' b->b≠w.heap.size/\b≠w.heap.size+1/\b≠w.heap.size+2:=λb hb=>by
   rcases hL.new b hb with h2 | h2 | h2
   .have:=hlt b h2;clear hR hD w0 w1 w2;omega
   .rw[s0]at h2;clear hR hD w0 w1 w2;omega
   .rw[h2]at hb;exact absurd hb hn
  have hk2:FV I' I' v1 w':=λb hb=>⟨hb,hA.same b (hI b hb).1 (hI b hb).2.1 (hI b hb).2.2⟩
  exact⟨_,_,I',rfl,rfl,eK (Ao.keep hk2 _ hv),eJ s0 old hout hL hA⟩
section
variable {l : List KT} {rec : Nat -> Res Ds}
def Hj {α:Type} (rec:Nat->Res α):Prop:=∀p e,rec p = .error e->e≠0
theorem Uj {p:Nat} {k e:Int} (h:AJ l p k = .error e):e≠0:=by
 unfold AJ at h;split at h
 .injection h with h;omega
 .split at h
  .cases h
  .injection h with h;omega
theorem eL {p:Nat} {s:List UInt8} {e:Int} (h:B6 l p s = .error e):e≠0:=by
 unfold B6 at h;split at h
 .injection h with h;omega
 .split at h
  .cases h
  .injection h with h;omega
theorem eM:∀(f p:Nat) (path:List ByteArray) (e:Int),l.length-p<f->E2 l f p path = .error e->e≠0
 | 0,p,path,e,hf,_=>by omega
 | f+1,p,path,e,hf,h=>by
  rw[E2]at h;split at h
  .rename_i hs;have hl:=DQ hs;split at h
   .injection h with h;omega
   .split at h
    .rename_i h1;injection h with h;subst h;exact Uj h1
    .rename_i s p1 h1;have:=Dc h1;exact eM f _ _ _ (by omega) h
  .cases h
theorem A2v (hr:Hj rec):Hj (Ff l rec):=λp e h=>by
 unfold Ff at h;split at h
 .rename_i h1;injection h with h;subst h;exact Uj h1
 .rename_i s p1 h1;split at h
  .rename_i h2;injection h with h;subst h;exact eM _ _ _ _ (by omega) h2
  .rename_i path p2 h2;split at h
   .rename_i h3;injection h with h;subst h;exact hr _ _ h3
   .cases h
theorem eN (hr:Hj rec) (hf:Fwd l rec):∀(f p:Nat) (parts:List Ds) (e:Int),l.length-p<f->brS l rec f p parts = .error e->e≠0
 | 0,p,parts,e,hl,_=>by omega
 | f+1,p,parts,e,hl,h=>by
  rw[brS]at h;split at h
  .rename_i h1;injection h with h;subst h;exact A2v hr _ _ h1
  .rename_i d p1 h1;have h2:=QE hf h1;split at h
   .rename_i hs;have:=DQ hs;split at h
    .injection h with h;omega
    .exact eN hr hf f _ _ _ (by omega) h
   .split at h
    .rename_i h3;injection h with h;subst h;exact eL h3
    .cases h
theorem Uk (hr:Hj rec) (hf:Fwd l rec):∀(f p:Nat) (kids:List Ds) (e:Int),l.length-p<f->itS l rec f p kids = .error e->e≠0
 | 0,p,kids,e,hl,_=>by omega
 | f+1,p,kids,e,hl,h=>by
  rw[itS]at h;split at h
  .rename_i hs;have:=DQ hs;split at h
   .injection h with h;omega
   .split at h
    .rename_i h1;injection h with h;subst h;exact hr _ _ h1
    .rename_i d p1 h1;have:=hf _ _ _ h1;exact Uk hr hf f _ _ _ (by omega) h
  .cases h
theorem OT {s:List UInt8} {op:Int} {kids:List Ds} {p:Nat} {e:Int} (h:Da l s op kids p = .error e):e≠0:=by
 unfold Da at h;split at h
 .rename_i h1;injection h with h;subst h;exact eL h1
 .cases h
theorem A2w (hr:Hj rec) (hf:Fwd l rec):Hj (Dq l rec):=λp e h=>by
 unfold Dq at h;split at h
 .injection h with h;omega
 .split at h
  .exact OT h
  .split at h
   .rename_i h1;injection h with h;subst h;exact hr _ _ h1
   .rename_i d1 p1 h1;split at h
    .rename_i h2;injection h with h;subst h;exact Uk hr hf _ _ _ _ (by omega) h2
    .split at h
     .split at h
      .injection h with h;omega
      .split at h
       .rename_i h3;injection h with h;subst h;exact hr _ _ h3
       .exact OT h
     .exact OT h
theorem A2x (hr:Hj rec) (hf:Fwd l rec):Hj (DA l rec):=λp e h=>by
 unfold DA at h;split at h
 .injection h with h;omega
 .split at h
  .exact OT h
  .split at h
   .rename_i h1;injection h with h;subst h;exact hr _ _ h1
   .rename_i d1 p1 h1;split at h
    .rename_i h2;injection h with h;subst h;exact Uk hr hf _ _ _ _ (by omega) h2
    .exact OT h
theorem QY {parts:List Ds} {r:Res Ds} {e:Int} (hr:∀e,r = .error e->e≠0) (h:DX parts r = .error e):e≠0:=by
 unfold DX at h;split at h
 .injection h with h;subst h;exact hr _ rfl
 .cases h
theorem eQ {op k:Int} {p:Nat} {e:Int} (h:Fv op (AJ l p k) = .error e):e≠0:=by
 unfold Fv at h;split at h
 .rename_i h1;injection h with h;subst h;exact Uj h1
 .cases h
theorem eS (hr:Hj rec) (hf:Fwd l rec) {p:Nat} {parts:List Ds} {e:Int} (h:Di l rec p parts = .error e):e≠0:=by
 unfold Di at h;split at h
 .injection h with h;omega
 .split at h
  .cases h
  .split at h
   .injection h with h;omega
   .split at h
    .exact QY (λe h=>eQ h) h
    .split at h
     .exact QY (λe h=>eQ h) h
     .split at h
      .exact eN hr hf _ _ _ _ (by omega) h
      .split at h
       .exact QY (λe h=>A2w hr hf _ _ h) h
       .split at h
        .exact QY (λe h=>A2x hr hf _ _ h) h
        .injection h with h;omega
theorem eT (hr:Hj rec) (hf:Fwd l rec):∀(f p:Nat) (parts:List Ds) (e:Int),l.length-p<f->Fg l rec f p parts = .error e->e≠0
 | 0,p,parts,e,hl,_=>by omega
 | f+1,p,parts,e,hl,h=>by
  rw[Fg]at h;split at h
  .rename_i hs;have:=DQ hs;split at h
   .injection h with h;omega
   .split at h
    .rename_i h1;injection h with h;subst h;exact eS hr hf h1
    .rename_i parts' p1 h1;have:=JW hf h1;exact eT hr hf f _ _ _ (by omega) h
  .cases h
end
theorem OU {l:List KT}:∀n,Hj (AA l n)
 | 0=>λp e h=>by
  unfold AA at h;split at h
  .injection h with h;omega
  .injection h with h;omega
 | n+1=>λp e h=>by
  unfold AA at h;split at h
  .injection h with h;omega
  .split at h
   .rename_i h1;injection h with h;subst h;exact eS (OU n) (DR n) h1
   .rename_i parts p1 h1;split at h
    .rename_i h2;injection h with h;subst h;exact eT (OU n) (DR n) _ _ _ _ (by omega) h2
    .cases h
variable {q : Gl} {t : T} {l : List Tok} {i : Nat}
section
mutual
theorem QZ:∀p:PV,ren (λx=>x) p=p
 | .t _=>rfl
 | .row _ _ _ _=>rfl
 | .ptr _ _=>rfl
 | .ag cs=>by simp only[ren,Na cs]
 | .tu cs=>by simp only[ren,Na cs]
 | .fn _ a c=>by simp only[ren,Na a,Na c]
 | .ic _ x=>by simp only[ren,QZ x]
 | .mp _=>rfl
 | .dead=>rfl
theorem Na:∀ps:List PV,Bn (λx=>x) ps=ps
 | []=>rfl
 | p::ps=>by simp only[Bn,QZ p,Na ps]
end
theorem A2y (r:Row):BE (λx=>x) r=r:=by
 cases r with
 | cells ty cs=>simp only[BE,Na]
 | iter s p=>rfl
 | map kk es=>rfl
 | lp l x k p=>simp only[BE,QZ]
 | blk l o=>rfl
theorem A2z {P:Program} {G:A2} {B nx nx' n:Nat} {env env':List (Nat×PV)} {H H':Ab} (F:List Nat) (hB:B<=nx') (he:∀x∈env',∃p,Aa env x.1=some p/\BI H F p=x.2/\under nx' x.2=true)
  (hH:∀x∈H',x.1∉F/\x.1<nx'/\Cm nx' x.2=true/\∃r,Aa H x.1=some r/\De H F r=x.2):Sub P G B ⟨env,H,nx,n⟩ ⟨env',H',nx',n⟩:=by
 have hs:Sub P G B ⟨env,H,nx,n⟩ (Ad.frz ⟨env,H,nx,n⟩ F):=M0 F;refine hs.trans (JD (λx=>x) rfl hB (λ_ _=>rfl) (λx hx=>?_) (λx hx=>?_) (λ_ _ _ _ e=>e))
 .obtain⟨p,h1,h2,h3⟩:=he x hx;refine⟨?_,h3⟩;simp only[Ad.frz,FI,h1,Xm,h2,QZ]
 .obtain⟨h1,h2,h3,r,h4,h5⟩:=hH x hx;refine⟨?_,h2,h3⟩;rw[A2y,<-h5];exact OH h4 h1
theorem A3a (H:Ab) (F:List Nat) (x:T):BI H F (.t x) = .t x:=rfl
theorem A3b (H:Ab) (F:List Nat) (b o:Nat):BI H F (.ptr b o) = .ptr b o:=rfl
theorem tsS (s:ByteArray):KY 9 1 [.string ⟨#[]⟩] 1 [(0,.t (sv s))]=some (.t (.sl 1 [sv s])):=rfl
theorem st1 (H:Ab) (a b c d:T) (y z u v:PV):AM 4 ((1,.cells 57 [y,z,u,v])::H) (.ptr 1 0) (.t (.ag [a,b,c,d]))=some ((1,.cells 57 [.t a,.t b,.t c,.t d])::H):=rfl
end
structure Rp where
 f:Nat
 p:Nat
 path:List ByteArray
variable {q : Gl} {t : T} {l : List Tok} {i : Nat}
structure Rb where
 f:Nat
 p:Nat
 parts:List Ds
variable {q : Gl}
def FC (l:List UInt8):T:=if 65536<l.length then .tu [Ah,iv 0,iv 7]else match CZ l 1 with
 | .error x=>.tu [Ah,iv (x.1:Int),iv x.2]
 | .ok ts=>.tu [Aq Aw ts,iv 0,iv 0]
theorem eU {α:Type} {e:Enc α} {ty:Nat} {H:Ab} {b:Nat} {l:List α} (h:Ay e ty H b l) (y z:T) :
  toT H (Ei [rowP e b l,.t y,.t z])=some (.tu [Aq e l,y,z],GV b l):=by
 have ht:=h.toT
 cases l with
 | nil=>rfl
 | cons x r=>
  show toT H (.tu [rowP e b (x::r),.t y,.t z])=_;simp only[toT,BQ,ht,Xm,Xy]
structure Sc where
 f:Nat
 p:Nat
 ln:Nat
 out:List Tok
def SSc (s:ByteArray) (a:Sc):Ad:=⟨[(6,rowP Aw 1 a.out),(5,.ptr 0 0),(0,.t (sv s))],[(0,scr s a.p a.ln)]++A4 Aw 42 1 a.out,2,43⟩
structure eV (l:List UInt8) (R:Except (Nat×Int) (List Tok)) (a:Sc):Prop where
 le:a.p<=l.length
 fu:l.length-a.p<a.f
 ln:a.ln<=a.p+1
 ol:a.out.length<=a.p
 eq:He a.out (BM a.f (l.drop a.p) a.ln)=R
theorem eW (s:ByteArray) (a l:Nat) (hs:s.size<=65536) (ha:a<=s.size) (hl:l<=1000000) {H:Ab} {nx:Nat} (h0:Aa H 0=some (scr s a l)) (hnx:0<nx) :
  HOK Xa (G q) 55 (Fe [.ptr 0 0] H nx (Ei [],upd H 0 (scr s (a+(Au false (s.data.toList.drop a)).1) (l+(Au false (s.data.toList.drop a)).2)),nx)):=by
 refine E0 ?_ ?_
 .exact AH.lift1 (cs:=scc s a l) (args:=[]) (cs':=scc s (a+(Au false (s.data.toList.drop a)).1) (l+(Au false (s.data.toList.drop a)).2)) (xA s a l hs ha hl) (b:=0) (NX:=nx) (Hb:=H) h0 hnx
 .intro hfr b x hb;rw[AN]at hb;split at hb
  .omega
  .exact hfr b x hb
theorem A3c (s:ByteArray) (a l:Nat) (hs:s.size<=65536) (ha:a<s.size) {H:Ab} {nx:Nat} (h0:Aa H 0=some (scr s a l)) (hnx:0<nx) :
  HOK Xa (G q) 56 (Fe [.ptr 0 0] H nx (.t (Dp (Ax (s.data.toList.drop a)).k (Ax (s.data.toList.drop a)).t l (Ax (s.data.toList.drop a)).e),upd H 0 (scr s (a+(Ax (s.data.toList.drop a)).n) l),nx)):=by
 refine E0 ?_ ?_
 .exact AH.lift1 (cs:=scc s a l) (args:=[]) (cs':=scc s (a+(Ax (s.data.toList.drop a)).n) l) (xG s a l hs ha) (b:=0) (NX:=nx) (Hb:=H) h0 hnx
 .intro hfr b x hb;rw[AN]at hb;split at hb
  .omega
  .exact hfr b x hb
theorem st2 (k l:Int) (t:List UInt8) (x y z:PV) (R:Ab):AM 3 ((2,.cells 42 [x,y,z])::R) (.ptr 2 0) (.t (.ag (tkc k t l)))=some ((2,tkr k t l)::R):=rfl
theorem ld2 (t:Row) (s:ByteArray) (a l:Nat) (R:Ab):Aj false 1 ((2,t)::(0,scr s a l)::R) (.ptr 0 2)=some (.t (iv (l:Int))):=rfl
theorem ldt (k l:Int) (t:List UInt8) (R:Ab):Aj true 3 ((2,tkr k t l)::R) (.ptr 2 0)=some (.t (.ag (tkc k t l))):=rfl
theorem bst (k l:Int) (t:List UInt8):EE 42 3 [.int .i64 0,.string ⟨#[]⟩,.int .i64 0] 1 [(0,.t (.ag (tkc k t l)))] 3=some (.row 3 0 1 3,.cells 42 [.t (iv k),.t (sv (bs t)),.t (iv l)]):=rfl
theorem A3d {Φ:A7} {H:Ab} {nx:Nat} (s:ByteArray) (l:Int):Ai Φ H nx (.build [(0,1),(1,1),(2,1)] [.string ⟨#[]⟩,.int .i64 0,.int .i64 0] [0,2]) [.t (sv s),.t (iv l)]=some (.t (.ag [sv s,iv 0,iv l]),H,nx):=rfl
theorem A3e (s:ByteArray) (hlim:s.size<=lim):A1 Xa (G q) 28 [sv s] (· = FC s.data.toList):=by
 refine rP.call rfl ?_;(conv in XS=>cbv)
 obtain⟨l,hl⟩:∃l,l=s.data.toList:=⟨_,rfl⟩
 have hlen:l.length=s.size:=by rw[hl];rfl
 rw[<-hl];by_cases hbig:65536<s.size
 .have hb':(65536:Int)<(s.size:Int):=by omega
  have hT:FC l = .tu [Ah,iv 0,iv 7]:=by rw[FC,zy (by omega)]
  refine Ap Ac ?_;simp -implicitDefEqProofs [hb',hT]
 have hb':¬(65536:Int)<(s.size:Int):=by omega
 have hs:s.size<=65536:=by omega
 have hT:FC l=match CZ l 1 with
  | .error x=>.tu [Ah,iv (x.1:Int),iv x.2]
  | .ok ts=>.tu [Aq Aw ts,iv 0,iv 0]:=by rw[FC,zz (by omega)]
 obtain⟨R,hR⟩:∃R,R=CZ l 1:=⟨_,rfl⟩
 rw[<-hR]at hT;refine Av Ac ?_;simp -implicitDefEqProofs;refine Av Ac ?_;simp -implicitDefEqProofs [hb'];refine Av Ac ?_;have bx:Bj (.t (.ag [sv s,iv 0,iv 1]))=some [.t (sv s),.t (iv 0),.t (iv 1)]:=rfl;simp -implicitDefEqProofs [-Bo,A3d,bx];refine Av Ac ?_;simp -implicitDefEqProofs;have hk0:=eW (q:=q) s 0 1 hs (by omega) (by omega) (H:=[(0,scr s 0 1)]) (nx:=1) rfl (by omega);have hsl:=Ow l false;have hsn:=Q9 l false;rw[<-hl,Xn]at hk0
 obtain⟨p0,hp0⟩:∃p0,p0=0+(Au false l).1:=⟨_,rfl⟩
 obtain⟨l0,hl0⟩:∃l0,l0=1+(Au false l).2:=⟨_,rfl⟩
 rw[<-hp0,<-hl0]at hk0;have ctxa:=As.nil.ctxH (.cons hk0 .nil) mixed;have h1:=λps H nx o=>DL ps H nx o;refine BF (α:=Sc) (SSc s) (λa=>eV l R a/\a.p=s.size) (λ_=>rfl) ?_ ?_
 .refine Av ctxa ?_;have ho:∀o,Fe [.ptr 0 0] [(0,scr s 0 1)] 1 o [.ptr 0 0] [(0,Row.cells 105 [.t (sv s),.t (iv 0),.t (iv 1)])] 1=some o:=λo=>DL _ _ _ _;simp -implicitDefEqProofs [ho,upd];refine BD ?_;refine D5 (SSc s) (λa=>a.f) (eV l R) ⟨l.length+1,p0,l0,[]⟩ (λ_=>rfl) ⟨by show p0<=_;omega,by show l.length-p0<l.length+1;omega,by show l0<=p0+1;omega,by simp,?_⟩ ?_ rfl ?_
  .show He [] (BM (l.length+1) (l.drop p0) l0)=R;rw[To,hR,CZ,hp0,hl0,Xs]
  .exact FK (k:=5) (Ay.nil Aw 42 _ _) (by omega) (by omega) (by simp -implicitDefEqProofs [BE,Bn,ren,Cm,B8,under]) (by simp -implicitDefEqProofs [rowP,ren,under])
  .rintro⟨f,p,ln,out⟩ hok;have hok':=hok;obtain⟨hp,hfu,hln,hol,heq⟩:=hok;simp only at hp hfu hln hol heq;have r0:Ay Aw 42 ([(0,scr s p ln)]++A4 Aw 42 1 out) 1 out:=(Ay.head' Aw 42 1 out).cons (by omega);by_cases hlt:p<s.size
   .have hn:=A3c (q:=q) s p ln hs hlt (H:=[(0,scr s p ln)]++A4 Aw 42 1 out) (nx:=2) rfl (by omega)
    obtain⟨D,hD⟩:∃D,D=l.drop p:=⟨_,rfl⟩
    have hDl:D.length=l.length-p:=by rw[hD,Xt]
    have hDe:D.isEmpty=false:=by
     cases D with
     | nil=>simp at hDl;omega
     | cons _ _=>rfl
    rw[<-hl,<-hD]at hn;rw[<-hD]at heq
    obtain⟨f',rfl⟩:∃f',f=f'+1:=⟨f-1,by omega⟩
    rw[BM,hDe]at heq;simp only[Xk,if_false]at heq
    obtain⟨k,hk⟩:∃k,k=(Ax D).k:=⟨_,rfl⟩
    obtain⟨t,ht⟩:∃t,t=(Ax D).t:=⟨_,rfl⟩
    obtain⟨e,he⟩:∃e,e=(Ax D).e:=⟨_,rfl⟩
    obtain⟨n,hnn⟩:∃n,n=(Ax D).n:=⟨_,rfl⟩
    have hpos:=IR D hDe;rw[<-hk,<-ht,<-he,<-hnn]at hn;rw[<-he,<-hnn]at hpos;rw[<-hk,<-ht,<-he,<-hnn]at heq
    obtain⟨p1,hp1⟩:∃p1,p1=p+n:=⟨_,rfl⟩
    rw[<-hp1]at hn
    have hu0:upd ([(0,scr s p ln)]++A4 Aw 42 1 out) 0 (scr s p1 ln)=[(0,scr s p1 ln)]++A4 Aw 42 1 out:=by
     simp[upd]
    rw[hu0]at hn;by_cases he0:e=0
    .obtain⟨hn1,hn2⟩:=hpos he0;rw[zz (by simpa using he0)]at heq
     have hdd:D.drop n=l.drop p1:=by rw[hD,Y3,hp1]
     rw[hdd]at heq;have hsl1:=Ow (l.drop p1) false;have hsn1:=Q9 (l.drop p1) false;rw[Xt]at hsl1
     obtain⟨p2,hp2⟩:∃p2,p2=p1+(Au false (l.drop p1)).1:=⟨_,rfl⟩
     obtain⟨ln2,hln2⟩:∃x,x=ln+(Au false (l.drop p1)).2:=⟨_,rfl⟩
     have hdd2:(l.drop p1).drop (Au false (l.drop p1)).1=l.drop p2:=by rw[Y3,hp2]
     rw[hdd2,<-hln2]at heq
     have htok:Dp k t ln e = .tu [.ag (tkc k t ln),iv e]:=by rw[Dp,zy he0,he0]
     have hb:(e != 0)=false:=by rw[he0];rfl
     have r0':Ay Aw 42 ((3,.cells 42 [.t (iv k),.t (sv (bs t)),.t (iv (ln:Int))])::(2,tkr k t ln)::([(0,scr s p1 ln)]++A4 Aw 42 1 out)) 1 out:=
      (((Ay.head' Aw 42 1 out).cons (k:=0) (by omega)).cons (k:=2) (by omega)).cons (k:=3) (by omega)
     obtain⟨b2,H2,n2,ap2,r2,ne2,hle2,hold,hb2⟩:=M4 (e:=Aw) (ty:=42) (by':=32) (nx:=4) (m:=[⟨k,t,ln⟩]) r0' (Lf (e:=Aw) (b:=3) (ty:=42) ⟨k,t,ln⟩ rfl) (by simp;omega) (by simp;omega);have ap2':Cc 42 3 32 ((3,.cells 42 [.t (iv k),.t (sv (bs t)),.t (iv (ln:Int))])::(2,tkr k t ln)::(0,scr s p1 ln)::A4 Aw 42 1 out) 4 (rowP Aw 1 out) (.row 3 0 1 3)=some (rowP Aw b2 (out++[⟨k,t,ln⟩]),H2,n2):=ap2;have hl0':Aa H2 0=some (scr s p1 ln):=(hold 0 (by omega) (by omega)).trans rfl;have hsk:=eW (q:=q) s p1 ln hs (by omega) (by omega) (H:=H2) (nx:=n2) hl0' (by omega);rw[<-hl,<-hp2,<-hln2]at hsk;have ctxb:=As.nil.ctxH (.cons hn (.cons hsk .nil)) mixed;refine Ap ctxb ?_;simp -implicitDefEqProofs [SSc,sl1,hlt,h1,htok,BC,hb,st2,ldt,bst,ap2'];refine Am.mk ⟨f',p2,ln2,out++[⟨k,t,ln⟩]⟩ ⟨⟨by show p2<=_;omega,by show l.length-p2<f';omega,by show ln2<=p2+1;omega,by simp;omega,?_⟩,by show f'<f'+1;omega⟩ ?_
     .show He (out++[⟨k,t,ln⟩]) (BM f' (l.drop p2) ln2)=R;rw[<-heq]
      cases BM f' (l.drop p2) ln2 with
      | error x=>rfl
      | ok ts=>show Except.ok _=Except.ok _;simp
     .have r2':Ay Aw 42 (upd H2 0 (scr s p2 ln2)) b2 (out++[⟨k,t,ln⟩]):=r2.imp id λh=>by rw[AN,zz (by omega)];exact h
      have h02:Aa (upd H2 0 (scr s p2 ln2)) 0=some (scr s p2 ln2):=by rw[AN,zy rfl,hl0'];rfl
      exact FK (k:=b2) r2' (by omega) (by omega) (by simp -implicitDefEqProofs [BE,Bn,ren,Cm,B8,under,h02];omega) (by simp -implicitDefEqProofs [Ek,Em,ren,under])
    .have hRe:R = .error (ln,e):=by
      rw[<-heq,zy he0];rfl
     rw[hRe]at hT;simp only at hT;have ctxb:=As.nil.ctxH (.cons hn .nil) mixed;refine Ap ctxb ?_
     have hb:(e != 0)=true:=by rw[bne_iff_ne];exact he0
     have htok:Dp k t ln e = .tu [.ag (tkc 0 [] 0),iv e]:=by rw[Dp,zz he0]
     simp -implicitDefEqProofs [SSc,sl1,hlt,h1,htok,BC,hb,hT,st2,ld2]
   .have hps:p=s.size:=by omega
    subst hps;refine Ap Ac ?_;simp -implicitDefEqProofs [SSc,sl1];refine Am.mk ⟨f,s.size,ln,out⟩ ⟨hok',rfl⟩ ?_;exact FK (k:=1) r0 (by omega) (by omega) (by simp -implicitDefEqProofs [BE,Bn,ren,Cm,B8,under]) (by simp -implicitDefEqProofs [Ek,Em,ren,under])
 rintro⟨f,p,ln,out⟩ ⟨hok,hps⟩;obtain⟨hp,hfu,hln,hol,heq⟩:=hok;simp only at hp hfu hln hol heq hps;subst hps;have r0:Ay Aw 42 ([(0,scr s s.size ln)]++A4 Aw 42 1 out) 1 out:=(Ay.head' Aw 42 1 out).cons (by omega);have hd0:l.drop s.size=[]:=Xz (by omega)
 have hRo:R = .ok out:=by
  rw[<-heq,hd0]
  cases f with
  | zero=>show Except.ok (out++[])=_;rw[Xy]
  | succ f=>rw[BM];show Except.ok (out++[])=_;rw[Xy]
 rw[hRo]at hT;simp only at hT;have ht:=eU r0 (iv 0) (iv 0);refine Ap Ac ?_;have ht':toT ((0,scr s s.size ln)::A4 Aw 42 1 out) (Ei [rowP Aw 1 out,.t (iv 0),.t (iv 0)])=some (.tu [Aq Aw out,iv 0,iv 0],GV 1 out):=ht;simp -implicitDefEqProofs [SSc,hT,-Ei,ht']
def Ci (f:Nat) (cm:Bool) (D:List UInt8) (l:Nat):Except (Nat×Int) (List Tok):=BM f (D.drop (Au cm D).1) (l+(Au cm D).2)
theorem Ra:∀(l acc:List UInt8),(C6 acc l).length<=l.length+1
 | [],acc=>by simp[C6]
 | c::r,acc=>by
  rw[C6];have h1:=Ra r [];have h2:=Ra r (acc++[c]);split
  .simp;omega
  .simp;omega
theorem eX:∀(f:Nat) (D:List UInt8) (l:Nat) (ts:List Tok),BM f D l = .ok ts->ts.length<=D.length
 | 0,D,l,ts,h=>by simp only[BM,Except.ok.injEq]at h;subst h;simp
 | f+1,D,l,ts,h=>by
  rw[BM]at h;split at h
  .simp only[Except.ok.injEq]at h;subst h;simp
  .rename_i h0;split at h
   .cases h
   .rename_i he;obtain⟨n1,n2⟩:=IR D (by simpa using h0) (by simpa using he);split at h
    .cases h
    .rename_i ts' h2;injection h with h;subst h;have:=eX f _ _ _ h2;simp only[Xt]at this;simp only[Xx];omega
theorem Rc {D:List UInt8} {l:Nat} {ts:List Tok} (h:CZ D l = .ok ts):ts.length<=D.length:=by
 have:=eX _ _ _ _ h;simp only[Xt]at this;omega
theorem OV {p:UInt8->Bool}:∀{D:List UInt8} {c:UInt8},c∈D.takeWhile p->p c=true
 | [],c,h=>by simp at h
 | x::D,c,h=>by
  rw[Yf]at h;split at h
  .rename_i hx;rcases X0.1 h with e | e
   .rw[e];exact hx
   .exact OV e
  .simp at h
theorem OW {p:UInt8->Bool}:∀D:List UInt8,D.take (D.takeWhile p).length=D.takeWhile p
 | []=>rfl
 | c::D=>by
  by_cases h:p c=true
  .rw[Yf,zy h,Xx,X6,OW D]
  .rw[Yf,zz h];rfl
theorem Ul:∀D:List UInt8,(A9 D).2=0->D.take ((A9 D).1+1)=D.take (A9 D).1++[34]
 | [],h=>by cases h
 | c::D,h=>by
  rw[A9]at h;by_cases h1:c.toNat=34
  .have:c=34:=Y4.1 h1;rw[A9,zy h1,this];rfl
  .rw[zz h1]at h;by_cases h2:prt c=true
   .rw[zy h2]at h;rw[A9,zz h1,zy h2,X6,X6,Ul D h];rfl
   .rw[zz h2]at h;cases h
def wr (k:Int) (t:List UInt8):List UInt8:=if k=3 then 34::t++[34]else t
theorem eY (c:UInt8) (r:List UInt8) (he:(Ax (c::r)).e=0):wr (Ax (c::r)).k (Ax (c::r)).t=(c::r).take (Ax (c::r)).n:=by
 rw[Ax]at he ⊢;split
 .rw[wr,zz (by simp)]
 .rename_i t1;rw[zz t1]at he;split
  .rw[wr,zz (by simp)]
  .rename_i t2;rw[zz t2]at he;split
   .rw[wr,zz (by simp)]
   .rename_i t3;rw[zz t3]at he;split
    .rename_i t4;rw[zy t4]at he;have he':(A9 r).2=0:=he;have hc:c=34:=Y4.1 t4;have e1:(c::r).drop 1=r:=rfl;rw[wr,zy rfl];simp only[e1,he',if_true];rw[show 1+(A9 r).1+1=((A9 r).1+1)+1 by omega,X6,Ul r he',hc];rfl
    .rw[wr,zz (by simp)]
def nl (l:List UInt8):Nat:=l.countP λc=>c.toNat==10
theorem Jg (f:Nat) (c:UInt8) (r:List UInt8) (l:Nat) (he:(Ax (c::r)).e=0) :
  BM (f+1) (c::r) l=match Ci f false ((c::r).drop (Ax (c::r)).n) l with
   | .error x=>.error x
   | .ok ts=>.ok (⟨(Ax (c::r)).k,(Ax (c::r)).t,l⟩::ts):=by
 rw[BM];simp only[Yg,Xk,if_false,he,ne_eq,not_true_eq_false,Ci];generalize BM f (X7 (Au false (X7 (Ax (c::r)).n (c::r))).fst (X7 (Ax (c::r)).n (c::r))) (l+(Au false (X7 (Ax (c::r)).n (c::r))).snd)=z;cases z<;>rfl
def Nb (t:Tok):Prop:=∃c r,(Ax (c::r)).e=0/\t.k=(Ax (c::r)).k/\t.t=(Ax (c::r)).t
def wrT (t:Tok):List UInt8:=wr t.k t.t
theorem OX:∀(f:Nat) (D:List UInt8) (l:Nat) (ts:List Tok),BM f D l = .ok ts->(∀t∈ts,Nb t)/\(ts.flatMap wrT).length<=D.length
 | 0,D,l,ts,h=>by simp only[BM,Except.ok.injEq]at h;subst h;simp
 | f+1,[],l,ts,h=>by
  rw[BM]at h;simp only[List.isEmpty_nil,if_true,Except.ok.injEq]at h;subst h;simp
 | f+1,c::r,l,ts,h=>by
  by_cases he:(Ax (c::r)).e=0
  .rw[Jg f c r l he]at h;split at h
   .cases h
   .rename_i ts' h2;injection h with h;subst h;obtain⟨i1,i2⟩:=OX f _ _ _ h2;obtain⟨n1,n2⟩:=IR (c::r) rfl he;refine⟨λt ht=>?_,?_⟩
    .rcases X0.1 ht with e | e
     .rw[e];exact⟨c,r,he,rfl,rfl⟩
     .exact i1 t e
    .rw[List.flatMap_cons,Yh];have hw:wrT ⟨(Ax (c::r)).k,(Ax (c::r)).t,l⟩=(c::r).take (Ax (c::r)).n:=eY c r he;rw[hw,List.length_take];rw[Xt,Xt]at i2;omega
  .rw[BM]at h;simp only[Yg,Xk,if_false,ne_eq,he,not_false_eq_true,if_true]at h;cases h
theorem eZ:∀(f:Nat) (D:List UInt8) (l:Nat) (x:Nat×Int),BM f D l = .error x->l<=x.1/\x.2≠0
 | 0,D,l,x,h=>by cases h
 | f+1,[],l,x,h=>by cases h
 | f+1,c::r,l,x,h=>by
  by_cases he:(Ax (c::r)).e=0
  .rw[Jg f c r l he]at h;split at h
   .rename_i y hy;injection h with h;subst h;have:=eZ f _ _ _ hy;exact⟨by omega,this.2⟩
   .cases h
  .rw[BM]at h;simp only[Yg,Xk,if_false,ne_eq,he,not_false_eq_true,if_true]at h;injection h with h;subst h;exact⟨Xo _,he⟩
theorem Um {D:List UInt8} {l:Nat} {x:Nat×Int} (h:CZ D l = .error x):l<=x.1/\x.2≠0:=by
 have:=eZ _ _ _ _ h;exact⟨by omega,this.2⟩
def later (k:Nat):Except (Nat×Int) (List Tok)->Except (Nat×Int) (List Tok)
 | .error x=>.error (x.1+k,x.2)
 | .ok ts=>.ok (ts.map λt=>⟨t.k,t.t,t.l+k⟩)
noncomputable def OY (ts:List T):Option T:=g2 (tSl Aw) JH (λl i=>if l.length<=1000000/\0<=i/\i<=(l.length:Int)then some (Uh (AA (l.map kt) 64 i.toNat))else none) ts
theorem A3f {t:T} {l:List Tok} (h:IsS Aw t l) (hl:l.length<=1000000) {i:Nat} (hi:i<=l.length):OY [t,iv (i:Int)]=some (Uh (AA (l.map kt) 64 i)):=by
 show g2 _ _ _ _=_;rw[Dz (τ:=tSl Aw) (σ:=JH) (x:=l) (y:=(i:Int)) h rfl,zy ⟨hl,by omega,by omega⟩,Yi]
theorem A3g:GOK Xa (G q) 133 OY:=Do λa b x y r ha hb hr=>by
 split at hr
 .rename_i hc;injection hr with hr;subst hr;cases hb;obtain⟨n,rfl⟩:=Yj hc.2.1;exact A2u ha hc.1 (by omega)
 .cases hr
def G6 (ts:List T):Option T:=match ts with
 | [.v (.string s)]=>if s.size<=1000000 then some (FC s.data.toList)else none
 | _=>none
theorem A3h:GOK Xa (G q) 28 G6:=λargs r h=>by
 unfold G6 at h;split at h
 .split at h
  .injection h with h;subst h;exact A3e _ (by unfold lim;omega)
  .cases h
 .cases h
abbrev fB:Nat:=66
abbrev Kl:Nat:=42
def rr (t:T) (i:Nat):Row:=.cells fB [.t t,.t (iv (i:Int))]
theorem HZ (n:Nat) (t:T) (i:Nat):ClR n (rr t i):=ClR.trees n fB [t,iv (i:Int)]
structure A3i (t:T) (i:Nat) (H:Ab) (k:Nat):Prop where
 l0:Aj false 1 H (.ptr k 0)=some (.t t)
 l1:Aj false 1 H (.ptr k 1)=some (.t (iv (i:Int)))
section
variable {t : T} {k0 i nx : Nat} {H : Ab} {l : List Tok}
theorem E6 (h:Aa H k0=some (rr t i)):A3i t i H k0:=by
 have l:∀j,Aj false 1 H (.ptr k0 j)=([.t t,.t (iv (i:Int))]:List PV)[j]?:=λj=>by
  simp only[Aj,h,rr,Xk,if_false]
 exact⟨l 0,l 1⟩
theorem Un (h:Aa H k0=some (rr t i)) (j:Nat):AM 1 H (.ptr k0 1) (.t (iv (j:Int)))=some (Xb H k0 (rr t j)):=
 Fw (ns:=[.t (iv (j:Int))]) h rfl rfl (by show 1+1<=2;omega)
theorem Jh {i':Nat} (h:Aa H k0=some (rr t i')) (j:Nat):AM 1 H (.ptr k0 1) (.t (iv ((j:Int)+1)))=some (Xb H k0 (rr t (j+1))):=Un h (j+1)
theorem Km (h:Aa H k0=some (rr t i)) (j:Nat):Aa (Xb H k0 (rr t j)) k0=some (rr t j):=by rw[AN,zy rfl,h];rfl
structure StR {α:Type} (l:List Tok) (t:T) (k0:Nat) (H:Ab) (nx:Nat) (Sh:T->Prop) (g:α->T) (o:Res α) (f:Fin):Prop where
 ex:∃y e i',f.r = .t (.tu [y,iv e])/\Aa f.H k0=some (rr t i')/\i'<=l.length/\Sh y/\((∃x,o = .ok (x,i')/\y=g x/\e=0)\/(o = .error e/\e≠0))
 k:Kr k0 H nx f.H f.nx
structure StE (l:List Tok) (t:T) (k0:Nat) (H:Ab) (nx:Nat) (o:Except Int Nat) (f:Fin):Prop where
 ex:∃e i',f.r = .t (iv e)/\Aa f.H k0=some (rr t i')/\i'<=l.length/\((o = .ok i'/\e=0)\/(o = .error e/\e≠0))
 k:Kr k0 H nx f.H f.nx
theorem E7 {α:Type} {fn:FuncId} {xs:List PV} {Sh:T->Prop} {g:α->T} {o:Res α} (h:∃f:Fin,StR l t k0 H nx Sh g o f/\AH Xa (G q) fn xs H nx f.r f.H f.nx) :
  ∃y e i' H' nx' tb,Aa H' k0=some (rr t i')/\i'<=l.length/\Sh y/\((∃x,o = .ok (x,i')/\y=g x/\e=0)\/(o = .error e/\e≠0))/\Kr k0 H nx H' nx'/\tb xs H nx=some (.t (.tu [y,iv e]),H',nx')/\HOK Xa (G q) fn tb:=by
 obtain⟨⟨fr,fH,fn'⟩,⟨⟨y,e,i',hr,ho,hi,hs,hd⟩,hk⟩,hc⟩:=h;simp only at hr ho hk hc;subst hr;obtain⟨tb,t1,t2⟩:=hAt hc hk.fr;exact⟨y,e,i',fH,fn',tb,ho,hi,hs,hd,hk,t1,t2⟩
theorem fC {fn:FuncId} {xs:List PV} {o:Except Int Nat} (h:∃f:Fin,StE l t k0 H nx o f/\AH Xa (G q) fn xs H nx f.r f.H f.nx) :
  ∃e i' H' nx' tb,Aa H' k0=some (rr t i')/\i'<=l.length/\((o = .ok i'/\e=0)\/(o = .error e/\e≠0))/\Kr k0 H nx H' nx'/\tb xs H nx=some (.t (iv e),H',nx')/\HOK Xa (G q) fn tb:=by
 obtain⟨⟨fr,fH,fn'⟩,⟨⟨e,i',hr,ho,hi,hd⟩,hk⟩,hc⟩:=h;simp only at hr ho hk hc;subst hr;obtain⟨tb,t1,t2⟩:=hAt hc hk.fr;exact⟨e,i',fH,fn',tb,ho,hi,hd,hk,t1,t2⟩
def ShS (y:T):Prop:=∃s,y=sv s
theorem fI (R:Ab) (b:Nat) (x y z:PV) (k v:Int) (s:ByteArray):AM 3 ((b,.cells Kl [x,y,z])::R) (.ptr b 0) (.t (.ag [iv k,sv s,iv v]))=some ((b,.cells Kl [.t (iv k),.t (sv s),.t (iv v)])::R):=by
 have hz:Bj (.t (.ag [iv k,sv s,iv v]))=some [.t (iv k),.t (sv s),.t (iv v)]:=rfl;simp[AM,hz,Xb,Bp]
theorem Re {b:Nat} {k v:Int} {s:ByteArray} (h:Aa H b=some (.cells Kl [.t (iv k),.t (sv s),.t (iv v)])) :
  Aj false 1 H (.ptr b 0)=some (.t (iv k))/\Aj false 1 H (.ptr b 1)=some (.t (sv s))/\Aj false 1 H (.ptr b 2)=some (.t (iv v))/\Aj true 3 H (.ptr b 0)=some (.t (.ag [iv k,sv s,iv v])):=by
 simp only[Aj,h];exact⟨rfl,rfl,rfl,rfl⟩
theorem Ia (ht:IsS Aw t l) (hlim:l.length<=1000000) (h0:Aa H k0=some (rr t i)) (hk:k0<nx) (hi:i<=l.length) (k:Int) :
  ∃f:Fin,StR l t k0 H nx ShS sv (AJ (l.map kt) i k) f/\AH Xa (G q) 22 [.ptr k0 0,.t (iv k)] H nx f.r f.H f.nx:=by
 have L:=E6 h0;have hlen:AO (.t t)=some (.t (iv (l.length:Int))):=ht.len;refine sW.callX rfl ?_;(conv in YV=>cbv);refine Ae Ac ?_;simp -implicitDefEqProofs
 cases hx:l[i]? with
 | none=>
  have hge:l.length<=i:=by simpa using hx
  have e1:AJ (l.map kt) i k = .error 9:=by unfold AJ;rw[Gy,hx];rfl
  have d1:decide ((l.length:Int)<=(i:Int))=true:=zw (by omega);rw[e1];refine Ae Ac ?_;simp -implicitDefEqProofs [L.l0,L.l1,hlen,d1,hge];exact A0 ⟨.t (.tu [sv ⟨#[]⟩,iv 9]),H,nx⟩ ⟨⟨_,_,i,rfl,h0,hi,⟨_,rfl⟩,.inr ⟨rfl,by decide⟩⟩,Kr.refl⟩ (by simp -implicitDefEqProofs)
 | some x=>
  have hlt:i<l.length:=(Xj.1 hx).1;have d1:decide ((l.length:Int)<=(i:Int))=false:=zx (by omega)
  have d2:¬l.length<=i:=by omega
  obtain⟨r,hr⟩:=IX ht hx;have st:=fI H nx (.t (iv 0)) (.t (sv ⟨#[]⟩)) (.t (iv 0)) x.k x.l (bs x.t)
  obtain⟨H1,hH1⟩:∃H1:Ab,H1=(nx,.cells Kl [.t (iv x.k),.t (sv (bs x.t)),.t (iv (x.l:Int))])::H:=⟨_,rfl⟩
  rw[<-hH1]at st
  have h1:Aa H1 k0=some (rr t i):=by rw[hH1,Az,zz (by omega)];exact h0
  have L1:=E6 h1
  have p1:Aa H1 nx=some (.cells Kl [.t (iv x.k),.t (sv (bs x.t)),.t (iv (x.l:Int))]):=by rw[hH1,Az,zy rfl]
  obtain⟨q0,q1,_,_⟩:=Re p1
  have K1:Kr k0 H nx H1 (nx+1):=by rw[hH1];exact Kr.refl.cons (ClR.trees _ _ [_,_,_])
  refine Ae Ac ?_;simp -implicitDefEqProofs [L.l0,L.l1,hlen,d1,d2];refine Ae Ac ?_;simp -implicitDefEqProofs [L.l0,L.l1,hlen,d1,d2,hr,lp3,st];by_cases hkk:x.k=k
  .have e1:AJ (l.map kt) i k = .ok (bs x.t,i+1):=by unfold AJ;rw[Gy,hx];simp[hkk]
   have hkn:(x.k != k)=false:=by simpa using hkk
   have e2:Xd.wrap ((i:Int)+1)=(i:Int)+1:=AP (n:=i+1) (by omega) (by omega);have s1:=Jh h1 i;have h2:=Km h1 (i+1);have K2:=K1.upd (.inl rfl) (HZ (nx+1) t (i+1))
   have p2:Aa (Xb H1 k0 (rr t (i+1))) nx=some (.cells Kl [.t (iv x.k),.t (sv (bs x.t)),.t (iv (x.l:Int))]):=by rw[AN,zz (by omega)];exact p1
   obtain⟨_,q1',_,_⟩:=Re p2
   obtain⟨H2,hH2⟩:∃H2,H2=Xb H1 k0 (rr t (i+1)):=⟨_,rfl⟩
   rw[<-hH2]at s1 h2 K2 q1';rw[e1];refine Ae Ac ?_;simp -implicitDefEqProofs [q0,hkn];refine Ae Ac ?_;simp -implicitDefEqProofs [L1.l1,e2,s1];refine Ar Ac ?_;simp -implicitDefEqProofs [q1'];exact A0 ⟨.t (.tu [sv (bs x.t),iv 0]),H2,nx+1⟩ ⟨⟨_,_,i+1,rfl,h2,hlt,⟨_,rfl⟩,.inl ⟨_,rfl,rfl,rfl⟩⟩,K2⟩ (by simp -implicitDefEqProofs)
  .have e1:AJ (l.map kt) i k = .error 8:=by unfold AJ;rw[Gy,hx];simp[hkk]
   have hkn:(x.k != k)=true:=by simpa using hkk
   rw[e1];refine Ae Ac ?_;simp -implicitDefEqProofs [q0,hkn];exact A0 ⟨.t (.tu [sv ⟨#[]⟩,iv 8]),H1,nx+1⟩ ⟨⟨_,_,i,rfl,h1,hi,⟨_,rfl⟩,.inr ⟨rfl,by decide⟩⟩,K1⟩ (by simp -implicitDefEqProofs)
theorem A3j (ht:IsS Aw t l) (h0:Aa H k0=some (rr t i)) (s:ByteArray) :
  AH Xa (G q) 23 [.ptr k0 0,.t (sv s)] H nx (.t (bv (Be (l.map kt) i s.data.toList))) H nx:=by
 have L:=E6 h0;have hlen:AO (.t t)=some (.t (iv (l.length:Int))):=ht.len
 suffices ∃f:Fin,f=⟨.t (bv (Be (l.map kt) i s.data.toList)),H,nx⟩/\AH Xa (G q) 23 [.ptr k0 0,.t (sv s)] H nx f.r f.H f.nx by
  obtain⟨f,rfl,hc⟩:=this;exact hc
 refine sX.callX rfl ?_;(conv in YW=>cbv);refine Ae Ac ?_;simp -implicitDefEqProofs;by_cases hi:l.length<=i
 .rw[Tw hi]
  have hi1:¬((i:Int)<(l.length:Int)):=by omega
  have hi2:¬i<l.length:=by omega
  refine Ar Ac ?_;simp -implicitDefEqProofs [L.l0,L.l1,DY,hlen,hi1,hi2];exact A0 ⟨.t (bv false),H,nx⟩ rfl (by simp -implicitDefEqProofs)
 .obtain⟨x,hx⟩:∃x,l[i]?=some x:=⟨_,Xe (by omega)⟩
  rw[Tv hx];obtain⟨r,hr⟩:=IX ht hx
  have hi1:((i:Int)<(l.length:Int)):=by omega
  have hi2:i<l.length:=by omega
  have hts:(x.t==s.toList)=decide (x.t=s.data.toList):=by rw[HI];exact Bool.eq_iff_iff.2 (by simp)
  by_cases h5:x.k=5
  .have hb:(x.k==5)=true:=by rw[h5];rfl
   have hd:decide (x.k=5)=true:=by rw[h5];rfl
   refine Ar Ac ?_;simp -implicitDefEqProofs [L.l0,L.l1,DY,hlen,hi1,hi2,hr,hb,hd,hts];exact A0 ⟨.t (bv (decide (x.t=s.data.toList))),H,nx⟩ rfl (by simp -implicitDefEqProofs)
  .have hb:(x.k==5)=false:=by simpa using h5
   have hd:decide (x.k=5)=false:=by simpa using h5
   refine Ar Ac ?_;simp -implicitDefEqProofs [L.l0,L.l1,DY,hlen,hi1,hi2,hr,hb,hd];exact A0 ⟨.t (bv false),H,nx⟩ rfl (by simp -implicitDefEqProofs)
theorem Ji (ht:IsS Aw t l) (h0:Aa H k0=some (rr t i)) (s:ByteArray):∃tb,tb [.ptr k0 0,.t (sv s)] H nx=some (.t (bv (Be (l.map kt) i s.data.toList)),H,nx)/\HOK Xa (G q) 23 tb:=by
 obtain⟨tb,t1,t2⟩:=hAt (A3j (q:=q) (nx:=nx) ht h0 s) (λh=>h);exact⟨tb,t1,t2⟩
theorem fJ (ht:IsS Aw t l) (hlim:l.length<=1000000) (h0:Aa H k0=some (rr t i)) (hi:i<=l.length) (s:ByteArray) :
  ∃f:Fin,StE l t k0 H nx (B6 (l.map kt) i s.data.toList) f/\AH Xa (G q) 32 [.ptr k0 0,.t (sv s)] H nx f.r f.H f.nx:=by
 have L:=E6 h0;have hlen:AO (.t t)=some (.t (iv (l.length:Int))):=ht.len;obtain⟨tn,n1,n2⟩:=Ji (q:=q) (nx:=nx) ht h0 s;have C:Ctx Xa (G q) _:=As.nil.ctxH (AF.cons n2 .nil) mixed;refine tB.callX rfl ?_;(conv in YZ=>cbv);refine Ae Ac ?_;simp -implicitDefEqProofs;by_cases hge:l.length<=i
 .have e1:B6 (l.map kt) i s.data.toList = .error 9:=by unfold B6;rw[zy (by simpa using hge)]
  have d1:decide ((l.length:Int)<=(i:Int))=true:=zw (by omega);rw[e1];refine Ae Ac ?_;simp -implicitDefEqProofs [L.l0,L.l1,hlen,d1,hge];exact A0 ⟨.t (iv 9),H,nx⟩ ⟨⟨_,i,rfl,h0,hi,.inr ⟨rfl,by decide⟩⟩,Kr.refl⟩ (by simp -implicitDefEqProofs)
 .have d1:decide ((l.length:Int)<=(i:Int))=false:=zx (by omega)
  have hlt:¬(l.map kt).length<=i:=by simpa using hge
  refine Ae Ac ?_;simp -implicitDefEqProofs [L.l0,L.l1,hlen,d1,hge]
  cases hs:Be (l.map kt) i s.data.toList with
  | true=>
   have e1:B6 (l.map kt) i s.data.toList = .ok (i+1):=by unfold B6;rw[zz hlt,hs];rfl
   have e2:Xd.wrap ((i:Int)+1)=(i:Int)+1:=AP (n:=i+1) (by omega) (by omega);rw[hs]at n1;rw[e1];have s1:=Jh h0 i;have h2:=Km h0 (i+1);have K2:=(Kr.refl (k0:=k0) (H:=H) (nx:=nx)).upd (.inl rfl) (HZ nx t (i+1))
   obtain⟨H2,hH2⟩:∃H2,H2=Xb H k0 (rr t (i+1)):=⟨_,rfl⟩
   rw[<-hH2]at s1 h2 K2;refine Ae C ?_;simp -implicitDefEqProofs [n1];refine Ae Ac ?_;simp -implicitDefEqProofs [L.l1,e2,s1];refine Ar Ac ?_;simp -implicitDefEqProofs;exact A0 ⟨.t (iv 0),H2,nx⟩ ⟨⟨_,i+1,rfl,h2,by omega,.inl ⟨rfl,rfl⟩⟩,K2⟩ (by simp -implicitDefEqProofs)
  | false=>
   have e1:B6 (l.map kt) i s.data.toList = .error 8:=by unfold B6;rw[zz hlt,hs];rfl
   rw[hs]at n1;rw[e1];refine Ae C ?_;simp -implicitDefEqProofs [n1];exact A0 ⟨.t (iv 8),H,nx⟩ ⟨⟨_,i,rfl,h0,hi,.inr ⟨rfl,by decide⟩⟩,Kr.refl⟩ (by simp -implicitDefEqProofs)
end
abbrev CU:Nat:=9
def ShL (y:T):Prop:=∃out:List ByteArray,y=Aq Ak out
structure PtC where
 H:Ab
 nx:Nat
 i:Nat
 b:Nat
 out:List ByteArray
 m:Nat
def SPt (k0:Nat) (c:PtC):Ad:=⟨[(4,rowP Ak c.b c.out),(0,.ptr k0 0)],c.H,c.nx,33⟩
structure PtI (l:List Tok) (t:T) (k0:Nat) (H:Ab) (nx:Nat) (Z:Res (List ByteArray)) (c:PtC):Prop where
 z:Z=Ch (l.map kt) (λp=>AJ (l.map kt) p 2) [46] 64 c.m c.i c.out
 rd:Aa c.H k0=some (rr t c.i)
 i:c.i<=l.length
 m:l.length<c.i+c.m
 o:c.out.length<=c.i
 row:Ay Ak CU c.H c.b c.out
 b0:nx<=c.b
 b1:c.b<c.nx
 K:Kr k0 H nx c.H c.nx
section
variable {t : T} {k0 i nx : Nat} {H : Ab} {l : List Tok}
theorem Uo {F:List Nat} (h:Aa H k0=some (rr t i)) (hF:k0∉F):Aa (B1 H F) k0=some (rr t i):=
 QX hF h λx hx=>by injection hx with hx;subst hx;exact yB [t,iv (i:Int)]
theorem A3k (ht:IsS Aw t l) (hlim:l.length<=1000000) (h0:Aa H k0=some (rr t i)) (hk:k0<nx) (hi:i<=l.length) (hC:Cl H nx) :
  ∃f:Fin,StR l t k0 H nx ShL (Aq Ak) (Gx (l.map kt) i) f/\AH Xa (G q) 57 [.ptr k0 0] H nx f.r f.H f.nx:=by
 obtain⟨Z,hZ⟩:∃Z,Z=Gx (l.map kt) i:=⟨_,rfl⟩
 rw[<-hZ];refine tF.callX rfl ?_;(conv in ZC=>cbv);refine Ae Ac ?_;simp -implicitDefEqProofs;refine Ae Ac ?_;simp -implicitDefEqProofs;refine Bg (s':=⟨[(4,.t Ah),(0,.ptr k0 0)],H,nx+1,33⟩) ((O7 (nx':=nx+1) (Xl _)).trans (sub_env (by simp -implicitDefEqProofs))) rfl ?_;refine AG ?_
 refine BV (SPt k0) (λc=>c.m) (λc=>PtI l t k0 H nx Z c) ⟨H,nx+1,i,nx,[],l.length+1⟩ (λ_=>rfl)
  ⟨by rw[hZ];unfold Gx;rw[Xc],h0,hi,by show l.length<i+(l.length+1);omega,Xf _,.inl rfl,Xo _,Xu _,Kr.refl.mono (Xl _)⟩ ?_ rfl ?_
 .exact sub_env (by simp -implicitDefEqProofs [SPt,rowP])
 rintro⟨Hc,nc,j,b,out,m⟩ ⟨hz,rd,hj,hm,ho,row,b0,b1,K⟩;simp only at hz rd hj hm ho row b0 b1 K
 obtain⟨m,rfl⟩:∃m',m=m'+1:=⟨m-1,by omega⟩
 have n0:=K.n;obtain⟨y,e,j1,H1,n1,ta,rd1,hj1,⟨s,rfl⟩,hd,K1,a1,a2⟩:=E7 (Ia (q:=q) ht hlim rd (nx:=nc) (by omega) hj 2);have CA:Ctx Xa (G q) _:=As.nil.ctxH (AF.cons a2 .nil) mixed;have n1':=K1.n;refine AG ?_;refine Ae CA ?_;simp -implicitDefEqProofs [SPt,a1];rcases hd with⟨x,hx,hxy,rfl⟩ | ⟨hx,he⟩
 rotate_left
 .have hb:(e != 0)=true:=by rw[bne_iff_ne];exact he
  rw[Ch,hx]at hz;refine Ae Ac ?_;simp -implicitDefEqProofs [hb];exact A0 ⟨.t (.tu [Ah,iv e]),H1,n1⟩ ⟨⟨_,e,j1,rfl,rd1,hj1,⟨[],rfl⟩,.inr ⟨hz,he⟩⟩,K.trans K1⟩ (by simp -implicitDefEqProofs)
 injection hxy with hxy;injection hxy with hxy;subst hxy;obtain⟨hj2,hj3⟩:=Dc hx;rw[Ch,hx]at hz;simp only at hz
 have row1:Ay Ak CU H1 b out:=row.imp id λh=>by rw[K1.k b b1 (by omega)];exact h
 obtain⟨H2,ap,row2,k2,f2,c2⟩:=dW (by':=16) (nx:=n1) s 1 rfl [.t (sv s)] rfl row1 (by omega) (by omega) (by omega);have K2:=(K.trans K1).app (H'':=H2) (nx'':=n1+2) b0 k2 (by omega) f2 c2
 have rd2:Aa H2 k0=some (rr t j1):=by rw[k2 k0 (by omega) (by omega)];exact rd1
 obtain⟨out',hout'⟩:∃out',out'=out++[s]:=⟨_,rfl⟩
 have ol:out'.length=out.length+1:=by rw[hout',Yh];rfl
 rw[<-hout']at ap row2 hz;obtain⟨tn,t1,t2⟩:=Ji (q:=q) (nx:=n1+2) ht rd2 ⟨#[46]⟩;have CN:Ctx Xa (G q) _:=As.nil.ctxH (AF.cons t2 .nil) mixed;refine Ae Ac ?_;simp -implicitDefEqProofs;refine Ae Ac ?_;simp -implicitDefEqProofs [bsS,ap]
 cases hs:Be (l.map kt) j1 [46]with
 | false=>
  rw[hs,zz (by decide)]at hz;rw[show(⟨#[46]⟩:ByteArray).data.toList=[46]from rfl,hs]at t1;refine Bg (s':=⟨[(4,.t (Aq Ak out')),(0,.ptr k0 0)],B1 H2 [n1+1],n1+2,33⟩) (EI [n1+1] (by simp -implicitDefEqProofs [Lr,FM row2 (Xq.2 rfl)])) rfl ?_;have K3:=K2.frz hC (F:=[n1+1]) (by intro b hb;rw[Xq]at hb;omega);have rd3:=Uo (F:=[n1+1]) rd2 (by simp;omega)
  obtain⟨H3,hH3⟩:∃H3,H3=B1 H2 [n1+1]:=⟨_,rfl⟩
  rw[<-hH3]at K3 rd3 ⊢;obtain⟨tn,t1,t2⟩:=Ji (q:=q) (nx:=n1+2) ht rd3 ⟨#[46]⟩;rw[show(⟨#[46]⟩:ByteArray).data.toList=[46]from rfl,hs]at t1;have CN:Ctx Xa (G q) _:=As.nil.ctxH (AF.cons t2 .nil) mixed;refine Ae CN ?_;simp -implicitDefEqProofs [t1];exact A0 ⟨.t (.tu [Aq Ak out',iv 0]),H3,n1+2⟩ ⟨⟨_,0,j1,rfl,rd3,hj1,⟨out',rfl⟩,.inl ⟨out',hz,rfl,rfl⟩⟩,K3⟩ (by simp -implicitDefEqProofs)
 | true=>
  rw[hs,zy rfl]at hz;rw[show(⟨#[46]⟩:ByteArray).data.toList=[46]from rfl,hs]at t1;have lj:=DQ hs;rw[Xc]at lj;refine Ae CN ?_;simp -implicitDefEqProofs [t1];have hlen:AO (rowP Ak (n1+1) out')=some (.t (iv (out'.length:Int))):=HD _ _ _;by_cases h64:64<=out.length+1
  .rw[zy h64]at hz
   have d1:(64:Int)<=(out'.length:Int):=by omega
   have d2:64<=out'.length:=by omega
   refine Ae Ac ?_;simp -implicitDefEqProofs [hlen,d1,d2];exact A0 ⟨.t (.tu [Ah,iv 7]),H2,n1+2⟩ ⟨⟨_,7,j1,rfl,rd2,hj1,⟨[],rfl⟩,.inr ⟨hz,by decide⟩⟩,K2⟩ (by simp -implicitDefEqProofs)
  .rw[zz h64]at hz
   have d1:¬(64:Int)<=(out'.length:Int):=by omega
   have d2:¬64<=out'.length:=by omega
   have L2:=E6 rd2;have s3:=Jh rd2 j1;have rd3:=Km rd2 (j1+1);have K3:=K2.upd (.inl rfl) (HZ (n1+2) t (j1+1))
   have row3:Ay Ak CU (Xb H2 k0 (rr t (j1+1))) (n1+1) out':=row2.imp id λh=>by rw[AN,zz (by omega)];exact h
   have e2:Xd.wrap ((j1:Int)+1)=(j1:Int)+1:=AP (n:=j1+1) (by omega) (by omega)
   obtain⟨H3,hH3⟩:∃H3,H3=Xb H2 k0 (rr t (j1+1)):=⟨_,rfl⟩
   rw[<-hH3]at s3 rd3 K3 row3;refine Ae Ac ?_;simp -implicitDefEqProofs [hlen,d1,d2];refine Ar Ac ?_;simp -implicitDefEqProofs [L2.l1,e2,s3];exact Am.mk ⟨H3,n1+2,j1+1,n1+1,out',m⟩ ⟨⟨hz,rd3,lj,by show l.length<j1+1+m;omega,by show out'.length<=j1+1;omega,row3,by show nx<=n1+1;omega,by show n1+1<n1+2;omega,K3⟩,Xu m⟩ (sub_env (by simp -implicitDefEqProofs [SPt]))
end
structure Rf (q:Gl) {α:Type} (l:List Tok) (t:T) (k0 f1:Nat) (caps:List PV) (step:Nat->Res α) (Inv:Nat->List α->Ab->Nat->Prop):Prop where
 rd:∀{i out H nx},Inv i out H nx->Aa H k0=some (rr t i)/\i<=l.length
 st:∀{i out H nx},Inv i out H nx->i+1<=l.length->Inv (i+1) out (Xb H k0 (rr t (i+1))) nx
 fw:∀{i x i'},step i = .ok (x,i')->i<i'
 one:∀{i out H nx},Inv i out H nx->out.length<=i->∃f:Fin,(∃n e i' out',f.r = .t (.tu [iv n,iv e])/\Inv i' out' f.H f.nx/\((∃x,step i = .ok (x,i')/\out'=out++[x]/\n=(out'.length:Int)/\e=0)\/(step i = .error e/\e≠0)))/\(Frs H nx->Frs f.H f.nx) /\
  AH Xa (G q) f1 caps H nx f.r f.H f.nx
structure LiP {α:Type} (Inv:Nat->List α->Ab->Nat->Prop) (Z:Res (List α)) (H:Ab) (nx:Nat) (f:Fin):Prop where
 ex:∃e i' out',f.r = .t (iv e)/\Inv i' out' f.H f.nx/\((Z = .ok (out',i')/\e=0)\/(Z = .error e/\e≠0))
 fr:Frs H nx->Frs f.H f.nx
structure LiC (α:Type) where
 H:Ab
 nx:Nat
 i:Nat
 out:List α
 m:Nat
def SLi {α:Type} (k0 f1:Nat) (caps:List PV) (s:ByteArray) (c:LiC α):Ad:=⟨[(2,.t (sv s)),(1,.fn (.func f1) [] caps),(0,.ptr k0 0)],c.H,c.nx,30⟩
section
variable {t : T} {k0 i nx f1 : Nat} {H : Ab} {l : List Tok} {α : Type} {caps : List PV} {step : Nat -> Res α} {Inv : Nat -> List α -> Ab -> Nat -> Prop}
theorem Up (O:Rf q l t k0 f1 caps step Inv) (ht:IsS Aw t l) (hlim:l.length<=1000000) (hI:Inv i [] H nx) (s:ByteArray) :
  ∃f:Fin,(∃e i' out',f.r = .t (iv e)/\Inv i' out' f.H f.nx/\((Ch (l.map kt) step s.data.toList 256 ((l.map kt).length+1) i [] = .ok (out',i')/\e=0)\/(Ch (l.map kt) step s.data.toList 256 ((l.map kt).length+1) i [] = .error e/\e≠0)))/\(Frs H nx->Frs f.H f.nx) /\
   AH Xa (G q) 95 [.ptr k0 0,.fn (.func f1) [] caps,.t (sv s)] H nx f.r f.H f.nx:=by
 obtain⟨S,hS⟩:∃S,S=s.data.toList:=⟨_,rfl⟩
 rw[<-hS]
 obtain⟨Z,hZ⟩:∃Z,Z=Ch (l.map kt) step S 256 ((l.map kt).length+1) i []:=⟨_,rfl⟩
 rw[<-hZ]
 suffices h:∃f:Fin,LiP Inv Z H nx f/\AH Xa (G q) 95 [.ptr k0 0,.fn (.func f1) [] caps,.t (sv s)] H nx f.r f.H f.nx by
  obtain⟨f,⟨h1,h2⟩,h3⟩:=h;exact⟨f,h1,h2,h3⟩
 refine uB.callX rfl ?_;(conv in ZX=>cbv);refine Ae Ac ?_;simp -implicitDefEqProofs;refine AG ?_
 refine BV (SLi k0 f1 caps s) (λc=>c.m) (λc=>Z=Ch (l.map kt) step S 256 c.m c.i c.out/\l.length<c.i+c.m/\c.out.length<=c.i/\Inv c.i c.out c.H c.nx/\(Frs H nx->Frs c.H c.nx)) ⟨H,nx,i,[],(l.map kt).length+1⟩ (λ_=>rfl)
  ⟨hZ,by show l.length<i+((l.map kt).length+1);rw[Xc];omega,Xf _,hI,λh=>h⟩ ?_ rfl ?_
 .exact sub_env (by simp -implicitDefEqProofs [SLi])
 rintro⟨Hc,nc,j,out,m⟩ ⟨hz,hm,ho,hIn,hF⟩;simp only at hz hm ho hIn hF;obtain⟨rd,hj⟩:=O.rd hIn
 obtain⟨m,rfl⟩:∃m',m=m'+1:=⟨m-1,by omega⟩
 obtain⟨⟨fr,H1,n1⟩,⟨n,e,j1,out',hr,hI1,hd⟩,hf1,hc⟩:=O.one hIn ho;simp only at hr hI1 hf1 hc;subst hr;obtain⟨ta,a1,a2⟩:=hAt hc hf1;obtain⟨rd1,hj1⟩:=O.rd hI1;have CA:Ctx Xa (G q) _:=As.nil.ctxH (AF.cons a2 .nil) mixed;refine AG ?_;refine Ae CA ?_;simp -implicitDefEqProofs [SLi,a1];rcases hd with⟨x,hx,hout',hn,rfl⟩ | ⟨hx,he⟩
 rotate_left
 .have hb:(e != 0)=true:=by rw[bne_iff_ne];exact he
  rw[Ch,hx]at hz;refine Ae Ac ?_;simp -implicitDefEqProofs [hb];exact A0 ⟨.t (iv e),H1,n1⟩ ⟨⟨e,j1,out',rfl,hI1,.inr ⟨hz,he⟩⟩,λh=>hf1 (hF h)⟩ (by simp -implicitDefEqProofs)
 have hfw:=O.fw hx
 have ol:out'.length=out.length+1:=by rw[hout',Yh];rfl
 rw[Ch,hx]at hz;simp only at hz;rw[<-hout']at hz;obtain⟨tn,t1,t2⟩:=Ji (q:=q) (nx:=n1) ht rd1 s;rw[<-hS]at t1;have CN:Ctx Xa (G q) _:=As.nil.ctxH (AF.cons t2 .nil) mixed;refine Ae Ac ?_;simp -implicitDefEqProofs
 cases hs:Be (l.map kt) j1 S with
 | false=>
  rw[hs,zz (by decide)]at hz;rw[hs]at t1;refine Ae CN ?_;simp -implicitDefEqProofs [t1];exact A0 ⟨.t (iv 0),H1,n1⟩ ⟨⟨0,j1,out',rfl,hI1,.inl ⟨hz,rfl⟩⟩,λh=>hf1 (hF h)⟩ (by simp -implicitDefEqProofs)
 | true=>
  rw[hs,zy rfl]at hz;rw[hs]at t1;have lj:=DQ hs;rw[Xc]at lj;refine Ae CN ?_;simp -implicitDefEqProofs [t1];by_cases h256:256<=out.length+1
  .rw[zy h256]at hz
   have d1:(256:Int)<=n:=by omega
   refine Ae Ac ?_;simp -implicitDefEqProofs [d1];exact A0 ⟨.t (iv 7),H1,n1⟩ ⟨⟨7,j1,out',rfl,hI1,.inr ⟨hz,by decide⟩⟩,λh=>hf1 (hF h)⟩ (by simp -implicitDefEqProofs)
  .rw[zz h256]at hz
   have d1:¬(256:Int)<=n:=by omega
   have L1:=E6 rd1;have s3:=Jh rd1 j1;have hI3:=O.st hI1 lj;have e2:Xd.wrap ((j1:Int)+1)=(j1:Int)+1:=AP (n:=j1+1) (by omega) (by omega);have f3:Frs H nx->Frs (Xb H1 k0 (rr t (j1+1))) n1:=λh=>(hf1 (hF h)).upd
   obtain⟨H3,hH3⟩:∃H3,H3=Xb H1 k0 (rr t (j1+1)):=⟨_,rfl⟩
   rw[<-hH3]at s3 hI3 f3;refine Ae Ac ?_;simp -implicitDefEqProofs [d1];refine Ar Ac ?_;simp -implicitDefEqProofs [L1.l1,e2,s3];exact Am.mk ⟨H3,n1,j1+1,out',m⟩ ⟨⟨hz,by show l.length<j1+1+m;omega,by show out'.length<=j1+1;omega,hI3,f3⟩,Xu m⟩ (sub_env (by simp -implicitDefEqProofs [SLi]))
end
end Go.Proofs.YtobnacghaamfoaaGreatDoor
namespace Go.Abs
open Go
theorem Uq {α:Type} (cs:List α) (o:Nat) (a:α) (h:o<cs.length):(Bp cs o [a])[o]?=some a:=List.getElem?_set_self h
theorem fK {α:Type} (cs ps:List α) (o:Nat) (h:o+ps.length<=cs.length):(Bp cs o ps).length=cs.length:=NF h
theorem fL {α:Type} (cs:List α) (o:Nat) (a b:α):Bp (Bp cs o [a]) o [b]=Bp cs o [b]:=List.set_set a
theorem Rh {α β:Type} (f:α->β) (cs ps:List α) (o:Nat):Bp (cs.map f) o (ps.map f)=(Bp cs o ps).map f:=by
 match ps with
 | []=>simp[Bp]
 | [p]=>exact List.map_set.symm
 | a::b::r=>simp[Bp]
theorem A3l {α:Type} (cs:List α) (o:Nat) (a:α) (h:cs[o]?=some a):Bp cs o [a]=cs:=by
 obtain⟨h1,h2⟩:=Xj.1 h;show cs.set o a=cs;subst h2;exact List.set_getElem_self h1
theorem OZ {α:Type} (zs ds:List α) (h:zs.length=ds.length):Bp zs 0 ds=ds:=by
 match ds,zs with
 | [],[]=>rfl
 | [p],[z]=>rfl
 | a::b::r,zs=>
  simp only[Bp,List.take_zero,Yc,Xs];rw[Xg (by omega),Xy]
end Go.Abs
namespace Go.Proofs.YtobnacghaamfoaaGreatDoor
open Go Go.Abs
variable {q : Gl}
def OwX (X:List (Nat×Row)) (kd nx0:Nat) (H:Ab) (nx:Nat):Prop:=∀p∈X,Aa H p.1=some p.2/\nx0<=p.1/\p.1<nx/\p.1≠kd/\ClR 0 p.2
structure LsI {α:Type} (e:Enc α) (ty:Nat) (l:List Tok) (t:T) (k0 kd o tyD:Nat) (cs:List T) (X:List (Nat×Row)) (H0:Ab) (nx0:Nat) (i:Nat) (out:List α) (H:Ab) (nx:Nat):Prop where
 rd:Aa H k0=some (rr t i)
 i:i<=l.length
 x:OwX X kd nx0 H nx
 d:∃kv,Aa H kd=some (.cells tyD (Bp (cs.map .t) o [rowP e kv out]))/\Ay e ty H kv out/\nx0<=kv/\kv<nx/\kv≠kd/\∀p∈X,p.1≠kv
 K:Kr k0 H0 nx0 H nx
 k0:k0<nx0
 kd:nx0<=kd/\kd<nx
structure DrI (l:List Tok) (t:T) (k0 kd tyD:Nat) (cs:List T) (X:List (Nat×Row)) (H0:Ab) (nx0:Nat) (i:Nat) (H:Ab) (nx:Nat):Prop where
 rd:Aa H k0=some (rr t i)
 i:i<=l.length
 x:OwX X kd nx0 H nx
 d:Aa H kd=some (.cells tyD (cs.map .t))
 K:Kr k0 H0 nx0 H nx
 k0:k0<nx0
 kd:nx0<=kd/\kd<nx
section
variable {α : Type} {e : Enc α} {ty : Nat} {l : List Tok} {t : T} {k0 kd o tyD : Nat} {cs : List T} {X : List (Nat × Row)} {H0 H H' : Ab} {nx0 nx nx' i j : Nat} {out : List α}
theorem OwX.kr (h:OwX X kd nx0 H nx) (K:Kr k0 H nx H' nx') (hk:k0<nx0):OwX X kd nx0 H' nx':=λp hp=>by
 obtain⟨h1,h2,h3,h4,h5⟩:=h p hp;exact⟨by rw[K.k p.1 h3 (by omega)];exact h1,h2,by have:=K.n;omega,h4,h5⟩
theorem OwX.upd (h:OwX X kd nx0 H nx) {b:Nat} (hb:b<nx0\/b=kd) (r:Row):OwX X kd nx0 (Xb H b r) nx:=λp hp=>by
 obtain⟨h1,h2,h3,h4,h5⟩:=h p hp;exact⟨by rw[AN,zz (by omega)];exact h1,h2,h3,h4,h5⟩
theorem OwX.frz (h:OwX X kd nx0 H nx) {F:List Nat} (hF:∀p∈X,p.1∉F):OwX X kd nx0 (B1 H F) nx:=λp hp=>by
 obtain⟨h1,h2,h3,h4,h5⟩:=h p hp;exact⟨QX (hF p hp) h1 λx hx=>by injection hx with hx;subst hx;exact h5 H F λ_ _=>Xf _,h2,h3,h4,h5⟩
theorem OwX.mono (h:OwX X kd nx0 H nx) (hn:nx<=nx'):OwX X kd nx0 H nx':=λp hp=>by
 obtain⟨h1,h2,h3,h4,h5⟩:=h p hp;exact⟨h1,h2,by omega,h4,h5⟩
theorem LsI.kr (I:LsI e ty l t k0 kd o tyD cs X H0 nx0 i out H nx) (K:Kr k0 H nx H' nx') (hr:Aa H' k0=some (rr t j)) (hj:j<=l.length):LsI e ty l t k0 kd o tyD cs X H0 nx0 j out H' nx':=by
 obtain⟨kv,d1,d2,d3,d4,d5,d6⟩:=I.d;have hk:=I.k0;have hd:=I.kd;have hn:=K.n;exact⟨hr,hj,I.x.kr K hk,⟨kv,by rw[K.k kd hd.2 (by omega)];exact d1,d2.imp id λh=>by rw[K.k kv d4 (by omega)];exact h,d3,by omega,d5,d6⟩,I.K.trans K,hk,hd.1,by omega⟩
theorem LsI.st (I:LsI e ty l t k0 kd o tyD cs X H0 nx0 i out H nx) (hj:j<=l.length):LsI e ty l t k0 kd o tyD cs X H0 nx0 j out (Xb H k0 (rr t j)) nx:=
 I.kr (Kr.refl.upd (.inl rfl) (HZ nx t j)) (Km I.rd j) hj
theorem DrI.kr (I:DrI l t k0 kd tyD cs X H0 nx0 i H nx) (K:Kr k0 H nx H' nx') (hr:Aa H' k0=some (rr t j)) (hj:j<=l.length):DrI l t k0 kd tyD cs X H0 nx0 j H' nx':=by
 have hk:=I.k0;have hd:=I.kd;have hn:=K.n;exact⟨hr,hj,I.x.kr K hk,by rw[K.k kd hd.2 (by omega)];exact I.d,I.K.trans K,hk,hd.1,by omega⟩
theorem DrI.st (I:DrI l t k0 kd tyD cs X H0 nx0 i H nx) (hj:j<=l.length):DrI l t k0 kd tyD cs X H0 nx0 j (Xb H k0 (rr t j)) nx:=
 I.kr (Kr.refl.upd (.inl rfl) (HZ nx t j)) (Km I.rd j) hj
theorem DrI.ls (I:DrI l t k0 kd tyD cs X H0 nx0 i H nx) (e:Enc α) (ty:Nat) (ho:cs[o]?=some Ah):LsI e ty l t k0 kd o tyD cs X H0 nx0 i [] H (nx+1):=by
 have hd:=I.kd;have hn:=I.K.n;refine⟨I.rd,I.i,I.x.mono (Xl _),⟨nx,?_,.inl rfl,hn,Xu _,by omega,λp hp=>by have:=(I.x p hp).2.2.1;omega⟩,I.K.mono (Xl _),I.k0,hd.1,by omega⟩;rw[I.d];show _=some (Row.cells tyD (Bp (cs.map .t) o [.t Ah]));rw[A3l];rw[Xp,ho];rfl
theorem LsI.dr (I:LsI e ty l t k0 kd o tyD cs X H0 nx0 i out H nx) (hC:Cl H0 nx0) (ho:o<cs.length):∃kv,DrI l t k0 kd tyD (Bp cs o [Aq e out]) X H0 nx0 i (B1 H [kv]) nx:=by
 obtain⟨kv,d1,d2,d3,d4,d5,d6⟩:=I.d;have hk:=I.k0;refine⟨kv,Uo I.rd (by simp;omega),I.i,I.x.frz (λp hp=>by simpa using d6 p hp),?_,I.K.frz hC (by intro b hb;rw[Xq]at hb;omega),hk,I.kd⟩;rw[QA (by simpa using d5.symm) d1]
 have hcs:∀l:List T,(l.map PV.t).map (BI H [kv])=l.map PV.t:=λl=>by
  rw[List.map_map];rfl
 show some (Row.cells tyD ((Bp (cs.map .t) o [rowP e kv out]).map (BI H [kv])))=_;rw[<-Rh,List.map_singleton,FM d2 (Xq.2 rfl),hcs];rw[show [PV.t (Aq e out)]=[Aq e out].map PV.t from rfl,Rh]
theorem DrI.ld (I:DrI l t k0 kd tyD cs X H0 nx0 i H nx) {n:Nat} (hn:n=cs.length):Aj true n H (.ptr kd 0)=some (.t (.ag cs)):=by
 subst hn;simp only[Aj,I.d,if_true,Xc,Xs,Xo,Xn];rw[X8 (by rw[Xc];exact Xo _)];simp only[Bi,JF]
theorem DrI.set (I:DrI l t k0 kd tyD cs X H0 nx0 i H nx) {n o:Nat} (ds:List T) (hn:ds.length=n) (ho:o+n<=cs.length):AM n H (.ptr kd o) (.t (.ag ds))=some (Xb H kd (.cells tyD ((Bp cs o ds).map .t)))/\DrI l t k0 kd tyD (Bp cs o ds) X H0 nx0 i (Xb H kd (.cells tyD ((Bp cs o ds).map .t))) nx:=by
 have hk:=I.k0;have hd:=I.kd;constructor
 .rw[<-Rh];exact Fw (ns:=ds.map .t) I.d rfl (by rw[Xc];exact hn) (by rw[Xc];exact ho)
 .exact⟨by rw[AN,zz (by omega)];exact I.rd,I.i,I.x.upd (.inr rfl) _,by rw[AN,zy rfl,I.d];rfl,I.K.upd (.inr hd.1) (ClR.trees _ _ _),hk,hd⟩
theorem LsI.push (I:LsI e ty l t k0 kd o tyD cs X H0 nx0 i out H nx) (x:α) {z by':Nat} (hz:e.z=z) {xs:List PV} (hxs:xs=(e.enc x).map .t) (ho:o<cs.length) (hl:out.length<=1000000) (hb:by'<=1000) :
  ∃p p' H1 H2,Aj false 1 H (.ptr kd o)=some p/\Cc ty z by' ((nx,.cells ty xs)::H) (nx+1) p (.row nx 0 1 z)=some (p',H1,nx+2)/\AM 1 H1 (.ptr kd o) p'=some H2/\Aj false 1 H2 (.ptr kd o)=some p'/\AO p'=some (.t (iv ((out++[x]).length:Int))) /\
   LsI e ty l t k0 kd o tyD cs X H0 nx0 i (out++[x]) H2 (nx+2)/\(Frs H nx->Frs H2 (nx+2)):=by
 obtain⟨kv,d1,d2,d3,d4,d5,d6⟩:=I.d;have hk:=I.k0;have hd:=I.kd;have hn0:=I.K.n
 have hlen:o<(cs.map PV.t).length:=by rw[Xc];exact ho
 have ld:∀(Ha:Ab) (p:PV),Aa Ha kd=some (.cells tyD (Bp (cs.map .t) o [p]))->Aj false 1 Ha (.ptr kd o)=some p:=λHa p h=>by
  simp only[Aj,h,Xk,if_false];exact Uq _ _ _ hlen
 have hb2:(out.length+1)*by'<=140737488355328:=Nat.le_trans (Y5 (Y6 hl) hb) (by decide)
 obtain⟨H1,ap,row1,k1,f1,c1⟩:=dW (by':=by') (nx:=nx) x z hz xs hxs d2 d4 hb2 (by omega)
 have dd:Aa H1 kd=some (.cells tyD (Bp (cs.map .t) o [rowP e kv out])):=by rw[k1 kd hd.2 d5.symm];exact d1
 have cp:Bj (rowP e (nx+1) (out++[x]))=some [rowP e (nx+1) (out++[x])]:=by cases out<;>rfl
 have s2:=Fw (n:=1) (o:=o) dd cp rfl (by rw[fK _ _ _ (show o+1<=_ from hlen)];exact hlen);rw[fL]at s2
 obtain⟨H2,hH2⟩:∃H2,H2=Xb H1 kd (.cells tyD (Bp (cs.map .t) o [rowP e (nx+1) (out++[x])])):=⟨_,rfl⟩
 rw[<-hH2]at s2
 have dd2:Aa H2 kd=some (.cells tyD (Bp (cs.map .t) o [rowP e (nx+1) (out++[x])])):=by rw[hH2,AN,zy rfl,dd];rfl
 have K1:=I.K.app d3 k1 (Y1 _ 2) f1 c1
 have K2:Kr k0 H0 nx0 H2 (nx+2):=by
  rw[hH2];refine K1.upd (.inr hd.1) (ClR.cells λp hp=>?_);rcases Y7 hp with hp | rfl
  .obtain⟨y,_,rfl⟩:=List.mem_map.1 hp;exact ClP.t _ _
  .exact ClP.rowP λ_=>by omega
 refine⟨_,_,H1,H2,ld H _ d1,ap,s2,ld H2 _ dd2,HD _ _ _,⟨?_,I.i,λp hp=>?_,⟨nx+1,dd2,row1.imp id λh=>by rw[hH2,AN,zz (by omega)];exact h,by omega,by omega,by omega,λp hp=>by have:=(I.x p hp).2.2.1;omega⟩,K2,hk,hd.1,by omega⟩,λh=>by rw[hH2];exact(f1 h).upd⟩
 .rw[hH2,AN,zz (by omega),k1 k0 (by omega) (by omega)];exact I.rd
 .obtain⟨h1,h2,h3,h4,h5⟩:=I.x p hp;exact⟨by rw[hH2,AN,zz h4,k1 p.1 h3 (d6 p hp)];exact h1,h2,by omega,h4,h5⟩
theorem DrI.fin (I:DrI l t k0 kd tyD cs X H0 nx0 i H nx) {ka tyA n:Nat} {zs ds:List T} (hX:(ka,Row.cells tyA (zs.map .t))∈X) (hz:zs.length=n) (hd:ds.length=n) :
  ∃H',AM n H (.ptr ka 0) (.t (.ag ds))=some H'/\Aj true n H' (.ptr ka 0)=some (.t (.ag ds))/\Kr k0 H0 nx0 H' nx/\Aa H' k0=some (rr t i):=by
 obtain⟨h1,h2,h3,h4,h5⟩:=I.x _ hX;simp only at h1 h2 h3 h4;have hk:=I.k0;have s1:=Fw (n:=n) (b:=ka) (o:=0) (t:=.t (.ag ds)) (ns:=ds.map .t) h1 rfl (by rw[Xc];exact hd) (by rw[Xc];omega);rw[OZ _ _ (by rw[Xc,Xc];omega)]at s1;refine⟨_,s1,?_,I.K.upd (.inr h2) (ClR.trees _ _ _),by rw[AN,zz (by omega)];exact I.rd⟩
 have hl:Aa (Xb H ka (.cells tyA (ds.map .t))) ka=some (.cells tyA (ds.map .t)):=by rw[AN,zy rfl,h1];rfl
 simp only[Aj,hl,if_true,Xc,Xs,Xn];rw[zy (by omega),X8 (by rw[Xc];omega)];simp only[Bi,JF]
end
end Go.Proofs.YtobnacghaamfoaaGreatDoor
namespace Go.Abs
open Go
section
variable {α : Type} {e : Enc α} {ty b : Nat} {H : Ab} {l : List α}
theorem fM {nx c:Nat} {m:List α} (hc:c≠nx) (hb:l≠[]->c≠b):Aa (Abs.appH e ty H nx b l m) c=Aa H c:=by
 unfold Abs.appH;split
 .rfl
 .rw[Az,zz (Ne.symm hc)];split
  .rfl
  .rename_i h;rw[CJ,zz (hb (by intro e;rw[e]at h;exact h rfl))]
theorem L4 {by' nx:Nat} (x:α) (z:Nat) (hz:e.z=z) (cs:List PV) (hcs:cs=(e.enc x).map .t) (h:Ay e ty H b l) (hb:l≠[]->b<nx)
  (hl:(l.length+1)*by'<=140737488355328) (hl2:l.length<=1000000000000) :
  ∃H',Cc ty z by' ((nx,.cells ty cs)::H) (nx+1) (X9 e b l) (.row nx 0 1 z)=some (X9 e (nx+1) (l++[x]),H',nx+2)/\Ay e ty H' (nx+1) (l++[x]) /\
   (∀c,c<nx->(l≠[]->c≠b)->Aa H' c=Aa H c)/\(Frs H nx->Frs H' (nx+2))/\(Cl H nx->Cl H' (nx+2)):=by
 subst hz;subst hcs;have hs:=Lf (e:=e) (H:=(nx,.cells ty ((e.enc x).map .t))::H) (b:=nx) (ty:=ty) x (by rw[Az,zy rfl])
 have h':Ay e ty ((nx,.cells ty ((e.enc x).map .t))::H) b l:=by
  rcases h with h | h
  .exact .inl h
  .by_cases hn:l=[]
   .exact .inl hn
   .exact .inr (by rw[Az,zz (by have:=hb hn;omega)];exact h)
 have ap:=Od (nx:=nx+1) (by':=by') (m:=[x]) h' hs (by simpa using hl) (by simp;omega)
 have hn:EG (nx+1) l [x]=nx+2:=by unfold EG;simp
 rw[hn]at ap
 exact⟨_,ap,Ay.app,λc h1 h2=>by rw[fM (by omega) h2,Az,zz (by omega)],λh=>(h.cons (Xu _) (Xl _)).appH,
  λh=>(h.cons (ClR.trees _ ty _) (Xl _)).appH⟩
theorem Nc {by' nx:Nat} (x:α) (z:Nat) (hz:e.z=z) (cs:List T) (hcs:cs=e.enc x) (h:Ay e ty H b l) (hb:l≠[]->b<nx)
  (hl:(l.length+1)*by'<=140737488355328) (hl2:l.length<=1000000000000) :
  ∃H',Cc ty z by' H nx (X9 e b l) (.t (.sl 1 cs))=some (X9 e nx (l++[x]),H',nx+1)/\Ay e ty H' nx (l++[x])/\(∀c,c<nx->(l≠[]->c≠b)->Aa H' c=Aa H c)/\(Frs H nx->Frs H' (nx+1))/\(Cl H nx->Cl H' (nx+1)):=by
 subst hz;subst hcs
 have hs:Ew H e.z (.t (.sl 1 (e.enc x)))=some ([x].length,([x].flatMap e.enc).map .t):=by
  have:T.sl 1 (e.enc x)=slT e [x]:=by simp[slT]
  rw[this];exact Ql (.inr rfl)
 have ap:=Od (nx:=nx) (by':=by') (m:=[x]) h hs (by simpa using hl) (by simp;omega)
 have hn:EG nx l [x]=nx+1:=by unfold EG;simp
 rw[hn]at ap;exact⟨_,ap,Ay.app,λc h1 h2=>fM (by omega) h2,λh=>h.appH,λh=>h.appH⟩
theorem L7 (ps:List PV):Bj (Bi ps)=some ps:=by
 unfold Bi;split
 .rename_i ts h;rw[GO h];rfl
 .rfl
end
end Go.Abs
namespace Go.Proofs.YtobnacghaamfoaaGreatDoor
open Go Go.Abs
variable {q : Gl}
abbrev B5:Nat:=51
def tyE:Nat->Nat
 | 0=>9
 | 1=>112
 | 2=>59
 | 3=>61
 | 4=>118
 | 5=>59
 | 6=>59
 | 7=>44
 | _=>9
def Bx (name:ByteArray) (ks:Nat->Nat) (els:List El):List PV:=
 [.t (sv name),rowP (eRw 0) (ks 0) (AW 0 els),rowP (eRw 1) (ks 1) (AW 1 els),rowP (eRw 2) (ks 2) (AW 2 els),rowP (eRw 3) (ks 3) (AW 3 els),rowP (eRw 4) (ks 4) (AW 4 els),rowP (eRw 5) (ks 5) (AW 5 els),rowP (eRw 6) (ks 6) (AW 6 els),rowP (eRw 7) (ks 7) (AW 7 els),rowP (eRw 8) (ks 8) (AW 8 els)]
structure Du (els:List El) (ks:Nat->Nat) (H:Ab) (nx:Nat):Prop where
 row:∀j,Ay (eRw j) (tyE j) H (ks j) (AW j els)
 lt:∀j,AW j els≠[]->ks j<nx
 inj:∀i j,AW i els≠[]->AW j els≠[]->ks i=ks j->i=j
def Co (els:List El) (ks:Nat->Nat) (c:Nat):Prop:=∀j,AW j els≠[]->c≠ks j
section
variable {els : List El} {ks : Nat -> Nat} {H H' : Ab} {nx nx' kb : Nat} {name : ByteArray}
theorem Du.nil (ks:Nat->Nat) (H:Ab) (nx:Nat):Du [] ks H nx:=⟨λ_=>.inl rfl,λ_ h=>absurd rfl h,λ_ _ h=>absurd rfl h⟩
theorem Co.nil (ks:Nat->Nat) (c:Nat):Co [] ks c:=λ_ h=>absurd rfl h
theorem Du.keep (M:Du els ks H nx) (hk:∀j,AW j els≠[]->Aa H' (ks j)=Aa H (ks j)) (hn:nx<=nx'):Du els ks H' nx':=
 ⟨λj=>by
  by_cases h:AW j els=[]
  .exact .inl h
  .exact(M.row j).imp id λe=>by rw[hk j h];exact e,λj h=>Ye (M.lt j h) hn,M.inj⟩
theorem A3m (name:ByteArray) (ks:Nat->Nat) (els:List El) {j:Nat} (h:j<9):(Bx name ks els)[j+1]?=some (rowP (eRw j) (ks j) (AW j els)):=by
 match j,h with
 | 0,_=>rfl
 | 1,_=>rfl
 | 2,_=>rfl
 | 3,_=>rfl
 | 4,_=>rfl
 | 5,_=>rfl
 | 6,_=>rfl
 | 7,_=>rfl
 | 8,_=>rfl
def ksU (ks:Nat->Nat) (j b:Nat):Nat->Nat:=λi=>if i=j then b else ks i
theorem A3n {i:Nat} {y:El} (b:Nat) (h:y.j≠i):rowP (eRw i) (ksU ks y.j b i) (AW i (els++[y]))=rowP (eRw i) (ks i) (AW i els):=by
 rw[JT els h,ksU,zz (Ne.symm h)]
theorem A3o (y:El) (b:Nat):rowP (eRw y.j) (ksU ks y.j b y.j) (AW y.j (els++[y]))=rowP (eRw y.j) b (AW y.j els++[⟨y.cs,y.len⟩]):=by
 rw[c6,ksU,zy rfl]
theorem Kn {i j:Nat} {y:El} {b:Nat} (hy:y.j=j) (h:j≠i):rowP (eRw i) (ks i) (AW i els)=rowP (eRw i) (ksU ks j b i) (AW i (els++[y])):=by
 subst hy;exact(A3n b h).symm
theorem A3p (y:El) (b:Nat):Bp (Bx name ks els) (y.j+1) [rowP (eRw y.j) b (AW y.j els++[⟨y.cs,y.len⟩])]=Bx name (ksU ks y.j b) (els++[y]):=by
 rw[<-A3o (ks:=ks) y b];unfold Bx;cases y<;>simp only[Bp,El.j,List.set_cons_succ,List.set_cons_zero,List.cons.injEq,true_and,and_true]
 all_goals exact⟨Kn rfl (by decide),Kn rfl (by decide),Kn rfl (by decide),Kn rfl (by decide),Kn rfl (by decide),Kn rfl (by decide),Kn rfl (by decide),Kn rfl (by decide)⟩
theorem Du.push (M:Du els ks H nx) (y:El) {b:Nat} (hb:Ay (eRw y.j) (tyE y.j) H' b (AW y.j els++[⟨y.cs,y.len⟩])) (hk:∀i,AW i els≠[]->i≠y.j->Aa H' (ks i)=Aa H (ks i)) (hn:nx<=b) (hb':b<nx'):Du (els++[y]) (ksU ks y.j b) H' nx':=by
 refine⟨λi=>?_,λi h=>?_,λi i' h h' e=>?_⟩
 .by_cases hi:y.j=i
  .subst hi;rw[c6,ksU,zy rfl];exact hb
  .rw[JT els hi,ksU,zz (Ne.symm hi)]
   by_cases h:AW i els=[]
   .exact .inl h
   .exact(M.row i).imp id λe=>by rw[hk i h (Ne.symm hi)];exact e
 .by_cases hi:y.j=i
  .subst hi;rw[ksU,zy rfl];exact hb'
  .rw[JT els hi]at h;rw[ksU,zz (Ne.symm hi)];have:=M.lt i h;omega
 .by_cases hi:y.j=i<;>by_cases hi':y.j=i'
  .omega
  .subst hi;rw[JT els hi']at h';rw[ksU,ksU,zy rfl,zz (Ne.symm hi')]at e;have:=M.lt i' h';omega
  .subst hi';rw[JT els hi]at h;rw[ksU,ksU,zy rfl,zz (Ne.symm hi)]at e;have:=M.lt i h;omega
  .rw[JT els hi]at h;rw[JT els hi']at h';rw[ksU,ksU,zz (Ne.symm hi),zz (Ne.symm hi')]at e;exact M.inj i i' h h' e
structure PuM (els:List El) (ks:Nat->Nat) (name:ByteArray) (kb j:Nat) (x:List T) (H:Ab) (nx:Nat) (H2:Ab) (nx2:Nat):Prop where
 bx:∃ps,ps.length=10/\Aa H2 kb=some (.cells B5 ps)/\∀y:El,y.j=j->y.cs=x->∃ks',ps=Bx name ks' (els++[y])/\Du (els++[y]) ks' H2 nx2/\∀c,c<nx->Co els ks c->Co (els++[y]) ks' c
 k:∀c,c<nx->c≠kb->Co els ks c->Aa H2 c=Aa H c
 n:nx<=nx2
 fr:Frs H nx->Frs H2 nx2
 cl:Cl H nx->Cl H2 nx2
theorem A3q (hb:Aa H kb=some (.cells B5 (Bx name ks els))) {j o:Nat} (hj:j<9) (ho:o=j+1):Aj false 1 H (.ptr kb o)=some (rowP (eRw j) (ks j) (AW j els)):=by
 subst ho;simp only[Aj,hb,Xk,if_false];exact A3m _ _ _ hj
theorem Pb {ps:List PV} (hb:Aa H kb=some (.cells B5 ps)) (h:ps.length=10):Aj true 10 H (.ptr kb 0)=some (Bi ps):=by
 simp only[Aj,hb,if_true,Xs,Xn];rw[zy (by omega),X8 (by omega)]
theorem A3r (M:Du els ks H nx) (hb:Aa H kb=some (.cells B5 (Bx name ks els))) (hkb:kb<nx) (hkn:Co els ks kb) {j o:Nat} (hj:j<9) (ho:o=j+1) (x:RwC (zE j)) {b nx2:Nat} {H1:Ab} (hn:nx<=b) (hn2:b<nx2)
  (row:Ay (eRw j) (tyE j) H1 b (AW j els++[x])) (k1:∀c,c<nx->(AW j els≠[]->c≠ks j)->Aa H1 c=Aa H c) (f1:Frs H nx->Frs H1 nx2) (c1:Cl H nx->Cl H1 nx2) :
  ∃H2,AM 1 H1 (.ptr kb o) (rowP (eRw j) b (AW j els++[x]))=some H2/\PuM els ks name kb j x.1 H nx H2 nx2:=by
 subst ho
 have hb1:Aa H1 kb=some (.cells B5 (Bx name ks els)):=by rw[k1 kb hkb (hkn j)];exact hb
 have cp:Bj (rowP (eRw j) b (AW j els++[x]))=some [rowP (eRw j) b (AW j els++[x])]:=by cases AW j els<;>rfl
 have s2:=Fw (n:=1) (o:=j+1) hb1 cp rfl (by show j+1+1<=10;omega);refine⟨_,s2,?_⟩
 obtain⟨P,hP⟩:∃P,P=Bp (Bx name ks els) (j+1) [rowP (eRw j) b (AW j els++[x])]:=⟨_,rfl⟩
 rw[<-hP]
 have hl:P.length=10:=by rw[hP,NF (by show j+1+1<=10;omega)];rfl
 refine⟨⟨P,hl,by rw[AN,zy rfl,hb1];rfl,λy hy hc=>?_⟩,λc h1 h2 h3=>by rw[AN,zz h2];exact k1 c h1 (h3 j),by omega,λh=>(f1 h).upd,λh=>?_⟩
 .subst hy;obtain⟨xc,xl⟩:=x;simp only at hc;subst hc;refine⟨_,by rw[hP];exact A3p y b,M.push y (row.imp id λe=>by rw[AN,zz (by omega)];exact e) (λi hi hne=>?_) hn hn2,λc hc hN i hi=>?_⟩
  .have h1:=M.lt i hi;rw[AN,zz (Ne.symm (hkn i hi))];exact k1 _ h1 λh e=>hne (M.inj _ _ hi h e)
  .by_cases h:y.j=i
   .subst h;rw[ksU,zy rfl];omega
   .rw[ksU,zz (Ne.symm h)];rw[JT els h]at hi;exact hN i hi
 .refine(c1 h).upd (ClR.cells λp hp=>?_);rw[hP]at hp;rcases Y7 hp with hp | rfl
  .have h1:=h _ _ hb;intro H2 F2 hF2;have h3:=h1 H2 F2 (λc hc=>by have:=hF2 c hc;omega);simp only[De]at h3;injection h3 with _ h3
   have h4:(Bx name ks els).map (BI H2 F2)=(Bx name ks els).map id:=by rw[h3,List.map_id]
   exact List.map_inj_left.1 h4 p hp
  .exact ClP.rowP λ_=>hn2
theorem A3s (M:Du els ks H nx) (hb:Aa H kb=some (.cells B5 (Bx name ks els))) (hkb:kb<nx) (hkn:Co els ks kb) {j o z ty by':Nat} (hj:j<9) (ho:o=j+1) (hz:z=zE j) (hty:ty=tyE j) (x:List T) (hx:x.length=z) (xs:List PV) (hxs:xs=x.map .t) (hby:by'<=1000) (hl:Cz j els<=1000000) :
  ∃p p' H1 H2,Aj false 1 H (.ptr kb o)=some p/\Cc ty z by' ((nx,.cells ty xs)::H) (nx+1) p (.row nx 0 1 z)=some (p',H1,nx+2)/\AM 1 H1 (.ptr kb o) p'=some H2/\PuM els ks name kb j x H nx H2 (nx+2):=by
 subst hz;subst hty;rw[<-QC]at hl
 have hb2:((AW j els).length+1)*by'<=140737488355328:=Nat.le_trans (Y5 (Y6 hl) hby) (by decide)
 obtain⟨H1,ap,row,k1,f1,c1⟩:=L4 (e:=eRw j) (ty:=tyE j) (H:=H) (b:=ks j) (l:=AW j els) (by':=by') (nx:=nx) ⟨x,hx⟩ (zE j) rfl xs hxs (M.row j) (M.lt j) hb2 (by omega);obtain⟨H2,s2,pu⟩:=A3r M hb hkb hkn hj ho ⟨x,hx⟩ (Xl nx) (Xu _) row k1 f1 c1;exact⟨_,_,H1,H2,A3q hb hj ho,ap,s2,pu⟩
end
theorem A3t:A6 Xa (G q) 96 2 21 SP [(.tmp 2),(.tmp 3)]:=by
 obtain⟨fn,h1,h2,h3,h4,h5⟩:=uC (q:=q);exact⟨fn,h1,h2,h3,h4,by omega⟩
theorem fN:A6 Xa (G q) 97 2 32 Qu [(.tmp 2),(.tmp 3)]:=by
 obtain⟨fn,h1,h2,h3,h4,h5⟩:=uD (q:=q);exact⟨fn,h1,h2,h3,h4,by omega⟩
abbrev Jj:Nat:=112
abbrev Ri:Nat:=142
section
variable {t : T} {k0 kb kd o tyD i nx nx0 : Nat} {cs : List T} {X : List (Nat × Row)} {H H0 : Ab} {l : List Tok}
def Nd (X:List (Nat×Row)) (kb k0:Nat):Prop:=∃tyB,(kb,Row.cells tyB [.ptr k0 0])∈X
theorem G7 (hB:Nd X kb k0) (h:OwX X kd nx0 H nx):Aj false 1 H (.ptr kb 0)=some (.ptr k0 0):=by
 obtain⟨tyB,hB⟩:=hB;have:=(h _ hB).1;simp only[Aj,this];rfl
theorem A3u (ht:IsS Aw t l) (hlim:l.length<=1000000) (hB:Nd X kb k0) {c0 c2:T}:Rf q l t k0 96 [.ptr kb 0,.ptr kd 0] (λp=>AJ (l.map kt) p 1) (LsI Ak CU l t k0 kd 1 tyD [c0,Ah,c2] X H0 nx0) where
 rd I:=⟨I.rd,I.i⟩
 st I h:=I.st h
 fw h:=by have:=(Dc h).1;omega
 one {i out H nx} I hoi:=by
  have hi:=I.i;have hk:=I.k0;have hn:=I.K.n;obtain⟨y,e,j1,H1,n1,ta,rd1,hj1,⟨s,rfl⟩,hd,K1,a1,a2⟩:=E7 (Ia (q:=q) ht hlim I.rd (nx:=nx) (by omega) I.i 1);have I1:=I.kr K1 rd1 hj1;have b0:=G7 hB I.x;obtain⟨p,p',H2,H3,l1,ap,s2,l2,hlen,I2,f2⟩:=I1.push (z:=1) (by':=16) s rfl (xs:=[.t (sv s)]) rfl (by show 1<3;omega) (by omega) (by omega);have CA:Ctx Xa (G q) _:=As.nil.ctxH (AF.cons a2 .nil) mixed
  obtain⟨m,hm⟩:∃m:Int,m=((out++[s]).length:Int):=⟨_,rfl⟩
  rw[<-hm]at hlen
  suffices h:∃f:Fin,IsF (.t (.tu [iv m,iv e])) H3 (n1+2) f/\AH Xa (G q) 96 [.ptr kb 0,.ptr kd 0] H nx f.r f.H f.nx by
   have hc:=Ue h;refine⟨⟨_,_,_⟩,⟨_,e,j1,out++[s],rfl,I2,?_⟩,λh=>?_,hc⟩
   .rcases hd with⟨x,hx,hxy,rfl⟩ | ⟨hx,he⟩
    .injection hxy with hxy;injection hxy with hxy;subst hxy;exact .inl ⟨s,hx,rfl,hm,rfl⟩
    .exact .inr ⟨hx,he⟩
   .exact f2 (K1.fr h)
  refine A3t.callX rfl ?_;(conv in SP=>cbv);refine Ae Ac ?_;simp -implicitDefEqProofs;refine Ae CA ?_;simp -implicitDefEqProofs [b0,a1];refine Ae Ac ?_;simp -implicitDefEqProofs [l1,bsS,ap,s2];refine Ar Ac ?_;simp -implicitDefEqProofs [l2,hlen];exact A0 ⟨.t (.tu [iv m,iv e]),H3,n1+2⟩ ⟨rfl,rfl,rfl⟩ (by simp -implicitDefEqProofs)
theorem A3v {L:List KT} {p p':Nat} {x:ByteArray×ByteArray} (h:ftS L p = .ok (x,p')):p<p'/\p'<=L.length:=by
 unfold ftS at h;split at h
 .cases h
 .rename_i s p1 h1;split at h
  .cases h
  .rename_i v p2 h2;injection h with h;injection h with _ h;subst h;have a1:=Dc h1;have a2:=Dc h2;omega
theorem bsF (n:Nat) (a b:ByteArray):EE Ri 2 [.string ⟨#[]⟩,.string ⟨#[]⟩] 1 [(0,.t (.ag [sv a,sv b]))] n=some (.row n 0 1 2,.cells Ri [.t (sv a),.t (sv b)]):=rfl
theorem bd2 (Φ:A7) (H:Ab) (nx:Nat) (a b:ByteArray):Ai Φ H nx (.build [(0,1),(1,1)] [.string ⟨#[]⟩,.string ⟨#[]⟩] [0,1]) [.t (sv a),.t (sv b)]=some (.t (.ag [sv a,sv b]),H,nx):=rfl
theorem A3w (ht:IsS Aw t l) (hlim:l.length<=1000000) (hB:Nd X kb k0) {c0 c1:T}:Rf q l t k0 97 [.ptr kb 0,.ptr kd 0] (ftS (l.map kt)) (LsI eFt Ri l t k0 kd 2 tyD [c0,c1,Ah] X H0 nx0) where
 rd I:=⟨I.rd,I.i⟩
 st I h:=I.st h
 fw h:=(A3v h).1
 one {i out H nx} I hoi:=by
  have hi:=I.i;have hk:=I.k0;have hn:=I.K.n;obtain⟨y,e,j1,H1,n1,ta,rd1,hj1,⟨s,rfl⟩,hd,K1,a1,a2⟩:=E7 (Ia (q:=q) ht hlim I.rd (nx:=nx) (by omega) I.i 2);have I1:=I.kr K1 rd1 hj1;have b0:=G7 hB I.x;have n1':=K1.n;have CA:Ctx Xa (G q) _:=As.nil.ctxH (AF.cons a2 .nil) mixed;rcases hd with⟨x,hx,hxy,rfl⟩ | ⟨hx,he⟩
  rotate_left
  .have hb:(e != 0)=true:=by rw[bne_iff_ne];exact he
   have hf:ftS (l.map kt) i = .error e:=by unfold ftS;rw[hx]
   suffices h:∃f:Fin,IsF (.t (.tu [iv 0,iv e])) H1 (n1) f/\AH Xa (G q) 97 [.ptr kb 0,.ptr kd 0] H nx f.r f.H f.nx by
    have hc:=Ue h;exact⟨⟨_,_,_⟩,⟨_,e,j1,out,rfl,I1,.inr ⟨hf,he⟩⟩,K1.fr,hc⟩
   refine fN.callX rfl ?_;(conv in Qu=>cbv);refine Ae Ac ?_;simp -implicitDefEqProofs;refine Ae CA ?_;simp -implicitDefEqProofs [b0,a1];refine Ae Ac ?_;simp -implicitDefEqProofs [hb];exact A0 ⟨.t (.tu [iv 0,iv e]),H1,n1⟩ ⟨rfl,rfl,rfl⟩ (by simp -implicitDefEqProofs)
  injection hxy with hxy;injection hxy with hxy;subst hxy;have b1:=G7 hB I1.x;obtain⟨y,e,j2,H2,n2,tb,rd2,hj2,⟨v,rfl⟩,hd,K2,t1,t2⟩:=E7 (Ia (q:=q) ht hlim I1.rd (nx:=n1) (by omega) I1.i 1);have I2:=I1.kr K2 rd2 hj2;have CB:Ctx Xa (G q) _:=As.nil.ctxH (AF.cons t2 .nil) mixed;obtain⟨p,p',H3,H4,l1,ap,s2,l2,hlen,I3,f3⟩:=I2.push (z:=2) (by':=32) (s,v) rfl (xs:=[.t (sv s),.t (sv v)]) rfl (by show 2<3;omega) (by omega) (by omega)
  obtain⟨m,hm⟩:∃m:Int,m=((out++[(s,v)]).length:Int):=⟨_,rfl⟩
  rw[<-hm]at hlen
  suffices h:∃f:Fin,IsF (.t (.tu [iv m,iv e])) H4 (n2+2) f/\AH Xa (G q) 97 [.ptr kb 0,.ptr kd 0] H nx f.r f.H f.nx by
   have hc:=Ue h;refine⟨⟨_,_,_⟩,⟨_,e,j2,out++[(s,v)],rfl,I3,?_⟩,λh=>f3 (K2.fr (K1.fr h)),hc⟩;rcases hd with⟨x,hx2,hxy,rfl⟩ | ⟨hx2,he⟩
   .injection hxy with hxy;injection hxy with hxy;subst hxy;exact .inl ⟨(s,v),by unfold ftS;rw[hx];simp only;rw[hx2],rfl,hm,rfl⟩
   .exact .inr ⟨by unfold ftS;rw[hx];simp only;rw[hx2],he⟩
  refine fN.callX rfl ?_;(conv in Qu=>cbv);refine Ae Ac ?_;simp -implicitDefEqProofs;refine Ae CA ?_;simp -implicitDefEqProofs [b0,a1];refine Ae Ac ?_;simp -implicitDefEqProofs;refine Ae CB ?_;simp -implicitDefEqProofs [b1,t1];refine Ae Ac ?_;simp -implicitDefEqProofs [l1,bd2,bsF,ap,s2,-Bo];refine Ar Ac ?_;simp -implicitDefEqProofs [l2,hlen];exact A0 ⟨.t (.tu [iv m,iv e]),H4,n2+2⟩ ⟨rfl,rfl,rfl⟩ (by simp -implicitDefEqProofs)
end
def ShA (n:Nat) (y:T):Prop:=∃cs:List T,y = .ag cs/\cs.length=n
structure DcC where
 H:Ab
 nx:Nat
 i:Nat
def Hl (nx:Nat) (c:DcC):Ad:=⟨[(6,.ptr (nx+2) 0),(4,.ptr (nx+1) 0),(2,.ptr nx 0)],c.H,c.nx,44⟩
theorem A3x (Φ:A7) (H:Ab) (nx:Nat) (a:ByteArray):Ai Φ H nx (.build [(0,1),(1,1),(2,1)] [.string ⟨#[]⟩,.slice none 0 0,.slice none 0 0] [0]) [.t (sv a)]=some (.t (.ag [sv a,Ah,Ah]),H,nx):=rfl
section
variable {t : T} {k0 i nx : Nat} {H : Ab} {l : List Tok}
theorem Ur (f:Nat) (a b:PV):exM (.mkf (.func f) 0) [a,b]=some (.fn (.func f) [] [a,b]):=rfl
theorem A3y (ht:IsS Aw t l) (hlim:l.length<=1000000) (h0:Aa H k0=some (rr t i)) (hk:k0<nx) (hi:i<=l.length) (hC:Cl H nx) (name:ByteArray) :
  ∃f:Fin,StR l t k0 H nx (ShA 3) (λd=>.ag (TyD.cs d)) (Fi (l.map kt) name i) f/\AH Xa (G q) 58 [.ptr k0 0,.t (sv name)] H nx f.r f.H f.nx:=by
 obtain⟨Z,hZ⟩:∃Z,Z=Fi (l.map kt) name i:=⟨_,rfl⟩
 rw[<-hZ];refine tG.callX rfl ?_;(conv in ZD=>cbv);refine Ae Ac ?_;simp -implicitDefEqProofs;refine Ae Ac ?_
 have u1:∀a b c R,AM 3 ((nx+2,.cells Jj [a,b,c])::R) (.ptr (nx+2) 0) (.t (.ag [sv name,Ah,Ah]))=some ((nx+2,.cells Jj [.t (sv name),.t Ah,.t Ah])::R):=λa b c R=>by
  have hz:Bj (.t (.ag [sv name,Ah,Ah]))=some [.t (sv name),.t Ah,.t Ah]:=rfl;simp[AM,hz,Xb,Bp]
 simp -implicitDefEqProofs [A3x,u1,-Bo]
 obtain⟨X,hX⟩:∃X:List (Nat×Row),X=[(nx,.cells 64 [.ptr k0 0]),(nx+1,.cells Jj ([sv ⟨#[]⟩,Ah,Ah].map .t))]:=⟨_,rfl⟩
 obtain⟨H3,hH3⟩:∃H3:Ab,H3=(nx+2,.cells Jj [.t (sv name),.t Ah,.t Ah])::(nx+1,.cells Jj [.t (sv ⟨#[]⟩),.t Ah,.t Ah])::(nx,.cells 64 [.ptr k0 0])::H:=⟨_,rfl⟩
 have I:DrI l t k0 (nx+2) Jj [sv name,Ah,Ah] X H nx i H3 (nx+3):=by
  refine⟨by rw[hH3,Az,zz (by omega),Az,zz (by omega),Az,zz (by omega)];exact h0,hi,λp hp=>?_,by rw[hH3,Az,zy rfl];rfl,?_,hk,by omega,by omega⟩
  .rw[hX]at hp;simp only[X0,Y8,or_false]at hp;rcases hp with rfl | rfl
   .exact⟨by rw[hH3,Az,zz (by show nx+2≠nx;omega),Az,zz (by show nx+1≠nx;omega),Az,zy rfl],Xo _,by show nx<_;omega,by show nx≠_;omega,ClR.cells λp hp=>by
     rw[Xq]at hp;subst hp;exact ClP.ptr _ _ _⟩
   .exact⟨by rw[hH3,Az,zz (by show nx+2≠nx+1;omega),Az,zy rfl];rfl,Xl _,by show nx+1<_;omega,by show nx+1≠_;omega,ClR.trees _ _ _⟩
  .rw[hH3];exact((Kr.refl.cons (ClR.cells λp hp=>by rw[Xq]at hp;subst hp;exact ClP.ptr _ _ _)).cons (ClR.trees _ _ [_,_,_])).cons (ClR.trees _ _ [_,_,_])
 have hB:Nd X nx k0:=⟨64,by rw[hX];simp⟩
 have hA:(nx+1,Row.cells Jj ([sv ⟨#[]⟩,Ah,Ah].map .t))∈X:=by rw[hX];simp
 refine Bg (s':=Hl nx ⟨H3,nx+3,i⟩) (by rw[hH3];exact sub_env (by simp -implicitDefEqProofs [Hl])) rfl ?_;clear hH3 hX;refine AE (Hl nx) (λc=>∃su,C8 (l.map kt) [60] (HO (l.map kt)) i = .ok (su,c.i)/\DrI l t k0 (nx+2) Jj [sv name,Aq Ak su,Ah] X H nx c.i c.H c.nx) (λ_=>rfl) ?_ ?_
 .obtain⟨tn,t1,t2⟩:=Ji (q:=q) (nx:=nx+3) ht I.rd ⟨#[60]⟩;rw[show(⟨#[60]⟩:ByteArray).data.toList=[60]from rfl]at t1;have CN:Ctx Xa (G q) _:=As.nil.ctxH (AF.cons t2 .nil) mixed;have b0:=G7 hB I.x;refine Ae CN ?_;simp -implicitDefEqProofs [Hl,b0,t1]
  cases hs:Be (l.map kt) i [60]with
  | false=>
   refine QW (t:=false) (by simp -implicitDefEqProofs [hs]) ?_;refine Ar Ac ?_;simp -implicitDefEqProofs;exact Am.mk ⟨H3,nx+3,i⟩ ⟨[],by unfold C8;rw[zz (by rw[hs];decide)],I⟩ (sub_env (by simp -implicitDefEqProofs [Hl]))
  | true=>
   have lj:=DQ hs;rw[Xc]at lj;have L1:=E6 I.rd;have s3:=Jh I.rd i;have I2:=I.st (j:=i+1) lj;have e2:Xd.wrap ((i:Int)+1)=(i:Int)+1:=AP (n:=i+1) (by omega) (by omega)
   obtain⟨H4,hH4⟩:∃H4,H4=Xb H3 k0 (rr t (i+1)):=⟨_,rfl⟩
   rw[<-hH4]at s3 I2;have b1:=G7 hB I2.x;have I3:=I2.ls (o:=1) Ak CU rfl;obtain⟨⟨fr,H5,n5⟩,⟨e,j,su,hr,I5,hd⟩,hf,hc⟩:=Up (q:=q) (A3u ht hlim hB) ht hlim I3 ⟨#[44]⟩;simp only at hr I5 hf hc;subst hr;obtain⟨ta,a1,a2⟩:=hAt hc hf;have CL:Ctx Xa (G q) _:=As.nil.ctxH (AF.cons a2 .nil) mixed;obtain⟨kv,I6⟩:=I5.dr hC (by show 1<3;omega);refine QW (t:=true) (by simp -implicitDefEqProofs [hs]) ?_;simp only[if_true];refine Ae Ac ?_;simp -implicitDefEqProofs [b0,L1.l1,e2,s3];refine Bg (s':=⟨[(6,.ptr (nx+2) 0),(4,.ptr (nx+1) 0),(2,.ptr nx 0)],H4,nx+3+1,44⟩) ((O7 (Xl _)).trans (sub_env (by simp -implicitDefEqProofs))) rfl ?_;refine Ae CL ?_;simp -implicitDefEqProofs [b1,Ur,a1];refine Bg (s':=⟨[(7,.t (iv e)),(6,.ptr (nx+2) 0),(4,.ptr (nx+1) 0),(2,.ptr nx 0)],B1 H5 [kv],n5,44⟩) (EI [kv] (by simp -implicitDefEqProofs [Lr,O8])) rfl ?_
   obtain⟨H6,hH6⟩:∃H6,H6=B1 H5 [kv]:=⟨_,rfl⟩
   rw[<-hH6]at I6 ⊢;rcases hd with⟨hz,rfl⟩ | ⟨hz,he⟩
   .refine Ar Ac ?_;simp -implicitDefEqProofs;exact Am.mk ⟨H6,n5,j⟩ ⟨su,by unfold C8;rw[zy hs];exact hz,I6⟩ (sub_env (by simp -implicitDefEqProofs [Hl]))
   .have hb:(e != 0)=true:=by rw[bne_iff_ne];exact he
    have ld:=I6.ld (n:=3) rfl;obtain⟨H7,st7,ld7,K7,r7⟩:=I6.fin (n:=3) (ds:=Bp [sv name,Ah,Ah] 1 [Aq Ak su]) hA rfl rfl;refine Ar Ac ?_;simp -implicitDefEqProofs [hb,ld,st7];exact A0 ⟨.t (.tu [.ag (Bp [sv name,Ah,Ah] 1 [Aq Ak su]),iv e]),H7,n5⟩ ⟨⟨_,e,j,rfl,r7,I6.i,⟨_,rfl,rfl⟩,.inr ⟨by rw[hZ];unfold Fi C8;rw[zy hs];unfold HO;rw[show([44]:List UInt8)=(⟨#[44]⟩:ByteArray).data.toList from rfl,hz],he⟩⟩,K7⟩ (by simp -implicitDefEqProofs [ld7])
 rintro⟨Hc,nc,j⟩ ⟨su,ho,I⟩;simp only at ho I;refine AE (Hl nx) (λc=>∃fe,C8 (l.map kt) [58] (HP (l.map kt)) j = .ok (fe,c.i)/\DrI l t k0 (nx+2) Jj [sv name,Aq Ak su,Aq eFt fe] X H nx c.i c.H c.nx) (λ_=>rfl) ?_ ?_
 .obtain⟨tn,t1,t2⟩:=Ji (q:=q) (nx:=nc) ht I.rd ⟨#[58]⟩;rw[show(⟨#[58]⟩:ByteArray).data.toList=[58]from rfl]at t1;have CN:Ctx Xa (G q) _:=As.nil.ctxH (AF.cons t2 .nil) mixed;have b0:=G7 hB I.x;have hi:=I.i;refine Ae CN ?_;simp -implicitDefEqProofs [Hl,b0,t1]
  cases hs:Be (l.map kt) j [58]with
  | false=>
   refine QW (t:=false) (by simp -implicitDefEqProofs [hs]) ?_;refine Ar Ac ?_;simp -implicitDefEqProofs;exact Am.mk ⟨Hc,nc,j⟩ ⟨[],by unfold C8;rw[zz (by rw[hs];decide)],I⟩ (sub_env (by simp -implicitDefEqProofs [Hl]))
  | true=>
   have lj:=DQ hs;rw[Xc]at lj;have L1:=E6 I.rd;have s3:=Jh I.rd j;have I2:=I.st (j:=j+1) lj;have e2:Xd.wrap ((j:Int)+1)=(j:Int)+1:=AP (n:=j+1) (by omega) (by omega)
   obtain⟨H4,hH4⟩:∃H4,H4=Xb Hc k0 (rr t (j+1)):=⟨_,rfl⟩
   rw[<-hH4]at s3 I2;have b1:=G7 hB I2.x;have I3:=I2.ls (o:=2) eFt Ri rfl;obtain⟨⟨fr,H5,n5⟩,⟨e,j5,fe,hr,I5,hd⟩,hf,hc⟩:=Up (q:=q) (A3w ht hlim hB) ht hlim I3 ⟨#[44]⟩;simp only at hr I5 hf hc;subst hr;obtain⟨ta,a1,a2⟩:=hAt hc hf;have CL:Ctx Xa (G q) _:=As.nil.ctxH (AF.cons a2 .nil) mixed;obtain⟨kv,I6⟩:=I5.dr hC (by show 2<3;omega);refine QW (t:=true) (by simp -implicitDefEqProofs [hs]) ?_;simp only[if_true];refine Ae Ac ?_;simp -implicitDefEqProofs [b0,L1.l1,e2,s3];refine Bg (s':=⟨[(6,.ptr (nx+2) 0),(4,.ptr (nx+1) 0),(2,.ptr nx 0)],H4,nc+1,44⟩) ((O7 (Xl _)).trans (sub_env (by simp -implicitDefEqProofs))) rfl ?_;refine Ae CL ?_;simp -implicitDefEqProofs [b1,Ur,a1];refine Bg (s':=⟨[(8,.t (iv e)),(6,.ptr (nx+2) 0),(4,.ptr (nx+1) 0),(2,.ptr nx 0)],B1 H5 [kv],n5,44⟩) (EI [kv] (by simp -implicitDefEqProofs [Lr,O8])) rfl ?_
   obtain⟨H6,hH6⟩:∃H6,H6=B1 H5 [kv]:=⟨_,rfl⟩
   rw[<-hH6]at I6 ⊢;rcases hd with⟨hz,rfl⟩ | ⟨hz,he⟩
   .refine Ar Ac ?_;simp -implicitDefEqProofs;exact Am.mk ⟨H6,n5,j5⟩ ⟨fe,by unfold C8;rw[zy hs];exact hz,I6⟩ (sub_env (by simp -implicitDefEqProofs [Hl]))
   .have hb:(e != 0)=true:=by rw[bne_iff_ne];exact he
    have ld:=I6.ld (n:=3) rfl;obtain⟨H7,st7,ld7,K7,r7⟩:=I6.fin (n:=3) (ds:=Bp [sv name,Aq Ak su,Ah] 2 [Aq eFt fe]) hA rfl rfl;refine Ar Ac ?_;simp -implicitDefEqProofs [hb,ld,st7];exact A0 ⟨.t (.tu [.ag (Bp [sv name,Aq Ak su,Ah] 2 [Aq eFt fe]),iv e]),H7,n5⟩ ⟨⟨_,e,j5,rfl,r7,I6.i,⟨_,rfl,rfl⟩,.inr ⟨by rw[hZ];unfold Fi;rw[ho];simp only;unfold C8;rw[zy hs];unfold HP;rw[show([44]:List UInt8)=(⟨#[44]⟩:ByteArray).data.toList from rfl,hz],he⟩⟩,K7⟩ (by simp -implicitDefEqProofs [ld7])
 rintro⟨Hd,nd,j2⟩ ⟨fe,ho2,I⟩;simp only at ho2 I;have ld:=I.ld (n:=3) rfl;obtain⟨H7,st7,ld7,K7,r7⟩:=I.fin (n:=3) (ds:=[sv name,Aq Ak su,Aq eFt fe]) hA rfl rfl;refine Ar Ac ?_;simp -implicitDefEqProofs [Hl,ld,st7];exact A0 ⟨.t (.tu [.ag [sv name,Aq Ak su,Aq eFt fe],iv 0]),H7,nd⟩ ⟨⟨_,0,j2,rfl,r7,I.i,⟨_,rfl,rfl⟩,.inl ⟨⟨name,su,fe⟩,by rw[hZ];unfold Fi;rw[ho];simp only;rw[ho2],rfl,rfl⟩⟩,K7⟩ (by simp -implicitDefEqProofs [ld7])
end
abbrev BR:Nat:=57
noncomputable def Us:Tbl:=[(133,OY)]
theorem fO:Ctx Xa (G q) (orc Us):=(As.cons A3g .nil).ctx mixed
theorem Dv {b ty n:Nat} {zs:List PV} {ds:List T} (hz:zs.length=n) (hd:ds.length=n) (R:Ab):AM n ((b,.cells ty zs)::R) (.ptr b 0) (.t (.ag ds))=some ((b,.cells ty (ds.map .t))::R):=by
 have h1:=Fw (n:=n) (b:=b) (o:=0) (H:=(b,.cells ty zs)::R) (t:=.t (.ag ds)) (ns:=ds.map .t) (ty:=ty) (cs:=zs) (by rw[Az,zy rfl]) rfl (by rw[Xc];exact hd) (by omega);rw[h1];congr 1;simp only[Xb,if_true];rw[OZ _ _ (by rw[Xc];omega)]
theorem ldN {b ty n:Nat} {ds:List T} {H:Ab} (h:Aa H b=some (.cells ty (ds.map .t))) (hd:ds.length=n):Aj true n H (.ptr b 0)=some (.t (.ag ds)):=by
 simp only[Aj,h,if_true,Xc,Xs,Xn];rw[zy (by omega),X8 (by rw[Xc];omega)];simp only[Bi,JF]
theorem Jk {b ty n:Nat} {zs ds:List T} {H:Ab} (h:Aa H b=some (.cells ty (zs.map .t))) (hz:zs.length=n) (hd:ds.length=n):AM n H (.ptr b 0) (.t (.ag ds))=some (Xb H b (.cells ty (ds.map .t))):=by
 have h1:=Fw (n:=n) (b:=b) (o:=0) (t:=.t (.ag ds)) (ns:=ds.map .t) h rfl (by rw[Xc];exact hd) (by rw[Xc];omega);rw[OZ _ _ (by rw[Xc,Xc];omega)]at h1;exact h1
def ShD (y:T):Prop:=∃d:Ds,y = .ag (Ba d)
section
variable {t : T} {k0 i nx : Nat} {H : Ab} {l : List Tok}
theorem fP (ht:IsS Aw t l) (hlim:l.length<=1000000) (h0:Aa H k0=some (rr t i)) (hk:k0<nx) (hi:i<=l.length) :
  ∃f:Fin,StR l t k0 H nx ShD (λd=>.ag (Ba d)) (AA (l.map kt) 64 i) f/\AH Xa (G q) 117 [.ptr k0 0] H nx f.r f.H f.nx:=by
 have L:=E6 h0;have gr:=A3f ht hlim hi;refine uG.callX rfl ?_;(conv in aA=>cbv);refine Ae Ac ?_;simp -implicitDefEqProofs
 obtain⟨zs,hzs⟩:∃zs:List T,zs=[iv 0,sv ⟨#[]⟩,Ah,Ah]:=⟨_,rfl⟩
 have hzl:zs.length=4:=by rw[hzs];rfl
 obtain⟨H1,hH1⟩:∃H1:Ab,H1=(nx,.cells BR (zs.map .t))::H:=⟨_,rfl⟩
 have r1:Aa H1 k0=some (rr t i):=by rw[hH1,Az,zz (by omega)];exact h0
 have p1:Aa H1 nx=some (.cells BR (zs.map .t)):=by rw[hH1,Az,zy rfl]
 have K1:Kr k0 H nx H1 (nx+1):=by rw[hH1];exact Kr.refl.cons (ClR.trees _ _ _)
 refine Bg (s':=⟨[(2,.ptr nx 0),(0,.ptr k0 0)],H1,nx+1,29⟩) (by rw[hH1,hzs];exact sub_env (by simp -implicitDefEqProofs)) rfl ?_;have L1:=E6 r1;have zag:Ai (orc []) H1 (nx+1) (.build [(0,1),(1,1),(2,1),(3,1)] [.int .i64 0,.string ⟨#[]⟩,.slice none 0 0,.slice none 0 0] []) []=some (.t (.ag [iv 0,sv ⟨#[]⟩,Ah,Ah]),H1,nx+1):=rfl
 cases hd:AA (l.map kt) 64 i with
 | error e=>
  rw[hd]at gr
  have gr:OY [t,iv (i:Int)]=some (.tu [.ag zs,iv 0,iv e]):=by rw[gr,hzs];rfl
  have he:e≠0:=OU _ _ _ hd
  have hb:(e != 0)=true:=by rw[bne_iff_ne];exact he
  have st:∀R ys,ys.length=4->AM 4 ((nx+1,.cells BR ys)::R) (.ptr (nx+1) 0) (.t (.ag zs))=some ((nx+1,.cells BR (zs.map .t))::R):=λR ys h=>Dv h hzl R
  obtain⟨H2,hH2⟩:∃H2:Ab,H2=(nx+1,.cells BR (zs.map .t))::H1:=⟨_,rfl⟩
  have st':=st H1 [.t (iv 0),.t (sv ⟨#[]⟩),.t Ah,.t Ah] rfl;rw[<-hH2]at st'
  have p2:Aa H2 nx=some (.cells BR (zs.map .t)):=by rw[hH2,Az,zz (by omega)];exact p1
  have r2:Aa H2 k0=some (rr t i):=by rw[hH2,Az,zz (by omega)];exact r1
  have K2:Kr k0 H nx H2 (nx+2):=by rw[hH2];exact K1.cons (ClR.trees _ _ _)
  have s3:=Jk (ds:=zs) p2 hzl hzl;have K3:=K2.upd (b:=nx) (.inr (Xo _)) (ClR.trees _ BR zs)
  have p3:Aa (Xb H2 nx (.cells BR (zs.map .t))) nx=some (.cells BR (zs.map .t)):=by rw[AN,zy rfl,p2];rfl
  have r3:Aa (Xb H2 nx (.cells BR (zs.map .t))) k0=some (rr t i):=by rw[AN,zz (by omega)];exact r2
  have l3:=ldN p3 hzl
  obtain⟨H3,hH3⟩:∃H3,H3=Xb H2 nx (.cells BR (zs.map .t)):=⟨_,rfl⟩
  rw[<-hH3]at s3 K3 p3 r3 l3
  have zag2:Ai (orc []) H2 (nx+1+1) (.build [(0,1),(1,1),(2,1),(3,1)] [.int .i64 0,.string ⟨#[]⟩,.slice none 0 0,.slice none 0 0] []) []=some (.t (.ag zs),H2,nx+1+1):=by rw[hzs];rfl
  refine Ae fO ?_;simp -implicitDefEqProofs [Us,L1.l0,L1.l1,gr,st'];refine Ae Ac ?_;simp -implicitDefEqProofs [hb,zag2,s3,-Bo];exact A0 ⟨.t (.tu [.ag zs,iv e]),H3,nx+2⟩ ⟨⟨_,e,i,rfl,r3,hi,⟨zDs,by rw[hzs];rfl⟩,.inr ⟨rfl,he⟩⟩,K3⟩ (by simp -implicitDefEqProofs [l3])
 | ok x=>
  obtain⟨d,p⟩:=x;have hp:=DR (l:=l.map kt) 64 i d p hd;rw[Xc]at hp;rw[hd]at gr;have gr:OY [t,iv (i:Int)]=some (.tu [.ag (Ba d),iv (p:Int),iv 0]):=gr;have hdl:=HJ d
  obtain⟨ds,hds⟩:∃ds,ds=Ba d:=⟨_,rfl⟩
  rw[<-hds]at gr hdl;have st':AM 4 ((nx+1,.cells BR [.t (iv 0),.t (sv ⟨#[]⟩),.t Ah,.t Ah])::H1) (.ptr (nx+1) 0) (.t (.ag ds))=some ((nx+1,.cells BR (ds.map .t))::H1):=Dv rfl hdl H1
  obtain⟨H2,hH2⟩:∃H2:Ab,H2=(nx+1,.cells BR (ds.map .t))::H1:=⟨_,rfl⟩
  rw[<-hH2]at st'
  have p2:Aa H2 nx=some (.cells BR (zs.map .t)):=by rw[hH2,Az,zz (by omega)];exact p1
  have o2:Aa H2 (nx+1)=some (.cells BR (ds.map .t)):=by rw[hH2,Az,zy rfl]
  have r2:Aa H2 k0=some (rr t i):=by rw[hH2,Az,zz (by omega)];exact r1
  have K2:Kr k0 H nx H2 (nx+2):=by rw[hH2];exact K1.cons (ClR.trees _ _ _)
  have s3:=Un r2 p;have r3:=Km r2 p;have K3:=K2.upd (.inl rfl) (HZ (nx+2) t p)
  have p3:Aa (Xb H2 k0 (rr t p)) nx=some (.cells BR (zs.map .t)):=by rw[AN,zz (by omega)];exact p2
  have o3:Aa (Xb H2 k0 (rr t p)) (nx+1)=some (.cells BR (ds.map .t)):=by rw[AN,zz (by omega)];exact o2
  obtain⟨H3,hH3⟩:∃H3,H3=Xb H2 k0 (rr t p):=⟨_,rfl⟩
  rw[<-hH3]at s3 r3 K3 p3 o3;have l3:=ldN o3 hdl;have s4:=Jk (ds:=ds) p3 hzl hdl;have K4:=K3.upd (b:=nx) (.inr (Xo _)) (ClR.trees _ BR ds)
  have p4:Aa (Xb H3 nx (.cells BR (ds.map .t))) nx=some (.cells BR (ds.map .t)):=by rw[AN,zy rfl,p3];rfl
  have r4:Aa (Xb H3 nx (.cells BR (ds.map .t))) k0=some (rr t p):=by rw[AN,zz (by omega)];exact r3
  have l4:=ldN p4 hdl
  obtain⟨H4,hH4⟩:∃H4,H4=Xb H3 nx (.cells BR (ds.map .t)):=⟨_,rfl⟩
  rw[<-hH4]at s4 K4 p4 r4 l4;refine Ae fO ?_;simp -implicitDefEqProofs [Us,L1.l0,L1.l1,gr,st'];refine Ae Ac ?_;simp -implicitDefEqProofs;refine Ae Ac ?_;simp -implicitDefEqProofs [s3];refine Ar Ac ?_;simp -implicitDefEqProofs [l3,s4];exact A0 ⟨.t (.tu [.ag ds,iv 0]),H4,nx+2⟩ ⟨⟨_,0,p,rfl,r4,hp.2,⟨d,by rw[hds]⟩,.inl ⟨d,rfl,by rw[hds],rfl⟩⟩,K4⟩ (by simp -implicitDefEqProofs [l4])
end
def AV {α:Type} (one:α->Int):List α->Int
 | []=>0
 | x::r=>if one x≠0 then one x else AV one r
abbrev fnT (f:Nat):T:=.v (.func (.func f) #[] #[])
theorem L8 {g:List T->Option T} {x:T} {v:Int} (h:g [x]=some (iv v)) (H:Ab) (nx:Nat):Ct g [.t x] H nx=some (.t (iv v),H,nx):=by
 unfold Ct;simp only[BQ,toT,h,Option.bind,Option.map];rfl
structure FiI {α:Type} (one:α->Int) (L:List α) (c:Nat×Ab×Nat):Prop where
 i:c.1<=L.length
 e:AV one L=AV one (L.drop c.1)
def SFi (t:T) (fn n:Nat) (c:Nat×Ab×Nat):Ad:=⟨[(10,.t (iv (c.1:Int))),(9,.t (iv (n:Int))),(8,.t t),(1,.t (fnT fn)),(0,.t t)],c.2.1,c.2.2,21⟩
abbrev Ut:Enc (RwC 10):=eMd
theorem lpn {n:Nat} {ds r:List T} (H:Ab) (h:ds.length=n):Aj true n H (.t (.pt (ds++r)))=some (.t (.ag ds)):=by
 simp[Aj,h]
theorem A3z {α:Type} {f:α->RwC 10} {one:α->Int} {g:List T->Option T} {fn:Nat} (hg:GOK Xa (G q) fn g) {t:T} {L:List α} (ht:IsS Ut t (L.map f)) (hl:L.length<=1000000) (h1:∀x∈L,g [.ag (f x).1]=some (iv (one x))):A1 Xa (G q) 34 [t,fnT fn] (· = iv (AV one L)):=by
 have l1:AO (.t t)=some (.t (iv (L.length:Int))):=by rw[ht.len,Xc]
 have CF:Ctx Xa (G q) _:=As.nil.ctxH (AF.cons hg.hok .nil) mixed;refine CG (args:=[t,fnT fn]) ?_;refine tC.callX rfl ?_;(conv in ZA=>cbv);refine Ae Ac ?_;simp -implicitDefEqProofs;refine AE (α:=Unit×Ab×Nat) (λc=>⟨[],c.2.1,c.2.2,21⟩) (λ_=>AV one L=0) (λ_=>rfl) ?_ ?_
 rotate_left
 .rintro⟨_,H,nx⟩ hz;refine Ar Ac ?_;simp -implicitDefEqProofs;exact A0 ⟨.t (iv 0),H,nx⟩ ⟨by rw[hz]⟩ (by simp -implicitDefEqProofs)
 refine Ae Ac ?_;simp -implicitDefEqProofs [l1];refine AG ?_;refine BV (SFi t fn L.length) (λc=>L.length-c.1) (FiI one L) (0,[],0) (λ_=>rfl) ⟨Xf _,rfl⟩ (sub_env (by simp -implicitDefEqProofs [SFi])) rfl ?_;rintro⟨j,H,nx⟩ ⟨hj,he⟩;simp only at hj he;by_cases hlt:j<L.length
 rotate_left
 .have hlt':¬(j:Int)<(L.length:Int):=by omega
  rw[Xg (by omega)]at he;refine Ae Ac ?_;simp -implicitDefEqProofs [SFi,hlt,hlt'];refine Ae Ac ?_;simp -implicitDefEqProofs;exact Am.mk ((),H,nx) he (sub_env (by simp -implicitDefEqProofs))
 have hlt':(j:Int)<(L.length:Int):=by omega
 obtain⟨x,hx⟩:∃x,L[j]?=some x:=⟨_,Xe hlt⟩
 have hdr:L.drop j=x::L.drop (j+1):=by
  have hxe:L[j]=x:=(Xj.1 hx).2;rw[<-hxe,Xh hlt]
 rw[hdr,AV]at he
 have hfx:(L.map f)[j]?=some (f x):=by rw[Xp,hx];rfl
 have ia:Bd 10 (.t t) (.t (iv (j:Int)))=some (.t (.pt ((f x).1++AU Ut (L.map f) j))):=ht.iaddr hfx .i64;have gx:=h1 x (Xi hx);have hfl:(f x).1.length=10:=(f x).2;have e1:Xd.wrap ((j:Int)+1)=((j+1:Nat):Int):=AP (by omega) (by omega);have la:=lpn (r:=AU Ut (L.map f) j) H hfl;have sn:AM 10 ((nx,.cells 51 [.t (sv ⟨#[]⟩),.t Ah,.t Ah,.t Ah,.t Ah,.t Ah,.t Ah,.t Ah,.t Ah,.t Ah])::H) (.ptr nx 0) (.t (.ag (f x).1))=some ((nx,.cells 51 ((f x).1.map .t))::H):=Dv (ty:=51) rfl hfl H;have le:Aj true 10 ((nx,.cells 51 ((f x).1.map .t))::H) (.ptr nx 0)=some (.t (.ag (f x).1)):=ldN (by rw[Az,zy rfl]) hfl;generalize hW:(f x).1.map PV.t=W at sn le;refine Ae Ac ?_;simp -implicitDefEqProofs [SFi,hlt,hlt'];refine Ae Ac ?_;simp -implicitDefEqProofs;refine AE (λ_:Unit=>SFi t fn L.length (j,(nx,.cells 51 W)::H,nx+1)) (λ_=>one x=0) (λ_=>rfl) ?_ ?_
 .refine AG ?_;refine Ae Ac ?_;simp -implicitDefEqProofs [ia,la,sn];have ho:=λH nx=>L8 gx H nx;refine Ae CF ?_;simp -implicitDefEqProofs [le,ho];by_cases h0:one x=0
  .have hb:((one x) != 0)=false:=by rw[h0];rfl
   refine Ar Ac ?_;simp -implicitDefEqProofs [hb];exact Am.mk () h0 (sub_env (by simp -implicitDefEqProofs [SFi]))
  .have hb:((one x) != 0)=true:=by rw[bne_iff_ne];exact h0
   rw[zy h0]at he;refine Ar Ac ?_;simp -implicitDefEqProofs [hb];exact A0 ⟨.t (iv (one x)),(nx,.cells 51 W)::H,nx+1⟩ ⟨by rw[he]⟩ (by simp -implicitDefEqProofs)
 rintro _ h0;rw[zz (λh=>h h0)]at he;refine Ar Ac ?_;simp -implicitDefEqProofs [SFi,e1];exact Am.mk (j+1,(nx,.cells 51 W)::H,nx+1) ⟨⟨by show j+1<=L.length;omega,he⟩,by show L.length-(j+1)<L.length-j;omega⟩ (sub_env (by simp -implicitDefEqProofs [SFi]))
theorem fQ {α:Type} {f:α->RwC 1} {one:α->Int} {g:List T->Option T} {fn:Nat} (hg:GOK Xa (G q) fn g) {t:T} {L:List α} (ht:IsS eR1 t (L.map f)) (hl:L.length<=1000000) (h1:∀x∈L,g [(f x).1.headD Ah]=some (iv (one x))):A1 Xa (G q) 65 [t,fnT fn] (· = iv (AV one L)):=by
 have l1:AO (.t t)=some (.t (iv (L.length:Int))):=by rw[ht.len,Xc]
 have CF:Ctx Xa (G q) _:=As.nil.ctxH (AF.cons hg.hok .nil) mixed;refine CG (args:=[t,fnT fn]) ?_;refine tL.callX rfl ?_;(conv in ZH=>cbv);refine Ae Ac ?_;simp -implicitDefEqProofs;refine AE (α:=Unit×Ab×Nat) (λc=>⟨[],c.2.1,c.2.2,21⟩) (λ_=>AV one L=0) (λ_=>rfl) ?_ ?_
 rotate_left
 .rintro⟨_,H,nx⟩ hz;refine Ar Ac ?_;simp -implicitDefEqProofs;exact A0 ⟨.t (iv 0),H,nx⟩ ⟨by rw[hz]⟩ (by simp -implicitDefEqProofs)
 refine Ae Ac ?_;simp -implicitDefEqProofs [l1];refine AG ?_;refine BV (SFi t fn L.length) (λc=>L.length-c.1) (FiI one L) (0,[],0) (λ_=>rfl) ⟨Xf _,rfl⟩ (sub_env (by simp -implicitDefEqProofs [SFi])) rfl ?_;rintro⟨j,H,nx⟩ ⟨hj,he⟩;simp only at hj he;by_cases hlt:j<L.length
 rotate_left
 .have hlt':¬(j:Int)<(L.length:Int):=by omega
  rw[Xg (by omega)]at he;refine Ae Ac ?_;simp -implicitDefEqProofs [SFi,hlt,hlt'];refine Ae Ac ?_;simp -implicitDefEqProofs;exact Am.mk ((),H,nx) he (sub_env (by simp -implicitDefEqProofs))
 have hlt':(j:Int)<(L.length:Int):=by omega
 obtain⟨x,hx⟩:∃x,L[j]?=some x:=⟨_,Xe hlt⟩
 have hdr:L.drop j=x::L.drop (j+1):=by
  have hxe:L[j]=x:=(Xj.1 hx).2;rw[<-hxe,Xh hlt]
 rw[hdr,AV]at he
 have hfx:(L.map f)[j]?=some (f x):=by rw[Xp,hx];rfl
 have ia:Bd 1 (.t t) (.t (iv (j:Int)))=some (.t (.pt ((f x).1++AU eR1 (L.map f) j))):=ht.iaddr hfx .i64;have gx:=h1 x (Xi hx);have hfl:(f x).1.length=1:=(f x).2;have e1:Xd.wrap ((j:Int)+1)=((j+1:Nat):Int):=AP (by omega) (by omega)
 obtain⟨y,hy⟩:∃y,(f x).1=[y]:=by
  match (f x).1,hfl with
  | [y],_=>exact⟨y,rfl⟩
 rw[hy]at ia
 have gx:g [y]=some (iv (one x)):=by rw[hy]at gx;exact gx
 have la:Aj false 1 H (.t (.pt (y::AU eR1 (L.map f) j)))=some (.t y):=rfl;refine Ae Ac ?_;simp -implicitDefEqProofs [SFi,hlt,hlt'];refine Ae Ac ?_;simp -implicitDefEqProofs;refine AE (λ_:Unit=>SFi t fn L.length (j,H,nx)) (λ_=>one x=0) (λ_=>rfl) ?_ ?_
 .refine AG ?_;refine Ae Ac ?_;simp -implicitDefEqProofs [ia,la];have ho:=λH nx=>L8 gx H nx;refine Ae CF ?_;simp -implicitDefEqProofs [la,ho];by_cases h0:one x=0
  .have hb:((one x) != 0)=false:=by rw[h0];rfl
   refine Ar Ac ?_;simp -implicitDefEqProofs [hb];exact Am.mk () h0 (sub_env (by simp -implicitDefEqProofs [SFi]))
  .have hb:((one x) != 0)=true:=by rw[bne_iff_ne];exact h0
   rw[zy h0]at he;refine Ar Ac ?_;simp -implicitDefEqProofs [hb];exact A0 ⟨.t (iv (one x)),H,nx⟩ ⟨by rw[he]⟩ (by simp -implicitDefEqProofs)
 rintro _ h0;rw[zz (λh=>h h0)]at he;refine Ar Ac ?_;simp -implicitDefEqProofs [SFi,e1];exact Am.mk (j+1,H,nx) ⟨⟨by show j+1<=L.length;omega,he⟩,by show L.length-(j+1)<L.length-j;omega⟩ (sub_env (by simp -implicitDefEqProofs [SFi]))
theorem A4a {α:Type} {f:α->RwC 3} {one:α->Int} {g:List T->Option T} {fn:Nat} (hg:GOK Xa (G q) fn g) {t:T} {L:List α} (ht:IsS eR3 t (L.map f)) (hl:L.length<=1000000) (h1:∀x∈L,g [.ag (f x).1]=some (iv (one x))):A1 Xa (G q) 67 [t,fnT fn] (· = iv (AV one L)):=by
 have l1:AO (.t t)=some (.t (iv (L.length:Int))):=by rw[ht.len,Xc]
 have CF:Ctx Xa (G q) _:=As.nil.ctxH (AF.cons hg.hok .nil) mixed;refine CG (args:=[t,fnT fn]) ?_;refine tN.callX rfl ?_;(conv in ZJ=>cbv);refine Ae Ac ?_;simp -implicitDefEqProofs;refine AE (α:=Unit×Ab×Nat) (λc=>⟨[],c.2.1,c.2.2,21⟩) (λ_=>AV one L=0) (λ_=>rfl) ?_ ?_
 rotate_left
 .rintro⟨_,H,nx⟩ hz;refine Ar Ac ?_;simp -implicitDefEqProofs;exact A0 ⟨.t (iv 0),H,nx⟩ ⟨by rw[hz]⟩ (by simp -implicitDefEqProofs)
 refine Ae Ac ?_;simp -implicitDefEqProofs [l1];refine AG ?_;refine BV (SFi t fn L.length) (λc=>L.length-c.1) (FiI one L) (0,[],0) (λ_=>rfl) ⟨Xf _,rfl⟩ (sub_env (by simp -implicitDefEqProofs [SFi])) rfl ?_;rintro⟨j,H,nx⟩ ⟨hj,he⟩;simp only at hj he;by_cases hlt:j<L.length
 rotate_left
 .have hlt':¬(j:Int)<(L.length:Int):=by omega
  rw[Xg (by omega)]at he;refine Ae Ac ?_;simp -implicitDefEqProofs [SFi,hlt,hlt'];refine Ae Ac ?_;simp -implicitDefEqProofs;exact Am.mk ((),H,nx) he (sub_env (by simp -implicitDefEqProofs))
 have hlt':(j:Int)<(L.length:Int):=by omega
 obtain⟨x,hx⟩:∃x,L[j]?=some x:=⟨_,Xe hlt⟩
 have hdr:L.drop j=x::L.drop (j+1):=by
  have hxe:L[j]=x:=(Xj.1 hx).2;rw[<-hxe,Xh hlt]
 rw[hdr,AV]at he
 have hfx:(L.map f)[j]?=some (f x):=by rw[Xp,hx];rfl
 have ia:Bd 3 (.t t) (.t (iv (j:Int)))=some (.t (.pt ((f x).1++AU eR3 (L.map f) j))):=ht.iaddr hfx .i64;have gx:=h1 x (Xi hx);have hfl:(f x).1.length=3:=(f x).2;have e1:Xd.wrap ((j:Int)+1)=((j+1:Nat):Int):=AP (by omega) (by omega);have la:=lpn (r:=AU eR3 (L.map f) j) H hfl;have sn:AM 3 ((nx,.cells 112 [.t (sv ⟨#[]⟩),.t Ah,.t Ah])::H) (.ptr nx 0) (.t (.ag (f x).1))=some ((nx,.cells 112 ((f x).1.map .t))::H):=Dv (ty:=112) rfl hfl H;have le:Aj true 3 ((nx,.cells 112 ((f x).1.map .t))::H) (.ptr nx 0)=some (.t (.ag (f x).1)):=ldN (by rw[Az,zy rfl]) hfl;generalize hW:(f x).1.map PV.t=W at sn le;refine Ae Ac ?_;simp -implicitDefEqProofs [SFi,hlt,hlt'];refine Ae Ac ?_;simp -implicitDefEqProofs;refine AE (λ_:Unit=>SFi t fn L.length (j,(nx,.cells 112 W)::H,nx+1)) (λ_=>one x=0) (λ_=>rfl) ?_ ?_
 .refine AG ?_;refine Ae Ac ?_;simp -implicitDefEqProofs [ia,la,sn];have ho:=λH nx=>L8 gx H nx;refine Ae CF ?_;simp -implicitDefEqProofs [le,ho];by_cases h0:one x=0
  .have hb:((one x) != 0)=false:=by rw[h0];rfl
   refine Ar Ac ?_;simp -implicitDefEqProofs [hb];exact Am.mk () h0 (sub_env (by simp -implicitDefEqProofs [SFi]))
  .have hb:((one x) != 0)=true:=by rw[bne_iff_ne];exact h0
   rw[zy h0]at he;refine Ar Ac ?_;simp -implicitDefEqProofs [hb];exact A0 ⟨.t (iv (one x)),(nx,.cells 112 W)::H,nx+1⟩ ⟨by rw[he]⟩ (by simp -implicitDefEqProofs)
 rintro _ h0;rw[zz (λh=>h h0)]at he;refine Ar Ac ?_;simp -implicitDefEqProofs [SFi,e1];exact Am.mk (j+1,(nx,.cells 112 W)::H,nx+1) ⟨⟨by show j+1<=L.length;omega,he⟩,by show L.length-(j+1)<L.length-j;omega⟩ (sub_env (by simp -implicitDefEqProofs [SFi]))
theorem Uu {α:Type} {f:α->RwC 6} {one:α->Int} {g:List T->Option T} {fn:Nat} (hg:GOK Xa (G q) fn g) {t:T} {L:List α} (ht:IsS eR6 t (L.map f)) (hl:L.length<=1000000) (h1:∀x∈L,g [.ag (f x).1]=some (iv (one x))):A1 Xa (G q) 69 [t,fnT fn] (· = iv (AV one L)):=by
 have l1:AO (.t t)=some (.t (iv (L.length:Int))):=by rw[ht.len,Xc]
 have CF:Ctx Xa (G q) _:=As.nil.ctxH (AF.cons hg.hok .nil) mixed;refine CG (args:=[t,fnT fn]) ?_;refine tP.callX rfl ?_;(conv in ZL=>cbv);refine Ae Ac ?_;simp -implicitDefEqProofs;refine AE (α:=Unit×Ab×Nat) (λc=>⟨[],c.2.1,c.2.2,21⟩) (λ_=>AV one L=0) (λ_=>rfl) ?_ ?_
 rotate_left
 .rintro⟨_,H,nx⟩ hz;refine Ar Ac ?_;simp -implicitDefEqProofs;exact A0 ⟨.t (iv 0),H,nx⟩ ⟨by rw[hz]⟩ (by simp -implicitDefEqProofs)
 refine Ae Ac ?_;simp -implicitDefEqProofs [l1];refine AG ?_;refine BV (SFi t fn L.length) (λc=>L.length-c.1) (FiI one L) (0,[],0) (λ_=>rfl) ⟨Xf _,rfl⟩ (sub_env (by simp -implicitDefEqProofs [SFi])) rfl ?_;rintro⟨j,H,nx⟩ ⟨hj,he⟩;simp only at hj he;by_cases hlt:j<L.length
 rotate_left
 .have hlt':¬(j:Int)<(L.length:Int):=by omega
  rw[Xg (by omega)]at he;refine Ae Ac ?_;simp -implicitDefEqProofs [SFi,hlt,hlt'];refine Ae Ac ?_;simp -implicitDefEqProofs;exact Am.mk ((),H,nx) he (sub_env (by simp -implicitDefEqProofs))
 have hlt':(j:Int)<(L.length:Int):=by omega
 obtain⟨x,hx⟩:∃x,L[j]?=some x:=⟨_,Xe hlt⟩
 have hdr:L.drop j=x::L.drop (j+1):=by
  have hxe:L[j]=x:=(Xj.1 hx).2;rw[<-hxe,Xh hlt]
 rw[hdr,AV]at he
 have hfx:(L.map f)[j]?=some (f x):=by rw[Xp,hx];rfl
 have ia:Bd 6 (.t t) (.t (iv (j:Int)))=some (.t (.pt ((f x).1++AU eR6 (L.map f) j))):=ht.iaddr hfx .i64;have gx:=h1 x (Xi hx);have hfl:(f x).1.length=6:=(f x).2;have e1:Xd.wrap ((j:Int)+1)=((j+1:Nat):Int):=AP (by omega) (by omega);have la:=lpn (r:=AU eR6 (L.map f) j) H hfl;have sn:AM 6 ((nx,.cells 59 [.t (sv ⟨#[]⟩),.t (iv 0),.t (sv ⟨#[]⟩),.t Ah,.t Ah,.t Ah])::H) (.ptr nx 0) (.t (.ag (f x).1))=some ((nx,.cells 59 ((f x).1.map .t))::H):=Dv (ty:=59) rfl hfl H;have le:Aj true 6 ((nx,.cells 59 ((f x).1.map .t))::H) (.ptr nx 0)=some (.t (.ag (f x).1)):=ldN (by rw[Az,zy rfl]) hfl;generalize hW:(f x).1.map PV.t=W at sn le;refine Ae Ac ?_;simp -implicitDefEqProofs [SFi,hlt,hlt'];refine Ae Ac ?_;simp -implicitDefEqProofs;refine AE (λ_:Unit=>SFi t fn L.length (j,(nx,.cells 59 W)::H,nx+1)) (λ_=>one x=0) (λ_=>rfl) ?_ ?_
 .refine AG ?_;refine Ae Ac ?_;simp -implicitDefEqProofs [ia,la,sn];have ho:=λH nx=>L8 gx H nx;refine Ae CF ?_;simp -implicitDefEqProofs [le,ho];by_cases h0:one x=0
  .have hb:((one x) != 0)=false:=by rw[h0];rfl
   refine Ar Ac ?_;simp -implicitDefEqProofs [hb];exact Am.mk () h0 (sub_env (by simp -implicitDefEqProofs [SFi]))
  .have hb:((one x) != 0)=true:=by rw[bne_iff_ne];exact h0
   rw[zy h0]at he;refine Ar Ac ?_;simp -implicitDefEqProofs [hb];exact A0 ⟨.t (iv (one x)),(nx,.cells 59 W)::H,nx+1⟩ ⟨by rw[he]⟩ (by simp -implicitDefEqProofs)
 rintro _ h0;rw[zz (λh=>h h0)]at he;refine Ar Ac ?_;simp -implicitDefEqProofs [SFi,e1];exact Am.mk (j+1,(nx,.cells 59 W)::H,nx+1) ⟨⟨by show j+1<=L.length;omega,he⟩,by show L.length-(j+1)<L.length-j;omega⟩ (sub_env (by simp -implicitDefEqProofs [SFi]))
theorem A4b {α:Type} {f:α->RwC 7} {one:α->Int} {g:List T->Option T} {fn:Nat} (hg:GOK Xa (G q) fn g) {t:T} {L:List α} (ht:IsS eR7 t (L.map f)) (hl:L.length<=1000000) (h1:∀x∈L,g [.ag (f x).1]=some (iv (one x))):A1 Xa (G q) 71 [t,fnT fn] (· = iv (AV one L)):=by
 have l1:AO (.t t)=some (.t (iv (L.length:Int))):=by rw[ht.len,Xc]
 have CF:Ctx Xa (G q) _:=As.nil.ctxH (AF.cons hg.hok .nil) mixed;refine CG (args:=[t,fnT fn]) ?_;refine tR.callX rfl ?_;(conv in ZN=>cbv);refine Ae Ac ?_;simp -implicitDefEqProofs;refine AE (α:=Unit×Ab×Nat) (λc=>⟨[],c.2.1,c.2.2,21⟩) (λ_=>AV one L=0) (λ_=>rfl) ?_ ?_
 rotate_left
 .rintro⟨_,H,nx⟩ hz;refine Ar Ac ?_;simp -implicitDefEqProofs;exact A0 ⟨.t (iv 0),H,nx⟩ ⟨by rw[hz]⟩ (by simp -implicitDefEqProofs)
 refine Ae Ac ?_;simp -implicitDefEqProofs [l1];refine AG ?_;refine BV (SFi t fn L.length) (λc=>L.length-c.1) (FiI one L) (0,[],0) (λ_=>rfl) ⟨Xf _,rfl⟩ (sub_env (by simp -implicitDefEqProofs [SFi])) rfl ?_;rintro⟨j,H,nx⟩ ⟨hj,he⟩;simp only at hj he;by_cases hlt:j<L.length
 rotate_left
 .have hlt':¬(j:Int)<(L.length:Int):=by omega
  rw[Xg (by omega)]at he;refine Ae Ac ?_;simp -implicitDefEqProofs [SFi,hlt,hlt'];refine Ae Ac ?_;simp -implicitDefEqProofs;exact Am.mk ((),H,nx) he (sub_env (by simp -implicitDefEqProofs))
 have hlt':(j:Int)<(L.length:Int):=by omega
 obtain⟨x,hx⟩:∃x,L[j]?=some x:=⟨_,Xe hlt⟩
 have hdr:L.drop j=x::L.drop (j+1):=by
  have hxe:L[j]=x:=(Xj.1 hx).2;rw[<-hxe,Xh hlt]
 rw[hdr,AV]at he
 have hfx:(L.map f)[j]?=some (f x):=by rw[Xp,hx];rfl
 have ia:Bd 7 (.t t) (.t (iv (j:Int)))=some (.t (.pt ((f x).1++AU eR7 (L.map f) j))):=ht.iaddr hfx .i64;have gx:=h1 x (Xi hx);have hfl:(f x).1.length=7:=(f x).2;have e1:Xd.wrap ((j:Int)+1)=((j+1:Nat):Int):=AP (by omega) (by omega);have la:=lpn (r:=AU eR7 (L.map f) j) H hfl;have sn:AM 7 ((nx,.cells 61 [.t Ah,.t (sv ⟨#[]⟩),.t (iv 0),.t (sv ⟨#[]⟩),.t Ah,.t Ah,.t Ah])::H) (.ptr nx 0) (.t (.ag (f x).1))=some ((nx,.cells 61 ((f x).1.map .t))::H):=Dv (ty:=61) rfl hfl H;have le:Aj true 7 ((nx,.cells 61 ((f x).1.map .t))::H) (.ptr nx 0)=some (.t (.ag (f x).1)):=ldN (by rw[Az,zy rfl]) hfl;generalize hW:(f x).1.map PV.t=W at sn le;refine Ae Ac ?_;simp -implicitDefEqProofs [SFi,hlt,hlt'];refine Ae Ac ?_;simp -implicitDefEqProofs;refine AE (λ_:Unit=>SFi t fn L.length (j,(nx,.cells 61 W)::H,nx+1)) (λ_=>one x=0) (λ_=>rfl) ?_ ?_
 .refine AG ?_;refine Ae Ac ?_;simp -implicitDefEqProofs [ia,la,sn];have ho:=λH nx=>L8 gx H nx;refine Ae CF ?_;simp -implicitDefEqProofs [le,ho];by_cases h0:one x=0
  .have hb:((one x) != 0)=false:=by rw[h0];rfl
   refine Ar Ac ?_;simp -implicitDefEqProofs [hb];exact Am.mk () h0 (sub_env (by simp -implicitDefEqProofs [SFi]))
  .have hb:((one x) != 0)=true:=by rw[bne_iff_ne];exact h0
   rw[zy h0]at he;refine Ar Ac ?_;simp -implicitDefEqProofs [hb];exact A0 ⟨.t (iv (one x)),(nx,.cells 61 W)::H,nx+1⟩ ⟨by rw[he]⟩ (by simp -implicitDefEqProofs)
 rintro _ h0;rw[zz (λh=>h h0)]at he;refine Ar Ac ?_;simp -implicitDefEqProofs [SFi,e1];exact Am.mk (j+1,(nx,.cells 61 W)::H,nx+1) ⟨⟨by show j+1<=L.length;omega,he⟩,by show L.length-(j+1)<L.length-j;omega⟩ (sub_env (by simp -implicitDefEqProofs [SFi]))
theorem A4c {α:Type} {f:α->RwC 8} {one:α->Int} {g:List T->Option T} {fn:Nat} (hg:GOK Xa (G q) fn g) {t:T} {L:List α} (ht:IsS eR8 t (L.map f)) (hl:L.length<=1000000) (h1:∀x∈L,g [.ag (f x).1]=some (iv (one x))):A1 Xa (G q) 73 [t,fnT fn] (· = iv (AV one L)):=by
 have l1:AO (.t t)=some (.t (iv (L.length:Int))):=by rw[ht.len,Xc]
 have CF:Ctx Xa (G q) _:=As.nil.ctxH (AF.cons hg.hok .nil) mixed;refine CG (args:=[t,fnT fn]) ?_;refine tT.callX rfl ?_;(conv in ZP=>cbv);refine Ae Ac ?_;simp -implicitDefEqProofs;refine AE (α:=Unit×Ab×Nat) (λc=>⟨[],c.2.1,c.2.2,21⟩) (λ_=>AV one L=0) (λ_=>rfl) ?_ ?_
 rotate_left
 .rintro⟨_,H,nx⟩ hz;refine Ar Ac ?_;simp -implicitDefEqProofs;exact A0 ⟨.t (iv 0),H,nx⟩ ⟨by rw[hz]⟩ (by simp -implicitDefEqProofs)
 refine Ae Ac ?_;simp -implicitDefEqProofs [l1];refine AG ?_;refine BV (SFi t fn L.length) (λc=>L.length-c.1) (FiI one L) (0,[],0) (λ_=>rfl) ⟨Xf _,rfl⟩ (sub_env (by simp -implicitDefEqProofs [SFi])) rfl ?_;rintro⟨j,H,nx⟩ ⟨hj,he⟩;simp only at hj he;by_cases hlt:j<L.length
 rotate_left
 .have hlt':¬(j:Int)<(L.length:Int):=by omega
  rw[Xg (by omega)]at he;refine Ae Ac ?_;simp -implicitDefEqProofs [SFi,hlt,hlt'];refine Ae Ac ?_;simp -implicitDefEqProofs;exact Am.mk ((),H,nx) he (sub_env (by simp -implicitDefEqProofs))
 have hlt':(j:Int)<(L.length:Int):=by omega
 obtain⟨x,hx⟩:∃x,L[j]?=some x:=⟨_,Xe hlt⟩
 have hdr:L.drop j=x::L.drop (j+1):=by
  have hxe:L[j]=x:=(Xj.1 hx).2;rw[<-hxe,Xh hlt]
 rw[hdr,AV]at he
 have hfx:(L.map f)[j]?=some (f x):=by rw[Xp,hx];rfl
 have ia:Bd 8 (.t t) (.t (iv (j:Int)))=some (.t (.pt ((f x).1++AU eR8 (L.map f) j))):=ht.iaddr hfx .i64;have gx:=h1 x (Xi hx);have hfl:(f x).1.length=8:=(f x).2;have e1:Xd.wrap ((j:Int)+1)=((j+1:Nat):Int):=AP (by omega) (by omega);have la:=lpn (r:=AU eR8 (L.map f) j) H hfl;have sn:AM 8 ((nx,.cells 118 [.t (iv 0),.t Ah,.t (sv ⟨#[]⟩),.t (iv 0),.t (sv ⟨#[]⟩),.t Ah,.t Ah,.t Ah])::H) (.ptr nx 0) (.t (.ag (f x).1))=some ((nx,.cells 118 ((f x).1.map .t))::H):=Dv (ty:=118) rfl hfl H;have le:Aj true 8 ((nx,.cells 118 ((f x).1.map .t))::H) (.ptr nx 0)=some (.t (.ag (f x).1)):=ldN (by rw[Az,zy rfl]) hfl;generalize hW:(f x).1.map PV.t=W at sn le;refine Ae Ac ?_;simp -implicitDefEqProofs [SFi,hlt,hlt'];refine Ae Ac ?_;simp -implicitDefEqProofs;refine AE (λ_:Unit=>SFi t fn L.length (j,(nx,.cells 118 W)::H,nx+1)) (λ_=>one x=0) (λ_=>rfl) ?_ ?_
 .refine AG ?_;refine Ae Ac ?_;simp -implicitDefEqProofs [ia,la,sn];have ho:=λH nx=>L8 gx H nx;refine Ae CF ?_;simp -implicitDefEqProofs [le,ho];by_cases h0:one x=0
  .have hb:((one x) != 0)=false:=by rw[h0];rfl
   refine Ar Ac ?_;simp -implicitDefEqProofs [hb];exact Am.mk () h0 (sub_env (by simp -implicitDefEqProofs [SFi]))
  .have hb:((one x) != 0)=true:=by rw[bne_iff_ne];exact h0
   rw[zy h0]at he;refine Ar Ac ?_;simp -implicitDefEqProofs [hb];exact A0 ⟨.t (iv (one x)),(nx,.cells 118 W)::H,nx+1⟩ ⟨by rw[he]⟩ (by simp -implicitDefEqProofs)
 rintro _ h0;rw[zz (λh=>h h0)]at he;refine Ar Ac ?_;simp -implicitDefEqProofs [SFi,e1];exact Am.mk (j+1,(nx,.cells 118 W)::H,nx+1) ⟨⟨by show j+1<=L.length;omega,he⟩,by show L.length-(j+1)<L.length-j;omega⟩ (sub_env (by simp -implicitDefEqProofs [SFi]))
theorem A4d {α:Type} {f:α->RwC 1} {one:α->Int} {g:List T->Option T} {fn:Nat} (hg:GOK Xa (G q) fn g) {t:T} {L:List α} (ht:IsS eR1 t (L.map f)) (hl:L.length<=1000000) (h1:∀x∈L,g [(f x).1.headD Ah]=some (iv (one x))):A1 Xa (G q) 75 [t,fnT fn] (· = iv (AV one L)):=by
 have l1:AO (.t t)=some (.t (iv (L.length:Int))):=by rw[ht.len,Xc]
 have CF:Ctx Xa (G q) _:=As.nil.ctxH (AF.cons hg.hok .nil) mixed;refine CG (args:=[t,fnT fn]) ?_;refine tV.callX rfl ?_;(conv in ZR=>cbv);refine Ae Ac ?_;simp -implicitDefEqProofs;refine AE (α:=Unit×Ab×Nat) (λc=>⟨[],c.2.1,c.2.2,21⟩) (λ_=>AV one L=0) (λ_=>rfl) ?_ ?_
 rotate_left
 .rintro⟨_,H,nx⟩ hz;refine Ar Ac ?_;simp -implicitDefEqProofs;exact A0 ⟨.t (iv 0),H,nx⟩ ⟨by rw[hz]⟩ (by simp -implicitDefEqProofs)
 refine Ae Ac ?_;simp -implicitDefEqProofs [l1];refine AG ?_;refine BV (SFi t fn L.length) (λc=>L.length-c.1) (FiI one L) (0,[],0) (λ_=>rfl) ⟨Xf _,rfl⟩ (sub_env (by simp -implicitDefEqProofs [SFi])) rfl ?_;rintro⟨j,H,nx⟩ ⟨hj,he⟩;simp only at hj he;by_cases hlt:j<L.length
 rotate_left
 .have hlt':¬(j:Int)<(L.length:Int):=by omega
  rw[Xg (by omega)]at he;refine Ae Ac ?_;simp -implicitDefEqProofs [SFi,hlt,hlt'];refine Ae Ac ?_;simp -implicitDefEqProofs;exact Am.mk ((),H,nx) he (sub_env (by simp -implicitDefEqProofs))
 have hlt':(j:Int)<(L.length:Int):=by omega
 obtain⟨x,hx⟩:∃x,L[j]?=some x:=⟨_,Xe hlt⟩
 have hdr:L.drop j=x::L.drop (j+1):=by
  have hxe:L[j]=x:=(Xj.1 hx).2;rw[<-hxe,Xh hlt]
 rw[hdr,AV]at he
 have hfx:(L.map f)[j]?=some (f x):=by rw[Xp,hx];rfl
 have ia:Bd 1 (.t t) (.t (iv (j:Int)))=some (.t (.pt ((f x).1++AU eR1 (L.map f) j))):=ht.iaddr hfx .i64;have gx:=h1 x (Xi hx);have hfl:(f x).1.length=1:=(f x).2;have e1:Xd.wrap ((j:Int)+1)=((j+1:Nat):Int):=AP (by omega) (by omega)
 obtain⟨y,hy⟩:∃y,(f x).1=[y]:=by
  match (f x).1,hfl with
  | [y],_=>exact⟨y,rfl⟩
 rw[hy]at ia
 have gx:g [y]=some (iv (one x)):=by rw[hy]at gx;exact gx
 have la:Aj false 1 H (.t (.pt (y::AU eR1 (L.map f) j)))=some (.t y):=rfl;refine Ae Ac ?_;simp -implicitDefEqProofs [SFi,hlt,hlt'];refine Ae Ac ?_;simp -implicitDefEqProofs;refine AE (λ_:Unit=>SFi t fn L.length (j,H,nx)) (λ_=>one x=0) (λ_=>rfl) ?_ ?_
 .refine AG ?_;refine Ae Ac ?_;simp -implicitDefEqProofs [ia,la];have ho:=λH nx=>L8 gx H nx;refine Ae CF ?_;simp -implicitDefEqProofs [la,ho];by_cases h0:one x=0
  .have hb:((one x) != 0)=false:=by rw[h0];rfl
   refine Ar Ac ?_;simp -implicitDefEqProofs [hb];exact Am.mk () h0 (sub_env (by simp -implicitDefEqProofs [SFi]))
  .have hb:((one x) != 0)=true:=by rw[bne_iff_ne];exact h0
   rw[zy h0]at he;refine Ar Ac ?_;simp -implicitDefEqProofs [hb];exact A0 ⟨.t (iv (one x)),H,nx⟩ ⟨by rw[he]⟩ (by simp -implicitDefEqProofs)
 rintro _ h0;rw[zz (λh=>h h0)]at he;refine Ar Ac ?_;simp -implicitDefEqProofs [SFi,e1];exact Am.mk (j+1,H,nx) ⟨⟨by show j+1<=L.length;omega,he⟩,by show L.length-(j+1)<L.length-j;omega⟩ (sub_env (by simp -implicitDefEqProofs [SFi]))
inductive D2:Ds->Prop where
 | mk (op:Int) (name:ByteArray) (path:List ByteArray) (kids:List Ds):name.size<=1000000->path.length<=1000->(∀s∈path,s.size<=1000000)->kids.length<=1000->(∀k∈kids,D2 k)->D2 (.mk op name path kids)
theorem D2.parts {op:Int} {name:ByteArray} {path:List ByteArray} {kids:List Ds} (h:D2 (.mk op name path kids)):name.size<=1000000/\path.length<=1000/\(∀s∈path,s.size<=1000000)/\kids.length<=1000/\∀k∈kids,D2 k:=by
 cases h with
 | mk _ _ _ _ h1 h2 h3 h4 h5=>exact⟨h1,h2,h3,h4,h5⟩
theorem Small.sized:∀{d:Ds},Small d->D2 d:=λh=>by
 induction h with
 | mk op name path kids h1 h2 h3 h4 h5 ih=>exact .mk op name path kids (by omega) (by omega) (λs hs=>by have:=h3 s hs;omega) (by omega) ih
def Dg:List ByteArray->List UInt8
 | []=>[]
 | s::r=>s.data.toList++(match r with | []=>[] | _::_=>46::Dg r)
def ER {α β:Type} (sep last:List α) (r:List β):List α:=match r with
 | []=>[]
 | [_]=>last
 | _::_::_=>sep
mutual
def wrD:Ds->List UInt8
 | .mk op name path kids=>
  if op=1 then name.data.toList
  else if op=2 then 64::name.data.toList
  else if op=3 then 35::name.data.toList
  else if op=4 then wrL [32,38,32] [32,38,32] kids
  else if op=5 then 91::(Dg path++32::(wrL [] [] kids++[93]))
  else if op=6 then 60::(wrL [44,32] [44,32] kids++[62])
  else if op=7 then 60::(wrL [44,32] [32,124,32] kids++[62])
  else if kids.length=0 then [60,33,32,33,62]
  else 60::33::32::(wrL [44,32] [44,32] kids++[32,33,62])
def wrL (sep last:List UInt8):List Ds->List UInt8
 | []=>[]
 | d::r=>wrD d++(ER sep last r++wrL sep last r)
end
theorem Ko {big:Bool} {s:ByteArray} (h:AD big s=true):∃c r,s.data.toList=c::r/\s.size<=32/\AR c=false/\c.toNat≠45/\(c::r).all (BL big)=true:=by
 unfold AD at h;split at h
 .cases h
 .rename_i c r hs;simp only[Yk,Y9,decide_eq_true_eq,decide_eq_false_iff_not]at h;exact⟨c,r,hs,h.1.1.1,h.1.1.2,h.1.2,h.2⟩
theorem Ks {op:Int} {name:ByteArray} {path:List ByteArray} {kids:List Ds} {lv:Nat} (h:Bb (.mk op name path kids) lv=0) :
  lv<=64/\path.length<=64/\kids.length<=256/\1<=op/\op<=8/\HS op name path kids=true/\DS kids (if op=4 then lv else lv+1)=0:=by
 rw[Bb]at h;split at h
 .cases h
 .rename_i h1;split at h
  .rename_i h2;exact absurd h h2
  .rename_i h2
   have h2':E4 op name path kids=0:=by simpa using h2
   unfold E4 at h2';split at h2'
   .cases h2'
   .rename_i h3;split at h2'
    .rename_i h4;refine⟨by omega,by omega,by omega,by omega,by omega,h4,h⟩
    .cases h2'
theorem L9 {d:Ds} {r:List Ds} {lv:Nat} (h:DS (d::r) lv=0):Bb d lv=0/\DS r lv=0:=by
 rw[DS]at h;split at h
 .rename_i h1;exact absurd h h1
 .rename_i h1;exact⟨by simpa using h1,h⟩
theorem LA {op:Int} {name:ByteArray} {path:List ByteArray} {kids:List Ds} (h:HS op name path kids=true) :
  (if Fy op then AD false name=true else name.size=0)/\(op=5 ↔ 0<path.length)/\path.all (AD true)=true/\Es op kids=true:=by
 unfold HS at h;simp only[Yk,beq_iff_eq,decide_eq_decide]at h;obtain⟨⟨⟨h1,h2⟩,h3⟩,h4⟩:=h;refine⟨?_,h2,h3,h4⟩;split at h1
 .rename_i h5;rw[zy h5];exact h1
 .rename_i h5;rw[zz h5];simpa using h1
section
variable {l : List KT}
theorem Uv {op:Int} {kids:List Ds} (h:Es op kids=true):(op=5->kids.length=1)/\(op=7->2<=kids.length)/\(op=4->2<=kids.length/\∀k∈kids,k.op≠4)/\(Fy op=true->kids=[]):=by
 refine⟨λe=>?_,λe=>?_,λe=>?_,λe=>?_⟩
 .subst e;exact of_decide_eq_true h
 .subst e;exact of_decide_eq_true h
 .subst e;have h':(decide (2<=kids.length) && !(kids.any λk=>decide (k.op=4)))=true:=h;rw[Yk,Y9,List.any_eq_false]at h';exact⟨of_decide_eq_true h'.1,λk hk e=>h'.2 k hk (zw e)⟩
 .unfold Es at h;rw[zy e]at h;exact Za (of_decide_eq_true h)
theorem Uw:∀{r:List Ds} {lv:Nat},(∀k∈r,Bb k lv=0)->DS r lv=0
 | [],lv,_=>by rw[DS]
 | d::r,lv,h=>by
  rw[DS,zz (by simpa using h d (by simp))];exact Uw λk hk=>h k (by simp[hk])
end
theorem fR {b:Bool} {s:ByteArray} (h:s.size=0):AD b s=false:=by
 unfold AD;split
 .rfl
 .rename_i c r e;have h2:s.data.toList.length=s.size:=rfl;rw[e,h]at h2;simp at h2
noncomputable def gCh (m:Nat) (ts:List T):Option T:=g2 tD JH (λd lv=>open Classical in if D2 d/\d.depth<=m/\0<=lv/\lv<=65 then some (iv (Bb d lv.toNat))else none) ts
theorem fS {m:Nat} {c:List T} {d:Ds} (h:BG d c) (hs:D2 d) (hd:d.depth<=m) {lv:Nat} (hl:lv<=65):gCh m [.ag c,iv (lv:Int)]=some (iv (Bb d lv)):=by
 show g2 _ _ _ _=_;rw[Dz (τ:=tD) (σ:=JH) (x:=d) (y:=(lv:Int)) ⟨c,rfl,h⟩ rfl,zy ⟨hs,hd,by omega,by omega⟩,Yi]
noncomputable def Nf (ts:List T):Option T:=g1 tD (λd=>open Classical in if D2 d then some (iv (Bb d 1))else none) ts
theorem Ux {c:List T} {d:Ds} (h:BG d c) (hs:D2 d):Nf [.ag c]=some (iv (Bb d 1)):=by
 show g1 _ _ _=_;rw[D8 (τ:=tD) (x:=d) ⟨c,rfl,h⟩];exact zy hs
def ixF {α:Type} (p:α->Bool):List α->Nat->Int
 | [],_=>-1
 | x::r,j=>if p x then(j:Int)else ixF p r (j+1)
theorem Uy {α:Type} (p:α->Bool):∀(l:List α) (j:Nat),decide (0<=ixF p l j)=l.any p
 | [],j=>rfl
 | x::r,j=>by
  rw[ixF,Zb]
  cases p x with
  | true=>simp
  | false=>simp only[Xk,if_false,Bool.false_or];exact Uy p r (j+1)
theorem A4e {c:List T} {d:Ds} (hd:BG d c):A1 Xa (G q) 159 [.ag c] (· = bv (decide (d.op=4))):=by
 cases d with
 | mk op name path kids=>
  obtain⟨tp,tk,rfl,hp,hk⟩:=hd.parts;have:(op==4)=decide (op=4):=rfl;refine sD.call rfl ?_;refine Ap AL ?_
  (conv in YF=>cbv);simp -implicitDefEqProofs [HU,dl0,this,Ds.op]
  exact decide_eq_decide.2 Iff.rfl
noncomputable def gF1 (ts:List T):Option T:=g1 tD (λd=>some (bv (decide (d.op=4)))) ts
theorem hF1:GOK Xa (G q) 159 gF1:=D6 λa x r ha hr=>by
 injection hr with hr;subst hr;obtain⟨c,rfl,hd⟩:=ha;exact A4e hd
theorem A4f {c:List T} {d:Ds} (h:BG d c):gF1 [.ag c]=some (bv (decide (d.op=4))):=by
 show g1 _ _ _=_;rw[D8 (τ:=tD) (x:=d) ⟨c,rfl,h⟩]
def gTn (ts:List T):Option T:=match ts with
 | [.v (.string s)]=>if s.size<=lim then some (bv (AD false s))else none
 | _=>none
def gTf (ts:List T):Option T:=match ts with
 | [.v (.string s)]=>if s.size<=lim then some (bv (AD true s))else none
 | _=>none
theorem hTn:GOK Xa (G q) 64 gTn:=λargs r h=>by
 unfold gTn at h;split at h
 .split at h
  .injection h with h;subst h;exact wA _ (by assumption)
  .cases h
 .cases h
theorem hTf:GOK Xa (G q) 105 gTf:=λargs r h=>by
 unfold gTf at h;split at h
 .split at h
  .injection h with h;subst h;exact wB _ (by assumption)
  .cases h
 .cases h
theorem Rj {s:ByteArray} (h:s.size<=1000000):gTf [sv s]=some (bv (AD true s)):=zy (by show s.size<=lim;unfold lim;omega)
theorem LB {s:ByteArray} (h:s.size<=1000000):gTn [sv s]=some (bv (AD false s)):=zy (by show s.size<=lim;unfold lim;omega)
def Et (s:ByteArray):Bool:=!AD true s
theorem A4g {s:ByteArray} (hs:s.size<=1000000):A1 Xa (G q) 161 [sv s] (· = bv (Et s)):=by
 have C:=(As.cons (hTf (q:=q)) .nil).ctx mixed;have hg:=Rj hs;refine sE.call rfl ?_;refine Ap C ?_
 (conv in YG=>cbv);simp -implicitDefEqProofs [hg]
 unfold Et;simp
def gF2 (ts:List T):Option T:=match ts with
 | [.v (.string s)]=>if s.size<=1000000 then some (bv (Et s))else none
 | _=>none
theorem hF2:GOK Xa (G q) 161 gF2:=λargs r h=>by
 unfold gF2 at h;split at h
 .split at h
  .injection h with h;subst h;exact A4g (by assumption)
  .cases h
 .cases h
theorem A4h {s:ByteArray} (h:s.size<=1000000):gF2 [sv s]=some (bv (Et s)):=zy h
theorem Rk (b:Bool):DI (bv b)=true:=rfl
theorem fT (b:Int):DI (iv b)=true:=rfl
theorem A4i {tk:T} {kids:List Ds} (hk:IsK tk kids) (hl:kids.length<=1000):A1 Xa (G q) 180 [tk,fv 159] (· = iv (ixF (λd:Ds=>decide (d.op=4)) kids 0)):=by
 have C:Ctx Xa (G q) (orh [] [(159,Ct gF1)]):=As.nil.ctxH (.cons hF1.hok .nil) mixed;have hlk:AO (.t tk)=some (.t (iv (kids.length:Int))):=hk.len
 obtain⟨W,hW⟩:∃W,W=ixF (λd:Ds=>decide (d.op=4)) kids 0:=⟨_,rfl⟩
 rw[<-hW];refine sG.call rfl ?_;(conv in YI=>cbv);refine Av C ?_;simp -implicitDefEqProofs;refine BF (α:=Unit) (λ_=>⟨[],[],0,19⟩) (λ_=>W = -1) (λ_=>rfl) ?_ ?_
 .refine Av C ?_;simp -implicitDefEqProofs [hlk];refine BD ?_;refine D5 (α:=Nat) (λj=>⟨[(8,.t (iv (j:Int))),(7,.t (iv (kids.length:Int))),(0,.t tk),(1,.t (fv 159))],[],0,19⟩) (λj=>kids.length-j) (λj=>j<=kids.length/\ixF (λd:Ds=>decide (d.op=4)) (kids.drop j) j=W) 0 (λ_=>rfl) ⟨by omega,by rw[Xn];exact hW.symm⟩ (sub_env (by simp -implicitDefEqProofs)) rfl ?_;rintro j ⟨hj,heq⟩;by_cases hlt:j<kids.length
  .obtain⟨x,hx⟩:∃x,kids[j]?=some x:=⟨_,Xe hlt⟩
   obtain⟨p,ci,h1,h2,h3⟩:=OJ hk hx
   have hlt':(j:Int)<(kids.length:Int):=by omega
   have hg:=A4f h3
   have ho:Ct gF1 [.t (.ag ci)] [] 0=some (.t (bv (decide (x.op=4))),[],0):=by
    simp only[Ct,BQ,toT,Xv,hg,Xm,Rk,if_true]
   rw[Xh hlt]at heq
   have hxe:kids[j]=x:=by rw[Xe hlt]at hx;injection hx
   rw[hxe,ixF]at heq
   cases hb:decide (x.op=4)with
   | true=>
    rw[hb,zy rfl]at heq;rw[hb]at ho;rw[<-heq];refine Ap C ?_;simp -implicitDefEqProofs [hlt,hlt',h1,h2,ho]
   | false=>
    rw[hb,zz (by simp)]at heq;rw[hb]at ho
    obtain⟨j1,hj1⟩:∃j1,j1=j+1:=⟨_,rfl⟩
    have ej:Xd.wrap ((j:Int)+1)=(j1:Int):=AP (by omega) (by omega);refine Ap C ?_;simp -implicitDefEqProofs [hlt,hlt',h1,h2,ho,ej];refine Am.mk j1 ⟨⟨by omega,by rw[hj1];exact heq⟩,by omega⟩ (sub_env (by simp -implicitDefEqProofs))
  .have hlt':¬(j:Int)<(kids.length:Int):=by omega
   rw[Xz (by omega),ixF]at heq;refine Ap C ?_;simp -implicitDefEqProofs [hlt,hlt'];exact Am.mk () heq.symm (AQ rfl rfl (by simp -implicitDefEqProofs) (by simp -implicitDefEqProofs))
 .rintro⟨⟩ hW0;rw[hW0];refine Ap C ?_;simp -implicitDefEqProofs
theorem A4j {tk:T} {kids:List ByteArray} (hk:IsS Ak tk kids) (hl:kids.length<=1000) (hsz:∀s∈kids,s.size<=1000000):A1 Xa (G q) 181 [tk,fv 161] (· = iv (ixF Et kids 0)):=by
 have C:Ctx Xa (G q) (orh [] [(161,Ct gF2)]):=As.nil.ctxH (.cons hF2.hok .nil) mixed;have hlk:AO (.t tk)=some (.t (iv (kids.length:Int))):=hk.len
 obtain⟨W,hW⟩:∃W,W=ixF Et kids 0:=⟨_,rfl⟩
 rw[<-hW];refine sI.call rfl ?_;(conv in YK=>cbv);refine Av C ?_;simp -implicitDefEqProofs;refine BF (α:=Unit) (λ_=>⟨[],[],0,19⟩) (λ_=>W = -1) (λ_=>rfl) ?_ ?_
 .refine Av C ?_;simp -implicitDefEqProofs [hlk];refine BD ?_;refine D5 (α:=Nat) (λj=>⟨[(8,.t (iv (j:Int))),(7,.t (iv (kids.length:Int))),(0,.t tk),(1,.t (fv 161))],[],0,19⟩) (λj=>kids.length-j) (λj=>j<=kids.length/\ixF Et (kids.drop j) j=W) 0 (λ_=>rfl) ⟨by omega,by rw[Xn];exact hW.symm⟩ (sub_env (by simp -implicitDefEqProofs)) rfl ?_;rintro j ⟨hj,heq⟩;by_cases hlt:j<kids.length
  .obtain⟨x,hx⟩:∃x,kids[j]?=some x:=⟨_,Xe hlt⟩
   obtain⟨r,h1⟩:=zA hk hx
   have hlt':(j:Int)<(kids.length:Int):=by omega
   have hg:=A4h (hsz x (Xi hx))
   have ho:Ct gF2 [.t (sv x)] [] 0=some (.t (bv (Et x)),[],0):=by
    simp only[Ct,BQ,toT,Xv,hg,Xm,Rk,if_true]
   rw[Xh hlt]at heq
   have hxe:kids[j]=x:=by rw[Xe hlt]at hx;injection hx
   rw[hxe,ixF]at heq
   cases hb:Et x with
   | true=>
    rw[hb,zy rfl]at heq;rw[hb]at ho;rw[<-heq];refine Ap C ?_;simp -implicitDefEqProofs [hlt,hlt',h1,lh1,ho]
   | false=>
    rw[hb,zz (by simp)]at heq;rw[hb]at ho
    obtain⟨j1,hj1⟩:∃j1,j1=j+1:=⟨_,rfl⟩
    have ej:Xd.wrap ((j:Int)+1)=(j1:Int):=AP (by omega) (by omega);refine Ap C ?_;simp -implicitDefEqProofs [hlt,hlt',h1,lh1,ho,ej];refine Am.mk j1 ⟨⟨by omega,by rw[hj1];exact heq⟩,by omega⟩ (sub_env (by simp -implicitDefEqProofs))
  .have hlt':¬(j:Int)<(kids.length:Int):=by omega
   rw[Xz (by omega),ixF]at heq;refine Ap C ?_;simp -implicitDefEqProofs [hlt,hlt'];exact Am.mk () heq.symm (AQ rfl rfl (by simp -implicitDefEqProofs) (by simp -implicitDefEqProofs))
 .rintro⟨⟩ hW0;rw[hW0];refine Ap C ?_;simp -implicitDefEqProofs
def tFv (F:Nat):Ty Unit:=⟨λt _=>t=fv F,λ_ _ _ _ _=>rfl⟩
noncomputable def Rl (ts:List T):Option T:=g2 tK (tFv 159) (λkids _=>if kids.length<=1000 then some (iv (ixF (λd:Ds=>decide (d.op=4)) kids 0))else none) ts
theorem A4k:GOK Xa (G q) 180 Rl:=Do λa b x y r ha hb hr=>by
 split at hr
 .injection hr with hr;subst hr;cases hb;exact A4i ha (by assumption)
 .cases hr
theorem A4l {tk:T} {kids:List Ds} (hk:IsK tk kids) (hl:kids.length<=1000):Rl [tk,fv 159]=some (iv (ixF (λd:Ds=>decide (d.op=4)) kids 0)):=by
 show g2 _ _ _ _=_;rw[Dz (τ:=tK) (σ:=tFv 159) (x:=kids) (y:=()) hk rfl,zy hl]
noncomputable def Rm (ts:List T):Option T:=g2 (tSl Ak) (tFv 161) (λkids _=>open Classical in if kids.length<=1000/\∀s∈kids,s.size<=1000000 then some (iv (ixF Et kids 0))else none) ts
theorem A4m:GOK Xa (G q) 181 Rm:=Do λa b x y r ha hb hr=>by
 split at hr
 .rename_i hc;injection hr with hr;subst hr;cases hb;exact A4j ha hc.1 hc.2
 .cases hr
theorem A4n {tk:T} {kids:List ByteArray} (hk:IsS Ak tk kids) (hl:kids.length<=1000) (hs:∀s∈kids,s.size<=1000000):Rm [tk,fv 161]=some (iv (ixF Et kids 0)):=by
 show g2 _ _ _ _=_;rw[Dz (τ:=tSl Ak) (σ:=tFv 161) (x:=kids) (y:=()) hk rfl,zy ⟨hl,hs⟩]
theorem A4o {tk:T} {kids:List Ds} (hk:IsK tk kids) (hl:kids.length<=1000):A1 Xa (G q) 158 [tk,fv 159] (· = bv (kids.any λd=>decide (d.op=4))):=by
 have C:Ctx Xa (G q) (orh [] [(180,Ct Rl)]):=As.nil.ctxH (.cons A4k.hok .nil) mixed;have hg:=A4l hk hl
 have ho:Ct Rl [.t tk,.t (fv 159)] [] 0=some (.t (iv (ixF (λd:Ds=>decide (d.op=4)) kids 0)),[],0):=by
  simp only[Ct,BQ,toT,Xv,hg,Xm,fT,if_true]
 have hd:=Uy (λd:Ds=>decide (d.op=4)) kids 0;generalize ixF (λd:Ds=>decide (d.op=4)) kids 0=W at ho hd;generalize (kids.any λd=>decide (d.op=4))=B at hd;refine sF.call rfl ?_;refine Ap C ?_
 (conv in YH=>cbv);simp -implicitDefEqProofs [ho,hd]
theorem A4p {tk:T} {kids:List ByteArray} (hk:IsS Ak tk kids) (hl:kids.length<=1000) (hs:∀s∈kids,s.size<=1000000):A1 Xa (G q) 160 [tk,fv 161] (· = bv (kids.any Et)):=by
 have C:Ctx Xa (G q) (orh [] [(181,Ct Rm)]):=As.nil.ctxH (.cons A4m.hok .nil) mixed;have hg:=A4n hk hl hs
 have ho:Ct Rm [.t tk,.t (fv 161)] [] 0=some (.t (iv (ixF Et kids 0)),[],0):=by
  simp only[Ct,BQ,toT,Xv,hg,Xm,fT,if_true]
 have hd:=Uy Et kids 0;generalize ixF Et kids 0=W at ho hd;generalize kids.any Et=B at hd;refine sH.call rfl ?_;refine Ap C ?_
 (conv in YJ=>cbv);simp -implicitDefEqProofs [ho,hd]
noncomputable def Ro (ts:List T):Option T:=g2 tK (tFv 159) (λkids _=>if kids.length<=1000 then some (bv (kids.any λd=>decide (d.op=4)))else none) ts
theorem A4q:GOK Xa (G q) 158 Ro:=Do λa b x y r ha hb hr=>by
 split at hr
 .injection hr with hr;subst hr;cases hb;exact A4o ha (by assumption)
 .cases hr
theorem A4r {tk:T} {kids:List Ds} (hk:IsK tk kids) (hl:kids.length<=1000):Ro [tk,fv 159]=some (bv (kids.any λd=>decide (d.op=4))):=by
 show g2 _ _ _ _=_;rw[Dz (τ:=tK) (σ:=tFv 159) (x:=kids) (y:=()) hk rfl,zy hl]
noncomputable def Rq (ts:List T):Option T:=g2 (tSl Ak) (tFv 161) (λkids _=>open Classical in if kids.length<=1000/\∀s∈kids,s.size<=1000000 then some (bv (kids.any Et))else none) ts
theorem A4s:GOK Xa (G q) 160 Rq:=Do λa b x y r ha hb hr=>by
 split at hr
 .rename_i hc;injection hr with hr;subst hr;cases hb;exact A4p ha hc.1 hc.2
 .cases hr
theorem A4t {tk:T} {kids:List ByteArray} (hk:IsS Ak tk kids) (hl:kids.length<=1000) (hs:∀s∈kids,s.size<=1000000):Rq [tk,fv 161]=some (bv (kids.any Et)):=by
 show g2 _ _ _ _=_;rw[Dz (τ:=tSl Ak) (σ:=tFv 161) (x:=kids) (y:=()) hk rfl,zy ⟨hl,hs⟩]
def Eb (s:ByteArray):Int:=if AD false s then 0 else 1
def E8 (s:ByteArray):Int:=if AD true s then 0 else 1
def G8 (p:List ByteArray):Int:=if p=[]then 1 else if 64<p.length then 7 else AV E8 p
def FD (p:ByteArray×ByteArray):Int:=if AD true p.1&&AD false p.2 then 0 else 1
def G9 (x:TyD):Int:=if AD false x.name=false then 1 else if 256<x.supers.length\/256<x.feats.length then 7 else if AV Eb x.supers≠0 then 1 else AV FD x.feats
def SzS (s:ByteArray):Prop:=s.size<=1000000
structure SzT (x:TyD):Prop where
 n:SzS x.name
 s:x.supers.length<=100000/\∀s∈x.supers,SzS s
 f:x.feats.length<=100000/\∀p∈x.feats,SzS p.1/\SzS p.2
noncomputable def FQ:Tbl:=[(64,gTn),(105,gTf)]
theorem Gi:Ctx Xa (G q) (orc FQ):=(As.cons hTn (.cons hTf .nil)).ctx mixed
theorem A4u (s:ByteArray) (hs:SzS s):A1 Xa (G q) 66 [sv s] (· = iv (Eb s)):=by
 have g:=LB hs;refine tM.call rfl ?_;refine Ap Gi ?_;unfold Eb;cases hb:AD false s<;>rw[hb]at g<;>(conv in ZI=>cbv)<;>simp -implicitDefEqProofs [FQ,g]
theorem A4v (s:ByteArray) (hs:SzS s):A1 Xa (G q) 77 [sv s] (· = iv (E8 s)):=by
 have g:=Rj hs;refine tX.call rfl ?_;refine Ap Gi ?_;unfold E8;cases hb:AD true s<;>rw[hb]at g<;>(conv in ZT=>cbv)<;>simp -implicitDefEqProofs [FQ,g]
noncomputable def Uz (ts:List T):Option T:=open Classical in match ts with
 | [.v (.string s)]=>if SzS s then some (iv (Eb s))else none
 | _=>none
theorem A4w:GOK Xa (G q) 66 Uz:=λargs r h=>by
 unfold Uz at h;split at h
 .split at h
  .rename_i hs;injection h with h;subst h;exact A4u _ hs
  .cases h
 .cases h
theorem A4x {s:ByteArray} (hs:SzS s):Uz [sv s]=some (iv (Eb s)):=zy hs
noncomputable def U9 (ts:List T):Option T:=open Classical in match ts with
 | [.v (.string s)]=>if SzS s then some (iv (E8 s))else none
 | _=>none
theorem A4y:GOK Xa (G q) 77 U9:=λargs r h=>by
 unfold U9 at h;split at h
 .split at h
  .rename_i hs;injection h with h;subst h;exact A4v _ hs
  .cases h
 .cases h
theorem A4z {s:ByteArray} (hs:SzS s):U9 [sv s]=some (iv (E8 s)):=zy hs
theorem LC {α:Type} {one:α->Int} {L:List α} {j:Nat} {x:α} (hx:L[j]?=some x):AV one (L.drop j)=if one x≠0 then one x else AV one (L.drop (j+1)):=by
 obtain⟨hlt,hxe⟩:=Xj.1 hx;rw[<-hxe,Xh hlt,AV]
def Pc (t:T) (n:Nat) (c:Nat×Ab×Nat):Ad:=⟨[(13,.t (iv (c.1:Int))),(12,.t (iv (n:Int))),(11,.t t),(0,.t t)],c.2.1,c.2.2,21⟩
theorem ldS (H:Ab) (a:T) (r:List T):Aj false 1 H (.t (.pt (a::r)))=some (.t a):=rfl
theorem A5a {t:T} {p:List ByteArray} (ht:IsS Ak t p) (hl:p.length<=1000000) (hs:∀s∈p,SzS s):A1 Xa (G q) 76 [t] (· = iv (G8 p)):=by
 obtain⟨R,hR⟩:∃R,R=G8 p:=⟨_,rfl⟩
 rw[<-hR];unfold G8 at hR;have l1:AO (.t t)=some (.t (iv (p.length:Int))):=ht.len;refine CG (args:=[t]) ?_;refine tW.callX rfl ?_;(conv in ZS=>cbv);refine Ae Ac ?_;simp -implicitDefEqProofs
 by_cases h0:p=[]
 .rw[zy h0]at hR
  have l0:AO (.t t)=some (.t (iv 0)):=by rw[l1,h0];rfl
  refine Ae Ac ?_;simp -implicitDefEqProofs [l0];exact A0 ⟨.t (iv 1),[],0⟩ ⟨by rw[hR]⟩ (by simp -implicitDefEqProofs)
 rw[zz h0]at hR
 have hne:((p.length:Int)==0)=false:=by
  rw[zu];intro e;exact h0 (Za (by omega))
 refine Ae Ac ?_;simp -implicitDefEqProofs [l1,hne];by_cases h64:64<p.length
 .rw[zy h64]at hR
  have d1:(64:Int)<(p.length:Int):=by omega
  refine Ae Ac ?_;simp -implicitDefEqProofs [l1,d1,h64];exact A0 ⟨.t (iv 7),[],0⟩ ⟨by rw[hR]⟩ (by simp -implicitDefEqProofs)
 rw[zz h64]at hR
 have d1:¬(64:Int)<(p.length:Int):=by omega
 refine Ae Ac ?_;simp -implicitDefEqProofs [l1,d1,h64];refine AE (α:=Unit×Ab×Nat) (λc=>⟨[],c.2.1,c.2.2,21⟩) (λ_=>R=0) (λ_=>rfl) ?_ ?_
 rotate_left
 .rintro⟨_,H,nx⟩ hz;refine Ar Ac ?_;simp -implicitDefEqProofs;exact A0 ⟨.t (iv 0),H,nx⟩ ⟨by rw[hz]⟩ (by simp -implicitDefEqProofs)
 refine Ae Ac ?_;simp -implicitDefEqProofs [l1];refine AG ?_;refine BV (Pc t p.length) (λc=>p.length-c.1) (FiI E8 p) (0,[],0) (λ_=>rfl) ⟨Xf _,rfl⟩ (sub_env (by simp -implicitDefEqProofs [Pc])) rfl ?_;rintro⟨j,H,nx⟩ ⟨hj,he⟩;simp only at hj he;by_cases hlt:j<p.length
 rotate_left
 .have hlt':¬(j:Int)<(p.length:Int):=by omega
  rw[Xg (by omega)]at he;refine Ae Ac ?_;simp -implicitDefEqProofs [Pc,hlt,hlt'];refine Ae Ac ?_;simp -implicitDefEqProofs;exact Am.mk ((),H,nx) (by rw[hR,he];rfl) (sub_env (by simp -implicitDefEqProofs))
 have hlt':(j:Int)<(p.length:Int):=by omega
 obtain⟨x,hx⟩:∃x,p[j]?=some x:=⟨_,Xe hlt⟩
 rw[LC hx]at he;have ia:Bd 1 (.t t) (.t (iv (j:Int)))=some (.t (.pt (sv x::AU Ak p j))):=ht.iaddr hx .i64;have g:=Rj (hs x (Xi hx));have e1:Xd.wrap ((j:Int)+1)=((j+1:Nat):Int):=AP (by omega) (by omega);refine Ae Ac ?_;simp -implicitDefEqProofs [Pc,hlt,hlt'];refine Ae Ac ?_;simp -implicitDefEqProofs
 cases hb:AD true x with
 | true=>
  rw[hb]at g;rw[zz (by unfold E8;rw[hb];decide)]at he;refine Ar Gi ?_;simp -implicitDefEqProofs [ia,ldS,FQ,g,e1];exact Am.mk (j+1,H,nx) ⟨⟨by show j+1<=p.length;omega,he⟩,by show p.length-(j+1)<p.length-j;omega⟩ (sub_env (by simp -implicitDefEqProofs [Pc]))
 | false=>
  rw[hb]at g;rw[zy (by unfold E8;rw[hb];decide)]at he
  have hd:E8 x=1:=by unfold E8;rw[hb];rfl
  refine Ar Gi ?_;simp -implicitDefEqProofs [ia,ldS,FQ,g];exact A0 ⟨.t (iv 1),H,nx⟩ ⟨by rw[hR,he,hd]⟩ (by simp -implicitDefEqProofs)
noncomputable def LD:Tbl:=[(64,gTn)]
noncomputable def Pd:EF:=[(158,Ct Ro),(160,Ct Rq)]
theorem A5b:Ctx Xa (G q) (orh LD Pd):=(As.cons hTn .nil).ctxH (.cons A4q.hok (.cons A4s.hok .nil)) mixed
theorem A5c (path:List ByteArray):path.any Et = !path.all (AD true):=by
 induction path with
 | nil=>rfl
 | cons s r ih=>rw[Zb,Zc,ih,Et];cases AD true s<;>simp
theorem A5d {c:List T} {op:Int} {name:ByteArray} {path:List ByteArray} {kids:List Ds} (hd:BG (.mk op name path kids) c) (hs:D2 (.mk op name path kids)) :
  A1 Xa (G q) 137 [.ag c] (· = iv (E4 op name path kids)):=by
 obtain⟨s1,s2,s3,s4,s5⟩:=hs.parts;obtain⟨tp,tk,rfl,hp,hk⟩:=hd.parts;have C:=A5b (q:=q);have hlp:AO (.t tp)=some (.t (iv (path.length:Int))):=hp.len;have hlk:AO (.t tk)=some (.t (iv (kids.length:Int))):=hk.len
 obtain⟨W,hW⟩:∃W,W=E4 op name path kids:=⟨_,rfl⟩
 rw[<-hW];unfold E4 at hW;refine sC.call rfl ?_;(conv in YE=>cbv);refine Av C ?_;simp -implicitDefEqProofs [HU];refine Av C ?_;simp -implicitDefEqProofs;refine BF (α:=Unit) (λ_=>⟨[(3,.t (bv (Fy op))),(4,.t (bv (decide (op=5)))),(5,.t (bv (Es op kids))),(1,.ptr 0 0)],[(0,Dd op name tp tk)],1,72⟩) (λ_=>¬(op<1\/8<op)) (λ_=>rfl) ?_ ?_
 .have hk0:((kids.length:Int)==0)=decide (kids.length=0):=by
   rw[show((kids.length:Int)==0)=decide ((kids.length:Int)=0)from rfl];exact decide_eq_decide.2 (by omega)
  have hk1:((kids.length:Int)==1)=decide (kids.length=1):=by
   rw[show((kids.length:Int)==1)=decide ((kids.length:Int)=1)from rfl];exact decide_eq_decide.2 (by omega)
  by_cases hr:op<1\/8<op
  .rw[zy hr]at hW;rw[hW]
   have e:∀k:Int,1<=k->k<=8->(op==k)=false:=λk h1 h2=>by
    have:op≠k:=by omega
    simpa using this
   have e1:=e 1 (by omega) (by omega);have e2:=e 2 (by omega) (by omega);have e3:=e 3 (by omega) (by omega);have e4:=e 4 (by omega) (by omega);have e5:=e 5 (by omega) (by omega);have e6:=e 6 (by omega) (by omega);have e7:=e 7 (by omega) (by omega);have e8:=e 8 (by omega) (by omega);refine Ap C ?_;simp -implicitDefEqProofs [dl0,e1,e2,e3,e4,e5,e6,e7,e8]
  .have h8:op=1\/op=2\/op=3\/op=4\/op=5\/op=6\/op=7\/op=8:=by omega
   have goS:∀{env:List (Nat×PV)} {k:Int} {X Y:Bool} {Z:Bool},op=k->Fy k=X->decide (k=5)=Y->Es k kids=Z->Aa env 3=some (.t (bv X))->Aa env 4=some (.t (bv Y))->Aa env 5=some (.t (bv Z))->Aa env 1=some (.ptr 0 0) ->
     Sub Xa (G q) 0 ⟨env,[(0,Dd k name tp tk)],1,72⟩ ⟨[(3,.t (bv (Fy k))),(4,.t (bv (decide (k=5)))),(5,.t (bv (Es k kids))),(1,.ptr 0 0)],[(0,Dd k name tp tk)],1,72⟩:=by
    intro env k X Y Z _ hX hY hZ h3 h4 h5 h1;refine sub_env ?_;rw[hX,hY,hZ];intro x hx;simp only[X0,Y8,or_false]at hx;rcases hx with rfl | rfl | rfl | rfl
    .exact h3
    .exact h4
    .exact h5
    .exact h1
   clear hW hr;rcases h8 with rfl | rfl | rfl | rfl | rfl | rfl | rfl | rfl
   .refine Ap C ?_;simp -implicitDefEqProofs [dl0,dl3,hlk];exact Am.mk () trivial (goS rfl rfl rfl (by unfold Es;exact(zy rfl).trans hk0.symm) rfl rfl rfl rfl)
   .refine Ap C ?_;simp -implicitDefEqProofs [dl0,dl3,hlk];exact Am.mk () trivial (goS rfl rfl rfl (by unfold Es;exact(zy rfl).trans hk0.symm) rfl rfl rfl rfl)
   .refine Ap C ?_;simp -implicitDefEqProofs [dl0,dl3,hlk];exact Am.mk () trivial (goS rfl rfl rfl (by unfold Es;exact(zy rfl).trans hk0.symm) rfl rfl rfl rfl)
   .have hg:=A4r hk s4
    have ho:Ct Ro [.t tk,.t (fv 159)] [(0,Dd 4 name tp tk)] 1=some (.t (bv (kids.any λd=>decide (d.op=4))),[(0,Dd 4 name tp tk)],1):=by
     simp only[Ct,BQ,toT,Xv,hg,Xm,Rk,if_true]
    have hkB:Es 4 kids=(decide (2<=kids.length) && !(kids.any λk=>decide (k.op=4))):=rfl;generalize (kids.any λk=>decide (k.op=4))=A at ho hkB;by_cases h2:1<kids.length
    .have h2':(1:Int)<(kids.length:Int):=by omega
     rw[zw (by omega:2<=kids.length),Zd]at hkB;refine Ap C ?_;simp -implicitDefEqProofs [Pd,dl0,dl3,hlk,h2,h2',ho];exact Am.mk () trivial (goS rfl rfl rfl hkB rfl rfl rfl rfl)
    .have h2':¬(1:Int)<(kids.length:Int):=by omega
     rw[zx (by omega:¬2<=kids.length),Ya]at hkB;refine Ap C ?_;simp -implicitDefEqProofs [Pd,dl0,dl3,hlk,h2,h2',ho];exact Am.mk () trivial (goS rfl rfl rfl hkB rfl rfl rfl rfl)
   .refine Ap C ?_;simp -implicitDefEqProofs [dl0,dl3,hlk];exact Am.mk () trivial (goS rfl rfl rfl hk1.symm rfl rfl rfl rfl)
   .refine Ap C ?_;simp -implicitDefEqProofs [dl0,dl3,hlk];exact Am.mk () trivial (goS rfl rfl rfl rfl rfl rfl rfl rfl)
   .refine Ap C ?_;simp -implicitDefEqProofs [dl0,dl3,hlk];exact Am.mk () trivial (goS rfl rfl rfl (decide_eq_decide.2 (by omega)) rfl rfl rfl rfl)
   .refine Ap C ?_;simp -implicitDefEqProofs [dl0,dl3,hlk];exact Am.mk () trivial (goS rfl rfl rfl rfl rfl rfl rfl rfl)
 .rintro⟨⟩ hn;rw[zz hn]at hW;unfold HS at hW;have hgn:=LB s1
  have hsz:(!name.toList.isEmpty)=decide (name.size≠0):=by
   rw[HI]
   cases hn2:name.data.toList with
   | nil=>
    have:name.data.toList.length=name.size:=rfl;rw[hn2]at this;have:name.size=0:=this.symm;rw[this];rfl
   | cons x r=>
    have:name.data.toList.length=name.size:=rfl;rw[hn2]at this
    have h0:name.size≠0:=by rw[<-this];simp
    simp[h0]
  have hne:AD false name=true->(!name.toList.isEmpty)=true:=λh=>by
   rw[hsz];refine zw λh0=>?_;rw[fR h0]at h;cases h
  have hsz2:decide (name.size=0)=name.toList.isEmpty:=by
   have h:=congrArg (λb=>!b) hsz;simp only[Bool.not_not]at h;rw[h];simp
  have h0:decide ((0:Int)<(path.length:Int))=decide (0<path.length):=decide_eq_decide.2 (by omega);have hg2:=A4t hp s2 s3;rw[A5c]at hg2
  have ho:Ct Rq [.t tp,.t (fv 161)] [(0,Dd op name tp tk)] 1=some (.t (bv (!path.all (AD true))),[(0,Dd op name tp tk)],1):=by
   simp only[Ct,BQ,toT,Xv,hg2,Xm,Rk,if_true]
  rw[hsz2]at hW
  obtain⟨A,hA⟩:∃A,A=path.all (AD true):=⟨_,rfl⟩
  rw[<-hA]at hW ho;have hP0:decide ((0:Int)<(path.length:Int))=decide (0<path.length):=h0;refine BF (α:=Unit) (λ_=>⟨[(1,.ptr 0 0)],[(0,Dd op name tp tk)],1,72⟩) (λ_=>W=if A then 0 else 1) (λ_=>rfl) ?_ ?_
  .cases hK:Es op kids with
   | false=>
    rw[hK]at hW
    have hW1:W=1:=by simpa using hW
    rw[hW1];refine Ap C ?_;simp -implicitDefEqProofs
   | true=>
    rw[hK]at hW
    cases hL:Fy op with
    | true=>
     rw[hL]at hW;simp only[if_true]at hW
     cases hE:name.toList.isEmpty with
     | true=>
      have hN:AD false name=false:=by
       cases h:AD false name with
       | false=>rfl
       | true=>have:=hne h;rw[hE]at this;cases this
      rw[hN]at hW
      have hW1:W=1:=by simpa using hW
      rw[hW1];refine Ap C ?_;simp -implicitDefEqProofs [dl1,hE]
     | false=>
      cases hN:AD false name with
      | false=>
       rw[hN]at hW hgn
       have hW1:W=1:=by simpa using hW
       rw[hW1];refine Ap C ?_;simp -implicitDefEqProofs [LD,dl1,hE,hgn]
      | true=>
       rw[hN]at hW hgn
       cases hP:(decide (op=5)==decide (0<path.length))with
       | false=>
        rw[hP]at hW
        have hW1:W=1:=by simpa using hW
        rw[hW1];refine Ap C ?_;simp -implicitDefEqProofs [LD,dl1,dl2,hlp,hE,hgn,hP]
       | true=>
        rw[hP]at hW
        have hW2:W=if A then 0 else 1:=by simpa using hW
        refine Ap C ?_;simp -implicitDefEqProofs [LD,dl1,dl2,hlp,hE,hgn,hP];exact Am.mk () hW2 (sub_env (by simp -implicitDefEqProofs))
    | false=>
     rw[hL]at hW;simp only[Xk,if_false]at hW
     cases hE:name.toList.isEmpty with
     | false=>
      rw[hE]at hW
      have hW1:W=1:=by simpa using hW
      rw[hW1];refine Ap C ?_;simp -implicitDefEqProofs [LD,dl1,hE]
     | true=>
      rw[hE]at hW
      cases hP:(decide (op=5)==decide (0<path.length))with
      | false=>
       rw[hP]at hW
       have hW1:W=1:=by simpa using hW
       rw[hW1];refine Ap C ?_;simp -implicitDefEqProofs [LD,dl1,dl2,hlp,hE,hP]
      | true=>
       rw[hP]at hW
       have hW2:W=if A then 0 else 1:=by simpa using hW
       refine Ap C ?_;simp -implicitDefEqProofs [LD,dl1,dl2,hlp,hE,hP];exact Am.mk () hW2 (sub_env (by simp -implicitDefEqProofs))
  .rintro⟨⟩ hW2;rw[hW2]
   cases A with
   | true=>
    refine Ap C ?_;simp -implicitDefEqProofs [Pd,dl2,ho]
   | false=>
    refine Ap C ?_;simp -implicitDefEqProofs [Pd,dl2,ho]
noncomputable def fU (ts:List T):Option T:=g1 tD (λd=>open Classical in if D2 d then some (iv (E4 d.op d.name d.path d.kids))else none) ts
theorem A5e:GOK Xa (G q) 137 fU:=D6 λa x r ha hr=>by
 split at hr
 .rename_i hc;injection hr with hr;subst hr;obtain⟨c,rfl,hd⟩:=ha
  cases x with
  | mk op name path kids=>exact A5d hd hc
 .cases hr
theorem A5f {c:List T} {op:Int} {name:ByteArray} {path:List ByteArray} {kids:List Ds} (h:BG (.mk op name path kids) c) (hs:D2 (.mk op name path kids)):fU [.ag c]=some (iv (E4 op name path kids)):=by
 show g1 _ _ _=_;rw[D8 (τ:=tD) (x:=.mk op name path kids) ⟨c,rfl,h⟩];exact zy hs
def Ng (op:Int) (lv:Nat):Nat:=if op=4 then lv else lv+1
theorem A5g {c:List T} {d:Ds} (hd:BG d c) {lv:Nat} (hlv:lv<=1000000):A1 Xa (G q) 138 [.ag c,iv (lv:Int)] (· = iv (Ng d.op lv:Nat)):=by
 cases d with
 | mk op name path kids=>
  obtain⟨tp,tk,rfl,hp,hk⟩:=hd.parts
  obtain⟨lv1,hlv1⟩:∃lv1,lv1=lv+1:=⟨_,rfl⟩
  have el:Xd.wrap ((lv:Int)+1)=(lv1:Int):=AP (by omega) (by omega);unfold Ng Ds.op;rw[<-hlv1];refine s9.call rfl ?_;by_cases h4:op=4
  .have e4:(op==4)=true:=by simpa using h4
   rw[zy h4];refine Ap AL ?_
   (conv in SH=>cbv);simp -implicitDefEqProofs [HU,dl0,e4]
  .have e4:(op==4)=false:=by simpa using h4
   rw[zz h4];refine Ap AL ?_
   (conv in SH=>cbv);simp -implicitDefEqProofs [HU,dl0,e4,el]
noncomputable def UA (ts:List T):Option T:=g2 tD JH (λd lv=>if 0<=lv/\lv<=1000000 then some (iv (Ng d.op lv.toNat:Nat))else none) ts
theorem A5h:GOK Xa (G q) 138 UA:=Do λa b x y r ha hb hr=>by
 split at hr
 .rename_i hc;injection hr with hr;subst hr;obtain⟨c,rfl,hd⟩:=ha;cases hb;obtain⟨n,rfl⟩:=Yj hc.1;exact A5g hd (by omega)
 .cases hr
theorem A5i {c:List T} {d:Ds} (h:BG d c) {lv:Nat} (hl:lv<=1000000):UA [.ag c,iv (lv:Int)]=some (iv (Ng d.op lv:Nat)):=by
 show g2 _ _ _ _=_;rw[Dz (τ:=tD) (σ:=JH) (x:=d) (y:=(lv:Int)) ⟨c,rfl,h⟩ rfl,zy ⟨by omega,by omega⟩,Yi]
section
variable (R : Ab) (a b c d op : T) (name : ByteArray) (tp tk : T) (k : Int) (x0 x1 x2 x3 : PV)
theorem sk1:AM 4 ((1,.cells 57 [x0,x1,x2,x3])::R) (.ptr 1 0) (.t (.ag [a,b,c,d]))=some ((1,.cells 57 [.t a,.t b,.t c,.t d])::R):=rfl
theorem dk1:Aj true 4 ((1,.cells 57 [.t a,.t b,.t c,.t d])::R) (.ptr 1 0)=some (.t (.ag [a,b,c,d])):=rfl
theorem dm4 (X:Row):Aj true 4 ((1,X)::(0,Dd k name tp tk)::R) (.ptr 0 0)=some (.t (.ag [iv k,sv name,tp,tk])):=rfl
end
theorem A5j {m:Nat} (hrec:GOK Xa (G q) 123 (gCh m)) {c:List T} {d:Ds} (hd:BG d c) (hs:D2 d) (hdep:d.depth<=m+1) {lv:Nat} (hlv:lv<=65) :
  A1 Xa (G q) 123 [.ag c,iv (lv:Int)] (· = iv (Bb d lv)):=by
 cases d with
 | mk op name path kids=>
 have hgf:=A5f hd hs;have hgb:=A5i hd (lv:=lv) (by omega);obtain⟨s1,s2,s3,s4,s5⟩:=hs.parts;obtain⟨tp,tk,rfl,hp,hk⟩:=hd.parts;rw[Ds.depth]at hdep;have C:=(As.cons hrec (.cons A5e (.cons A5h .nil))).ctx mixed;have hlp:AO (.t tp)=some (.t (iv (path.length:Int))):=hp.len;have hlk:AO (.t tk)=some (.t (iv (kids.length:Int))):=hk.len
 obtain⟨W,hW⟩:∃W,W=Bb (.mk op name path kids) lv:=⟨_,rfl⟩
 rw[<-hW];rw[Bb]at hW
 obtain⟨lv2,hlv2⟩:∃lv2,lv2=Ng op lv:=⟨_,rfl⟩
 have hl2:(if op=4 then lv else lv+1)=lv2:=hlv2.symm;rw[hl2]at hW
 have hgb:UA [.ag [iv op,sv name,tp,tk],iv (lv:Int)]=some (iv (lv2:Int)):=by rw[hlv2];exact hgb
 generalize E4 op name path kids=F at hgf hW;refine rZ.call rfl ?_;(conv in YD=>cbv);refine Av C ?_;simp -implicitDefEqProofs [HU];refine BF (α:=Unit) (λ_=>⟨[(2,.ptr 0 0),(1,.t (iv (lv:Int)))],[(0,Dd op name tp tk)],1,44⟩) (λ_=>¬(64<lv\/64<path.length\/256<kids.length)) (λ_=>rfl) ?_ ?_
 .by_cases b1:64<lv
  .have b1':(64:Int)<(lv:Int):=by omega
   rw[zy (.inl b1)]at hW;rw[hW];refine Ap C ?_;simp -implicitDefEqProofs [b1,b1']
  have b1':¬(64:Int)<(lv:Int):=by omega
  by_cases b2:64<path.length
  .have b2':(64:Int)<(path.length:Int):=by omega
   rw[zy (.inr (.inl b2))]at hW;rw[hW];refine Ap C ?_;simp -implicitDefEqProofs [b1,b1',dl2,hlp,b2,b2']
  have b2':¬(64:Int)<(path.length:Int):=by omega
  by_cases b3:256<kids.length
  .have b3':(256:Int)<(kids.length:Int):=by omega
   rw[zy (.inr (.inr b3))]at hW;rw[hW];refine Ap C ?_;simp -implicitDefEqProofs [b1,b1',dl2,hlp,b2,b2',dl3,hlk,b3,b3']
  have b3':¬(256:Int)<(kids.length:Int):=by omega
  refine Ap C ?_;simp -implicitDefEqProofs [b1,b1',dl2,hlp,b2,b2',dl3,hlk,b3,b3'];exact Am.mk () trivial (sub_env (by simp -implicitDefEqProofs))
 .rintro⟨⟩ hn;rw[zz hn]at hW
  have hlv64:lv<=64:=by omega
  by_cases hF:F=0
  .rw[zz (λh=>h hF)]at hW
   have hF':(F != 0)=false:=by simpa using hF
   refine Av C ?_;simp -implicitDefEqProofs [dl4,hgf,hF']
   have hlv65:lv2<=65:=by rw[hlv2];unfold Ng;split<;>omega
   refine BF (α:=Unit) (λ_=>⟨[],[],1,44⟩) (λ_=>W=0) (λ_=>rfl) ?_ ?_
   .refine Av C ?_;simp -implicitDefEqProofs [dl3,hlk];refine BD ?_;refine D5 (α:=Nat) (λj=>⟨[(31,.t (iv (j:Int))),(30,.t (iv (kids.length:Int))),(29,.t tk),(1,.t (iv (lv:Int))),(2,.ptr 0 0)],[(0,Dd op name tp tk)],1,44⟩) (λj=>kids.length-j) (λj=>j<=kids.length/\DS (kids.drop j) lv2=W) 0 (λ_=>rfl) ⟨by omega,by rw[Xn];exact hW.symm⟩ (sub_env (by simp -implicitDefEqProofs)) rfl ?_;rintro j ⟨hj,heq⟩;by_cases hlt:j<kids.length
    .obtain⟨x,hx⟩:∃x,kids[j]?=some x:=⟨_,Xe hlt⟩
     obtain⟨p,ci,h1,h2,h3⟩:=OJ hk hx
     have hlt':(j:Int)<(kids.length:Int):=by omega
     have hmem:=Xi hx;have hg:=fS (m:=m) h3 (s5 x hmem) (by have:=SE hmem;omega) hlv65;rw[Xh hlt]at heq
     have hxe:kids[j]=x:=by rw[Xe hlt]at hx;injection hx
     rw[hxe,DS]at heq
     obtain⟨xo,xn,xp,xk,rfl⟩:∃xo xn xp xk,x = .mk xo xn xp xk:=by cases x;exact⟨_,_,_,_,rfl⟩
     obtain⟨xtp,xtk,rfl,_,_⟩:=h3.parts;generalize Bb (.mk xo xn xp xk) lv2=E at hg heq;by_cases b:E=0
     .rw[zz (λh=>h b)]at heq;rw[b]at hg
      obtain⟨j1,hj1⟩:∃j1,j1=j+1:=⟨_,rfl⟩
      have ej:Xd.wrap ((j:Int)+1)=(j1:Int):=AP (by omega) (by omega);refine Ap C ?_;simp -implicitDefEqProofs [dl3,hlk,hlt,hlt',h1,h2,hg,ej,sk1,dk1,dm4,hgb];refine Am.mk j1 ⟨⟨by omega,by rw[hj1];exact heq⟩,by omega⟩ (A2z [] (by omega) (by simp -implicitDefEqProofs [A3a,A3b,under]) ?_);intro y hy;simp only[Xq]at hy;subst hy;exact⟨by simp,by show 0<1;omega,rfl,_,rfl,rfl⟩
     .rw[zy b]at heq
      have b':(E != 0)=true:=by simpa using b
      rw[<-heq];refine Ap C ?_;simp -implicitDefEqProofs [dl3,hlk,hlt,hlt',h1,h2,hg,sk1,dk1,dm4,hgb,b']
    .have hlt':¬(j:Int)<(kids.length:Int):=by omega
     rw[Xz (by omega),DS]at heq;refine Ap C ?_;simp -implicitDefEqProofs [dl3,hlk,hlt,hlt'];exact Am.mk () heq.symm (AQ rfl rfl (by simp -implicitDefEqProofs) (by simp -implicitDefEqProofs))
   .rintro⟨⟩ hW0;rw[hW0];refine Ap C ?_;simp -implicitDefEqProofs
  .rw[zy hF]at hW
   have hF':(F != 0)=true:=by simpa using hF
   rw[hW];refine Av C ?_;simp -implicitDefEqProofs [dl4,hgf,hF']
theorem fV:∀m,GOK Xa (G q) 123 (gCh m)
 | 0=>Do λa b x y r ha hb hr=>by
  split at hr
  .rename_i hc
   cases x with
   | mk _ _ _ _=>have:=hc.2.1;rw[Ds.depth]at this;omega
  .cases hr
 | m+1=>Do λa b x y r ha hb hr=>by
  split at hr
  .rename_i hc;obtain⟨h1,h2,h3,h4⟩:=hc;injection hr with hr;subst hr;obtain⟨c,rfl,hcx⟩:=ha;cases hb;obtain⟨n,rfl⟩:=Yj h3;exact A5j (fV m) hcx h1 h2 (by omega)
  .cases hr
theorem fW:GOK Xa (G q) 106 Nf:=D6 λa x r ha hr=>by
 split at hr
 .rename_i hc;injection hr with hr;subst hr;obtain⟨c,rfl,hd⟩:=ha;have hg:=fS (m:=x.depth) hd hc (Xo _) (lv:=1) (by omega)
  cases x with
  | mk op name path kids=>
   obtain⟨tp,tk,rfl,hp,hk⟩:=hd.parts;have C:=(As.cons (fV (q:=q) (Ds.mk op name path kids).depth) .nil).ctx mixed;generalize Bb (.mk op name path kids) 1=W at hg;have hg:gCh (Ds.mk op name path kids).depth [.ag [iv op,sv name,tp,tk],.v (.int .i64 1)]=some (iv W):=hg;refine rY.call rfl ?_;refine Ap C ?_
   (conv in YC=>cbv);simp -implicitDefEqProofs [HU,dl4,hg]
 .cases hr
theorem Ib (nx ty:Nat) (a b:PV) (R:Ab):Aj false 1 ((nx,.cells ty [a,b])::R) (.ptr nx 0)=some a:=by simp[Aj,Az]
theorem Ic (nx ty:Nat) (a b:PV) (R:Ab):Aj false 1 ((nx,.cells ty [a,b])::R) (.ptr nx 1)=some b:=by simp[Aj,Az]
theorem Ie (H:Ab) (a b:T) (r:List T):Aj true 2 H (.t (.pt (a::b::r)))=some (.t (.ag [a,b])):=rfl
theorem Ig (nx ty:Nat) (z1 z2:PV) (a b:T) (R:Ab):AM 2 ((nx,.cells ty [z1,z2])::R) (.ptr nx 0) (.t (.ag [a,b]))=some ((nx,.cells ty [.t a,.t b])::R):=Dv (zs:=[z1,z2]) (ds:=[a,b]) rfl rfl R
def Pe (H0:Ab) (t:T) (n j:Nat):Ad:=⟨[(24,.t (iv (j:Int))),(23,.t (iv (n:Int))),(22,.t t),(1,.ptr 0 0)],H0,1,50⟩
def Pf (t:T) (n:Nat) (c:Nat×Ab×Nat):Ad:=⟨[(35,.t (iv (c.1:Int))),(34,.t (iv (n:Int))),(33,.t t)],c.2.1,c.2.2,50⟩
structure FiJ {α:Type} (one:α->Int) (L:List α) (j:Nat):Prop where
 i:j<=L.length
 e:AV one L=AV one (L.drop j)
theorem UB {s:ByteArray}:Eb s≠0 ↔ AD false s=false:=by
 unfold Eb;cases AD false s<;>decide
theorem A5k {x:TyD} {c:List T} (hx:FP x c) (hz:SzT x):A1 Xa (G q) 68 [.ag c] (· = iv (G9 x)):=by
 obtain⟨R,hR⟩:∃R,R=G9 x:=⟨_,rfl⟩
 rw[<-hR];unfold G9 at hR;obtain⟨U,E,rfl,ts,tf⟩:=hx;have lU:AO (.t U)=some (.t (iv (x.supers.length:Int))):=ts.len;have lE:AO (.t E)=some (.t (iv (x.feats.length:Int))):=tf.len;have gn:=LB hz.n;have hc:Bj (.t (.ag [sv x.name,U,E]))=some [.t (sv x.name),.t U,.t E]:=rfl
 obtain⟨H0,hH0⟩:∃H0:Ab,H0=[(0,.cells 112 [.t (sv x.name),.t U,.t E])]:=⟨_,rfl⟩
 have q0:Aj false 1 H0 (.ptr 0 0)=some (.t (sv x.name)):=by rw[hH0];rfl
 have q1:Aj false 1 H0 (.ptr 0 1)=some (.t U):=by rw[hH0];rfl
 have q2:Aj false 1 H0 (.ptr 0 2)=some (.t E):=by rw[hH0];rfl
 refine CG (args:=[.ag [sv x.name,U,E]]) ?_;refine tO.callX rfl ?_;(conv in ZK=>cbv);refine Ae Ac ?_;simp -implicitDefEqProofs [hc];refine Bg (s':=⟨[(1,.ptr 0 0)],H0,1,50⟩) (by rw[hH0];exact sub_env (by simp -implicitDefEqProofs)) rfl ?_;clear hH0
 cases hn:AD false x.name with
 | false=>
  rw[hn]at gn;rw[zy hn]at hR;refine Ae Gi ?_;simp -implicitDefEqProofs [q0,FQ,gn];exact A0 ⟨.t (iv 1),H0,1⟩ ⟨by rw[hR]⟩ (by simp -implicitDefEqProofs)
 | true=>
 rw[hn]at gn;rw[zz (by rw[hn];decide)]at hR;refine Ae Gi ?_;simp -implicitDefEqProofs [q0,FQ,gn];by_cases h1:256<x.supers.length
 .rw[zy (.inl h1)]at hR
  have d1:(256:Int)<(x.supers.length:Int):=by omega
  refine Ae Ac ?_;simp -implicitDefEqProofs [q1,q2,lU,lE,d1,h1];exact A0 ⟨.t (iv 7),H0,1⟩ ⟨by rw[hR]⟩ (by simp -implicitDefEqProofs)
 have d1:¬(256:Int)<(x.supers.length:Int):=by omega
 by_cases h2:256<x.feats.length
 .rw[zy (.inr h2)]at hR
  have d2:(256:Int)<(x.feats.length:Int):=by omega
  refine Ae Ac ?_;simp -implicitDefEqProofs [q1,q2,lU,lE,d1,h1,d2,h2];exact A0 ⟨.t (iv 7),H0,1⟩ ⟨by rw[hR]⟩ (by simp -implicitDefEqProofs)
 have d2:¬(256:Int)<(x.feats.length:Int):=by omega
 rw[zz (by omega)]at hR;refine Ae Ac ?_;simp -implicitDefEqProofs [q1,q2,lU,lE,d1,h1,d2,h2];refine AE (α:=Unit) (λ_=>⟨[(1,.ptr 0 0)],H0,1,50⟩) (λ_=>AV Eb x.supers=0) (λ_=>rfl) ?_ ?_
 .refine Ae Ac ?_;simp -implicitDefEqProofs [q1,lU];refine AG ?_;refine BV (Pe H0 U x.supers.length) (λc=>x.supers.length-c) (FiJ Eb x.supers) 0 (λ_=>rfl) ⟨Xf _,rfl⟩ (sub_env (by simp -implicitDefEqProofs [Pe])) rfl ?_;rintro j ⟨hj,he⟩;by_cases hlt:j<x.supers.length
  rotate_left
  .have hlt':¬(j:Int)<(x.supers.length:Int):=by omega
   rw[Xg (by omega)]at he;refine Ae Ac ?_;simp -implicitDefEqProofs [Pe,hlt,hlt'];refine Ae Ac ?_;simp -implicitDefEqProofs;exact Am.mk () he (sub_env (by simp -implicitDefEqProofs))
  have hlt':(j:Int)<(x.supers.length:Int):=by omega
  obtain⟨y,hy⟩:∃y,x.supers[j]?=some y:=⟨_,Xe hlt⟩
  rw[LC hy]at he;have ia:Bd 1 (.t U) (.t (iv (j:Int)))=some (.t (.pt (sv y::AU Ak x.supers j))):=ts.iaddr hy .i64;have g:=LB (hz.s.2 y (Xi hy));have hl:=hz.s.1;have e1:Xd.wrap ((j:Int)+1)=((j+1:Nat):Int):=AP (by omega) (by omega);refine Ae Ac ?_;simp -implicitDefEqProofs [Pe,hlt,hlt'];refine Ae Ac ?_;simp -implicitDefEqProofs
  cases hb:AD false y with
  | true=>
   rw[hb]at g;rw[zz (by rw[UB,hb];decide)]at he;refine Ar Gi ?_;simp -implicitDefEqProofs [ia,ldS,FQ,g,e1];exact Am.mk (j+1) ⟨⟨by omega,he⟩,by omega⟩ (sub_env (by simp -implicitDefEqProofs [Pe]))
  | false=>
   rw[hb]at g;rw[zy (UB.2 hb)]at he
   have hf:AV Eb x.supers≠0:=by rw[he];exact UB.2 hb
   rw[zy hf]at hR;refine Ar Gi ?_;simp -implicitDefEqProofs [ia,ldS,FQ,g];exact A0 ⟨.t (iv 1),H0,1⟩ ⟨by rw[hR]⟩ (by simp -implicitDefEqProofs)
 rintro _ hsup;rw[zz (λh=>h hsup)]at hR;refine AE (α:=Unit×Ab×Nat) (λc=>⟨[],c.2.1,c.2.2,50⟩) (λ_=>R=0) (λ_=>rfl) ?_ ?_
 rotate_left
 .rintro⟨_,H,nx⟩ hz0;refine Ar Ac ?_;simp -implicitDefEqProofs;exact A0 ⟨.t (iv 0),H,nx⟩ ⟨by rw[hz0]⟩ (by simp -implicitDefEqProofs)
 refine Ae Ac ?_;simp -implicitDefEqProofs [q2,lE];refine AG ?_;refine BV (Pf E x.feats.length) (λc=>x.feats.length-c.1) (FiI FD x.feats) (0,H0,1) (λ_=>rfl) ⟨Xf _,rfl⟩ (sub_env (by simp -implicitDefEqProofs [Pf])) rfl ?_;rintro⟨j,H,nx⟩ ⟨hj,he⟩;simp only at hj he;by_cases hlt:j<x.feats.length
 rotate_left
 .have hlt':¬(j:Int)<(x.feats.length:Int):=by omega
  rw[Xg (by omega)]at he;refine Ae Ac ?_;simp -implicitDefEqProofs [Pf,hlt,hlt'];refine Ae Ac ?_;simp -implicitDefEqProofs;exact Am.mk ((),H,nx) (by rw[hR,he];rfl) (sub_env (by simp -implicitDefEqProofs))
 have hlt':(j:Int)<(x.feats.length:Int):=by omega
 obtain⟨y,hy⟩:∃y,x.feats[j]?=some y:=⟨_,Xe hlt⟩
 rw[LC hy]at he;have ia:Bd 2 (.t E) (.t (iv (j:Int)))=some (.t (.pt (sv y.1::sv y.2::AU eFt x.feats j))):=tf.iaddr hy .i64;obtain⟨k1,k2⟩:=hz.f.2 y (Xi hy);have g1:=Rj k1;have g2:=LB k2;have hl:=hz.f.1;have e1:Xd.wrap ((j:Int)+1)=((j+1:Nat):Int):=AP (by omega) (by omega);refine Ae Ac ?_;simp -implicitDefEqProofs [Pf,hlt,hlt'];refine Ae Ac ?_;simp -implicitDefEqProofs
 cases hb1:AD true y.1 with
 | false=>
  rw[hb1]at g1
  have hd:FD y=1:=by unfold FD;rw[hb1];rfl
  rw[hd,zy (by decide)]at he;refine Ar Gi ?_;simp -implicitDefEqProofs [ia,Ie,Ig,Ib,Ic,FQ,g1];exact A0 ⟨.t (iv 1),(nx,.cells 142 [.t (sv y.1),.t (sv y.2)])::H,nx+1⟩ ⟨by rw[hR,he]⟩ (by simp -implicitDefEqProofs)
 | true=>
  rw[hb1]at g1
  cases hb2:AD false y.2 with
  | false=>
   rw[hb2]at g2
   have hd:FD y=1:=by unfold FD;rw[hb1,hb2];rfl
   rw[hd,zy (by decide)]at he;refine Ar Gi ?_;simp -implicitDefEqProofs [ia,Ie,Ig,Ib,Ic,FQ,g1,g2];exact A0 ⟨.t (iv 1),(nx,.cells 142 [.t (sv y.1),.t (sv y.2)])::H,nx+1⟩ ⟨by rw[hR,he]⟩ (by simp -implicitDefEqProofs)
  | true=>
   rw[hb2]at g2
   have hd:FD y=0:=by unfold FD;rw[hb1,hb2];rfl
   rw[hd,zz (by decide)]at he;refine Ar Gi ?_;simp -implicitDefEqProofs [ia,Ie,Ig,Ib,Ic,FQ,g1,g2,e1];exact Am.mk (j+1,(nx,.cells 142 [.t (sv y.1),.t (sv y.2)])::H,nx+1) ⟨⟨by show j+1<=x.feats.length;omega,he⟩,by show x.feats.length-(j+1)<x.feats.length-j;omega⟩ (sub_env (by simp -implicitDefEqProofs [Pf]))
noncomputable def fX (ts:List T):Option T:=g1 tTy (λd=>open Classical in if SzT d then some (iv (G9 d))else none) ts
theorem A5l {x:TyD} {c:List T} (hx:FP x c) (h:SzT x):fX [.ag c]=some (iv (G9 x)):=by
 show g1 _ _ _=_;rw[D8 (τ:=tTy) (x:=x) ⟨c,rfl,hx⟩,zy h]
theorem A5m:GOK Xa (G q) 68 fX:=D6 λa x r ha hr=>by
 split at hr
 .rename_i hc;injection hr with hr;subst hr;obtain⟨c,rfl,hd⟩:=ha;exact A5k hd hc
 .cases hr
noncomputable def fY (ts:List T):Option T:=g1 (tSl Ak) (λp=>open Classical in if p.length<=1000000/\∀s∈p,SzS s then some (iv (G8 p))else none) ts
theorem A5n {t:T} {p:List ByteArray} (ht:IsS Ak t p) (hl:p.length<=1000000) (hs:∀s∈p,SzS s):fY [t]=some (iv (G8 p)):=by
 show g1 _ _ _=_;rw[D8 (τ:=tSl Ak) (x:=p) ht,zy ⟨hl,hs⟩]
theorem A5o:GOK Xa (G q) 76 fY:=D6 λa x r ha hr=>by
 split at hr
 .rename_i hc;injection hr with hr;subst hr;exact A5a ha hc.1 hc.2
 .cases hr
def Ec (c:UInt8):Bool:=decide (32<=c.toNat/\c.toNat<=126/\c.toNat≠34)
def F0 (s:ByteArray):Bool:=s.data.toList.all Ec
def SQu (s:ByteArray) (n j:Nat):Ad:=⟨[(6,.t (iv (j:Int))),(5,.t (iv (n:Int))),(0,.t (sv s))],[],0,26⟩
structure QuI (L:List UInt8) (j:Nat):Prop where
 i:j<=L.length
 e:L.all Ec=(L.drop j).all Ec
theorem A5p (s:ByteArray) (hs:SzS s):A1 Xa (G q) 107 [sv s] (· = bv (F0 s)):=by
 obtain⟨R,hR⟩:∃R,R=F0 s:=⟨_,rfl⟩
 rw[<-hR];unfold F0 at hR
 obtain⟨L,hL⟩:∃L,L=s.data.toList:=⟨_,rfl⟩
 rw[<-hL]at hR
 have hlen:L.length=s.size:=by rw[hL];rfl
 have hs':s.size<=1000000:=hs;refine CG (args:=[sv s]) ?_;refine uF.callX rfl ?_;(conv in ZZ=>cbv);refine Ae Ac ?_;simp -implicitDefEqProofs;refine AE (α:=Unit) (λ_=>⟨[],[],0,26⟩) (λ_=>R=true) (λ_=>rfl) ?_ ?_
 rotate_left
 .rintro _ hz;refine Ar Ac ?_;simp -implicitDefEqProofs;exact A0 ⟨.t (bv true),[],0⟩ ⟨by rw[hz]⟩ (by simp -implicitDefEqProofs)
 refine Ae Ac ?_;simp -implicitDefEqProofs;refine AG ?_;refine BV (SQu s s.size) (λc=>s.size-c) (QuI L) 0 (λ_=>rfl) ⟨Xf _,rfl⟩ (sub_env (by simp -implicitDefEqProofs [SQu])) rfl ?_;rintro j ⟨hj,he⟩;by_cases hlt:j<s.size
 rotate_left
 .have hlt':¬(j:Int)<(s.size:Int):=by omega
  rw[Xg (by omega)]at he;refine Ae Ac ?_;simp -implicitDefEqProofs [SQu,hlt,hlt'];refine Ae Ac ?_;simp -implicitDefEqProofs;exact Am.mk () (by rw[hR,he];rfl) (sub_env (by simp -implicitDefEqProofs))
 have hlt':(j:Int)<(s.size:Int):=by omega
 obtain⟨c,hc⟩:∃c,L[j]?=some c:=⟨_,Xe (by omega)⟩
 have hdr:L.drop j=c::L.drop (j+1):=by
  obtain⟨h1,h2⟩:=Xj.1 hc;rw[<-h2,Xh h1]
 rw[hdr,Zc]at he;have ix:=DM s j c (by rw[<-hL];exact hc);have e1:Xd.wrap ((j:Int)+1)=((j+1:Nat):Int):=AP (by omega) (by omega);refine Ae Ac ?_;simp -implicitDefEqProofs [SQu,hlt,hlt'];refine Ae Ac ?_;simp -implicitDefEqProofs;by_cases c1:c.toNat<32
 .have d1:(c.toNat:Int)<32:=by omega
  have hq:Ec c=false:=zx (by omega);rw[hq,Ya]at he;refine Ar Ac ?_;simp -implicitDefEqProofs [ix,cv,c1,d1];exact A0 ⟨.t (bv false),[],0⟩ ⟨by rw[hR,he]⟩ (by simp -implicitDefEqProofs)
 have d1:¬(c.toNat:Int)<32:=by omega
 by_cases c2:126<c.toNat
 .have d2:(126:Int)<(c.toNat:Int):=by omega
  have hq:Ec c=false:=zx (by omega);rw[hq,Ya]at he;refine Ar Ac ?_;simp -implicitDefEqProofs [ix,cv,c1,d1,c2,d2];exact A0 ⟨.t (bv false),[],0⟩ ⟨by rw[hR,he]⟩ (by simp -implicitDefEqProofs)
 have d2:¬(126:Int)<(c.toNat:Int):=by omega
 by_cases c3:c.toNat=34
 .have d3:((c.toNat:Int)==34)=true:=by rw[beq_iff_eq];omega
  have hq:Ec c=false:=zx (by omega);rw[hq,Ya]at he;refine Ar Ac ?_;simp -implicitDefEqProofs [ix,cv,c1,d1,c2,d2,c3,d3];exact A0 ⟨.t (bv false),[],0⟩ ⟨by rw[hR,he]⟩ (by simp -implicitDefEqProofs)
 have d3:((c.toNat:Int)==34)=false:=by rw[zu];omega
 have hq:Ec c=true:=zw (by omega);rw[hq,Zd]at he;refine Ar Ac ?_;simp -implicitDefEqProofs [ix,cv,c1,d1,c2,d2,c3,d3,e1];exact Am.mk (j+1) ⟨⟨by omega,he⟩,by omega⟩ (sub_env (by simp -implicitDefEqProofs [SQu]))
end Go.Proofs.YtobnacghaamfoaaGreatDoor
namespace Go.Abs
open Go
section
variable {P : Program} {G : A2} {B N : Nat} {Φ : A7}
theorem A5q (hmix:P.follows .mixedOrders=true) (hΦ:Φ.Sound P G) {Q:Exit->Ad->Prop} {s:Ad} {id:Nat} {ops:Array Oper} {l:List A3} (ha0:ops.toList.mapM (EZ P G N true ops)=some l)
  (can:(Nat->Bool)->Ad) (Ok:(Nat->Bool)->Prop) (hn:∀b,(can b).n=N)
  (back:∀(i:Nat) o,ops[i]?=some o->∀e∈o.after.toList,Region.binds .any e=true->e.on<i)
  (h0:Sub P G B s (can λ_=>false)) (ok0:Ok λ_=>false)
  (step:∀b,Ok b->∀(i:Nat) o m,ops[i]?=some o->l[i]?=some m->b i=false->(∀e∈o.after.toList,Region.binds .any e=true->b e.on=true) ->
   m.g=none/\∃r H' nx',Ai Φ (can b).H (can b).nx m.k (m.xs.map (·.ev (can b).env))=some (r,H',nx')/\Ok (λj=>if i=j then true else b j) /\
    Sub P G B (({ can b with H:=H',nx:=nx' }:Ad).put m.dst r) (can λj=>if i=j then true else b j))
  (stop:∀b,Ok b->(∀i,i<ops.size->b i=true)->Q .normal (can b)):Cq P G B (.region id ops true) Q s:=by
 intro L0 a0 w0 hi0;have ha:=Mv ha0;refine wp_region_any hmix ?_
 have main:∀(fuel:Nat) (S:Array Bool) (L:Loc) (a:Act) (w:World),S.size=ops.size->ops.size<=cnt S+fuel->Ok (λi=>S.getD i false)->Interp P G B L (can λi=>S.getD i false) a w ->
   Ext L0 s.H w0 L (can λi=>S.getD i false).H w->(∀b,b<B->L.μ b=L0.μ b)->wpAny P .any ops (BT P G B Q L0 s.H w0) fuel S a w:=by
  intro fuel
  induction fuel with
  | zero=>
   intro S L a w hs hc hok hi hx hμ;have hall:=S1 (S:=S) (by omega);refine⟨?_,_,L,stop _ hok (λi hi=>hall i (by omega)),hi,hx,hμ⟩;rw[List.eq_nil_iff_forall_not_mem];intro i hi;obtain⟨h1,h2,_⟩:=NQ hi;rw[JB (by omega),hall i (by omega)]at h2;cases h2
  | succ fuel ih=>
   intro S L a w hs hc hok hi hx hμ;refine⟨λhr=>⟨_,L,stop _ hok (λi=>?_),hi,hx,hμ⟩,λi hir=>?_⟩
   .induction i using Nat.strongRecOn with
    | _ i ihi=>
     intro hil
     cases hS':S.getD i false with
     | true=>rfl
     | false=>
      exfalso
      have:i∈Region.ready .any ops S:=Sz (o:=ops[i]) (Ze hil) (by rw[JB (by omega)];exact hS')
       (λe he hb=>by
        have:=back i _ (Ze hil) e he hb
        exact ihi _ this (by omega))
      rw[hr]at this;cases this
   .obtain⟨hi1,hun,o,ho,hp⟩:=NQ hir;rw[JB (by omega)]at hun;obtain⟨m,hm,hcomp⟩:=(ha.at_ i).1 o (by simpa using ho);obtain⟨hk,hdst,hd,hw⟩:=NM hcomp;obtain⟨hg,r,H',nx',he,hok',hsub⟩:=step _ hok i o m ho hm hun hp
    have hww:(can λi=>S.getD i false).wants ops o=some true:=by rw[hw];simp[A3.wants,hg]
    have hd':∀k,o.dst=some k->k<(can λi=>S.getD i false).n:=λk hk=>by rw[hn];exact hd k hk
    have hset:(λj=>(S.setIfInBounds i true).getD j false)=λj=>if i=j then true else S.getD j false:=by
     funext j;exact Ey S i j (by omega)
    have hc':ops.size<=cnt (S.setIfInBounds i true)+fuel:=by rw[S0 (by omega) hun];omega
    unfold wpOp;rw[ho];simp only;rw[zy (hi.wants hww)];refine .inl (FY ?_ (λ_ _ _ h=>h.elim) (J8 hΦ hk he L a w hi));rintro a' w' ⟨v,L',rfl,hr,hheap,rfl,hmo,hxx⟩;have hi':=N5 hi hd' hr hheap hmo;rw[<-hdst]at hi';obtain⟨L2,hi2,hx2,hμ2⟩:=hsub L' _ w' hi';rw[EA]at hx2;rw[hdst]at hi2;refine ih _ L2 _ w' (by simpa using hs) hc' (by rw[hset];exact hok') (by rw[hset];exact hi2) (by rw[hset];exact(hx.trans hxx).trans hx2) (λb hb=>?_);rw[hμ2 b hb,hmo.μ b (Ye hb hi.base),hμ b hb]
 obtain⟨hok,hm,hx⟩:=hi0.heap.of_heap (w':={ w0 with drawn:=w0.drawn+1 }) ⟨rfl,rfl,rfl⟩ rfl
 have hi0':Interp P G B L0 s a0 { w0 with drawn:=w0.drawn+1 }:=⟨hok,hi0.nx,hi0.base,hi0.size,hi0.defers,λk u hu=>Af.keep hm u (hi0.env k u hu)⟩
 obtain⟨L1,hi1,hx1,hμ1⟩:=h0 L0 a0 _ hi0'
 have hfalse:(λi=>(Yv ops.size false).getD i false)=λ_:Nat=>false:=by
  funext i;simp only[Array.getD_eq_getD_getElem?,Array.getElem?_replicate];split<;>rfl
 refine main ops.size _ L1 a0 _ (by simp) (by omega) (by rw[hfalse];exact ok0) (by rw[hfalse];exact hi1) (by rw[hfalse];exact hx.trans hx1) hμ1
end
end Go.Abs
