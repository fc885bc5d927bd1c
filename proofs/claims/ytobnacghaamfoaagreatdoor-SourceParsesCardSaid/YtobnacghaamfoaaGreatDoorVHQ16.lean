/- Auxiliary facts. -/
import Derived.Test.YtobnacghaamfoaaGreatDoorVHQ15
import Derived.Defers
import Derived.Recover
import Derived.Deep.RegionHeld3
set_option linter.unusedSimpArgs false
set_option maxRecDepth 100000
set_option maxHeartbeats 0
set_option linter.unusedVariables false
open Go.Proofs.Tryz renaming prog->Xa,ntmps155->X8,func133->X9,func155->Yp,results155->Yz,ntmps133->Y1,results133->Y2
open List renaming length_map->Xb,getElem?_eq_some_iff->Xh,mem_cons->Xi,length_drop->Xj,getElem?_eq_getElem->Xk,drop_zero->Xl,length_append->Xm,not_mem_nil->Xn,mem_singleton->Xp,append_nil->Xu,drop_drop->Xw,takeWhile_cons->Xy,take_of_length_le->Xz,length_cons->X0,nil_append->X1,length_singleton->X2,isEmpty_cons->X3,take_succ_cons->X5,drop->X6,mem_cons_self->Yb,map_cons->Yc,map_nil->Yd,drop_eq_nil_of_le->Yg,isPrefixOf->Yj,size_toArray->Yq,length_nil->Yr,push_toArray->Yw,append_toArray->Yx,cons_append->Yy,drop_eq_getElem_cons->Y8,length_take->Zb,isPrefixOf_iff_prefix->Zd,mem_or_eq_of_mem_set->Ze
open Go.IntKind renaming i64->Xc
open Go.Abs renaming upd->Xd,rowP->X7
open Bool renaming false_eq_true->Xe,and_eq_true->Xs,not_false->Ye,true_and->Yf,or_self->Yi,true_or->Yk,or_true->Yl,and_eq_false_iff->Y7,or_eq_true_iff->Za,or_eq_false_iff->Zc
open Nat renaming le_refl->Xf,le_succ->Xg,zero_add->Xo,lt_succ_self->Xq,zero_le->Xx,le_trans->Ym,mul_le_mul->Yn,succ_le_succ->Yo,reduceAdd->Ys,reduceSub->Yt,lt_of_lt_of_le->Y4,le_add_right->Y5
open Array renaming size_push->Xr,getElem?_push->Xv,replicate_succ->Yu,replicate_zero->Yv,getElem?_modify->Y0,toList_inj->Y3
open Int renaming eq_ofNat_of_zero_le->Xt,natCast_zero->Yh
open UInt8 renaming toNat_inj->X4,ofNat->Y9
open Option renaming map_some->Ya,getD_some->Y6
namespace Go.Proofs.YtobnacghaamfoaaGreatDoor
open Go Go.RowKit
def GD (w:World) (g0 g1 g2:Nat) (er:Int):World:=
 (((((w.setCell ⟨g0,0,none⟩ (.int .i64 0)).setCell ⟨g0,1,none⟩ (.string ⟨#[]⟩)).setCell ⟨g0,2,none⟩ (.slice none 0 0)).setCell ⟨g0,3,none⟩ (.slice none 0 0)).setCell ⟨g1,0,none⟩ (.int .i64 0)).setCell ⟨g2,0,none⟩ (.int .i64 er)
theorem xT {er:Int} {g0 g1 g2:Nat} {w:World} {x0 x1 x2 x3 y0 z0:Value} (h0:w.heap[g0]?=some (.cells #[x0,x1,x2,x3] 57 (0,0))) (h1:w.heap[g1]?=some (.cells #[y0] 3 (0,0))) (h2:w.heap[g2]?=some (.cells #[z0] 24 (0,0)))
  (d1:g0≠g1) (d2:g0≠g2) (d3:g1≠g2) :
  CallsD Xa 155 #[.pointer (some ⟨g0,0,none⟩),.pointer (some ⟨g1,0,none⟩),.pointer (some ⟨g2,0,none⟩)] (.panicking (Cv er)) w λe u' w'=>
   e = .returned (.tuple #[])/\u' = .panicking [{ v:=.iface 24 (.int .i64 er),recovered:=true }]/\w'=GD w g0 g1 g2 er:=by
 have c0:w.cell? ⟨g0,0,none⟩=some x0:=by simp[World.cell?,h0]
 have c1:w.cell? ⟨g0,1,none⟩=some x1:=by simp[World.cell?,h0]
 have c2:w.cell? ⟨g0,2,none⟩=some x2:=by simp[World.cell?,h0]
 have c3:w.cell? ⟨g0,3,none⟩=some x3:=by simp[World.cell?,h0]
 have c4:w.cell? ⟨g1,0,none⟩=some y0:=by simp[World.cell?,h1]
 have c5:w.cell? ⟨g2,0,none⟩=some z0:=by simp[World.cell?,h2]
 have f0:∀o,w.frozen? ⟨g0,o,none⟩=false:=λo=>by simp[World.frozen?,h0]
 have f1:∀o,w.frozen? ⟨g1,o,none⟩=false:=λo=>by simp[World.frozen?,h1]
 have f2:∀o,w.frozen? ⟨g2,o,none⟩=false:=λo=>by simp[World.frozen?,h2]
 have e1:g1≠g0:=Ne.symm d1;have e2:g2≠g0:=Ne.symm d2;have e3:g2≠g1:=Ne.symm d3;clear h0 h1 h2;refine callsD_of_wpS Yp rfl λc₀ cs hu=>?_;simp only[X8,Yq,X0,Yr,Ys,Yt,Yu,Yv,Yw,Yx,X1,Yy]
 have hta:∀w:World,(Instr.typeAssert (.iface 24 (.int .i64 er)) 20 24 true).run Xa w = .ok (.tuple #[.int .i64 er,.bool true]) w:=λw=>by kernel_rfl
 apply wpS_seq;apply wpS_region;simp[wpOpsS,go_sem,recoverD,hu,X8,Exit.thenS];apply wpS_seq;apply wpS_region;simp[wpOpsS,go_sem,Exit.thenS];refine wpS_cond (t:=true) (by simp[Act.eval,Array.replicate]) ?_;simp only[if_true];refine wpS_of_wp ?_;clear hu
 go_wp2
 cases c₀;simp_all [bodyPostS,results,Yz,GD]
theorem xU {g0 g1 g2:Addr} {w:World} :
  CallsD Xa 155 #[.pointer (some g0),.pointer (some g1),.pointer (some g2)] .returning w λe u' w'=>e = .returned (.tuple #[])/\u' = .returning/\w'=w:=by
 refine callsD_of_wpS Yp rfl λc₀ cs hu=>?_;simp only[X8,Yq,X0,Yr,Ys,Yt,Yu,Yv,Yw,Yx,X1,Yy];apply wpS_seq;apply wpS_region;simp[wpOpsS,go_sem,recoverD,hu,Exit.thenS];apply wpS_seq;apply wpS_region;simp[wpOpsS,go_sem,Exit.thenS];refine wpS_cond (t:=false) (by simp[Act.eval]) ?_;simp only[Xe,if_false];refine wpS_of_wp (wp_skip ?_);cases c₀;simp_all [bodyPostS,results,Yz]
abbrev DL (w:World) (x:Value) (i:Int):World:=(((w.alloc (.cells #[.int .i64 0,.string ⟨#[]⟩,.slice none 0 0,.slice none 0 0] 57)).alloc (.cells #[.int .i64 0] 3)).alloc (.cells #[.int .i64 0] 24)).alloc (.cells #[x,.int .i64 i] 198)
theorem Mf {w:World} {g o:Nat} {v:Value} {arr:Array Value} {ty:TypeId} {fz:Nat×Nat} (h:w.heap[g]?=some (.cells arr ty fz)):(w.setCell ⟨g,o,none⟩ v).heap[g]?=some (.cells (arr.setIfInBounds o v) ty fz):=by
 simp[World.setCell,Y0,h]
theorem FO {w:World} {g o k:Nat} {v:Value} (h:g≠k):(w.setCell ⟨g,o,none⟩ v).heap[k]?=w.heap[k]?:=by
 simp[World.setCell,Y0,h]
theorem xV {w:World} {g o:Nat} {v:Value}:(w.setCell ⟨g,o,none⟩ v).heap.size=w.heap.size:=by simp[World.setCell]
section
variable {w : World} {g0 g1 g2 : Nat} {er : Int} {x0 x1 x2 x3 y0 z0 : Value} (h0 : w.heap[g0]? = some (.cells #[x0, x1, x2, x3] 57 (0, 0))) (h1 : w.heap[g1]? = some (.cells #[y0] 3 (0, 0))) (h2 : w.heap[g2]? = some (.cells #[z0] 24 (0, 0)))
 (d1:g0≠g1) (d2:g0≠g2) (d3:g1≠g2)
include h0 d1 d2 in
theorem xW:(GD w g0 g1 g2 er).heap[g0]?=some (.cells #[.int .i64 0,.string ⟨#[]⟩,.slice none 0 0,.slice none 0 0] 57 (0,0)):=by
 unfold GD;rw[FO (Ne.symm d2),FO (Ne.symm d1),Mf (Mf (Mf (Mf h0)))];rfl
include h1 d1 d3 in
theorem xX:(GD w g0 g1 g2 er).heap[g1]?=some (.cells #[.int .i64 0] 3 (0,0)):=by
 unfold GD;rw[FO (Ne.symm d3),Mf (by rw[FO d1,FO d1,FO d1,FO d1];exact h1)];rfl
include h2 d2 d3 in
theorem xY:(GD w g0 g1 g2 er).heap[g2]?=some (.cells #[.int .i64 er] 24 (0,0)):=by
 unfold GD;rw[Mf (by rw[FO d3,FO d2,FO d2,FO d2,FO d2];exact h2)];rfl
end
theorem xZ {x:Value} {i er:Int} {w:World} {J:World->Prop} (A:Option Addr) (n c:Nat) (hx:x = .slice A n c)
  (hJ:∀w',J w'->w'.heap[w.heap.size]?=some (.cells #[.int .i64 0,.string ⟨#[]⟩,.slice none 0 0,.slice none 0 0] 57 (0,0))/\w'.heap[w.heap.size+1]?=some (.cells #[.int .i64 0] 3 (0,0))/\w'.heap[w.heap.size+2]?=some (.cells #[.int .i64 0] 24 (0,0)))
  (hd:Calls Xa 156 #[.pointer (some ⟨w.heap.size+3,0,none⟩),.int .i64 1] (DL w x i) λe w'=>e = .panicked (Cv er)/\J w') :
  Calls Xa 133 #[x,.int .i64 i] w λe w'=>∃w1,J w1/\e = .returned (.tuple #[.agg #[.int .i64 0,.string ⟨#[]⟩,.slice none 0 0,.slice none 0 0],.int .i64 0,.int .i64 er])/\w'=GD w1 w.heap.size (w.heap.size+1) (w.heap.size+2) er:=by
 have hmf:∀(fn:Fn) (first cap:Array Value) (w:World),(Instr.makeFunc fn first cap).run Xa w = .ok (.func fn first cap) w:=λ_ _ _ _=>rfl;subst hx
 go_enter_defers X9,Y1
 go_wp2_with (go_at_call 156;refine hd.mono ?_)
 rintro e w1 ⟨rfl,hj⟩;obtain⟨h0,h1,h2⟩:=hJ w1 hj;refine leaves_cons (f:=155) (args:=#[.pointer (some ⟨w.heap.size,0,none⟩),.pointer (some ⟨w.heap.size+1,0,none⟩),.pointer (some ⟨w.heap.size+1+1,0,none⟩)]) (by simp) (by simp[go_sem]) ?_;refine(xT h0 h1 h2 (by omega) (by omega) (by omega)).mono ?_;rintro e u' w' ⟨rfl,rfl,rfl⟩;simp only[Leaves,settle,List.dropWhile_nil];refine⟨_,?_,w1,hj,rfl,rfl⟩;have c0:=xW (g1:=w.heap.size+1) (g2:=w.heap.size+1+1) (er:=er) h0 (by omega) (by omega);have c1:=xX (g0:=w.heap.size) (g2:=w.heap.size+1+1) (er:=er) h1 (by omega) (by omega);have c2:=xY (g0:=w.heap.size) (g1:=w.heap.size+1) (er:=er) h2 (by omega) (by omega);generalize GD w1 w.heap.size (w.heap.size+1) (w.heap.size+1+1) er=W at c0 c1 c2
 have e0:W.cell? ⟨w.heap.size,0,none⟩=some (.int .i64 0):=by simp[World.cell?,c0]
 have e1:W.cell? ⟨w.heap.size,1,none⟩=some (.string ⟨#[]⟩):=by simp[World.cell?,c0]
 have e2:W.cell? ⟨w.heap.size,2,none⟩=some (.slice none 0 0):=by simp[World.cell?,c0]
 have e3:W.cell? ⟨w.heap.size,3,none⟩=some (.slice none 0 0):=by simp[World.cell?,c0]
 have e4:W.cell? ⟨w.heap.size+1,0,none⟩=some (.int .i64 0):=by simp[World.cell?,c1]
 have e5:W.cell? ⟨w.heap.size+1+1,0,none⟩=some (.int .i64 er):=by simp[World.cell?,c2]
 simp[results,Y2,go_sem,e0,e1,e2,e3,e4,e5]
 trace_state
structure Aft (s:Nat) (w w':World):Prop where
 out:Abs.BL w w'
 size:w'.heap.size=w.heap.size
 same:∀k,k≠s->k≠s+1->k≠s+2->w'.heap[k]?=w.heap[k]?
theorem Aft.refl (s:Nat) (w:World):Aft s w w:=⟨Abs.BL.refl w,rfl,λ_ _ _ _=>rfl⟩
theorem Aft.set {s g o:Nat} {v:Value} {w w':World} (h:Aft s w w') (hg:g=s\/g=s+1\/g=s+2):Aft s w (w'.setCell ⟨g,o,none⟩ v):=
 ⟨h.out,xV.trans h.size,λk h0 h1 h2=>(FO (by omega)).trans (h.same k h0 h1 h2)⟩
theorem Aft.drew {s:Nat} {w w':World} (h:Aft s w w'):Aft s w w'.drew:=⟨h.out,h.size,h.same⟩
theorem y7 {x:Value} {i p:Int} {w:World} {J:Int->ByteArray->Option Addr->Nat->Nat->Option Addr->Nat->Nat->World->Prop} (A:Option Addr) (n c:Nat) (hx:x = .slice A n c)
  (hJ:∀a b X k1 l1 Y k2 l2 w',J a b X k1 l1 Y k2 l2 w'->w'.heap[w.heap.size]?=some (.cells #[.int .i64 0,.string ⟨#[]⟩,.slice none 0 0,.slice none 0 0] 57 (0,0))/\w'.heap[w.heap.size+1]?=some (.cells #[.int .i64 0] 3 (0,0))/\w'.heap[w.heap.size+2]?=some (.cells #[.int .i64 0] 24 (0,0)) /\
   w'.cell? ⟨w.heap.size+3,1,none⟩=some (.int .i64 p))
  (hd:Calls Xa 156 #[.pointer (some ⟨w.heap.size+3,0,none⟩),.int .i64 1] (DL w x i) λe w'=>∃a b X k1 l1 Y k2 l2,e = .returned (.agg #[.int .i64 a,.string b,.slice X k1 l1,.slice Y k2 l2])/\J a b X k1 l1 Y k2 l2 w') :
  Calls Xa 133 #[x,.int .i64 i] w λe w'=>∃a b X k1 l1 Y k2 l2 w1,J a b X k1 l1 Y k2 l2 w1/\e = .returned (.tuple #[.agg #[.int .i64 a,.string b,.slice X k1 l1,.slice Y k2 l2],.int .i64 p,.int .i64 0])/\Aft w.heap.size w1 w':=by
 have hmf:∀(fn:Fn) (first cap:Array Value) (w:World),(Instr.makeFunc fn first cap).run Xa w = .ok (.func fn first cap) w:=λ_ _ _ _=>rfl;subst hx
 go_enter_defers X9,Y1
 go_wp2_with (go_at_call 156;refine hd.mono ?_)
 rintro e w1 ⟨a,b,X,k1,l1,Y,k2,l2,rfl,hj⟩;obtain⟨h0,h1,h2,h3⟩:=hJ a b X k1 l1 Y k2 l2 w1 hj
 have e0:w1.cell? ⟨w.heap.size,0,none⟩=some (.int .i64 0):=by simp[World.cell?,h0]
 have e1:w1.cell? ⟨w.heap.size,1,none⟩=some (.string ⟨#[]⟩):=by simp[World.cell?,h0]
 have e2:w1.cell? ⟨w.heap.size,2,none⟩=some (.slice none 0 0):=by simp[World.cell?,h0]
 have e3:w1.cell? ⟨w.heap.size,3,none⟩=some (.slice none 0 0):=by simp[World.cell?,h0]
 have e4:w1.cell? ⟨w.heap.size+1,0,none⟩=some (.int .i64 0):=by simp[World.cell?,h1]
 have e5:w1.cell? ⟨w.heap.size+1+1,0,none⟩=some (.int .i64 0):=by simp[World.cell?,h2]
 have f0:∀o,w1.frozen? ⟨w.heap.size,o,none⟩=false:=λo=>by simp[World.frozen?,h0]
 have f1:∀o,w1.frozen? ⟨w.heap.size+1,o,none⟩=false:=λo=>by simp[World.frozen?,h1]
 have f2:∀o,w1.frozen? ⟨w.heap.size+1+1,o,none⟩=false:=λo=>by simp[World.frozen?,h2]
 have n1:w.heap.size+1≠w.heap.size:=by omega
 have n2:w.heap.size+1+1≠w.heap.size:=by omega
 have n3:w.heap.size+1+1+1≠w.heap.size:=by omega
 have h3:w1.cell? ⟨w.heap.size+1+1+1,1,none⟩=some (.int .i64 p):=h3;clear h0 h1 h2
 go_wp2
 obtain⟨W,hW⟩:∃W,W=((((w1.setCell ⟨w.heap.size,0,none⟩ (.int .i64 a)).setCell ⟨w.heap.size,1,none⟩ (.string b)).setCell ⟨w.heap.size,2,none⟩ (.slice X k1 l1)).setCell ⟨w.heap.size,3,none⟩ (.slice Y k2 l2)):=⟨_,rfl⟩
 rw[<-hW]
 have g0:W.cell? ⟨w.heap.size,0,none⟩=some (.int .i64 a):=by rw[hW];simp[go_sem,e0,e1,e2,e3]
 have g1:W.cell? ⟨w.heap.size,1,none⟩=some (.string b):=by rw[hW];simp[go_sem,e0,e1,e2,e3]
 have g2:W.cell? ⟨w.heap.size,2,none⟩=some (.slice X k1 l1):=by rw[hW];simp[go_sem,e0,e1,e2,e3]
 have g3:W.cell? ⟨w.heap.size,3,none⟩=some (.slice Y k2 l2):=by rw[hW];simp[go_sem,e0,e1,e2,e3]
 have g4:W.cell? ⟨w.heap.size+1,0,none⟩=some (.int .i64 0):=by rw[hW];simp[go_sem,e4,n1]
 have g5:W.cell? ⟨w.heap.size+1+1,0,none⟩=some (.int .i64 0):=by rw[hW];simp[go_sem,e5,n2]
 have g6:W.cell? ⟨w.heap.size+1+1+1,1,none⟩=some (.int .i64 p):=by rw[hW];simp[go_sem,h3,n3]
 have z0:∀o,W.frozen? ⟨w.heap.size,o,none⟩=false:=λo=>by rw[hW];simp[go_sem,f0]
 have z1:∀o,W.frozen? ⟨w.heap.size+1,o,none⟩=false:=λo=>by rw[hW];simp[go_sem,f1]
 have z2:∀o,W.frozen? ⟨w.heap.size+1+1,o,none⟩=false:=λo=>by rw[hW];simp[go_sem,f2]
 have hA:Aft w.heap.size w1 W:=by
  rw[hW];exact((((Aft.refl _ _).set (.inl rfl)).set (.inl rfl)).set (.inl rfl)).set (.inl rfl)
 clear e0 e1 e2 e3 e4 e5 h3 f0 f1 f2 hmf hd hW
 go_region_held3 (λw'=>w'.cell? ⟨w.heap.size,0,none⟩=some (.int .i64 a)/\w'.cell? ⟨w.heap.size,1,none⟩=some (.string b)/\w'.cell? ⟨w.heap.size,2,none⟩=some (.slice X k1 l1)/\w'.cell? ⟨w.heap.size,3,none⟩=some (.slice Y k2 l2)/\w'.cell? ⟨w.heap.size+1+1+1,1,none⟩=some (.int .i64 p)) (((try dsimp only);(repeat' apply And.intro)<;>simp[go_sem, *])) (fail)
 go_wp2
 refine leaves_cons (f:=155) (args:=#[.pointer (some ⟨w.heap.size,0,none⟩),.pointer (some ⟨w.heap.size+1,0,none⟩),.pointer (some ⟨w.heap.size+1+1,0,none⟩)]) (by simp) (by simp[go_sem]) ?_;refine xU.mono ?_;rintro e u' w' ⟨rfl,rfl,rfl⟩;simp only[Leaves,settle];refine⟨_,?_,a,b,X,k1,l1,Y,k2,l2,w1,hj,rfl,?_⟩
 .simp[results,Y2,go_sem,g0,g1,g2,g3,g4,g5,n1,n2]
 .exact((((((hA.set (.inl rfl)).set (.inl rfl)).set (.inl rfl)).set (.inl rfl)).set (.inr (.inl rfl))).set (.inr (.inr rfl))).drew
open Go Go.Abs
variable {q : Gl} {t : T} {l : List Tok} {i : Nat}
def zDs:Ds:=.mk 0 ⟨#[]⟩ [] []
def BV:Res Ds->T
 | .ok (d,p)=>.tu [dT d,iv (p:Int),iv 0]
 | .error e=>.tu [dT zDs,iv 0,iv e]
section
variable {w : World} {x : Value} {i : Int}
theorem y9:(DL w x i).heap.size=w.heap.size+4:=by simp only[DL,World.alloc,Xr]
theorem bI {k:Nat} (h:k<w.heap.size):(DL w x i).heap[k]?=w.heap[k]?:=by
 simp only[DL,World.alloc,Xv,Xr];rw[zz (by omega),zz (by omega),zz (by omega),zz (by omega)]
theorem yA:(DL w x i).heap[w.heap.size]?=some (.cells #[.int .i64 0,.string ⟨#[]⟩,.slice none 0 0,.slice none 0 0] 57 (0,0)):=by
 simp only[DL,World.alloc,Xv,Xr];rw[zz (by omega),zz (by omega),zz (by omega),zy trivial]
theorem yB:(DL w x i).heap[w.heap.size+1]?=some (.cells #[.int .i64 0] 3 (0,0)):=by
 simp only[DL,World.alloc,Xv,Xr];rw[zz (by omega),zz (by omega),zy trivial]
theorem yC:(DL w x i).heap[w.heap.size+2]?=some (.cells #[.int .i64 0] 24 (0,0)):=by
 simp only[DL,World.alloc,Xv,Xr];rw[zz (by omega),zy trivial]
theorem yD:(DL w x i).heap[w.heap.size+3]?=some (.cells #[x,.int .i64 i] 198 (0,0)):=by
 simp only[DL,World.alloc,Xv,Xr];rw[zy trivial]
theorem yE:BL w (DL w x i):=⟨rfl,rfl,rfl⟩
end
theorem S7 {α:Type} {e:Enc α} {l:List α} {I:Nat->Prop} {w:World} {t:T} {u:Value} (h:IsS e t l) (hr:An I w t u):∃A n c,u = .slice A n c:=by
 rcases h with⟨rfl,rfl⟩ | rfl
 .simp only[An]at hr;exact⟨_,_,_,hr⟩
 .simp only[slT,An]at hr;obtain⟨a,c,e,_⟩:=hr;exact⟨_,_,_,e⟩
theorem yF {w:World} {s:Nat} {er:Int}:Aft s w (GD w s (s+1) (s+2) er):=
 (((((Aft.refl s w).set (.inl rfl)).set (.inl rfl)).set (.inl rfl)).set (.inl rfl) |>.set (.inr (.inl rfl))).set (.inr (.inr rfl))
theorem bJ {I I':Nat->Prop} {w W0 w1 w':World} (s0:W0.heap.size=w.heap.size+4) (old:∀k,k<w.heap.size->W0.heap[k]?=w.heap[k]?) (out:BL w W0) (hL:Left I W0 (w.heap.size+3) I' w1) (hA:Aft w.heap.size w1 w') :
  BL w w'/\w.heap.size<=w'.heap.size/\(∀g,g<w.heap.size->w'.heap[g]?=w.heap[g]?)/\(∀g,I g->I' g)/\(∀g,I' g->I g\/w.heap.size<=g)/\(∀g,I' g->g<w'.heap.size):=by
 have h1:=hL.size;rw[s0]at h1;refine⟨out.trans (hL.out.trans hA.out),by rw[hA.size];omega,λg hg=>?_,hL.more,λg hg=>?_,λg hg=>by rw[hA.size];exact hL.lt g hg⟩
 .exact(hA.same g (by omega) (by omega) (by omega)).trans ((hL.same g (by omega) (by omega)).trans (old g hg))
 .rcases hL.new g hg with h2 | h2 | h2
  .exact .inl h2
  .exact .inr (by omega)
  .exact .inr (by omega)
theorem Mg {I I':Nat->Prop} {w W0 w1:World} (s0:W0.heap.size=w.heap.size+4) (hL:Left I W0 (w.heap.size+3) I' w1) {k:Nat} (hk:k<3):w1.heap[w.heap.size+k]?=W0.heap[w.heap.size+k]?:=hL.same _ (by omega) (by omega)
theorem yG {I:Nat->Prop} {w:World}:An I w (dT zDs) (.agg #[.int .i64 0,.string ⟨#[]⟩,.slice none 0 0,.slice none 0 0]):=by
 rw[zDs,dT,FG];simp only[An,Ba,Am];exact⟨_,rfl,by simp[Value.oneCell'],_,_,rfl,rfl,_,_,rfl,rfl,_,_,rfl,rfl,_,_,rfl,rfl,rfl⟩
theorem bK {I:Nat->Prop} {w:World} {x:T} {v:Value} {a b:Int} (h:An I w x v):An I w (.tu [x,iv a,iv b]) (.tuple #[v,.int .i64 a,.int .i64 b]):=by
 simp only[An,Ba];exact⟨_,rfl,_,_,rfl,h,_,_,rfl,rfl,_,_,rfl,rfl,rfl⟩
theorem yH {I:Nat->Prop} {w:World} {d:Ds} {v:Value} (hv:An I w (dT d) v):∃a b X k1 l1 Y k2 l2,v = .agg #[.int .i64 a,.string b,.slice X k1 l1,.slice Y k2 l2]:=by
 cases d with
 | mk op name path kids=>
  rw[dT,FG]at hv;simp only[An,Ba]at hv;obtain⟨us,rfl,_,a1,r1,e1,rfl,a2,r2,e2,rfl,a3,r3,e3,h3,a4,r4,e4,h4,e5⟩:=hv;obtain⟨X,k1,l1,rfl⟩:=S7 (IsS.tree Aj path) h3;obtain⟨Y,k2,l2,rfl⟩:=S7 (IsS.tree eD kids) h4;subst e5;subst e4;subst e3;subst e2;exact⟨op,name,X,k1,l1,Y,k2,l2,by congr 1;rw[<-Y3];exact e1⟩
theorem yI:JP Xa 133:=⟨_,_,X9,rfl,rfl⟩
theorem yJ (ht:IsS Ap t l) (hlim:l.length<=1000000) (hi:i<=l.length):AA Xa (G q) 133 [t,iv (i:Int)] (· = BV (As (l.map kt) 64 i)):=by
 refine⟨yI,λI w us hlt hglob hrep=>?_⟩
 obtain⟨x,hx,rfl,A,n,c,rfl⟩:∃x,An I w t x/\us = #[x,.int .i64 (i:Int)]/\∃A n c,x = .slice A n c:=by
  simp only[Ba,An]at hrep;obtain⟨x,xs,e1,hx,y,ys,e2,e3,e4⟩:=hrep;subst e3;subst e4;subst e2;refine⟨x,hx,?_,S7 ht hx⟩;rw[<-Y3];exact e1
 have hkp:F7 I I w (DL w (.slice A n c) i):=λb hb=>⟨hb,bI (hlt b hb)⟩
 have s0:=y9 (w:=w) (x:=.slice A n c) (i:=(i:Int));have old:∀k,k<w.heap.size->(DL w (.slice A n c) i).heap[k]?=w.heap[k]?:=λk hk=>bI hk;have w0:=yA (w:=w) (x:=.slice A n c) (i:=(i:Int));have w1:=yB (w:=w) (x:=.slice A n c) (i:=(i:Int));have w2:=yC (w:=w) (x:=.slice A n c) (i:=(i:Int));have hout:=yE (w:=w) (x:=.slice A n c) (i:=(i:Int))
 have hlt3:¬I (w.heap.size+3):=λh=>by have:=hlt _ h;omega
 have hlt4:∀b,I b->b<(DL w (.slice A n c) i).heap.size:=λb hb=>by have:=hlt b hb;rw[s0];exact Y4 this (Y5 _ _)
 have hD:=xS (q:=q) (w:=DL w (.slice A n c) i) (g:=w.heap.size+3) (I:=I) ht hlim hlt4
  (λg cs h=>⟨(hglob g cs h).1,Ev.keep hkp (hglob g cs h).1 (hglob g cs h).2⟩) (An.keep hkp t hx) rfl hi yD hlt3
 cases hd:As (l.map kt) 64 i with
 | error er=>
  rw[hd]at hD
  have hR:=xZ (er:=er) (J:=λw'=>∃I',Left I (DL w (.slice A n c) i) (w.heap.size+3) I' w') A n c rfl (λw' ⟨I',h⟩=>
   ⟨(Mg (k:=0) s0 h (by omega)).trans w0,(Mg (k:=1) s0 h (by omega)).trans w1,(Mg (k:=2) s0 h (by omega)).trans w2⟩) (hD.mono λe w' ⟨I',h1,h2⟩=>⟨h1,I',h2⟩)
  refine hR.mono ?_;rintro e w' ⟨v1,⟨I',hL⟩,rfl,rfl⟩;exact⟨_,_,I',rfl,rfl,bK yG,bJ s0 old hout hL yF⟩
 | ok y=>
  obtain⟨d,p⟩:=y;rw[hd]at hD
  have hR:=y7 (p:=(p:Int)) (J:=λa b X k1 l1 Y k2 l2 w'=>∃I',An I' w' (dT d) (.agg #[.int .i64 a,.string b,.slice X k1 l1,.slice Y k2 l2])/\w'.cell? ⟨w.heap.size+3,1,none⟩=some (.int .i64 (p:Int))/\Left I (DL w (.slice A n c) i) (w.heap.size+3) I' w'/\¬I' (w.heap.size+3)) A n c rfl (λa b X k1 l1 Y k2 l2 w' ⟨I',_,hc,h,_⟩=>
   ⟨(Mg (k:=0) s0 h (by omega)).trans w0,(Mg (k:=1) s0 h (by omega)).trans w1,(Mg (k:=2) s0 h (by omega)).trans w2,hc⟩) (hD.mono λe w' ⟨I',h1,h2⟩=>by
   obtain⟨v,arr,rfl,hv,ha,hp,hn⟩:=h1;obtain⟨a,b,X,k1,l1,Y,k2,l2,rfl⟩:=yH hv
   exact⟨a,b,X,k1,l1,Y,k2,l2,rfl,I',hv,by simp only[World.cell?,ha];exact hp,h2,hn⟩)
  refine hR.mono ?_;rintro e w' ⟨a,b,X,k1,l1,Y,k2,l2,v1,⟨I',hv,_,hL,hn⟩,rfl,hA⟩
  have hI:∀b,I' b->b≠w.heap.size/\b≠w.heap.size+1/\b≠w.heap.size+2:=λb hb=>by
   rcases hL.new b hb with h2 | h2 | h2
   .have:=hlt b h2;clear hR hD w0 w1 w2;omega
   .rw[s0]at h2;clear hR hD w0 w1 w2;omega
   .rw[h2]at hb;exact absurd hb hn
  have hk2:F7 I' I' v1 w':=λb hb=>⟨hb,hA.same b (hI b hb).1 (hI b hb).2.1 (hI b hb).2.2⟩
  exact⟨_,_,I',rfl,rfl,bK (An.keep hk2 _ hv),bJ s0 old hout hL hA⟩
section
variable {l : List KT} {rec : Nat -> Res Ds}
def GE {α:Type} (rec:Nat->Res α):Prop:=∀p e,rec p = .error e->e≠0
theorem S8 {p:Nat} {k e:Int} (h:AE l p k = .error e):e≠0:=by
 unfold AE at h;split at h
 .injection h with h;omega
 .split at h
  .cases h
  .injection h with h;omega
theorem bL {p:Nat} {s:List UInt8} {e:Int} (h:Bk l p s = .error e):e≠0:=by
 unfold Bk at h;split at h
 .injection h with h;omega
 .split at h
  .cases h
  .injection h with h;omega
theorem bM:∀(f p:Nat) (path:List ByteArray) (e:Int),l.length-p<f->EZ l f p path = .error e->e≠0
 | 0,p,path,e,hf,_=>by omega
 | f+1,p,path,e,hf,h=>by
  rw[EZ]at h;split at h
  .rename_i hs;have hl:=Bo hs;split at h
   .injection h with h;omega
   .split at h
    .rename_i h1;injection h with h;subst h;exact S8 h1
    .rename_i s p1 h1;have:=D1 h1;exact bM f _ _ _ (by omega) h
  .cases h
theorem bN (hr:GE rec):GE (DG l rec):=λp e h=>by
 unfold DG at h;split at h
 .rename_i h1;injection h with h;subst h;exact S8 h1
 .rename_i s p1 h1;split at h
  .rename_i h2;injection h with h;subst h;exact bM _ _ _ _ (by omega) h2
  .rename_i path p2 h2;split at h
   .rename_i h3;injection h with h;subst h;exact hr _ _ h3
   .cases h
theorem bO (hr:GE rec) (hf:Fwd l rec):∀(f p:Nat) (parts:List Ds) (e:Int),l.length-p<f->brS l rec f p parts = .error e->e≠0
 | 0,p,parts,e,hl,_=>by omega
 | f+1,p,parts,e,hl,h=>by
  rw[brS]at h;split at h
  .rename_i h1;injection h with h;subst h;exact bN hr _ _ h1
  .rename_i d p1 h1;have h2:=Se hf h1;split at h
   .rename_i hs;have:=Bo hs;split at h
    .injection h with h;omega
    .exact bO hr hf f _ _ _ (by omega) h
   .split at h
    .rename_i h3;injection h with h;subst h;exact bL h3
    .cases h
theorem S9 (hr:GE rec) (hf:Fwd l rec):∀(f p:Nat) (kids:List Ds) (e:Int),l.length-p<f->itS l rec f p kids = .error e->e≠0
 | 0,p,kids,e,hl,_=>by omega
 | f+1,p,kids,e,hl,h=>by
  rw[itS]at h;split at h
  .rename_i hs;have:=Bo hs;split at h
   .injection h with h;omega
   .split at h
    .rename_i h1;injection h with h;subst h;exact hr _ _ h1
    .rename_i d p1 h1;have:=hf _ _ _ h1;exact S9 hr hf f _ _ _ (by omega) h
  .cases h
theorem NR {s:List UInt8} {op:Int} {kids:List Ds} {p:Nat} {e:Int} (h:Cn l s op kids p = .error e):e≠0:=by
 unfold Cn at h;split at h
 .rename_i h1;injection h with h;subst h;exact bL h1
 .cases h
theorem bP (hr:GE rec) (hf:Fwd l rec):GE (DH l rec):=λp e h=>by
 unfold DH at h;split at h
 .injection h with h;omega
 .split at h
  .exact NR h
  .split at h
   .rename_i h1;injection h with h;subst h;exact hr _ _ h1
   .rename_i d1 p1 h1;split at h
    .rename_i h2;injection h with h;subst h;exact S9 hr hf _ _ _ _ (by omega) h2
    .split at h
     .split at h
      .injection h with h;omega
      .split at h
       .rename_i h3;injection h with h;subst h;exact hr _ _ h3
       .exact NR h
     .exact NR h
theorem bQ (hr:GE rec) (hf:Fwd l rec):GE (DI l rec):=λp e h=>by
 unfold DI at h;split at h
 .injection h with h;omega
 .split at h
  .exact NR h
  .split at h
   .rename_i h1;injection h with h;subst h;exact hr _ _ h1
   .rename_i d1 p1 h1;split at h
    .rename_i h2;injection h with h;subst h;exact S9 hr hf _ _ _ _ (by omega) h2
    .exact NR h
theorem PL {parts:List Ds} {r:Res Ds} {e:Int} (hr:∀e,r = .error e->e≠0) (h:DJ parts r = .error e):e≠0:=by
 unfold DJ at h;split at h
 .injection h with h;subst h;exact hr _ rfl
 .cases h
theorem bR {op k:Int} {p:Nat} {e:Int} (h:Fx op (AE l p k) = .error e):e≠0:=by
 unfold Fx at h;split at h
 .rename_i h1;injection h with h;subst h;exact S8 h1
 .cases h
theorem PN (hr:GE rec) (hf:Fwd l rec) {p:Nat} {parts:List Ds} {e:Int} (h:Di l rec p parts = .error e):e≠0:=by
 unfold Di at h;split at h
 .injection h with h;omega
 .split at h
  .cases h
  .split at h
   .injection h with h;omega
   .split at h
    .exact PL (λe h=>bR h) h
    .split at h
     .exact PL (λe h=>bR h) h
     .split at h
      .exact bO hr hf _ _ _ _ (by omega) h
      .split at h
       .exact PL (λe h=>bP hr hf _ _ h) h
       .split at h
        .exact PL (λe h=>bQ hr hf _ _ h) h
        .injection h with h;omega
theorem bS (hr:GE rec) (hf:Fwd l rec):∀(f p:Nat) (parts:List Ds) (e:Int),l.length-p<f->Fa l rec f p parts = .error e->e≠0
 | 0,p,parts,e,hl,_=>by omega
 | f+1,p,parts,e,hl,h=>by
  rw[Fa]at h;split at h
  .rename_i hs;have:=Bo hs;split at h
   .injection h with h;omega
   .split at h
    .rename_i h1;injection h with h;subst h;exact PN hr hf h1
    .rename_i parts' p1 h1;have:=Im hf h1;exact bS hr hf f _ _ _ (by omega) h
  .cases h
end
theorem F4 {l:List KT}:∀n,GE (As l n)
 | 0=>λp e h=>by
  unfold As at h;split at h
  .injection h with h;omega
  .injection h with h;omega
 | n+1=>λp e h=>by
  unfold As at h;split at h
  .injection h with h;omega
  .split at h
   .rename_i h1;injection h with h;subst h;exact PN (F4 n) (D2 n) h1
   .rename_i parts p1 h1;split at h
    .rename_i h2;injection h with h;subst h;exact bS (F4 n) (D2 n) _ _ _ _ (by omega) h2
    .cases h
variable {q : Gl} {t : T} {l : List Tok} {i : Nat}
section
mutual
theorem PO:∀p:PV,ren (λx=>x) p=p
 | .t _=>rfl
 | .row _ _ _ _=>rfl
 | .ptr _ _=>rfl
 | .ag cs=>by simp only[ren,Mh cs]
 | .tu cs=>by simp only[ren,Mh cs]
 | .fn _ a c=>by simp only[ren,Mh a,Mh c]
 | .ic _ x=>by simp only[ren,PO x]
 | .mp _=>rfl
 | .dead=>rfl
theorem Mh:∀ps:List PV,AX (λx=>x) ps=ps
 | []=>rfl
 | p::ps=>by simp only[AX,PO p,Mh ps]
end
theorem yK (r:Row):BG (λx=>x) r=r:=by
 cases r with
 | cells ty cs=>simp only[BG,Mh]
 | iter s p=>rfl
 | map kk es=>rfl
 | lp l x k p=>simp only[BG,PO]
 | blk l o=>rfl
theorem SA {P:Program} {G:Ay} {B nx nx' n:Nat} {env env':List (Nat×PV)} {H H':Ab} (F:List Nat) (hB:B<=nx') (he:∀x∈env',∃p,Aa env x.1=some p/\B5 H F p=x.2/\under nx' x.2=true)
  (hH:∀x∈H',x.1∉F/\x.1<nx'/\BU nx' x.2=true/\∃r,Aa H x.1=some r/\Cy H F r=x.2):Sub P G B ⟨env,H,nx,n⟩ ⟨env',H',nx',n⟩:=by
 have hs:Sub P G B ⟨env,H,nx,n⟩ (Ac.frz ⟨env,H,nx,n⟩ F):=LF F;refine hs.trans (Kc (λx=>x) rfl hB (λ_ _=>rfl) (λx hx=>?_) (λx hx=>?_) (λ_ _ _ _ e=>e))
 .obtain⟨p,h1,h2,h3⟩:=he x hx;refine⟨?_,h3⟩;simp only[Ac.frz,Fo,h1,Ya,h2,PO]
 .obtain⟨h1,h2,h3,r,h4,h5⟩:=hH x hx;refine⟨?_,h2,h3⟩;rw[yK,<-h5];exact NL h4 h1
theorem Mi (H:Ab) (F:List Nat) (x:T):B5 H F (.t x) = .t x:=rfl
theorem SB (H:Ab) (F:List Nat) (b o:Nat):B5 H F (.ptr b o) = .ptr b o:=rfl
theorem SC (H:Ab) (F:List Nat) (ty:TypeId) (cs:List PV):Cy H F (.cells ty cs) = .cells ty (cs.map (B5 H F)):=rfl
theorem NS {H:Ab} {b ty o:Nat} {cs:List PV} (h:Aa H b=some (.cells ty cs)):Ao false 1 H (.ptr b o)=cs[o]?:=by simp only[Ao,h];rfl
theorem tsS (s:ByteArray):IW 9 1 [.string ⟨#[]⟩] 1 [(0,.t (sv s))]=some (.t (.sl 1 [sv s])):=rfl
theorem st1 (H:Ab) (a b c d:T) (y z u v:PV):A8 4 ((1,.cells 57 [y,z,u,v])::H) (.ptr 1 0) (.t (.ag [a,b,c,d]))=some ((1,.cells 57 [.t a,.t b,.t c,.t d])::H):=rfl
theorem PP {L:List KT} {p:Nat} {k:Int} (h:Cq L p k=false):AE L p k = .error (Bi L p):=by
 unfold Cq at h;unfold AE Bi
 cases hx:L[p]? with
 | none=>rw[zy (by simpa using hx)]
 | some x=>
  rw[hx]at h;have:=(Xh.1 hx).1;simp only at h ⊢;rw[zz (by simpa using h),zz (by omega)]
theorem bdZ {Φ:AC} {H:Ab} {nx:Nat}:Ah Φ H nx (.build [(0,1),(1,1),(2,1),(3,1)] [.int .i64 0,.string ⟨#[]⟩,.slice none 0 0,.slice none 0 0] []) []=some (.t (dT zDs),H,nx):=by
 rw[zDs,dT,FG];rfl
theorem yL {H:Ab} {b ty:Nat} {x0 x1 x2 x3:PV} (h:Aa H b=some (.cells ty [x0,x1,x2,x3])) (b4:Nat) (path:List ByteArray):A8 1 H (.ptr b 2) (rowP Aj b4 path)=some (upd H b (.cells ty [x0,x1,rowP Aj b4 path,x3])):=by
 cases path<;>simp only[A8,rowP,h]<;>rfl
end
theorem SD (R:Ab) (d:Ds) (x0 x1 x2 x3:PV):A8 4 ((2,.cells 57 [x0,x1,x2,x3])::R) (.ptr 2 0) (.t (dT d))=some ((2,.cells 57 ((A4 d).map .t))::R):=by
 cases d;rw[dT,A4];rfl
theorem yM (R:Ab) (X Y:Row) (d:Ds) (x0 x1 x2 x3:PV):A8 4 ((2,X)::(1,Y)::(0,.cells 57 [x0,x1,x2,x3])::R) (.ptr 0 0) (.t (dT d))=some ((2,X)::(1,Y)::(0,.cells 57 ((A4 d).map .t))::R):=by
 cases d;rw[dT,A4];rfl
theorem sp3 (R:Ab) (X Y:Row) (a b c d:PV):A8 1 ((3,X)::(2,Y)::(1,.cells 57 [a,b,c,d])::R) (.ptr 1 3) (.row 3 0 1 4)=some ((3,X)::(2,Y)::(1,.cells 57 [a,b,c,.row 3 0 1 4])::R):=rfl
theorem yN {H:Ab} {d:Ds} (h:Aa H 3=some (rowOf eD 57 [d])):B5 H [3] (.row 3 0 1 4) = .t (Am eD [d]):=Mb (e:=eD) (ty:=57) (b:=3) (l:=[d]) (.inr h) Yb
theorem FP {R:T->Prop} {env:List (Nat×PV)} {H:Ab} {nx n a b c ty:Nat} {d:Ds} {p e:Int} (h6:Aa env a=some (.ptr 0 0)) (hl:Aa H 0=some (.cells ty ((A4 d).map .t))) (h7:Aa env b=some (.t (iv p))) (h8:Aa env c=some (.t (iv e)))
  (hR:R (.tu [dT d,iv p,iv e])):FC [RV.cell a true 4,RV.tmp b,RV.tmp c] R .ret ⟨env,H,nx,n⟩:=by
 have hd:=GC hl;refine Ve (ps:=[.t (dT d),.t (iv p),.t (iv e)]) (r:=.tu [dT d,iv p,iv e]) (F:=[]) ?_ rfl hR;simp only[CH,h6,h7,h8,Y6,hd]
 try rfl
noncomputable def gWh (l:List Tok) (t:T) (n:Nat) (ts:List T):Option T:=open Classical in match ts with
 | [t',.v (.int .i64 i),.v (.int .i64 v)]=>if t'=t/\0<=i/\i<=(l.length:Int)/\v=65-(n:Int)then some (BV (As (l.map kt) n i.toNat))else none
 | _=>none
theorem SE {n:Nat} (hi:i<=l.length):gWh l t n [t,iv (i:Int),iv (65-(n:Int))]=some (BV (As (l.map kt) n i)):=by
 have:i=((i:Int)).toNat:=by omega
 exact(zy ⟨rfl,by omega,by omega,rfl⟩).trans (by rw[<-this])
abbrev Ho (q:Gl) (t:T) (l:List Tok) (n:Nat):Prop:=GOK Xa (G q) 157 (gWh l t n)
noncomputable def tbR (l:List Tok) (t:T) (n:Nat):Tbl:=[(178,Cj l t),(197,CT l t),(198,Ck l t),(179,KG),(157,gWh l t n)]
theorem bT (ht:IsS Ap t l) {n:Nat} (hW:Ho q t l n):A5 Xa (G q) (tbR l t n):=.cons (KH ht) (.cons (S5 ht) (.cons (PK ht) (.cons NQ (.cons hW .nil))))
structure Rp where
 f:Nat
 p:Nat
 path:List ByteArray
abbrev Mj (b:Nat) (path:List ByteArray):Row:=.cells 57 [.t (iv 5),.t (sv ⟨#[]⟩),rowP Aj b path,.t Ad]
def SRp (t:T) (v:Int) (a:Rp):Ac:=⟨[(1,.t (iv (a.p:Int))),(9,.ptr 1 0),(2,.t (iv v)),(0,.t t),(6,.ptr 0 0)],[(1,Mj 2 a.path),(0,zD)]++Ax Aj 9 2 a.path,3,63⟩
def SG (t:T) (v:Int) (a:Rp):Ac:=⟨[(1,.t (iv (a.p:Int))),(9,.ptr 1 0),(2,.t (iv v)),(0,.t t),(6,.ptr 0 0)],[(1,.cells 57 [.t (iv 5),.t (sv ⟨#[]⟩),.t (Am Aj a.path),.t Ad]),(0,zD)],2,63⟩
def KI (L:List KT):Nat->Nat->List ByteArray->Res (List ByteArray)
 | 0,_,_=>.error 0
 | f+1,p,path=>match AE L p 2 with
  | .error e=>.error e
  | .ok (s,p1)=>if Au L p1 [46]then(if 64<=path.length+1 then .error 7 else KI L f (p1+1) (path++[s]))else .ok (path++[s],p1)
theorem bU {L:List KT}:∀(f p:Nat) (path:List ByteArray),L.length-p<f->KI L f p path=match AE L p 2 with
  | .error e=>.error e
  | .ok (s,p1)=>EZ L f p1 (path++[s])
 | 0,p,path,h=>by omega
 | f+1,p,path,h=>by
  rw[KI]
  cases htk:AE L p 2 with
  | error e=>rfl
  | ok x=>
   obtain⟨s,p1⟩:=x;simp only;rw[EZ];have:=D1 htk
   cases hs:Au L p1 [46]with
   | false=>rfl
   | true=>
    have hl:=Bo hs;simp only[if_true,Xm,X2];split
    .rfl
    .rw[bU f (p1+1) _ (by omega)];cases AE L (p1+1) 2<;>rfl
theorem yO {L:List KT} {rec:Nat->Res Ds} {p:Nat}:DG L rec p=Gm rec (KI L (L.length+1) p []):=by
 rw[bU _ _ _ (by omega)]
 cases htk:AE L p 2 with
 | error e=>simp only[Gm];unfold DG;rw[htk]
 | ok x=>
  obtain⟨s,p1⟩:=x;exact bB htk
theorem yP (ht:IsS Ap t l) (hlim:l.length<=1000000) {n:Nat} (hW:Ho q t l n) (hn:n<=64) (hi:i<=l.length):AA Xa (G q) 208 [t,iv (i:Int),iv (64-(n:Int))] (· = BV (DG (l.map kt) (As (l.map kt) n) i)):=by
 have C:=(bT ht hW).ctx mixed
 obtain⟨L,hL⟩:∃L,L=l.map kt:=⟨_,rfl⟩
 have hLl:L.length=l.length:=by rw[hL,Xb]
 have his:∀(i:Nat) (s:ByteArray),Cj l t [t,iv (i:Int),sv s]=some (bv (Au L i s.data.toList)):=λi s=>by rw[EM,hL]
 have hkd:∀(i:Nat) (k:Int),CT l t [t,iv (i:Int),iv k]=some (bv (Cq L i k)):=λi s=>by rw[E6,hL]
 have hwr:∀(i:Nat),Ck l t [t,iv (i:Int)]=some (iv (Bi L i)):=λi=>by rw[DK,hL]
 have hwh:∀{i:Nat},i<=l.length->gWh l t n [t,iv (i:Int),iv (65-(n:Int))]=some (BV (As L n i)):=λh=>by rw[SE h,hL]
 rw[<-hL,yO]
 have ev:Xc.wrap (64-(n:Int)+1)=65-(n:Int):=by
  rw[Fs (by omega) (by omega)];omega
 obtain⟨Rr,hRr⟩:∃Rr,Rr=KI L (L.length+1) i []:=⟨_,rfl⟩
 rw[<-hRr];refine pO.call rfl ?_;(conv in VZ=>cbv);refine Az C ?_;simp -implicitDefEqProofs;refine Az C ?_;simp -implicitDefEqProofs [-AF,bd1,st1];refine BM (α:=Rp) (SG t (64-(n:Int))) (λa=>Rr = .ok (a.path,a.p)/\a.path≠[]/\a.p<=l.length) (λ_=>rfl) ?_ ?_
 .refine BI ?_;refine CV (SRp t (64-(n:Int))) (λa=>a.f) (λa=>a.p<=L.length/\L.length-a.p<a.f/\a.path.length<=63/\KI L a.f a.p a.path=Rr) ⟨L.length+1,i,[]⟩ (λ_=>rfl) ⟨by show i<=_;omega,by show L.length-i<L.length+1;omega,by simp,hRr.symm⟩ ?_ rfl ?_
  .exact Dv (k:=2) (b:=2) (.inl rfl) (by omega) (by omega) (by simp -implicitDefEqProofs [BG,AX,ren,BU,Bl,under,rowP]) (by simp -implicitDefEqProofs [ren,under])
  .rintro⟨f,p,path⟩ ⟨hp,hfu,hpl,heq⟩;simp only at hp hfu hpl heq;rw[hLl]at hp hfu
   obtain⟨f',rfl⟩:∃f',f=f'+1:=⟨f-1,by omega⟩
   rw[KI]at heq;refine BI ?_
   obtain⟨H0,hH0⟩:∃H0:Ab,H0=(1,Mj 2 path)::(0,zD)::Ax Aj 9 2 path:=⟨_,rfl⟩
   have l00:Aa H0 0=some zD:=by rw[hH0];rfl
   have l01:Aa H0 1=some (Mj 2 path):=by rw[hH0];rfl
   have r02:Ar Aj 9 H0 2 path:=by rw[hH0];exact((Ar.head' Aj 9 2 path).cons (by omega)).cons (by omega)
   have sz:A8 4 H0 (.ptr 0 0) (.t (dT zDs))=some (upd H0 0 (.cells 57 ((A4 zDs).map .t))):=Iu l00
   cases hk:Cq L p 2 with
   | false=>
    have htk:=PP hk;rw[htk]at heq;simp only at heq;rw[<-heq];have hk1:=hkd p 2;rw[hk]at hk1;refine Aw C ?_;rw[hH0]at sz;simp -implicitDefEqProofs [SRp,tbR,hk1,hwr,-AF,bdZ,sz,-EB];exact FP (d:=zDs) (ty:=57) rfl rfl rfl rfl rfl
   | true=>
    obtain⟨x,hx,hxk⟩:∃x,l[p]?=some x/\x.k=2:=by
     rw[hL]at hk;unfold Cq at hk;rw[E5]at hk
     cases hx:l[p]? with
     | none=>rw[hx]at hk;cases hk
     | some x=>rw[hx]at hk;exact⟨x,rfl,by simpa using hk⟩
    have hpl1:p<l.length:=(Xh.1 hx).1
    obtain⟨p1,hp1⟩:∃p1,p1=p+1:=⟨_,rfl⟩
    have htk:AE L p 2 = .ok (bs x.t,p1):=by unfold AE;rw[hL,E5,hx,hp1];simp[hxk]
    rw[htk]at heq;simp only at heq;have hk1:=hkd p 2;rw[hk]at hk1;obtain⟨r,hr⟩:=EH ht hx
    obtain⟨p2,hp2⟩:∃p2,p2=p1+1:=⟨_,rfl⟩
    have ew:Xc.wrap ((p:Int)+1)=(p1:Int):=AH (by omega) (by omega);have ew2:Xc.wrap ((p1:Int)+1)=(p2:Int):=AH (by omega) (by omega);have ld2:Ao false 1 H0 (.ptr 1 2)=some (rowP Aj 2 path):=NS l01;obtain⟨b2,H2,n2,ap2,r2,ne2,hle2,hold,hb2⟩:=Gd (e:=Aj) (ty:=9) (by':=16) (nx:=3) (m:=[bs x.t]) (src:=.t (.sl 1 [sv (bs x.t)])) r02 (OV (e:=Aj) (l:=[bs x.t]) (.inr (by simp[slT,Aj]))) (by simp;omega) (by simp;omega);have ap2':B1 9 1 16 H0 3 (rowP Aj 2 path) (.t (.sl 1 [sv (bs x.t)]))=some (rowP Aj b2 (path++[bs x.t]),H2,n2):=ap2
    obtain⟨path',hpath⟩:∃path',path'=path++[bs x.t]:=⟨_,rfl⟩
    have hpl':path'.length=path.length+1:=by rw[hpath];simp
    have hpne:path'≠[]:=by rw[hpath];simp
    rw[<-hpath]at ap2' r2 heq;have l20:Aa H2 0=some zD:=(hold 0 (by omega) (by omega)).trans l00;have l21:Aa H2 1=some (Mj 2 path):=(hold 1 (by omega) (by omega)).trans l01;have st:=yL l21 b2 path'
    obtain⟨H3,hH3⟩:∃H3:Ab,H3=upd H2 1 (Mj b2 path'):=⟨_,rfl⟩
    rw[<-hH3]at st
    have l30:Aa H3 0=some zD:=by rw[hH3,A9,zz (by omega),l20]
    have l31:Aa H3 1=some (Mj b2 path'):=by rw[hH3,A9,zy rfl,l21];rfl
    have r3:Ar Aj 9 H3 b2 path':=r2.imp id λh=>by rw[hH3,A9,zz (by omega)];exact h
    have ld3:Ao false 1 H3 (.ptr 1 2)=some (rowP Aj b2 path'):=NS l31;have sz3:A8 4 H3 (.ptr 0 0) (.t (dT zDs))=some (upd H3 0 (.cells 57 ((A4 zDs).map .t))):=Iu l30;have hlen:Bd (rowP Aj b2 path')=some (.t (iv (path'.length:Int))):=ED Aj b2 path';have hi1:=his p1 ⟨#[46]⟩;refine Az C ?_;simp -implicitDefEqProofs [SRp,tbR,hk1];rw[<-hH0];refine Az C ?_;simp -implicitDefEqProofs [ld2,hr,BJ,tsS,ap2',st];refine Az C ?_;simp -implicitDefEqProofs [ew]
    cases hs:Au L p1 [46]with
    | false=>
     rw[hs]at heq;simp only[Xe,if_false]at heq
     have hi1:Cj l t [t,iv (p1:Int),sv ⟨#[46]⟩]=some (bv false):=by rw[hi1];exact congrArg (λb=>some (bv b)) hs
     refine Aw C ?_;simp -implicitDefEqProofs [tbR,hi1];refine Aq.mk ⟨f',p1,path'⟩ ⟨heq.symm,hpne,by show p1<=l.length;omega⟩ ?_;refine SA [b2] (by omega) ?_ ?_
     .simp -implicitDefEqProofs [Mi,SB,under]
     .intro y hy;simp only[Xi,Xn,or_false]at hy;rcases hy with rfl | rfl
      .exact⟨by simp;omega,by show 1<2;omega,rfl,_,l31,by simp only[SC,Yc,Yd,Mi,Mb r3 Yb]⟩
      .exact⟨by simp;omega,by show 0<2;omega,rfl,_,l30,rfl⟩
    | true=>
     rw[hs]at heq;simp only[if_true]at heq
     have hpl2:p1<l.length:=by have:=Bo hs;omega
     have hi1:Cj l t [t,iv (p1:Int),sv ⟨#[46]⟩]=some (bv true):=by rw[hi1];exact congrArg (λb=>some (bv b)) hs
     refine Az C ?_;simp -implicitDefEqProofs [tbR,hi1];by_cases hbig:64<=path.length+1
     .rw[zy hbig]at heq;rw[<-heq]
      have hb1:(64:Int)<=(path'.length:Int):=by omega
      refine Aw C ?_;simp -implicitDefEqProofs [ld3,hlen,hb1,-AF,bdZ,sz3,-EB];exact FP (d:=zDs) (ty:=57) rfl (by rw[A9,zy rfl,l30];rfl) rfl rfl rfl
     .rw[zz hbig,<-hp2]at heq
      have hb1:¬(64:Int)<=(path'.length:Int):=by omega
      refine Aw C ?_;simp -implicitDefEqProofs [ld3,hlen,hb1,ew2];refine Aq.mk ⟨f',p2,path'⟩ ⟨⟨by show p2<=_;omega,by show L.length-p2<f';omega,by show path'.length<=63;omega,heq⟩,by show f'<f'+1;omega⟩ ?_;exact Dv (k:=b2) (b:=2) r3 (by omega) (by omega) (by simp -implicitDefEqProofs [BG,AX,ren,Cs,Ct,BU,Bl,under,l30,l31];omega) (by simp -implicitDefEqProofs [ren,under])
 .rintro⟨f2,p,path⟩ ⟨hRp,hne,hp⟩;simp only at hRp hne hp;rw[hRp]
  obtain⟨H1,hH1⟩:∃H1:Ab,H1=[(1,.cells 57 [.t (iv 5),.t (sv ⟨#[]⟩),.t (Am Aj path),.t Ad]),(0,zD)]:=⟨_,rfl⟩
  have hw:=hwh hp
  cases hd:As L n p with
  | error e=>
   rw[hd]at hw
   have e2:Gm (As L n) (.ok (path,p)) = .error e:=by simp only[Gm,hd]
   rw[e2];have hne0:=F4 n _ _ hd
   have hb:(e != 0)=true:=by simpa using hne0
   refine Az C ?_;simp -implicitDefEqProofs [SG,tbR,ev,hw,BV];rw[SD,FE];refine Aw C ?_;simp -implicitDefEqProofs [hb,-AF,bdZ,yM,-EB];exact FP (d:=zDs) (ty:=57) rfl rfl rfl rfl rfl
  | ok y=>
   obtain⟨d,p3⟩:=y;rw[hd]at hw
   have e2:Gm (As L n) (.ok (path,p)) = .ok (.mk 5 ⟨#[]⟩ path [d],p3):=by simp only[Gm,hd]
   rw[e2]
   obtain⟨D,hD⟩:∃D,D=Ds.mk 5 ⟨#[]⟩ path [d]:=⟨_,rfl⟩
   rw[<-hD]
   have eD1:(A4 D).map PV.t=[.t (iv 5),.t (sv ⟨#[]⟩),.t (Am Aj path),.t (Am eD [d])]:=by rw[hD,FG];rfl
   refine Az C ?_;simp -implicitDefEqProofs [SG,tbR,ev,hw,BV];rw[SD,FE];refine Az C ?_;simp -implicitDefEqProofs;have ld:Ao true 4 [(2,.cells 57 ((A4 d).map PV.t)),(1,.cells 57 [.t (iv 5),.t (sv ⟨#[]⟩),.t (Am Aj path),.t Ad]),(0,zD)] (.ptr 2 0)=some (.t (dT d)):=GC rfl;refine Az C ?_;simp -implicitDefEqProofs [ld,bsD,sp3];refine MC.sub (s':=⟨[(9,.ptr 1 0),(11,.t (iv (p3:Int))),(6,.ptr 0 0)],[(1,.cells 57 ((A4 D).map .t)),(0,zD)],2,63⟩) (SA [3] (by omega) ?_ ?_) rfl ?_
   .simp -implicitDefEqProofs [Mi,SB,under]
   .intro y hy;simp only[Xi,Xn,or_false]at hy;rcases hy with rfl | rfl
    .refine⟨by simp,by show 1<2;omega,NB _ _,_,rfl,?_⟩;rw[eD1,SC];simp only[Yc,Yd,Mi];rw[yN (d:=d) (by simp[Aa,rowOf,eD])]
    .exact⟨by simp,by show 0<2;omega,rfl,_,rfl,rfl⟩
   .have ld2:Ao true 4 [(1,.cells 57 ((A4 D).map PV.t)),(0,zD)] (.ptr 1 0)=some (.t (dT D)):=GC rfl;have st2:A8 4 [(1,.cells 57 ((A4 D).map PV.t)),(0,zD)] (.ptr 0 0) (.t (dT D))=some _:=Iu rfl;refine Aw C ?_;simp -implicitDefEqProofs [ld2,st2,-EB];exact FP (d:=D) (ty:=57) rfl rfl rfl rfl rfl
section
variable {L : List KT} {rec : Nat -> Res Ds}
def lsR (L:List KT) (rec:Nat->Res Ds) (en:List UInt8) (diff:Bool):Nat->Nat->Int->List Ds->Res Ds
 | 0,_,_,_=>.error 0
 | f+1,p,op,kids=>match rec p with
  | .error e=>.error e
  | .ok (d,p1)=>if Au L p1 en then .ok (.mk op ⟨#[]⟩ [] (kids++[d]),p1+1)
   else if op=7\/((!diff&&Au L p1 [124])=false/\Au L p1 [44]=false)then .error (Bi L p1)
   else if 256<=kids.length+1 then .error 7
   else lsR L rec en diff f (p1+1) (if(!diff&&Au L p1 [124])=true then 7 else op) (kids++[d])
theorem J5 {p:Nat} {a b:List UInt8} (h:Au L p a=true) (hab:a≠b):Au L p b=false:=by
 unfold Au at h ⊢
 cases hx:L[p]? with
 | none=>rfl
 | some x=>
  rw[hx]at h;simp only[Xs,decide_eq_true_eq]at h;simp only[Y7,decide_eq_false_iff_not];right;rw[h.2];exact hab
theorem NT {p:Nat} {s:List UInt8} {op:Int} {kids:List Ds} (h:Au L p s=true):Cn L s op kids p = .ok (.mk op ⟨#[]⟩ [] kids,p+1):=by
 have:=Bo h;unfold Cn Bk;rw[zz (by omega),zy h]
theorem SH {p:Nat} {s:List UInt8} {op:Int} {kids:List Ds} (h:Au L p s=false):Cn L s op kids p = .error (Bi L p):=by
 unfold Cn Bk Bi;rw[h];by_cases hp:L.length<=p
 .rw[zy hp,zy hp]
 .rw[zz hp,zz hp];rfl
theorem yQ {f p:Nat} {kids:List Ds}:lsR L rec [62] false (f+1) p 7 kids=match rec p with
  | .error e=>.error e
  | .ok (d,p1)=>Cn L [62] 7 (kids++[d]) p1:=by
 rw[lsR]
 cases rec p with
 | error e=>rfl
 | ok x=>
  obtain⟨d,p1⟩:=x;simp only
  cases hs:Au L p1 [62]with
  | true=>rw[NT hs];rfl
  | false=>rw[SH hs];simp
def lsT (L:List KT) (rec:Nat->Res Ds):Res (List Ds)->Res Ds
 | .error e=>.error e
 | .ok (kids',p2)=>if Au L p2 [124]then(if 256<=kids'.length then .error 7 else match rec (p2+1)with
  | .error e=>.error e
  | .ok (d',p3)=>Cn L [62] 7 (kids'++[d']) p3)else Cn L [62] 6 kids' p2
theorem SI (hF:Fwd L rec):∀(f p:Nat) (kids:List Ds),L.length-p<f->lsR L rec [62] false f p 6 kids=match rec p with
  | .error e=>.error e
  | .ok (d,p1)=>lsT L rec (itS L rec f p1 (kids++[d]))
 | 0,p,kids,h=>by omega
 | f+1,p,kids,h=>by
  rw[lsR]
  cases hd:rec p with
  | error e=>rfl
  | ok x=>
   obtain⟨d,p1⟩:=x;have hf:=hF _ _ _ hd;simp only;rw[itS]
   cases h62:Au L p1 [62]with
   | true=>
    have h44:=J5 h62 (b:=[44]) (by decide);have h124:=J5 h62 (b:=[124]) (by decide);rw[h44];simp only[if_true,Xe,if_false,lsT,h124];rw[NT h62]
   | false=>
    cases h124:Au L p1 [124]with
    | true=>
     have h44:=J5 h124 (b:=[44]) (by decide);have hl:=Bo h124;rw[h44];simp only[Xe,if_false,lsT,h124,if_true,Xm,X2,Ye,Yf];rw[zz (by simp)];split
     .rfl
     .obtain⟨f',rfl⟩:∃f',f=f'+1:=⟨f-1,by omega⟩
      rw[yQ]
    | false=>
     cases h44:Au L p1 [44]with
     | true=>
      have hl:=Bo h44;simp only[Xe,if_false,h124,if_true,Xm,X2,Ye,Yf];rw[zz (by simp)];split
      .rfl
      .rw[SI hF f _ _ (by omega)]
       cases rec (p1+1)with
       | error e=>rfl
       | ok y=>rfl
     | false=>
      simp only[Xe,if_false,lsT,h124];rw[zy (by simp),SH h62]
theorem SJ (hF:Fwd L rec):∀(f p:Nat) (kids:List Ds),L.length-p<f->lsR L rec [33,62] true f p 8 kids=match rec p with
  | .error e=>.error e
  | .ok (d,p1)=>match itS L rec f p1 (kids++[d])with
   | .error e=>.error e
   | .ok (kids',p2)=>Cn L [33,62] 8 kids' p2
 | 0,p,kids,h=>by omega
 | f+1,p,kids,h=>by
  rw[lsR]
  cases hd:rec p with
  | error e=>rfl
  | ok x=>
   obtain⟨d,p1⟩:=x;have hf:=hF _ _ _ hd;simp only;rw[itS]
   cases h62:Au L p1 [33,62]with
   | true=>
    have h44:=J5 h62 (b:=[44]) (by decide);rw[h44];simp only[if_true,Xe,if_false];rw[NT h62]
   | false=>
    cases h44:Au L p1 [44]with
    | true=>
     have hl:=Bo h44;simp only[Xe,if_false,if_true,Xm,X2,Bool.not_true,Bool.false_and];rw[zz (by simp)];split
     .rfl
     .rw[SJ hF f _ _ (by omega)]
      cases rec (p1+1)with
      | error e=>rfl
      | ok y=>rfl
    | false=>
     simp only[Xe,if_false];rw[zy (by simp),SH h62]
def enB (diff:Bool):ByteArray:=if diff then⟨#[33,62]⟩else⟨#[62]⟩
def opB (diff:Bool):Int:=if diff then 8 else 6
def GF (L:List KT) (rec:Nat->Res Ds) (diff:Bool) (p:Nat):Res Ds:=
 if Au L p (enB diff).data.toList then .ok (.mk (opB diff) ⟨#[]⟩ [] [],p+1)else lsR L rec (enB diff).data.toList diff (L.length+1) p (opB diff) []
theorem yR (hF:Fwd L rec) (hend:∀p,L.length<=p->rec p = .error 9) (p:Nat):GF L rec false p=DH L rec p:=by
 unfold GF DH;show(if Au L p [62]then Except.ok (Ds.mk 6 ⟨#[]⟩ [] [],p+1)else lsR L rec [62] false (L.length+1) p 6 [])=_;by_cases hp:L.length<=p
 .have:Au L p [62]=false:=by
   cases h:Au L p [62]with
   | true=>have:=Bo h;omega
   | false=>rfl
  rw[this,zy hp,SI hF _ _ _ (by omega),hend p hp];rfl
 .rw[zz hp]
  cases h:Au L p [62]with
  | true=>simp only[if_true];rw[NT h]
  | false=>
   simp only[Xe,if_false];rw[SI hF _ _ _ (by omega)]
   cases rec p with
   | error e=>rfl
   | ok y=>
    obtain⟨d,p1⟩:=y;simp only[X1]
    cases itS L rec (L.length+1) p1 [d]with
    | error e=>rfl
    | ok z=>rfl
theorem yS (hF:Fwd L rec) (hend:∀p,L.length<=p->rec p = .error 9) (p:Nat):GF L rec true p=DI L rec p:=by
 unfold GF DI;show(if Au L p [33,62]then Except.ok (Ds.mk 8 ⟨#[]⟩ [] [],p+1)else lsR L rec [33,62] true (L.length+1) p 8 [])=_;by_cases hp:L.length<=p
 .have:Au L p [33,62]=false:=by
   cases h:Au L p [33,62]with
   | true=>have:=Bo h;omega
   | false=>rfl
  rw[this,zy hp,SJ hF _ _ _ (by omega),hend p hp];rfl
 .rw[zz hp]
  cases h:Au L p [33,62]with
  | true=>simp only[if_true];rw[NT h]
  | false=>
   simp only[Xe,if_false];rw[SJ hF _ _ _ (by omega)]
   cases rec p with
   | error e=>rfl
   | ok y=>rfl
end
theorem bV {L:List KT}:∀n p,L.length<=p->As L n p = .error 9
 | 0,p,h=>by unfold As;rw[zy h]
 | n+1,p,h=>by unfold As;rw[zy h]
variable {q : Gl} {t : T} {l : List Tok} {i : Nat}
structure Rl where
 f:Nat
 p:Nat
 op:Int
 kids:List Ds
abbrev Gn (op:Int) (b:Nat) (kids:List Ds):Row:=.cells 57 [.t (iv op),.t (sv ⟨#[]⟩),.t Ad,rowP eD b kids]
def SRl (t:T) (v:Int) (diff:Bool) (a:Rl):Ac:=
 ⟨[(1,.t (iv (a.p:Int))),(3,.t (bv diff)),(12,.t (sv (enB diff))),(11,.ptr 1 0),(2,.t (iv v)),(0,.t t),(8,.ptr 0 0)],[(1,Gn a.op 2 a.kids),(0,zD)]++Ax eD 57 2 a.kids,3,88⟩
theorem bW (R:Ab) (d:Ds) (x0 x1 x2 x3:PV):A8 4 ((3,.cells 57 [x0,x1,x2,x3])::R) (.ptr 3 0) (.t (dT d))=some ((3,.cells 57 ((A4 d).map .t))::R):=by
 cases d;rw[dT,A4];rfl
theorem yT (R:Ab) (d:Ds):Ao true 4 ((3,.cells 57 ((A4 d).map .t))::R) (.ptr 3 0)=some (.t (dT d)):=GC rfl
theorem bX (op:Int) (kids:List Ds):(A4 (.mk op ⟨#[]⟩ [] kids)).map PV.t=[.t (iv op),.t (sv ⟨#[]⟩),.t Ad,.t (Am eD kids)]:=by rw[FG];rfl
theorem so1 (R:Ab) (k:Int) (y z u v:PV):A8 1 ((1,.cells 57 [y,z,u,v])::R) (.ptr 1 0) (.t (iv k))=some ((1,.cells 57 [.t (iv k),z,u,v])::R):=rfl
theorem yU {H:Ab} {b ty:Nat} {x0 x1 x2 x3:PV} (h:Aa H b=some (.cells ty [x0,x1,x2,x3])) (k:Int):A8 1 H (.ptr b 0) (.t (iv k))=some (upd H b (.cells ty [.t (iv k),x1,x2,x3])):=by
 simp only[A8,h];rfl
theorem yV {P:Program} {G:Ay} {B b nx n:Nat} {op:Int} {kids:List Ds} {env env':List (Nat×PV)} {H:Ab} (hB:B<=2) (hr:Ar eD 57 H b kids) (hb:1<b) (h1:Aa H 1=some (Gn op b kids)) (h0:Aa H 0=some zD)
  (he:∀x∈env',∃p,Aa env x.1=some p/\B5 H [b] p=x.2/\under 2 x.2=true) :
  Sub P G B ⟨env,H,nx,n⟩ ⟨env',[(1,.cells 57 ((A4 (.mk op ⟨#[]⟩ [] kids)).map .t)),(0,zD)],2,n⟩:=by
 refine SA [b] hB he ?_;intro y hy;simp only[Xi,Xn,or_false]at hy;rcases hy with rfl | rfl
 .exact⟨by simp;omega,by show 1<2;omega,NB _ _,_,h1,by rw[bX];simp only[SC,Yc,Yd,Mi,Mb hr Yb]⟩
 .exact⟨by simp;omega,by show 0<2;omega,rfl,_,h0,rfl⟩
theorem yW (ht:IsS Ap t l) (hlim:l.length<=1000000) {n:Nat} (hW:Ho q t l n) (hn:n<=64) (hi:i<=l.length) (diff:Bool):AA Xa (G q) 200 [t,iv (i:Int),iv (64-(n:Int)),bv diff] (· = BV (GF (l.map kt) (As (l.map kt) n) diff i)):=by
 have C:=(bT ht hW).ctx mixed
 obtain⟨L,hL⟩:∃L,L=l.map kt:=⟨_,rfl⟩
 have hLl:L.length=l.length:=by rw[hL,Xb]
 have his:∀(i:Nat) (s:ByteArray) (b:Bool),Au L i s.data.toList=b->Cj l t [t,iv (i:Int),sv s]=some (bv b):=λi s b h=>by rw[EM,<-hL,h]
 have hwr:∀(i:Nat),Ck l t [t,iv (i:Int)]=some (iv (Bi L i)):=λi=>by rw[DK,hL]
 have hwh:∀{i:Nat},i<=l.length->gWh l t n [t,iv (i:Int),iv (65-(n:Int))]=some (BV (As L n i)):=λh=>by rw[SE h,hL]
 have hF:=D2 (l:=L) n;rw[<-hL]
 have ev:Xc.wrap (64-(n:Int)+1)=65-(n:Int):=by
  rw[Fs (by omega) (by omega)];omega
 obtain⟨R,hR⟩:∃R,R=GF L (As L n) diff i:=⟨_,rfl⟩
 rw[<-hR];unfold GF at hR;refine pP.call rfl ?_;(conv in WA=>cbv);refine Az C ?_;simp -implicitDefEqProofs;refine Az C ?_;simp -implicitDefEqProofs [-AF,bd1,st1];refine Az C ?_;simp -implicitDefEqProofs;refine BM (α:=Unit) (λ_=>⟨[(12,.t (sv (enB diff))),(11,.ptr 1 0),(8,.ptr 0 0),(0,.t t),(1,.t (iv (i:Int))),(2,.t (iv (64-(n:Int)))),(3,.t (bv diff))],[(1,Gn (opB diff) 2 []),(0,zD)],2,88⟩) (λ_=>True) (λ_=>rfl) ?_ ?_
 .cases diff with
  | false=>
   refine Aw C ?_;simp -implicitDefEqProofs;exact Aq.mk () trivial (sub_env (by simp -implicitDefEqProofs [enB]))
  | true=>
   refine Aw C ?_;simp -implicitDefEqProofs [so1];exact Aq.mk () trivial (sub_env (by simp -implicitDefEqProofs [enB]))
 .rintro⟨⟩ -;have sz0:∀{H:Ab} {x0 x1 x2 x3:PV},Aa H 0=some (.cells 57 [x0,x1,x2,x3])->A8 4 H (.ptr 0 0) (.t (dT zDs))=some (upd H 0 (.cells 57 ((A4 zDs).map .t))):=λh=>Iu h;have ew:∀p:Nat,p<l.length->Xc.wrap ((p:Int)+1)=((p+1:Nat):Int):=λp hp=>AH (by omega) (by omega)
  cases hs:Au L i (enB diff).data.toList with
  | true=>
   rw[hs]at hR;simp only[if_true]at hR
   have hlt:i<l.length:=by have:=Bo hs;omega
   have h1:=his i (enB diff) true hs
   obtain⟨i1,hi1⟩:∃i1,i1=i+1:=⟨_,rfl⟩
   have e1:Xc.wrap ((i:Int)+1)=(i1:Int):=by rw[hi1];exact ew i hlt
   rw[<-hi1]at hR;have ld:Ao true 4 [(1,Gn (opB diff) 2 []),(0,zD)] (.ptr 1 0)=some (.t (dT (.mk (opB diff) ⟨#[]⟩ [] []))):=GC (ty:=57) (by rw[bX];rfl);have st:A8 4 [(1,Gn (opB diff) 2 []),(0,zD)] (.ptr 0 0) (.t (dT (.mk (opB diff) ⟨#[]⟩ [] [])))=some _:=Iu rfl;rw[hR];refine Az C ?_;simp -implicitDefEqProofs [tbR,h1,ld,st,e1,-EB];exact FP (d:=.mk (opB diff) ⟨#[]⟩ [] []) (ty:=57) rfl rfl rfl rfl rfl
  | false=>
   rw[hs]at hR;simp only[Xe,if_false]at hR;have h1:=his i (enB diff) false hs;refine Az C ?_;simp -implicitDefEqProofs [tbR,h1];refine BI ?_;refine CV (SRl t (64-(n:Int)) diff) (λa=>a.f) (λa=>a.p<=L.length/\L.length-a.p<a.f/\a.kids.length<=255/\lsR L (As L n) (enB diff).data.toList diff a.f a.p a.op a.kids=R) ⟨L.length+1,i,opB diff,[]⟩ (λ_=>rfl) ⟨by show i<=_;omega,by show L.length-i<L.length+1;omega,by simp,hR.symm⟩ ?_ rfl ?_
   .exact Dv (k:=2) (b:=2) (.inl rfl) (by omega) (by omega) (by simp -implicitDefEqProofs [BG,AX,ren,BU,Bl,under,rowP]) (by simp -implicitDefEqProofs [ren,under])
   .rintro⟨f,p,op,kids⟩ ⟨hp,hfu,hkl,heq⟩;simp only at hp hfu hkl heq;rw[hLl]at hp hfu
    obtain⟨f',rfl⟩:∃f',f=f'+1:=⟨f-1,by omega⟩
    rw[lsR]at heq;refine BI ?_;have hw:=hwh hp
    cases hd:As L n p with
    | error e=>
     rw[hd]at hw heq;simp only[BV]at hw;simp only at heq;have hne0:=F4 n _ _ hd
     have hb:(e != 0)=true:=by simpa using hne0
     rw[<-heq];refine Az C ?_;simp -implicitDefEqProofs [SRl,tbR,ev,hw];rw[bW,FE];refine Aw C ?_;have sz:=sz0 (H:=(3,.cells 57 ((A4 zDs).map PV.t))::(1,Gn op 2 kids)::(0,zD)::Ax eD 57 2 kids) rfl;simp -implicitDefEqProofs [hb,-AF,bdZ,sz,-EB];exact FP (d:=zDs) (ty:=57) rfl rfl rfl rfl rfl
    | ok y=>
     obtain⟨d,p1⟩:=y;rw[hd]at hw heq;simp only[BV]at hw;simp only at heq;have hf1:=hF _ _ _ hd;rw[hLl]at hf1;refine Az C ?_;simp -implicitDefEqProofs [SRl,tbR,ev,hw];rw[bW,FE];refine Az C ?_;simp -implicitDefEqProofs
     obtain⟨H0,hH0⟩:∃H0:Ab,H0=(3,.cells 57 ((A4 d).map PV.t))::(1,Gn op 2 kids)::(0,zD)::Ax eD 57 2 kids:=⟨_,rfl⟩
     rw[<-hH0]
     have ld3:Ao true 4 H0 (.ptr 3 0)=some (.t (dT d)):=by rw[hH0];exact yT _ _
     have ldk:Ao false 1 H0 (.ptr 1 3)=some (rowP eD 2 kids):=NS (cs:=[.t (iv op),.t (sv ⟨#[]⟩),.t Ad,rowP eD 2 kids]) (by rw[hH0];rfl)
     obtain⟨kids',hkids⟩:∃kids',kids'=kids++[d]:=⟨_,rfl⟩
     have hkl':kids'.length=kids.length+1:=by rw[hkids];simp
     have hkne:kids'≠[]:=by rw[hkids];simp
     rw[<-hkids]at heq
     obtain⟨b2,H2,n2,ap2,r2,ne2,hle2,hold,hb2⟩:=Gd (e:=eD) (ty:=57) (by':=72) (nx:=5) (m:=[d]) (H:=(4,.cells 57 ((A4 d).map .t))::H0) (b:=2) (l:=kids)
      (by rw[hH0];exact((((Ar.head' eD 57 2 kids).cons (by omega)).cons (by omega)).cons (by omega)).cons (by omega)) (Gc (e:=eD) (b:=4) (ty:=57) d rfl) (by simp;omega) (by simp;omega)
     have ap2':B1 57 4 72 ((4,.cells 57 ((A4 d).map .t))::H0) 5 (rowP eD 2 kids) (.row 4 0 1 4)=some (rowP eD b2 kids',H2,n2):=by rw[hkids];exact ap2
     rw[<-hkids]at r2;have l20:Aa H2 0=some zD:=(hold 0 (by omega) (by omega)).trans (by rw[hH0];rfl);have l21:Aa H2 1=some (Gn op 2 kids):=(hold 1 (by omega) (by omega)).trans (by rw[hH0];rfl);have st:=aI l21 0 b2 kids'
     obtain⟨H3,hH3⟩:∃H3:Ab,H3=upd H2 1 (Gn op b2 kids'):=⟨_,rfl⟩
     rw[<-hH3]at st
     have l30:Aa H3 0=some zD:=by rw[hH3,A9,zz (by omega),l20]
     have l31:Aa H3 1=some (Gn op b2 kids'):=by rw[hH3,A9,zy rfl,l21];rfl
     have r3:Ar eD 57 H3 b2 kids':=r2.imp id λh=>by rw[hH3,A9,zz (by omega)];exact h
     refine Az C ?_;simp -implicitDefEqProofs [ld3,ldk,bsD,ap2',st]
     obtain⟨p2,hp2⟩:∃p2,p2=p1+1:=⟨_,rfl⟩
     rw[<-hp2]at heq
     cases hen:Au L p1 (enB diff).data.toList with
     | true=>
      rw[hen]at heq;simp only[if_true]at heq;have hl1:=Bo hen;rw[hLl]at hl1
      have e1:Xc.wrap ((p1:Int)+1)=(p2:Int):=by rw[hp2];exact ew p1 hl1
      have h2:=his p1 (enB diff) true hen;rw[<-heq];refine MC.sub (s':=⟨[(14,.t (iv (p1:Int))),(11,.ptr 1 0),(12,.t (sv (enB diff))),(0,.t t),(8,.ptr 0 0)],[(1,.cells 57 ((A4 (.mk op ⟨#[]⟩ [] kids')).map .t)),(0,zD)],2,88⟩) (yV (by omega) r3 (by omega) l31 l30 (by simp -implicitDefEqProofs [Mi,SB,under])) rfl ?_;have ld:Ao true 4 [(1,.cells 57 ((A4 (.mk op ⟨#[]⟩ [] kids')).map PV.t)),(0,zD)] (.ptr 1 0)=some (.t (dT (.mk op ⟨#[]⟩ [] kids'))):=GC rfl;have st5:A8 4 [(1,.cells 57 ((A4 (.mk op ⟨#[]⟩ [] kids')).map PV.t)),(0,zD)] (.ptr 0 0) (.t (dT (.mk op ⟨#[]⟩ [] kids')))=some _:=Iu rfl;refine Az C ?_;simp -implicitDefEqProofs [tbR,h2,ld,st5,e1,-EB];exact FP (d:=.mk op ⟨#[]⟩ [] kids') (ty:=57) rfl rfl rfl rfl rfl
     | false=>
      rw[hen]at heq;simp only[Xe,if_false]at heq;have h2:=his p1 (enB diff) false hen;refine Az C ?_;simp -implicitDefEqProofs [tbR,h2]
      obtain⟨bar,hbar⟩:∃bar,bar=(!diff&&Au L p1 [124]):=⟨_,rfl⟩
      rw[<-hbar]at heq;refine BM (α:=Unit) (λ_=>⟨[(16,.t (bv bar)),(14,.t (iv (p1:Int))),(3,.t (bv diff)),(12,.t (sv (enB diff))),(11,.ptr 1 0),(2,.t (iv (64-(n:Int)))),(0,.t t),(8,.ptr 0 0)],H3,n2,88⟩) (λ_=>True) (λ_=>rfl) ?_ ?_
      .cases diff with
       | true=>
        refine Aw C ?_;simp -implicitDefEqProofs;exact Aq.mk () trivial (sub_env (by simp -implicitDefEqProofs [hbar]))
       | false=>
        have h3:=his p1 ⟨#[124]⟩ bar (by rw[hbar];rfl);refine Aw C ?_;simp -implicitDefEqProofs [tbR,h3];exact Aq.mk () trivial (sub_env (by simp -implicitDefEqProofs))
      .rintro⟨⟩ -;have ldo:Ao false 1 H3 (.ptr 1 0)=some (.t (iv op)):=NS l31;have ldk3:Ao false 1 H3 (.ptr 1 3)=some (rowP eD b2 kids'):=NS l31;have sz:=sz0 l30;have hwp:=hwr p1
       have zend:∀(env:List (Nat×PV)) (nx:Nat) (e:Int),R = .error e->Aa env 8=some (.ptr 0 0)->Aa env 9=some (.t (iv 0))->Aa env 10=some (.t (iv e))->FC [RV.cell 8 true 4,RV.tmp 9,RV.tmp 10] (λx=>x=BV R) .ret ⟨env,upd H3 0 (.cells 57 ((A4 zDs).map .t)),nx,88⟩:=λenv nx e h h8 h9 h10=>by
        rw[h];exact FP (d:=zDs) (ty:=57) h8 (by rw[A9,zy rfl,l30];rfl) h9 h10 rfl
       refine BM (α:=Unit) (λ_=>⟨[(16,.t (bv bar)),(14,.t (iv (p1:Int))),(3,.t (bv diff)),(12,.t (sv (enB diff))),(11,.ptr 1 0),(2,.t (iv (64-(n:Int)))),(0,.t t),(8,.ptr 0 0)],H3,n2,88⟩) (λ_=>¬(op=7\/bar=false/\Au L p1 [44]=false)/\(bar=true\/Au L p1 [44]=true)) (λ_=>rfl) ?_ ?_
       .by_cases hop:op=7
        .rw[zy (.inl hop)]at heq
         have hob:(op==7)=true:=by simpa using hop
         refine Aw C ?_;simp -implicitDefEqProofs [tbR,ldo,hob,hwp,-AF,bdZ,sz,-EB];exact zend _ _ _ heq.symm rfl rfl rfl
        .have hob:(op==7)=false:=by simpa using hop
         cases hb:bar with
         | true=>
          refine Aw C ?_;simp -implicitDefEqProofs [tbR,ldo,hob];exact Aq.mk () (by simp[hop]) (sub_env (by simp -implicitDefEqProofs))
         | false=>
          cases h44:Au L p1 [44]with
          | true=>
           have h3:=his p1 ⟨#[44]⟩ true h44;refine Aw C ?_;simp -implicitDefEqProofs [tbR,ldo,hob,h3];exact Aq.mk () (by simp[hop]) (sub_env (by simp -implicitDefEqProofs))
          | false=>
           rw[zy (.inr ⟨hb,h44⟩)]at heq;have h3:=his p1 ⟨#[44]⟩ false h44;refine Aw C ?_;simp -implicitDefEqProofs [tbR,ldo,hob,h3,hwp,-AF,bdZ,sz,-EB];exact zend _ _ _ heq.symm rfl rfl rfl
       .rintro⟨⟩ ⟨hnw,hsy⟩;rw[zz hnw]at heq
        have hl1:p1<l.length:=by
         rcases hsy with h | h
         .have:Au L p1 [124]=true:=by rw[hbar]at h;simp only[Xs]at h;exact h.2
          have:=Bo this;omega
         .have:=Bo h;omega
        have hfu2:=S6 kids';have htr:=r3.toT
        have e1:Xc.wrap ((p1:Int)+1)=(p2:Int):=by rw[hp2];exact ew p1 hl1
        unfold KE at hfu2;by_cases hbig:256<=kids.length+1
        .rw[zy hbig]at heq;rw[zy (by omega)]at hfu2;refine Az C ?_;simp -implicitDefEqProofs [tbR,ldk3,htr,hfu2,CE];refine Aw C ?_;simp -implicitDefEqProofs [-AF,bdZ,sz,-EB];exact zend _ _ _ heq.symm rfl rfl rfl
        .rw[zz hbig]at heq;rw[zz (by omega)]at hfu2;refine Az C ?_;simp -implicitDefEqProofs [tbR,ldk3,htr,hfu2,CE];refine Az C ?_;simp -implicitDefEqProofs;have sop:=yU l31 7
         obtain⟨H4,hH4⟩:∃H4:Ab,H4=upd H3 1 (Gn 7 b2 kids'):=⟨_,rfl⟩
         rw[<-hH4]at sop
         have l40:Aa H4 0=some zD:=by rw[hH4,A9,zz (by omega),l30]
         have l41:Aa H4 1=some (Gn 7 b2 kids'):=by rw[hH4,A9,zy rfl,l31];rfl
         have r4:Ar eD 57 H4 b2 kids':=r3.imp id λh=>by rw[hH4,A9,zz (by omega)];exact h
         cases hb:bar with
         | true=>
          rw[hb]at heq;simp only[if_true]at heq;refine Aw C ?_;simp -implicitDefEqProofs [sop,e1];refine Aq.mk ⟨f',p2,7,kids'⟩ ⟨⟨by show p2<=_;omega,by show L.length-p2<f';omega,by show kids'.length<=255;omega,heq⟩,by show f'<f'+1;omega⟩ ?_;exact Dv (k:=b2) (b:=2) r4 (by omega) (by omega) (by simp -implicitDefEqProofs [BG,AX,ren,Cs,Ct,BU,Bl,under,l40,l41];omega) (by simp -implicitDefEqProofs [ren,under])
         | false=>
          rw[hb]at heq;simp only[Xe,if_false]at heq;refine Aw C ?_;simp -implicitDefEqProofs [e1];refine Aq.mk ⟨f',p2,op,kids'⟩ ⟨⟨by show p2<=_;omega,by show L.length-p2<f';omega,by show kids'.length<=255;omega,heq⟩,by show f'<f'+1;omega⟩ ?_;exact Dv (k:=b2) (b:=2) r3 (by omega) (by omega) (by simp -implicitDefEqProofs [BG,AX,ren,Cs,Ct,BU,Bl,under,l30,l31];omega) (by simp -implicitDefEqProofs [ren,under])
variable {q : Gl} {t : T} {l : List Tok} {i : Nat}
noncomputable def gPr (l:List Tok) (t:T) (n:Nat) (ts:List T):Option T:=open Classical in match ts with
 | [t',.v (.int .i64 i),.v (.int .i64 v)]=>if t'=t/\0<=i/\i<=(l.length:Int)/\v=64-(n:Int)then some (BV (DG (l.map kt) (As (l.map kt) n) i.toNat))else none
 | _=>none
theorem yX {n:Nat} (hi:i<=l.length):gPr l t n [t,iv (i:Int),iv (64-(n:Int))]=some (BV (DG (l.map kt) (As (l.map kt) n) i)):=by
 have:i=((i:Int)).toNat:=by omega
 exact(zy ⟨rfl,by omega,by omega,rfl⟩).trans (by rw[<-this])
theorem yY (ht:IsS Ap t l) (hlim:l.length<=1000000) {n:Nat} (hW:Ho q t l n) (hn:n<=64):GOK Xa (G q) 208 (gPr l t n):=λargs r h=>by
 unfold gPr at h;split at h
 .split at h
  .rename_i hc;obtain⟨rfl,h0,h1,rfl⟩:=hc;injection h with h;subst h;obtain⟨m,rfl⟩:=Xt h0;exact yP ht hlim hW hn (by omega)
  .cases h
 .cases h
noncomputable def gLi (l:List Tok) (t:T) (n:Nat) (ts:List T):Option T:=open Classical in match ts with
 | [t',.v (.int .i64 i),.v (.int .i64 v),.v (.bool b)]=>if t'=t/\0<=i/\i<=(l.length:Int)/\v=64-(n:Int)then some (BV (GF (l.map kt) (As (l.map kt) n) b i.toNat))else none
 | _=>none
theorem yZ {n:Nat} (hi:i<=l.length) (b:Bool):gLi l t n [t,iv (i:Int),iv (64-(n:Int)),bv b]=some (BV (GF (l.map kt) (As (l.map kt) n) b i)):=by
 have:i=((i:Int)).toNat:=by omega
 exact(zy ⟨rfl,by omega,by omega,rfl⟩).trans (by rw[<-this])
theorem z7 (ht:IsS Ap t l) (hlim:l.length<=1000000) {n:Nat} (hW:Ho q t l n) (hn:n<=64):GOK Xa (G q) 200 (gLi l t n):=λargs r h=>by
 unfold gLi at h;split at h
 .split at h
  .rename_i hc;obtain⟨rfl,h0,h1,rfl⟩:=hc;injection h with h;subst h;obtain⟨m,rfl⟩:=Xt h0;exact yW ht hlim hW hn (by omega) _
  .cases h
 .cases h
theorem z8 {L:List KT} {rec:Nat->Res Ds} {f p:Nat} {parts:List Ds}:brS L rec (f+1) p parts=match DG L rec p with
  | .error e=>.error e
  | .ok (d,p1)=>if Au L p1 [93]then .ok (parts++[d],p1+1)else if Au L p1 [44]=false then .error (Bi L p1)else if 256<=parts.length+1 then .error 7 else brS L rec f (p1+1) (parts++[d]):=by
 rw[brS]
 cases DG L rec p with
 | error e=>rfl
 | ok x=>
  obtain⟨d,p1⟩:=x;simp only
  cases h93:Au L p1 [93]with
  | true=>
   rw[J5 h93 (b:=[44]) (by decide)];have:=Bo h93;simp only[Xe,if_false,if_true];unfold Bk;rw[zz (by omega),zy h93]
  | false=>
   cases h44:Au L p1 [44]with
   | true=>simp
   | false=>
    simp only[Xe,if_false,if_true];unfold Bk Bi;rw[h93];by_cases hp:L.length<=p1
    .rw[zy hp,zy hp]
    .rw[zz hp,zz hp];rfl
theorem bY (R:Ab) (d:Ds):A8 4 ((2,zD)::R) (.ptr 2 0) (.t (dT d))=some ((2,.cells 57 ((A4 d).map .t))::R):=SD R d _ _ _ _
def Hp (b:Nat):Res (List Ds)->PV
 | .ok (parts,p)=>.tu [rowP eD b parts,.t (iv (p:Int)),.t (iv 0)]
 | .error e=>.t (.tu [Ad,iv 0,iv e])
def Ml (b:Nat):Res (List Ds)->Ab
 | .ok (parts,_)=>Ax eD 57 b parts
 | .error _=>[]
abbrev KT2 (q:Gl) (t:T) (f:FuncId) (i:Nat) (lv:Int) (parts:List Ds) (r:Res (List Ds)):Prop:=
 AB Xa (G q) f [.t t,.t (iv (i:Int)),.t (iv lv),rowP eD 0 parts] (Ax eD 57 0 parts) 1 (Hp 1 r) (Ml 1 r) 2
theorem KJ {B N a b c:Nat} {parts:List Ds} {p:Nat} {s:Ac} {k:Nat} (hp:parts≠[]) (hB:B<=1) (hr:Ar eD 57 s.H k parts) (hn:s.n=N) (ab:a≠b) (ac:a≠c) (bc:b≠c) (ha:Aa s.env a=some (rowP eD k parts)) (hb:Aa s.env b=some (.t (iv (p:Int)))) (hc:Aa s.env c=some (.t (iv 0))) :
  EA Xa (G q) B [RV.tmp a,RV.tmp b,RV.tmp c] (λr0 H0 nx0=>r0=Hp 1 (.ok (parts,p))/\H0=Ml 1 (.ok (parts,p))/\nx0=2) .ret s:=by
 obtain⟨env,H,nx,n⟩:=s;refine⟨.inr rfl,⟨[(a,rowP eD 1 parts),(b,.t (iv (p:Int))),(c,.t (iv 0))],Ax eD 57 1 parts,2,n⟩,[rowP eD 1 parts,.t (iv (p:Int)),.t (iv 0)],?_,?_,?_,rfl,rfl⟩
 .refine Jd (k:=k) hr (by omega) hB ?_;intro x hx;simp only[Xi,Xn,or_false]at hx;rcases hx with rfl | rfl | rfl
  .exact⟨by rw[Cs,zy rfl];exact ha,Ct _ _ _ _ (by omega)⟩
  .exact⟨hb,rfl⟩
  .exact⟨hc,rfl⟩
 .simp[CH,Aa,ab,ac,bc,Ne.symm ab,Ne.symm ac,Ne.symm bc]
 .cases parts with
  | nil=>exact absurd rfl hp
  | cons x r=>rfl
theorem Hq {B a b c:Nat} {e:Int} {s:Ac} (hB:B<=2) (ab:a≠b) (ac:a≠c) (bc:b≠c) (ha:Aa s.env a=some (.t Ad)) (hb:Aa s.env b=some (.t (iv 0))) (hc:Aa s.env c=some (.t (iv e))) :
  EA Xa (G q) B [RV.tmp a,RV.tmp b,RV.tmp c] (λr0 H0 nx0=>r0=Hp 1 (.error e)/\H0=Ml 1 (.error e)/\nx0=2) .ret s:=by
 obtain⟨env,H,nx,n⟩:=s;refine⟨.inr rfl,⟨[(a,.t Ad),(b,.t (iv 0)),(c,.t (iv e))],[],2,n⟩,[.t Ad,.t (iv 0),.t (iv e)],?_,?_,rfl,rfl,rfl⟩
 .refine Rm hB ?_;intro x hx;simp only[Xi,Xn,or_false]at hx;rcases hx with rfl | rfl | rfl
  .exact⟨ha,rfl⟩
  .exact⟨hb,rfl⟩
  .exact⟨hc,rfl⟩
 .simp[CH,Aa,ab,ac,bc,Ne.symm ab,Ne.symm ac,Ne.symm bc]
noncomputable def tbB (l:List Tok) (t:T) (n:Nat):Tbl:=[(178,Cj l t),(198,Ck l t),(179,KG),(208,gPr l t n)]
structure Rb where
 f:Nat
 p:Nat
 parts:List Ds
def SRb (t:T) (v:Int) (a:Rb):Ac:=⟨[(1,.t (iv (a.p:Int))),(3,rowP eD 1 a.parts),(2,.t (iv v)),(0,.t t)],Ax eD 57 1 a.parts,2,49⟩
theorem zA (ht:IsS Ap t l) (hlim:l.length<=1000000) {n:Nat} (hW:Ho q t l n) (hn:n<=64) (hi:i<=l.length) {parts:List Ds} (hpl:parts.length<=255) :
  KT2 q t 199 i (64-(n:Int)) parts (brS (l.map kt) (As (l.map kt) n) ((l.map kt).length+1) i parts):=by
 have HT:A5 Xa (G q) (tbB l t n):=.cons (KH ht) (.cons (PK ht) (.cons NQ (.cons (yY ht hlim hW hn) .nil)));have C:=HT.ctx mixed
 obtain⟨L,hL⟩:∃L,L=l.map kt:=⟨_,rfl⟩
 have hLl:L.length=l.length:=by rw[hL,Xb]
 have his:∀(i:Nat) (s:ByteArray) (b:Bool),Au L i s.data.toList=b->Cj l t [t,iv (i:Int),sv s]=some (bv b):=λi s b h=>by rw[EM,<-hL,h]
 have hwr:∀(i:Nat),Ck l t [t,iv (i:Int)]=some (iv (Bi L i)):=λi=>by rw[DK,hL]
 have hpr:∀{i:Nat},i<=l.length->gPr l t n [t,iv (i:Int),iv (64-(n:Int))]=some (BV (DG L (As L n) i)):=λh=>by rw[yX h,hL]
 have hF:=D2 (l:=L) n;rw[<-hL]
 obtain⟨R,hR⟩:∃R,R=brS L (As L n) (L.length+1) i parts:=⟨_,rfl⟩
 rw[<-hR];have ew:∀p:Nat,p<l.length->Xc.wrap ((p:Int)+1)=((p+1:Nat):Int):=λp hp=>AH (by omega) (by omega);refine pQ.callP rfl ?_;(conv in WB=>cbv);refine Az C ?_;simp -implicitDefEqProofs;refine BI ?_;refine CV (SRb t (64-(n:Int))) (λa=>a.f) (λa=>a.p<=L.length/\L.length-a.p<a.f/\a.parts.length<=255/\brS L (As L n) a.f a.p a.parts=R) ⟨L.length+1,i,parts⟩ (λ_=>rfl) ⟨by show i<=_;omega,by show L.length-i<L.length+1;omega,hpl,hR.symm⟩ ?_ rfl ?_
 .exact Jd (k:=0) (b:=1) (Ar.head' eD 57 0 parts) (by omega) (by omega) (by simp -implicitDefEqProofs [Cs,Ct,ren,under])
 .rintro⟨f,p,parts⟩ ⟨hp,hfu,hpl,heq⟩;simp only at hp hfu hpl heq;rw[hLl]at hp hfu
  obtain⟨f',rfl⟩:∃f',f=f'+1:=⟨f-1,by omega⟩
  rw[z8]at heq;refine BI ?_;have hw:=hpr hp
  cases hd:DG L (As L n) p with
  | error e=>
   rw[hd]at hw heq;simp only[BV]at hw;simp only at heq;have hne0:=bN (F4 n) _ _ hd
   have hb:(e != 0)=true:=by simpa using hne0
   rw[<-heq];refine Az C ?_;simp -implicitDefEqProofs [SRb,tbB,hw];have st2:=bY (Ax eD 57 1 parts) zDs;rw[st2,FE];refine Aw C ?_;simp -implicitDefEqProofs [hb];exact Hq (by omega) (by omega) (by omega) (by omega) rfl rfl rfl
  | ok y=>
   obtain⟨d,p1⟩:=y;rw[hd]at hw heq;simp only[BV]at hw;simp only at heq;have hf1:=Se hF hd;rw[hLl]at hf1;refine Az C ?_;simp -implicitDefEqProofs [SRb,tbB,hw];have st2:=bY (Ax eD 57 1 parts) d;rw[st2,FE];refine Az C ?_;simp -implicitDefEqProofs
   obtain⟨H0,hH0⟩:∃H0:Ab,H0=(2,.cells 57 ((A4 d).map PV.t))::Ax eD 57 1 parts:=⟨_,rfl⟩
   rw[<-hH0]
   have ld2:Ao true 4 H0 (.ptr 2 0)=some (.t (dT d)):=by rw[hH0];exact GC rfl
   obtain⟨kids',hkids⟩:∃kids',kids'=parts++[d]:=⟨_,rfl⟩
   have hkl':kids'.length=parts.length+1:=by rw[hkids];simp
   have hkne:kids'≠[]:=by rw[hkids];simp
   rw[<-hkids]at heq
   obtain⟨b2,H2,n2,ap2,r2,ne2,hle2,hold,hb2⟩:=Gd (e:=eD) (ty:=57) (by':=72) (nx:=4) (m:=[d]) (H:=(3,.cells 57 ((A4 d).map .t))::H0) (b:=1) (l:=parts)
    (by rw[hH0];exact((Ar.head' eD 57 1 parts).cons (by omega)).cons (by omega)) (Gc (e:=eD) (b:=3) (ty:=57) d rfl) (by simp;omega) (by simp;omega)
   have ap2':B1 57 4 72 ((3,.cells 57 ((A4 d).map .t))::H0) 4 (rowP eD 1 parts) (.row 3 0 1 4)=some (rowP eD b2 kids',H2,n2):=by rw[hkids];exact ap2
   rw[<-hkids]at r2;refine Az C ?_;simp -implicitDefEqProofs [ld2,bsD,ap2']
   obtain⟨p2,hp2⟩:∃p2,p2=p1+1:=⟨_,rfl⟩
   rw[<-hp2]at heq
   cases h93:Au L p1 [93]with
   | true=>
    rw[h93]at heq;simp only[if_true]at heq;have hl1:=Bo h93;rw[hLl]at hl1
    have e1:Xc.wrap ((p1:Int)+1)=(p2:Int):=by rw[hp2];exact ew p1 hl1
    have h2:=his p1 ⟨#[93]⟩ true h93;rw[<-heq];refine Az C ?_;simp -implicitDefEqProofs [tbB,h2,e1];exact KJ (k:=b2) hkne (by omega) r2 rfl (by omega) (by omega) (by omega) rfl rfl rfl
   | false=>
    rw[h93]at heq;simp only[Xe,if_false]at heq;have h2:=his p1 ⟨#[93]⟩ false h93;refine Az C ?_;simp -implicitDefEqProofs [tbB,h2]
    cases h44:Au L p1 [44]with
    | false=>
     rw[h44,zy rfl]at heq;rw[<-heq];have h3:=his p1 ⟨#[44]⟩ false h44;have hwp:=hwr p1;refine Az C ?_;simp -implicitDefEqProofs [tbB,h3,hwp];exact Hq (by omega) (by omega) (by omega) (by omega) rfl rfl rfl
    | true=>
     rw[h44,zz (by simp)]at heq;have hl1:=Bo h44;rw[hLl]at hl1
     have e1:Xc.wrap ((p1:Int)+1)=(p2:Int):=by rw[hp2];exact ew p1 hl1
     have h3:=his p1 ⟨#[44]⟩ true h44;refine Az C ?_;simp -implicitDefEqProofs [tbB,h3];have hfu2:=S6 kids';have htr:=r2.toT;unfold KE at hfu2;by_cases hbig:256<=parts.length+1
     .rw[zy hbig]at heq;rw[zy (by omega)]at hfu2;rw[<-heq];refine Az C ?_;simp -implicitDefEqProofs [tbB,htr,hfu2,CE];refine Aw C ?_;simp -implicitDefEqProofs;exact Hq (by omega) (by omega) (by omega) (by omega) rfl rfl rfl
     .rw[zz hbig]at heq;rw[zz (by omega)]at hfu2;refine Az C ?_;simp -implicitDefEqProofs [tbB,htr,hfu2,CE];refine Aw C ?_;simp -implicitDefEqProofs [e1];refine Aq.mk ⟨f',p2,kids'⟩ ⟨⟨by show p2<=_;omega,by show L.length-p2<f';omega,by show kids'.length<=255;omega,heq⟩,by show f'<f'+1;omega⟩ ?_;exact Jd (k:=b2) (b:=1) r2 (by omega) (by omega) (by simp -implicitDefEqProofs [Cs,Ct,ren,under])
variable {q : Gl} {t : T} {l : List Tok} {i : Nat}
def txS (L:List KT) (p:Nat):List UInt8:=((L[p]?).map (·.2)).getD []
theorem zB {L:List KT} {rec:Nat->Res Ds} {p:Nat} {parts:List Ds}:Di L rec p parts =
  if Cq L p 1=true then .ok (parts++[.mk 1 (bs (txS L p)) [] []],p+1)
  else if Au L p [64]=true then DJ parts (Fx 2 (AE L (p+1) 1))
  else if Au L p [35]=true then DJ parts (Fx 3 (AE L (p+1) 1))
  else if Au L p [91]=true then brS L rec (L.length+1) (p+1) parts
  else if Au L p [60]=true then DJ parts (DH L rec (p+1))
  else if Au L p [60,33]=true then DJ parts (DI L rec (p+1))
  else .error (Bi L p):=by
 unfold Di Cq Au txS Bi
 cases hx:L[p]? with
 | none=>
  have:L.length<=p:=by simpa using hx
  simp[this]
 | some x=>
  have hlt:=(Xh.1 hx).1
  have:¬L.length<=p:=by omega
  simp only[Ya,Y6,decide_eq_true_eq,Xs,this,if_false];by_cases h1:x.1=1
  .rw[zy h1,zy h1]
  .rw[zz h1,zz h1];by_cases h5:x.1=5
   .rw[zz (λh=>h h5)];simp only[h5,true_and]
   .rw[zy h5];simp only[h5,false_and,if_false]
theorem zC {L:List KT} {p:Nat} {k:Int}:AE L p k=if Cq L p k=true then .ok (bs (txS L p),p+1)else .error (Bi L p):=by
 unfold AE Cq txS Bi
 cases hx:L[p]? with
 | none=>
  have:L.length<=p:=by simpa using hx
  simp[this]
 | some x=>
  have hlt:=(Xh.1 hx).1
  have:¬L.length<=p:=by omega
  simp[this]
theorem bZ {L:List KT} {p:Nat} {k:Int} (h:Cq L p k=true):p<L.length:=by
 unfold Cq at h;split at h
 .rename_i x hx;exact(Xh.1 hx).1
 .cases h
theorem c6 (ht:IsS Ap t l) {L:List KT} (hL:L=l.map kt) {p:Nat} (hp:p<L.length):∃r k,Bm 3 (.t t) (.t (.v (.int .i64 (p:Int))))=some (.t (.pt (iv k::sv (bs (txS L p))::r))):=by
 have hp':p<l.length:=by rw[hL,Xb]at hp;exact hp
 obtain⟨x,hx⟩:∃x,l[p]?=some x:=⟨_,Xk hp'⟩
 obtain⟨r,hr⟩:=EH ht hx
 have:txS L p=x.t:=by unfold txS;rw[hL,E5,hx];rfl
 rw[this];exact⟨_,_,hr⟩
theorem PQ (R:Ab) (d:Ds):A8 4 ((1,zD)::R) (.ptr 1 0) (.t (dT d))=some ((1,.cells 57 ((A4 d).map .t))::R):=by
 cases d;rw[dT,A4];rfl
noncomputable def tbT (l:List Tok) (t:T) (n:Nat):Tbl:=[(178,Cj l t),(197,CT l t),(198,Ck l t),(200,gLi l t n)]
theorem c7 (ht:IsS Ap t l) (hlim:l.length<=1000000) {n:Nat} (hW:Ho q t l n) (hn:n<=64) (hi:i<=l.length) {parts:List Ds} (hpl:parts.length<=255) :
  KT2 q t 177 i (64-(n:Int)) parts (Di (l.map kt) (As (l.map kt) n) i parts):=by
 have HT:A5 Xa (G q) (tbT l t n):=.cons (KH ht) (.cons (S5 ht) (.cons (PK ht) (.cons (z7 ht hlim hW hn) .nil)));have C:=HT.ctx mixed;have hbr:=λ{i:Nat} (hi:i<=l.length)=>zA (q:=q) ht hlim hW hn hi hpl;have hli0:=λ{i:Nat} (hi:i<=l.length) (b:Bool)=>yZ (t:=t) (l:=l) (n:=n) hi b
 obtain⟨L,hL⟩:∃L,L=l.map kt:=⟨_,rfl⟩
 have hLl:L.length=l.length:=by rw[hL,Xb]
 have his:∀(i:Nat) (s:ByteArray) (b:Bool),Au L i s.data.toList=b->Cj l t [t,iv (i:Int),sv s]=some (bv b):=λi s b h=>by rw[EM,<-hL,h]
 have hkd:∀(i:Nat) (k:Int) (b:Bool),Cq L i k=b->CT l t [t,iv (i:Int),iv k]=some (bv b):=λi s b h=>by rw[E6,<-hL,h]
 have hwr:∀(i:Nat),Ck l t [t,iv (i:Int)]=some (iv (Bi L i)):=λi=>by rw[DK,hL]
 have hF:=D2 (l:=L) n;rw[<-hL]at hbr hli0 ⊢
 obtain⟨R,hR⟩:∃R,R=Di L (As L n) i parts:=⟨_,rfl⟩
 rw[<-hR];rw[zB]at hR;have ew:∀p:Nat,p<l.length->Xc.wrap ((p:Int)+1)=((p+1:Nat):Int):=λp hp=>AH (by omega) (by omega)
 obtain⟨i1,hi1⟩:∃i1,i1=i+1:=⟨_,rfl⟩
 obtain⟨i2,hi2⟩:∃i2,i2=i+2:=⟨_,rfl⟩
 rw[<-hi1]at hR
 obtain⟨H0,hH0⟩:∃H0:Ab,H0=Ax eD 57 0 parts:=⟨_,rfl⟩
 have r0:Ar eD 57 H0 0 parts:=by rw[hH0];exact Ar.head' eD 57 0 parts
 have app:∀(d:Ds) (k:Nat) (H:Ab),k=1\/k=2->Ar eD 57 H 0 parts->∃b4 H4 n4,B1 57 4 72 ((k,.cells 57 ((A4 d).map .t))::H) (k+1) (rowP eD 0 parts) (.row k 0 1 4)=some (rowP eD b4 (parts++[d]),H4,n4)/\Ar eD 57 H4 b4 (parts++[d]):=by
  intro d k H hk hr;obtain⟨b4,H4,n4,ap,r4,_⟩:=Gd (e:=eD) (ty:=57) (by':=72) (nx:=k+1) (m:=[d]) (H:=(k,.cells 57 ((A4 d).map .t))::H) (b:=0) (l:=parts) (hr.cons (by omega)) (Gc (e:=eD) (b:=k) (ty:=57) d (by simp[Aa,eD])) (by simp;omega) (by simp;omega);exact⟨b4,H4,n4,ap,r4⟩
 have hwi:=hwr i;refine WC.callP rfl ?_;rw[<-hH0];(conv in RA=>cbv);refine Az C ?_;simp -implicitDefEqProofs
 cases k1:Cq L i 1 with
 | true=>
  rw[k1,zy rfl]at hR;rw[hR];have hlt:=bZ k1;rw[hLl]at hlt
  have e1:Xc.wrap ((i:Int)+1)=(i1:Int):=by rw[hi1];exact ew i hlt
  obtain⟨r,k,hr⟩:=c6 ht hL (p:=i) (by omega);obtain⟨b4,H4,n4,ap,r4⟩:=app (.mk 1 (bs (txS L i)) [] []) 1 H0 (.inl rfl) r0;have hk:=hkd i 1 true k1;refine Az C ?_;simp -implicitDefEqProofs [tbT,hk,hr,BJ,-AF,bdN,bsD,ap,e1];exact KJ (k:=b4) (by simp) (by omega) r4 rfl (by omega) (by omega) (by omega) rfl rfl rfl
 | false=>
 rw[k1,zz (by simp)]at hR;have hk:=hkd i 1 false k1;refine Az C ?_;simp -implicitDefEqProofs [tbT,hk];by_cases hat:Au L i [64]=true\/Au L i [35]=true
 .have hlt:i<l.length:=by
   rcases hat with h | h
   .have:=Bo h;omega
   .have:=Bo h;omega
  have e1:Xc.wrap ((i:Int)+1)=(i1:Int):=by rw[hi1];exact ew i hlt
  have e2:Xc.wrap ((i:Int)+2)=(i2:Int):=AH (by omega) (by omega)
  obtain⟨o,ho⟩:∃o:Int,o=if Au L i [35]=true then 3 else 2:=⟨_,rfl⟩
  have hR2:R=DJ parts (Fx o (AE L i1 1)):=by
   cases h64:Au L i [64]with
   | true=>
    have h35:=J5 h64 (b:=[35]) (by decide);rw[h64,zy rfl]at hR;rw[h35,zz (by simp)]at ho;rw[hR,ho]
   | false=>
    have h35:Au L i [35]=true:=by rcases hat with h | h;rw[h64]at h;cases h;exact h
    rw[h64,zz (by simp),h35,zy rfl]at hR;rw[h35,zy rfl]at ho;rw[hR,ho]
  rw[zC]at hR2;have hwi1:=hwr i1
  have hsy:∃b64 b35,Cj l t [t,iv (i:Int),sv ⟨#[64]⟩]=some (bv b64)/\Cj l t [t,iv (i:Int),sv ⟨#[35]⟩]=some (bv b35)/\((b64=true/\b35=false/\o=2)\/(b64=false/\b35=true/\o=3)):=by
   refine⟨_,_,his i ⟨#[64]⟩ _ rfl,his i ⟨#[35]⟩ _ rfl,?_⟩;show(Au L i [64]=true/\Au L i [35]=false/\o=2)\/(Au L i [64]=false/\Au L i [35]=true/\o=3)
   cases h64:Au L i [64]with
   | true=>
    have h35:=J5 h64 (b:=[35]) (by decide);rw[h35,zz (by simp)]at ho;exact .inl ⟨rfl,h35,ho⟩
   | false=>
    have h35:Au L i [35]=true:=by rcases hat with h | h;rw[h64]at h;cases h;exact h
    rw[h35,zy rfl]at ho;exact .inr ⟨rfl,h35,ho⟩
  obtain⟨b64,b35,g64,g35,hb⟩:=hsy
  cases kk:Cq L i1 1 with
  | false=>
   rw[kk,zz (by simp)]at hR2;have hR3:R = .error (Bi L i1):=hR2;rw[hR3];have hk2:=hkd i1 1 false kk;rcases hb with⟨rfl,rfl,rfl⟩ | ⟨rfl,rfl,rfl⟩
   .refine Az C ?_;simp -implicitDefEqProofs [tbT,g64,g35,e1,hk2,hwi1];exact Hq (by omega) (by omega) (by omega) (by omega) rfl rfl rfl
   .refine Az C ?_;simp -implicitDefEqProofs [tbT,g64,g35,e1,hk2,hwi1];exact Hq (by omega) (by omega) (by omega) (by omega) rfl rfl rfl
  | true=>
   rw[kk,zy rfl]at hR2
   have e12:i1+1=i2:=by omega
   rw[e12]at hR2;have hR3:R = .ok (parts++[.mk o (bs (txS L i1)) [] []],i2):=hR2;rw[hR3];have hk2:=hkd i1 1 true kk;obtain⟨r,k,hr⟩:=c6 ht hL (bZ kk);obtain⟨b4,H4,n4,ap,r4⟩:=app (.mk o (bs (txS L i1)) [] []) 1 H0 (.inl rfl) r0;rcases hb with⟨rfl,rfl,rfl⟩ | ⟨rfl,rfl,rfl⟩
   .refine Az C ?_;simp -implicitDefEqProofs [tbT,g64,g35,e1,hk2,hr,BJ,-AF,bdN,bsD,ap,e2];exact KJ (k:=b4) (by simp) (by omega) r4 rfl (by omega) (by omega) (by omega) rfl rfl rfl
   .refine Az C ?_;simp -implicitDefEqProofs [tbT,g64,g35,e1,hk2,hr,BJ,-AF,bdN,bsD,ap,e2];exact KJ (k:=b4) (by simp) (by omega) r4 rfl (by omega) (by omega) (by omega) rfl rfl rfl
 .have h64:Au L i [64]=false:=by cases h:Au L i [64];rfl;exact absurd (.inl h) hat
  have h35:Au L i [35]=false:=by cases h:Au L i [35];rfl;exact absurd (.inr h) hat
  rw[h64,zz (by simp),h35,zz (by simp)]at hR;have g64:=his i ⟨#[64]⟩ false h64;have g35:=his i ⟨#[35]⟩ false h35;refine Az C ?_;simp -implicitDefEqProofs [tbT,g64,g35]
  cases h91:Au L i [91]with
  | true=>
   rw[h91,zy rfl]at hR;have hlt:=Bo h91;rw[hLl]at hlt
   have e1:Xc.wrap ((i:Int)+1)=(i1:Int):=by rw[hi1];exact ew i hlt
   have g91:=his i ⟨#[91]⟩ true h91
   have hb:AB Xa (G q) 199 [.t t,.t (iv (i1:Int)),.t (iv (64-(n:Int))),rowP eD 0 parts] (Ax eD 57 0 parts) 1 (Hp 1 R) (Ml 1 R) 2:=by rw[hR];exact hbr (by omega)
   rw[<-hH0]at hb
   have hfr:∀r:Res (List Ds),(∀b x,Aa H0 b=some x->b<1)->∀b x,Aa (Ml 1 r) b=some x->b<2:=by
    intro r _ b x hx
    cases r with
    | error e=>cases hx
    | ok y=>
     obtain⟨_,e⟩:=EU (BF hx);injection e with e;rw[e];omega
   cases hRe:R with
   | error e=>
    rw[hRe]at hb;have hb:AB Xa (G q) 199 [.t t,.t (iv (i1:Int)),.t (iv (64-(n:Int))),rowP eD 0 parts] H0 1 (.t (.tu [Ad,iv 0,iv e])) [] 2:=hb;have C':=HT.ctxH (.cons (Fu hb (hfr (.error e))) .nil) mixed;have ho:=EF [.t t,.t (iv (i1:Int)),.t (iv (64-(n:Int))),rowP eD 0 parts] H0 1 (.t (.tu [Ad,iv 0,iv e]),[],2);refine Az C' ?_;simp -implicitDefEqProofs [tbT,g91,e1,ho];exact Hq (by omega) (by omega) (by omega) (by omega) rfl rfl rfl
   | ok y=>
    obtain⟨parts',p⟩:=y;rw[hRe]at hb;have hb:AB Xa (G q) 199 [.t t,.t (iv (i1:Int)),.t (iv (64-(n:Int))),rowP eD 0 parts] H0 1 (.tu [rowP eD 1 parts',.t (iv (p:Int)),.t (iv 0)]) (Ax eD 57 1 parts') 2:=hb;have C':=HT.ctxH (.cons (Fu hb (hfr (.ok (parts',p)))) .nil) mixed;have ho:=EF [.t t,.t (iv (i1:Int)),.t (iv (64-(n:Int))),rowP eD 0 parts] H0 1 (.tu [rowP eD 1 parts',.t (iv (p:Int)),.t (iv 0)],Ax eD 57 1 parts',2)
    have hne:parts'≠[]:=λe=>by
     have:=(NF hF _ _ _ _ _ (hR.symm.trans hRe)).2.2.1;rw[e]at this;simp at this
    refine Az C' ?_;simp -implicitDefEqProofs [tbT,g91,e1,ho];exact KJ (k:=1) hne (by omega) (Ar.head' eD 57 1 parts') rfl (by omega) (by omega) (by omega) rfl rfl rfl
  | false=>
   rw[h91,zz (by simp)]at hR;have g91:=his i ⟨#[91]⟩ false h91;refine Az C ?_;simp -implicitDefEqProofs [tbT,g91];have hl0:=yR hF (bV n);have hl1:=yS hF (bV n)
   cases h60:Au L i [60]with
   | true=>
    have h33:=J5 h60 (b:=[60,33]) (by decide);rw[h60,zy rfl,<-hl0]at hR;have hlt:=Bo h60;rw[hLl]at hlt
    have e1:Xc.wrap ((i:Int)+1)=(i1:Int):=by rw[hi1];exact ew i hlt
    have g60:=his i ⟨#[60]⟩ true h60;have g33:=his i ⟨#[60,33]⟩ false h33;have gl:=hli0 (i:=i1) (by omega) false
    cases hd:GF L (As L n) false i1 with
    | error e=>
     rw[hd]at gl hR;simp only[BV]at gl;have hR3:R = .error e:=hR;rw[hR3];have hne0:e≠0:=bP (F4 n) hF _ _ (by rw[<-hl0];exact hd)
     have hb:(e != 0)=true:=by simpa using hne0
     have st:=PQ H0 zDs;refine Az C ?_;simp -implicitDefEqProofs [tbT,g60,g33,e1,gl,st,hb];exact Hq (by omega) (by omega) (by omega) (by omega) rfl rfl rfl
    | ok y=>
     obtain⟨d,p⟩:=y;rw[hd]at gl hR;simp only[BV]at gl;have hR3:R = .ok (parts++[d],p):=hR;rw[hR3];have st:=PQ H0 d;have ld:Ao true 4 ((1,.cells 57 ((A4 d).map .t))::H0) (.ptr 1 0)=some (.t (dT d)):=GC rfl;obtain⟨b4,H4,n4,ap,r4⟩:=app d 2 ((1,.cells 57 ((A4 d).map .t))::H0) (.inr rfl) (r0.cons (by omega));refine Az C ?_;simp -implicitDefEqProofs [tbT,g60,g33,e1,gl,st,ld,bsD,ap];exact KJ (k:=b4) (by simp) (by omega) r4 rfl (by omega) (by omega) (by omega) rfl rfl rfl
   | false=>
    rw[h60,zz (by simp)]at hR;have g60:=his i ⟨#[60]⟩ false h60
    cases h33:Au L i [60,33]with
    | true=>
     rw[h33,zy rfl,<-hl1]at hR;have hlt:=Bo h33;rw[hLl]at hlt
     have e1:Xc.wrap ((i:Int)+1)=(i1:Int):=by rw[hi1];exact ew i hlt
     have g33:=his i ⟨#[60,33]⟩ true h33;have gl:=hli0 (i:=i1) (by omega) true
     cases hd:GF L (As L n) true i1 with
     | error e=>
      rw[hd]at gl hR;simp only[BV]at gl;have hR3:R = .error e:=hR;rw[hR3];have hne0:e≠0:=bQ (F4 n) hF _ _ (by rw[<-hl1];exact hd)
      have hb:(e != 0)=true:=by simpa using hne0
      have st:=PQ H0 zDs;refine Az C ?_;simp -implicitDefEqProofs [tbT,g60,g33,e1,gl,st,hb];exact Hq (by omega) (by omega) (by omega) (by omega) rfl rfl rfl
     | ok y=>
      obtain⟨d,p⟩:=y;rw[hd]at gl hR;simp only[BV]at gl;have hR3:R = .ok (parts++[d],p):=hR;rw[hR3];have st:=PQ H0 d;have ld:Ao true 4 ((1,.cells 57 ((A4 d).map .t))::H0) (.ptr 1 0)=some (.t (dT d)):=GC rfl;obtain⟨b4,H4,n4,ap,r4⟩:=app d 2 ((1,.cells 57 ((A4 d).map .t))::H0) (.inr rfl) (r0.cons (by omega));refine Az C ?_;simp -implicitDefEqProofs [tbT,g60,g33,e1,gl,st,ld,bsD,ap];exact KJ (k:=b4) (by simp) (by omega) r4 rfl (by omega) (by omega) (by omega) rfl rfl rfl
    | false=>
     rw[h33,zz (by simp)]at hR;rw[hR];have g33:=his i ⟨#[60,33]⟩ false h33;refine Az C ?_;simp -implicitDefEqProofs [tbT,g60,g33];refine Aw C ?_;simp -implicitDefEqProofs [tbT,hwi];exact Hq (by omega) (by omega) (by omega) (by omega) rfl rfl rfl
variable {q : Gl} {t : T} {l : List Tok} {i : Nat}
def Gp (H:Ab) (b NX:Nat) (parts:List Ds):Res (List Ds)->Ab
 | .ok (parts',_)=>(NX,rowOf eD 57 parts')::(if parts.isEmpty then H else rem H b)
 | .error _=>if parts.isEmpty then H else rem H b
theorem KT2.lift {f:FuncId} {lv:Int} {parts:List Ds} {r:Res (List Ds)} (h:KT2 q t f i lv parts r) {H:Ab} {b NX:Nat} (hb:Ar eD 57 H b parts) (hlt:b<NX)
  (hne:∀parts' p,r = .ok (parts',p)->parts'≠[]):AB Xa (G q) f [.t t,.t (iv (i:Int)),.t (iv lv),rowP eD b parts] H NX (Hp NX r) (Gp H b NX parts r) (NX+1):=by
 have a3:∀x∈Ax eD 57 0 parts,Aa H b=some (BG (λ_=>b) x.2)/\x.1<1/\BU 1 x.2=true:=λx hx=>by
  obtain⟨hn,rfl⟩:=EU hx;refine⟨?_,by show 0<1;omega,Ia _ _ _ _⟩;rw[HZ];exact hb.resolve_left hn
 have a4:Bl 1 [.t t,.t (iv (i:Int)),.t (iv lv),rowP eD 0 parts]=true:=by simp[Bl,under,Ct]
 have ea:AX (λ_=>b) [.t t,.t (iv (i:Int)),.t (iv lv),rowP eD 0 parts]=[.t t,.t (iv (i:Int)),.t (iv lv),rowP eD b parts]:=by simp only[AX,ren,Cs]
 have hu:under 2 (Hp 1 r)=true:=by
  cases r with
  | error e=>rfl
  | ok x=>simp[Hp,under,Bl,Ct]
 have hu2:∀x∈Ml 1 r,x.1<2/\BU 2 x.2=true:=λx hx=>by
  cases r with
  | error e=>cases hx
  | ok y=>
   obtain⟨_,rfl⟩:=EU hx;exact⟨by show 1<2;omega,Ia _ _ _ _⟩
 have back:∀k x,Aa (if parts.isEmpty then H else rem H b) k=some x->Aa H k=some x/\∀b0 x0,Aa (Ax eD 57 0 parts) b0=some x0->b≠k:=λk x hk=>by
  cases parts with
  | nil=>exact⟨hk,λb0 x0 h0=>(by cases h0)⟩
  | cons y r=>
   simp only[X3,Xe,if_false]at hk;rw[Cr]at hk;split at hk
   .cases hk
   .rename_i hkb;exact⟨hk,λ_ _ _ e=>hkb e.symm⟩
 have h2:=AB.lift h (λ_=>b) NX H (Gp H b NX parts r) (λ_ _=>hlt) (λx y hx hy _=>by omega) (by omega) a3 a4 hu hu2 (λk x hk=>by
  cases r with
  | error e=>exact .inr (back k x hk)
  | ok y=>
   obtain⟨parts',p⟩:=y;unfold Gp at hk;rw[A1]at hk;split at hk
   .rename_i e;injection hk with hk;subst hk;refine .inl ⟨1,rowOf eD 57 parts',(Ar.head' eD 57 1 parts').resolve_left (hne _ _ rfl),by simp[Ei,<-e],by rw[HZ]⟩
   .exact .inr (back k x hk))
 rw[ea]at h2
 have e2:ren (Ei (λ_=>b) 1 NX) (Hp 1 r)=Hp NX r:=by
  cases r with
  | error e=>rfl
  | ok y=>
   obtain⟨parts',p⟩:=y;simp only[Hp,ren,AX,Cs];rfl
 rw[e2]at h2;exact h2
theorem c8 {H:Ab} {b NX:Nat} {parts:List Ds} {r:Res (List Ds)}:(∀k x,Aa H k=some x->k<NX)->∀k x,Aa (Gp H b NX parts r) k=some x->k<NX+1:=λhf k x hk=>by
 have base:∀k x,Aa (if parts.isEmpty then H else rem H b) k=some x->k<NX+1:=λk x hk=>by
  split at hk
  .have:=hf k x hk;omega
  .rw[Cr]at hk;split at hk
   .cases hk
   .have:=hf k x hk;omega
 cases r with
 | error e=>exact base k x hk
 | ok y=>
  unfold Gp at hk;rw[A1]at hk;split at hk
  .omega
  .exact base k x hk
theorem zF (ht:IsS Ap t l) (hi:l.length<=i) (lv:Int):KT2 q t 177 i lv [] (.error 9):=by
 have HT:A5 Xa (G q) [(178,Cj l t),(197,CT l t),(198,Ck l t)]:=.cons (KH ht) (.cons (S5 ht) (.cons (PK ht) .nil));have C:=HT.ctx mixed
 have his:∀s:ByteArray,Cj l t [t,iv (i:Int),sv s]=some (bv false):=λs=>by rw[EM,ND hi]
 have hkd:CT l t [t,iv (i:Int),iv 1]=some (bv false):=by rw[E6,PJ hi]
 have hwr:Ck l t [t,iv (i:Int)]=some (iv 9):=by rw[DK];unfold Bi;rw[Xb,zy hi]
 refine WC.callP rfl ?_;refine Aw C ?_
 (conv in RA=>cbv);simp -implicitDefEqProofs [his,hkd,hwr,rowP]
 exact Hq (by omega) (by omega) (by omega) (by omega) rfl rfl rfl
variable {q : Gl} {t : T} {l : List Tok} {i : Nat}
theorem zG {R:T->Prop} {env:List (Nat×PV)} {H:Ab} {nx n a b c ty k:Nat} {parts:List Ds} {p e:Int} (h2:2<=parts.length) (hr:Ar eD 57 H k parts) (h6:Aa env a=some (.ptr 0 0)) (hl:Aa H 0=some (.cells ty [.t (iv 4),.t (sv ⟨#[]⟩),.t Ad,rowP eD k parts])) (h7:Aa env b=some (.t (iv p))) (h8:Aa env c=some (.t (iv e)))
  (hR:R (.tu [dT (.mk 4 ⟨#[]⟩ [] parts),iv p,iv e])):FC [RV.cell a true 4,RV.tmp b,RV.tmp c] R .ret ⟨env,H,nx,n⟩:=by
 have hd:Ao true 4 H (.ptr 0 0)=some (.ag [.t (iv 4),.t (sv ⟨#[]⟩),.t Ad,rowP eD k parts]):=by
  cases parts with
  | nil=>simp at h2
  | cons x r=>simp only[Ao,hl];rfl
 have ht:=hr.toT;refine Ve (ps:=[.ag [.t (iv 4),.t (sv ⟨#[]⟩),.t Ad,rowP eD k parts],.t (iv p),.t (iv e)]) (r:=.tu [dT (.mk 4 ⟨#[]⟩ [] parts),iv p,iv e]) (F:=FF k parts) ?_ ?_ hR
 .simp only[CH,h6,h7,h8,hd]
  try rfl
 .rw[dT,FG];have:CF [.ag [.t (iv 4),.t (sv ⟨#[]⟩),.t Ad,rowP eD k parts],.t (iv p),.t (iv e)] = .tu [.ag [.t (iv 4),.t (sv ⟨#[]⟩),.t Ad,rowP eD k parts],.t (iv p),.t (iv e)]:=rfl;rw[this];simp[toT,ht,Am]
theorem SK (d:Ds) (R:Ab):A8 4 ((0,zD)::R) (.ptr 0 0) (.t (dT d))=some ((0,.cells 57 ((A4 d).map .t))::R):=by
 cases d;rw[dT,A4];rfl
noncomputable def KL (l:List Tok) (t:T):Tbl:=[(178,Cj l t),(179,KG)]
theorem zH {Φ:AC} {H:Ab} {nx:Nat} {k:Int} {parts:List Ds} (h:2<=parts.length):Ah Φ H nx (.build [(0,1),(1,1),(2,1),(3,1)] [.int .i64 0,.string ⟨#[]⟩,.slice none 0 0,.slice none 0 0] [0,3]) [.t (iv k),rowP eD 1 parts] =
  some (.ag [.t (iv k),.t (sv ⟨#[]⟩),.t Ad,rowP eD 1 parts],H,nx):=by
 cases parts with
 | nil=>simp at h
 | cons x r=>rfl
def SL:Ak:=match G4 with
 | .seq _ (.seq _ r)=>r
 | _=>.skip
def Mm:Ak:=match G4 with
 | .seq _ (.seq _ (.seq _ r))=>r
 | _=>.skip
structure Rw where
 f:Nat
 p:Nat
 parts:List Ds
 e:Int
def SWh (t:T) (v:Int) (a:Rw):Ac:=⟨[(9,rowP eD 1 a.parts),(1,.t (iv (a.p:Int))),(10,.t (iv a.e)),(2,.t (iv v)),(0,.t t),(6,.ptr 0 0)],[(0,zD)]++Ax eD 57 1 a.parts,2,63⟩
def Mn:Ak:=match Mm with
 | .seq _ r=>r
 | _=>.skip
theorem cA {Φ:AC} (C:Ctx Xa (G q) Φ) {v:Int} {a:Rw} {R:Res Ds} (h:(a.e≠0/\R = .error a.e)\/(a.e=0/\a.parts≠[]/\R = .ok (Kn a.parts,a.p))) :
  MC Xa (G q) 0 63 Mn (FC [RV.cell 6 true 4,RV.tmp 7,RV.tmp 8] (· = BV R)) (SWh t v a):=by
 obtain⟨f,p,parts,e⟩:=a;simp only at h
 obtain⟨H0,hH0⟩:∃H0:Ab,H0=(0,zD)::Ax eD 57 1 parts:=⟨_,rfl⟩
 have l00:Aa H0 0=some zD:=by rw[hH0];rfl
 have r01:Ar eD 57 H0 1 parts:=by rw[hH0];exact(Ar.head' eD 57 1 parts).cons (by omega)
 have l0u:∀(X:Row),Aa (upd H0 0 X) 0=some X:=λX=>by rw[A9,zy rfl,l00];rfl
 show MC Xa (G q) 0 63 _ _ ⟨[(9,rowP eD 1 parts),(1,.t (iv (p:Int))),(10,.t (iv e)),(2,.t (iv v)),(0,.t t),(6,.ptr 0 0)],(0,zD)::Ax eD 57 1 parts,2,63⟩;rw[<-hH0];rcases h with⟨he,hR⟩ | ⟨rfl,hne,hR⟩
 .have hb:(e != 0)=true:=by simpa using he
  have st:A8 4 H0 (.ptr 0 0) (.t (dT zDs))=some _:=Iu l00;rw[hR];refine Aw C ?_;simp -implicitDefEqProofs [Mn,Mm,G4,hb,-AF,bdZ,st,-EB];exact FP (d:=zDs) (ty:=57) rfl (l0u _) rfl rfl rfl
 .rw[hR];have hlen:Bd (rowP eD 1 parts)=some (.t (iv (parts.length:Int))):=ED eD 1 parts;rcases parts with _ | ⟨d,_ | ⟨d2,r⟩⟩
  .exact absurd rfl hne
  .have ia:Bm 4 (rowP eD 1 [d]) (.t (.v (.int .i64 0)))=some (.ptr 1 0):=rfl;have ld:Ao true 4 H0 (.ptr 1 0)=some (.t (dT d)):=GC (ty:=57) (by rw[hH0];simp[Ax,Aa,eD]);have st:A8 4 H0 (.ptr 0 0) (.t (dT d))=some _:=Iu l00;refine Aw C ?_;simp -implicitDefEqProofs [Mn,Mm,G4,hlen,ia,ld,st,-EB];exact FP (d:=d) (ty:=57) rfl (l0u _) rfl rfl rfl
  .obtain⟨ps,hps⟩:∃ps,ps=d::d2::r:=⟨_,rfl⟩
   have hpl:2<=ps.length:=by rw[hps];simp
   have h1:Kn ps = .mk 4 ⟨#[]⟩ [] ps:=by rw[hps];rfl
   rw[<-hps]at hlen r01 ⊢;rw[h1]
   have hne1:¬ps.length=1:=by omega
   have hne2:((ps.length:Int)==1)=false:=by simpa using (by omega:¬(ps.length:Int)=1)
   have st:A8 4 H0 (.ptr 0 0) (.ag [.t (iv 4),.t (sv ⟨#[]⟩),.t Ad,rowP eD 1 ps])=some (upd H0 0 (.cells 57 [.t (iv 4),.t (sv ⟨#[]⟩),.t Ad,rowP eD 1 ps])):=by
    simp only[A8,B7,l00];rfl
   refine Aw C ?_;simp -implicitDefEqProofs [Mn,Mm,G4,hlen,hne1,hne2,-AF,zH hpl,st,-EB];exact zG (k:=1) (ty:=57) hpl (r01.imp id λh=>by rw[A9,zz (by omega)];exact h) rfl (l0u _) rfl rfl rfl
theorem cB {Φ:AC} (C:Ctx Xa (G q) Φ) {v e:Int} (he:e≠0):MC Xa (G q) 0 63 Mm (FC [RV.cell 6 true 4,RV.tmp 7,RV.tmp 8] (· = BV (.error e))) (SWh t v ⟨0,0,[],e⟩):=by
 have hb:(e==0)=false:=by simpa using he
 show MC Xa (G q) 0 63 (.seq _ Mn) _ _;refine BM (α:=Unit) (λ_=>SWh t v ⟨0,0,[],e⟩) (λ_=>True) (λ_=>rfl) ?_ (λ_ _=>cA C (.inl ⟨he,rfl⟩));refine BI ?_;refine CV (α:=Unit) (λ_=>SWh t v ⟨0,0,[],e⟩) (λ_=>0) (λ_=>True) () (λ_=>rfl) trivial (Sub.refl _) rfl ?_;rintro⟨⟩ -;refine Aw C ?_;simp -implicitDefEqProofs [SWh,hb];exact Aq.mk () trivial (sub_env (by simp -implicitDefEqProofs))
theorem zI (ht:IsS Ap t l) (hi:i<=l.length):AA Xa (G q) 157 [t,iv (i:Int),iv 65] (· = BV (As (l.map kt) 0 i)):=by
 have HT:A5 Xa (G q) (KL l t):=.cons (KH ht) (.cons NQ .nil);have hlen:Bd (.t t)=some (.t (iv (l.length:Int))):=ht.len;unfold As;rw[Xb];refine WD.call rfl ?_;by_cases hlt:i<l.length
 .have C:=HT.ctx mixed;rw[zz (by omega)]
  have h1:(i:Int)<(l.length:Int):=by omega
  refine Aw C ?_;simp -implicitDefEqProofs [G4,hlen,h1,hlt,-AF,bdZ,-EB];rw[SK,FE];exact FP (d:=zDs) (ty:=57) rfl rfl rfl rfl rfl
 .rw[zy (by omega)]
  have h1:¬(i:Int)<(l.length:Int):=by omega
  have hK:=KT2.lift (zF (q:=q) ht (i:=i) (by omega) 65) (H:=[(0,zD)]) (b:=0) (NX:=1) (.inl rfl) (by omega) (λ_ _ h=>by cases h);have hb:AB Xa (G q) 177 [.t t,.t (iv (i:Int)),.t (iv 65),.t (.v (.slice none 0 0))] [(0,zD)] 1 (.t (.tu [Ad,iv 0,iv 9])) [(0,zD)] 2:=hK;have C':=HT.ctxH (.cons (Fu hb (λhf k x hk=>by have:=hf k x hk;omega)) .nil) mixed;have ho:=EF [.t t,.t (iv (i:Int)),.t (iv 65),.t (.v (.slice none 0 0))] [(0,zD)] 1 (.t (.tu [Ad,iv 0,iv 9]),[(0,zD)],2);unfold G4;refine Az C' ?_;simp -implicitDefEqProofs;refine Az C' ?_;simp -implicitDefEqProofs [hlen,h1];refine Az C' ?_;simp -implicitDefEqProofs [ho];exact MC.sub (s':=SWh t 65 ⟨0,0,[],9⟩) (sub_env (H:=[(0,zD)]) (nx:=2) (env':=[(9,.t Ad),(1,.t (iv 0)),(10,.t (iv 9)),(2,.t (iv 65)),(0,.t t),(6,.ptr 0 0)]) (by simp -implicitDefEqProofs)) rfl (cB C' (by omega))
def NU:Res (List Ds)->Res Ds
 | .error e=>.error e
 | .ok (parts,p)=>.ok (Kn parts,p)
def cC (L:List KT) (n:Nat) (R2:Res (List Ds)) (a:Rw):Prop:=
 (a.e≠0/\R2 = .error a.e)\/(a.e=0/\a.p<=L.length/\L.length-a.p<a.f/\a.parts.length<=256/\a.parts≠[]/\Fa L (As L n) a.f a.p a.parts=R2)
theorem zJ (ht:IsS Ap t l) (hlim:l.length<=1000000) {n:Nat} (hW:Ho q t l n) (hn:n<=64) {Φ:AC} (C0:Ctx Xa (G q) Φ) {R2:Res (List Ds)} {a0:Rw} (h0:cC (l.map kt) n R2 a0) :
  MC Xa (G q) 0 63 Mm (FC [RV.cell 6 true 4,RV.tmp 7,RV.tmp 8] (· = BV (NU R2))) (SWh t (64-(n:Int)) a0):=by
 have HT:A5 Xa (G q) (KL l t):=.cons (KH ht) (.cons NQ .nil);have C:=HT.ctx mixed;have htm:=λ{i:Nat} (hi:i<=l.length) {parts:List Ds} (hpl:parts.length<=255)=>c7 (q:=q) ht hlim hW hn hi hpl
 obtain⟨L,hL⟩:∃L,L=l.map kt:=⟨_,rfl⟩
 have hLl:L.length=l.length:=by rw[hL,Xb]
 have his:∀(i:Nat) (s:ByteArray) (b:Bool),Au L i s.data.toList=b->Cj l t [t,iv (i:Int),sv s]=some (bv b):=λi s b h=>by rw[EM,<-hL,h]
 have hF:=D2 (l:=L) n;rw[<-hL]at htm h0;have ew:∀p:Nat,p<l.length->Xc.wrap ((p:Int)+1)=((p+1:Nat):Int):=λp hp=>AH (by omega) (by omega)
 obtain⟨Rf,hRf⟩:∃Rf:Res Ds,Rf=NU R2:=⟨_,rfl⟩
 rw[<-hRf];show MC Xa (G q) 0 63 (.seq _ Mn) _ _;refine BM (α:=Rw) (SWh t (64-(n:Int))) (λa=>(a.e≠0/\R2 = .error a.e)\/(a.e=0/\a.parts≠[]/\R2 = .ok (a.parts,a.p))) (λ_=>rfl) ?_ ?_
 .refine BI ?_;refine CV (SWh t (64-(n:Int))) (λa=>a.f) (cC L n R2) a0 (λ_=>rfl) h0 (Sub.refl _) rfl ?_;rintro⟨f,p,parts,e⟩ h;rcases h with⟨he,hR⟩ | ⟨he,hp,hfu,hpl,hne,heq⟩
  .simp only at he hR
   have hb:(e==0)=false:=by simpa using he
   refine Aw C ?_;simp -implicitDefEqProofs [SWh,hb];exact Aq.mk ⟨f,p,parts,e⟩ (.inl ⟨he,hR⟩) (sub_env (by simp -implicitDefEqProofs))
  .simp only at he hp hfu hpl hne heq;subst he;rw[hLl]at hp hfu
   obtain⟨f',rfl⟩:∃f',f=f'+1:=⟨f-1,by omega⟩
   rw[Fa]at heq
   cases hs:Au L p [38]with
   | false=>
    rw[hs]at heq;simp only[Xe,if_false]at heq;have h1:=his p ⟨#[38]⟩ false hs;refine Aw C ?_;simp -implicitDefEqProofs [SWh,KL,h1];exact Aq.mk ⟨f',p,parts,0⟩ (.inr ⟨rfl,hne,heq.symm⟩) (sub_env (by simp -implicitDefEqProofs))
   | true=>
    rw[hs]at heq;simp only[if_true]at heq;have hl1:=Bo hs;rw[hLl]at hl1;have h1:=his p ⟨#[38]⟩ true hs
    obtain⟨p1,hp1⟩:∃p1,p1=p+1:=⟨_,rfl⟩
    have e1:Xc.wrap ((p:Int)+1)=(p1:Int):=by rw[hp1];exact ew p hl1
    obtain⟨H0,hH0⟩:∃H0:Ab,H0=(0,zD)::Ax eD 57 1 parts:=⟨_,rfl⟩
    have l00:Aa H0 0=some zD:=by rw[hH0];rfl
    have r01:Ar eD 57 H0 1 parts:=by rw[hH0];exact(Ar.head' eD 57 1 parts).cons (by omega)
    have hfu2:=S6 parts;have htr:=r01.toT;unfold KE at hfu2;by_cases hbig:256<=parts.length
    .rw[zy hbig]at heq hfu2;rw[hH0]at htr;refine Aw C ?_;simp -implicitDefEqProofs [SWh,KL,h1,htr,hfu2,CE];exact Aq.mk ⟨f',p,parts,7⟩ ⟨.inl ⟨by show(7:Int)≠0;omega,heq.symm⟩,by show f'<f'+1;omega⟩ (sub_env (by simp -implicitDefEqProofs))
    .rw[zz hbig]at heq hfu2;rw[<-hp1]at heq
     obtain⟨Rn,hRn⟩:∃Rn,Rn=Di L (As L n) p1 parts:=⟨_,rfl⟩
     rw[<-hRn]at heq
     have hne2:∀parts' p',Rn = .ok (parts',p')->parts'≠[]:=λparts' p' h e=>by
      have:=(Im hF (hRn.symm.trans h)).2.2.1;rw[e]at this;simp at this
     have hK:KT2 q t 177 p1 (64-(n:Int)) parts Rn:=by rw[hRn];exact htm (by omega) (by omega)
     have hK2:=KT2.lift hK (H:=H0) (b:=1) (NX:=2) r01 (by omega) hne2
     cases hRe:Rn with
     | error e=>
      rw[hRe]at hK2 heq;simp only at heq;have he0:e≠0:=PN (F4 n) hF (hRn.symm.trans hRe);have hb:AB Xa (G q) 177 [.t t,.t (iv (p1:Int)),.t (iv (64-(n:Int))),rowP eD 1 parts] H0 2 (.t (.tu [Ad,iv 0,iv e])) (Gp H0 1 2 parts (.error e)) 3:=hK2
      have l0:Aa (Gp H0 1 2 parts (.error e)) 0=some zD:=by
       show Aa (if parts.isEmpty then H0 else rem H0 1) 0=some zD;split
       .exact l00
       .rw[Cr,zz (by omega),l00]
      obtain⟨H5,hH5⟩:∃H5,H5=Gp H0 1 2 parts (.error e):=⟨_,rfl⟩
      have hfr:(∀k x,Aa H0 k=some x->k<2)->∀k x,Aa H5 k=some x->k<3:=by rw[hH5];exact c8
      rw[<-hH5]at hb l0;have C':=HT.ctxH (.cons (Fu hb hfr) .nil) mixed;have ho:=EF [.t t,.t (iv (p1:Int)),.t (iv (64-(n:Int))),rowP eD 1 parts] H0 2 (.t (.tu [Ad,iv 0,iv e]),H5,3);rw[hH0]at htr;rw[hH0]at ho C';refine Aw C' ?_;simp -implicitDefEqProofs [SWh,KL,h1,htr,hfu2,CE,e1,ho];refine Aq.mk ⟨f',0,[],e⟩ ⟨.inl ⟨he0,heq.symm⟩,by show f'<f'+1;omega⟩ ?_;exact Dv (k:=1) (b:=1) (.inl rfl) (by omega) (by omega) (by simp -implicitDefEqProofs [BG,AX,ren,BU,Bl,under,l0]) (by simp -implicitDefEqProofs [ren,under,rowP])
     | ok y=>
      obtain⟨parts',p2⟩:=y;rw[hRe]at hK2 heq;simp only at heq;have hfw:=Im hF (hRn.symm.trans hRe);rw[hLl]at hfw;have hb:AB Xa (G q) 177 [.t t,.t (iv (p1:Int)),.t (iv (64-(n:Int))),rowP eD 1 parts] H0 2 (.tu [rowP eD 2 parts',.t (iv (p2:Int)),.t (iv 0)]) (Gp H0 1 2 parts (.ok (parts',p2))) 3:=hK2
      obtain⟨H5,hH5⟩:∃H5,H5=Gp H0 1 2 parts (.ok (parts',p2)):=⟨_,rfl⟩
      have l0:Aa H5 0=some zD:=by
       rw[hH5];unfold Gp;rw[A1,zz (by omega)];split
       .exact l00
       .rw[Cr,zz (by omega),l00]
      have r5:Ar eD 57 H5 2 parts':=by rw[hH5];exact .inr (by unfold Gp;rw[A1,zy rfl])
      have hfr:(∀k x,Aa H0 k=some x->k<2)->∀k x,Aa H5 k=some x->k<3:=by rw[hH5];exact c8
      rw[<-hH5]at hb;have C':=HT.ctxH (.cons (Fu hb hfr) .nil) mixed;have ho:=EF [.t t,.t (iv (p1:Int)),.t (iv (64-(n:Int))),rowP eD 1 parts] H0 2 (.tu [rowP eD 2 parts',.t (iv (p2:Int)),.t (iv 0)],H5,3);rw[hH0]at htr ho C';refine Aw C' ?_;simp -implicitDefEqProofs [SWh,KL,h1,htr,hfu2,CE,e1,ho];refine Aq.mk ⟨f',p2,parts',0⟩ ⟨.inr ⟨rfl,by show p2<=_;omega,by show L.length-p2<f';omega,by show parts'.length<=256;have:=hfw.2.2.2;omega,hne2 _ _ hRe,heq⟩,by show f'<f'+1;omega⟩ ?_;exact Dv (k:=2) (b:=1) r5 (by omega) (by omega) (by simp -implicitDefEqProofs [BG,AX,ren,BU,Bl,under,l0]) (by simp -implicitDefEqProofs [Cs,Ct,ren,under])
 .rintro a h;refine cA C0 ?_;rcases h with⟨he,hR⟩ | ⟨he,hne,hR⟩
  .rw[hR]at hRf;exact .inl ⟨he,hRf⟩
  .rw[hR]at hRf;exact .inr ⟨he,hne,hRf⟩
theorem zK (ht:IsS Ap t l) (hlim:l.length<=1000000) {n:Nat} (hW:Ho q t l n) (hn:n<=64) (hi:i<=l.length):AA Xa (G q) 157 [t,iv (i:Int),iv (64-(n:Int))] (· = BV (As (l.map kt) (n+1) i)):=by
 have HT:A5 Xa (G q) (KL l t):=.cons (KH ht) (.cons NQ .nil);have C:=HT.ctx mixed;have hlen:Bd (.t t)=some (.t (iv (l.length:Int))):=ht.len
 have hlv:¬((64:Int)<64-(n:Int)):=by omega
 have hT:=c7 (q:=q) ht hlim hW hn hi (parts:=[]) (by simp);have hF:=D2 (l:=l.map kt) n
 obtain⟨L,hL⟩:∃L,L=l.map kt:=⟨_,rfl⟩
 have hLl:L.length=l.length:=by rw[hL,Xb]
 rw[<-hL]at hT hF ⊢
 obtain⟨Rt,hRt⟩:∃Rt,Rt=Di L (As L n) i []:=⟨_,rfl⟩
 rw[<-hRt]at hT
 obtain⟨R2,hR2⟩:∃R2:Res (List Ds),R2=(match Di L (As L n) i []with
   | .error e=>.error e
   | .ok (parts,p1)=>Fa L (As L n) (L.length+1) p1 parts):=⟨_,rfl⟩
 have hR:As L (n+1) i=NU R2:=by
  rw[hR2];unfold As;by_cases hlt:L.length<=i
  .rw[zy hlt]
   have:Di L (As L n) i [] = .error 9:=by unfold Di;rw[List.getElem?_eq_none hlt]
   rw[this];rfl
  .rw[zz hlt]
   cases Di L (As L n) i []with
   | error e=>rfl
   | ok y=>
    obtain⟨parts,p1⟩:=y;simp only;cases Fa L (As L n) (L.length+1) p1 parts<;>rfl
 rw[hR];rw[<-hRt]at hR2
 have hne:∀parts' p,Rt = .ok (parts',p)->parts'≠[]:=λparts' p h e=>by
  have:=(Im hF (hRt.symm.trans h)).2.2.1;rw[e]at this;simp at this
 have hK:=KT2.lift hT (H:=[(0,zD)]) (b:=0) (NX:=1) (.inl rfl) (by omega) hne
 have hg:∀{Φ:AC} (C:Ctx Xa (G q) Φ) (hm:MC Xa (G q) 0 63 SL (FC [RV.cell 6 true 4,RV.tmp 7,RV.tmp 8] (· = BV (NU R2))) ⟨[(0,.t t),(1,.t (iv (i:Int))),(2,.t (iv (64-(n:Int)))),(6,.ptr 0 0)],[(0,zD)],1,63⟩),AA Xa (G q) 157 [t,iv (i:Int),iv (64-(n:Int))] (· = BV (NU R2)):=by
  intro Φ C hm;refine WD.call rfl ?_;unfold G4;refine Az C ?_;simp -implicitDefEqProofs;by_cases hlt:i<l.length
  .have h1:(i:Int)<(l.length:Int):=by omega
   refine Az C ?_;simp -implicitDefEqProofs [hlen,h1,hlt,hlv];exact MC.sub (s':=⟨[(0,.t t),(1,.t (iv (i:Int))),(2,.t (iv (64-(n:Int)))),(6,.ptr 0 0)],[(0,zD)],1,63⟩) (sub_env (by simp -implicitDefEqProofs)) rfl hm
  .have h1:¬(i:Int)<(l.length:Int):=by omega
   refine Az C ?_;simp -implicitDefEqProofs [hlen,h1,hlt];exact MC.sub (s':=⟨[(0,.t t),(1,.t (iv (i:Int))),(2,.t (iv (64-(n:Int)))),(6,.ptr 0 0)],[(0,zD)],1,63⟩) (sub_env (by simp -implicitDefEqProofs)) rfl hm
 cases hRe:Rt with
 | error e=>
  rw[hRe]at hK hR2;simp only at hR2;have he0:e≠0:=PN (F4 n) hF (hRt.symm.trans hRe);have hb:AB Xa (G q) 177 [.t t,.t (iv (i:Int)),.t (iv (64-(n:Int))),.t (.v (.slice none 0 0))] [(0,zD)] 1 (.t (.tu [Ad,iv 0,iv e])) [(0,zD)] 2:=hK;have C':=HT.ctxH (.cons (Fu hb (λhf k x hk=>by have:=hf k x hk;omega)) .nil) mixed;have ho:=EF [.t t,.t (iv (i:Int)),.t (iv (64-(n:Int))),.t (.v (.slice none 0 0))] [(0,zD)] 1 (.t (.tu [Ad,iv 0,iv e]),[(0,zD)],2);refine hg C' ?_;rw[hR2];unfold SL G4;refine Az C' ?_;simp -implicitDefEqProofs [ho];exact MC.sub (s':=SWh t (64-(n:Int)) ⟨0,0,[],e⟩) (sub_env (H:=[(0,zD)]) (nx:=2) (env':=[(9,.t Ad),(1,.t (iv 0)),(10,.t (iv e)),(2,.t (iv (64-(n:Int)))),(0,.t t),(6,.ptr 0 0)]) (by simp -implicitDefEqProofs)) rfl (cB C' he0)
 | ok y=>
  obtain⟨parts,p⟩:=y;rw[hRe]at hK hR2;simp only at hR2;have hfw:=Im hF (hRt.symm.trans hRe);rw[hLl]at hfw;have hb:AB Xa (G q) 177 [.t t,.t (iv (i:Int)),.t (iv (64-(n:Int))),.t (.v (.slice none 0 0))] [(0,zD)] 1 (.tu [rowP eD 1 parts,.t (iv (p:Int)),.t (iv 0)]) [(1,rowOf eD 57 parts),(0,zD)] 2:=hK
  have C':=HT.ctxH (.cons (Fu hb (λhf k x hk=>by
   simp only[Aa]at hk;split at hk
   .omega
   .split at hk
    .omega
    .cases hk)) .nil) mixed
  have ho:=EF [.t t,.t (iv (i:Int)),.t (iv (64-(n:Int))),.t (.v (.slice none 0 0))] [(0,zD)] 1 (.tu [rowP eD 1 parts,.t (iv (p:Int)),.t (iv 0)],[(1,rowOf eD 57 parts),(0,zD)],2);refine hg C' ?_;unfold SL G4;refine Az C' ?_;simp -implicitDefEqProofs [ho];refine MC.sub (s':=SWh t (64-(n:Int)) ⟨L.length+1,p,parts,0⟩) ?_ rfl (zJ ht hlim hW hn C' ?_)
  .exact Dv (k:=1) (b:=1) (.inr rfl) (by omega) (by omega) (by simp -implicitDefEqProofs [BG,AX,ren,BU,Bl,under]) (by simp -implicitDefEqProofs [Cs,Ct,ren,under])
  .rw[<-hL];exact .inr ⟨rfl,by show p<=_;omega,by show L.length-p<L.length+1;omega,by show parts.length<=256;have:=hfw.2.2.2;simp at this;omega,hne _ _ hRe,hR2.symm⟩
theorem cD (ht:IsS Ap t l) (hlim:l.length<=1000000):∀n,n<=64->Ho q t l n
 | 0,_=>λargs r h=>by
  unfold gWh at h;split at h
  .split at h
   .rename_i hc;obtain⟨rfl,h0,h1,rfl⟩:=hc;injection h with h;subst h;obtain⟨m,rfl⟩:=Xt h0;exact zI ht (by omega)
   .cases h
  .cases h
 | n+1,hn=>λargs r h=>by
  have hW:=cD ht hlim n (by omega);unfold gWh at h;split at h
  .split at h
   .rename_i hc;obtain⟨rfl,h0,h1,rfl⟩:=hc;injection h with h;subst h;obtain⟨m,rfl⟩:=Xt h0
    have e:(65:Int)-((n+1:Nat):Int)=64-(n:Int):=by omega
    rw[e];exact zK ht hlim hW (by omega) (by omega)
   .cases h
  .cases h
theorem zL (ht:IsS Ap t l) (hlim:l.length<=1000000) (hi:i<=l.length):AA Xa (G q) 136 [t,iv (i:Int)] (· = BV (As (l.map kt) 64 i)):=by
 have HT:A5 Xa (G q) [(157,gWh l t 64)]:=.cons (cD ht hlim 64 (Xf _)) .nil;have C:=HT.ctx mixed;have hw:gWh l t 64 [t,iv (i:Int),iv 1]=some (BV (As (l.map kt) 64 i)):=SE (n:=64) hi;refine pJ.call rfl ?_
 cases hd:As (l.map kt) 64 i with
 | error e=>
  rw[hd]at hw;simp only[BV]at hw;refine Aw C ?_
  (conv in R6=>cbv);simp -implicitDefEqProofs [hw,-EB]
  rw[SK,FE];exact FP (d:=zDs) (ty:=57) rfl rfl rfl rfl rfl
 | ok y=>
  obtain⟨d,p⟩:=y;rw[hd]at hw;simp only[BV]at hw;refine Aw C ?_
  (conv in R6=>cbv);simp -implicitDefEqProofs [hw,-EB]
  rw[SK,FE];exact FP (d:=d) (ty:=57) rfl rfl rfl rfl rfl
variable {q : Gl}
def Ff (l:List UInt8):T:=if 65536<l.length then .tu [Ad,iv 0,iv 7]else match EY l 1 with
 | .error x=>.tu [Ad,iv (x.1:Int),iv x.2]
 | .ok ts=>.tu [Am Ap ts,iv 0,iv 0]
theorem cE {α:Type} {e:Enc α} {ty:Nat} {H:Ab} {b:Nat} {l:List α} (h:Ar e ty H b l) (y z:T) :
  toT H (CF [rowP e b l,.t y,.t z])=some (.tu [Am e l,y,z],FF b l):=by
 have ht:=h.toT
 cases l with
 | nil=>rfl
 | cons x r=>
  show toT H (.tu [rowP e b (x::r),.t y,.t z])=_;simp only[toT,Cx,ht,Ya,Xu]
structure Sc where
 f:Nat
 p:Nat
 ln:Nat
 out:List Tok
def SSc (s:ByteArray) (a:Sc):Ac:=⟨[(6,rowP Ap 1 a.out),(5,.ptr 0 0),(0,.t (sv s))],[(0,scr s a.p a.ln)]++Ax Ap 42 1 a.out,2,43⟩
structure cF (l:List UInt8) (R:Except (Nat×Int) (List Tok)) (a:Sc):Prop where
 le:a.p<=l.length
 fu:l.length-a.p<a.f
 ln:a.ln<=a.p+1
 ol:a.out.length<=a.p
 eq:Hf a.out (CY a.f (l.drop a.p) a.ln)=R
theorem cG (s:ByteArray) (a l:Nat) (hs:s.size<=65536) (ha:a<=s.size) (hl:l<=1000000) {H:Ab} {nx:Nat} (h0:Aa H 0=some (scr s a l)) (hnx:0<nx) :
  HOK Xa (G q) 55 (Ge [.ptr 0 0] H nx (CF [],upd H 0 (scr s (a+(AV false (s.data.toList.drop a)).1) (l+(AV false (s.data.toList.drop a)).2)),nx)):=by
 refine Fu ?_ ?_
 .exact AB.lift1 (cs:=scc s a l) (args:=[]) (cs':=scc s (a+(AV false (s.data.toList.drop a)).1) (l+(AV false (s.data.toList.drop a)).2)) (tM s a l hs ha hl) (b:=0) (NX:=nx) (Hb:=H) h0 hnx
 .intro hfr b x hb;rw[A9]at hb;split at hb
  .omega
  .exact hfr b x hb
theorem zM (s:ByteArray) (a l:Nat) (hs:s.size<=65536) (ha:a<s.size) {H:Ab} {nx:Nat} (h0:Aa H 0=some (scr s a l)) (hnx:0<nx) :
  HOK Xa (G q) 56 (Ge [.ptr 0 0] H nx (.t (Dh (Bg (s.data.toList.drop a)).k (Bg (s.data.toList.drop a)).t l (Bg (s.data.toList.drop a)).e),upd H 0 (scr s (a+(Bg (s.data.toList.drop a)).n) l),nx)):=by
 refine Fu ?_ ?_
 .exact AB.lift1 (cs:=scc s a l) (args:=[]) (cs':=scc s (a+(Bg (s.data.toList.drop a)).n) l) (tS s a l hs ha) (b:=0) (NX:=nx) (Hb:=H) h0 hnx
 .intro hfr b x hb;rw[A9]at hb;split at hb
  .omega
  .exact hfr b x hb
theorem st2 (k l:Int) (t:List UInt8) (x y z:PV) (R:Ab):A8 3 ((2,.cells 42 [x,y,z])::R) (.ptr 2 0) (.t (.ag (tkc k t l)))=some ((2,tkr k t l)::R):=rfl
theorem ld2 (t:Row) (s:ByteArray) (a l:Nat) (R:Ab):Ao false 1 ((2,t)::(0,scr s a l)::R) (.ptr 0 2)=some (.t (iv (l:Int))):=rfl
theorem ldt (k l:Int) (t:List UInt8) (R:Ab):Ao true 3 ((2,tkr k t l)::R) (.ptr 2 0)=some (.t (.ag (tkc k t l))):=rfl
theorem bst (k l:Int) (t:List UInt8):De 42 3 [.int .i64 0,.string ⟨#[]⟩,.int .i64 0] 1 [(0,.t (.ag (tkc k t l)))] 3=some (.row 3 0 1 3,.cells 42 [.t (iv k),.t (sv (bs t)),.t (iv l)]):=rfl
theorem zN {Φ:AC} {H:Ab} {nx:Nat} (s:ByteArray) (l:Int):Ah Φ H nx (.build [(0,1),(1,1),(2,1)] [.string ⟨#[]⟩,.int .i64 0,.int .i64 0] [0,2]) [.t (sv s),.t (iv l)]=some (.t (.ag [sv s,iv 0,iv l]),H,nx):=rfl
theorem zO (s:ByteArray) (hlim:s.size<=lim):AA Xa (G q) 28 [sv s] (· = Ff s.data.toList):=by
 refine nW.call rfl ?_;(conv in V0=>cbv)
 obtain⟨l,hl⟩:∃l,l=s.data.toList:=⟨_,rfl⟩
 have hlen:l.length=s.size:=by rw[hl];rfl
 rw[<-hl];by_cases hbig:65536<s.size
 .have hb':(65536:Int)<(s.size:Int):=by omega
  have hT:Ff l = .tu [Ad,iv 0,iv 7]:=by rw[Ff,zy (by omega)]
  refine Aw Af ?_;simp -implicitDefEqProofs [hb',hT]
 have hb':¬(65536:Int)<(s.size:Int):=by omega
 have hs:s.size<=65536:=by omega
 have hT:Ff l=match EY l 1 with
  | .error x=>.tu [Ad,iv (x.1:Int),iv x.2]
  | .ok ts=>.tu [Am Ap ts,iv 0,iv 0]:=by rw[Ff,zz (by omega)]
 obtain⟨R,hR⟩:∃R,R=EY l 1:=⟨_,rfl⟩
 rw[<-hR]at hT;refine Az Af ?_;simp -implicitDefEqProofs;refine Az Af ?_;simp -implicitDefEqProofs [hb'];refine Az Af ?_;have bx:B7 (.t (.ag [sv s,iv 0,iv 1]))=some [.t (sv s),.t (iv 0),.t (iv 1)]:=rfl;simp -implicitDefEqProofs [-AF,zN,bx];refine Az Af ?_;simp -implicitDefEqProofs;have hk0:=cG (q:=q) s 0 1 hs (by omega) (by omega) (H:=[(0,scr s 0 1)]) (nx:=1) rfl (by omega);have hsl:=Nz l false;have hsn:=Ps l false;rw[<-hl,Xl]at hk0
 obtain⟨p0,hp0⟩:∃p0,p0=0+(AV false l).1:=⟨_,rfl⟩
 obtain⟨l0,hl0⟩:∃l0,l0=1+(AV false l).2:=⟨_,rfl⟩
 rw[<-hp0,<-hl0]at hk0;have ctxa:=A5.nil.ctxH (.cons hk0 .nil) mixed;have h1:=λps H nx o=>EF ps H nx o;refine BM (α:=Sc) (SSc s) (λa=>cF l R a/\a.p=s.size) (λ_=>rfl) ?_ ?_
 .refine Az ctxa ?_;have ho:∀o,Ge [.ptr 0 0] [(0,scr s 0 1)] 1 o [.ptr 0 0] [(0,Row.cells 105 [.t (sv s),.t (iv 0),.t (iv 1)])] 1=some o:=λo=>EF _ _ _ _;simp -implicitDefEqProofs [ho,upd];refine BI ?_;refine CV (SSc s) (λa=>a.f) (cF l R) ⟨l.length+1,p0,l0,[]⟩ (λ_=>rfl) ⟨by show p0<=_;omega,by show l.length-p0<l.length+1;omega,by show l0<=p0+1;omega,by simp,?_⟩ ?_ rfl ?_
  .show Hf [] (CY (l.length+1) (l.drop p0) l0)=R;rw[ZD,hR,EY,hp0,hl0,Xo]
  .exact Dv (k:=5) (Ar.nil Ap 42 _ _) (by omega) (by omega) (by simp -implicitDefEqProofs [BG,AX,ren,BU,Bl,under]) (by simp -implicitDefEqProofs [rowP,ren,under])
  .rintro⟨f,p,ln,out⟩ hok;have hok':=hok;obtain⟨hp,hfu,hln,hol,heq⟩:=hok;simp only at hp hfu hln hol heq;have r0:Ar Ap 42 ([(0,scr s p ln)]++Ax Ap 42 1 out) 1 out:=(Ar.head' Ap 42 1 out).cons (by omega);by_cases hlt:p<s.size
   .have hn:=zM (q:=q) s p ln hs hlt (H:=[(0,scr s p ln)]++Ax Ap 42 1 out) (nx:=2) rfl (by omega)
    obtain⟨D,hD⟩:∃D,D=l.drop p:=⟨_,rfl⟩
    have hDl:D.length=l.length-p:=by rw[hD,Xj]
    have hDe:D.isEmpty=false:=by
     cases D with
     | nil=>simp at hDl;omega
     | cons _ _=>rfl
    rw[<-hl,<-hD]at hn;rw[<-hD]at heq
    obtain⟨f',rfl⟩:∃f',f=f'+1:=⟨f-1,by omega⟩
    rw[CY,hDe]at heq;simp only[Xe,if_false]at heq
    obtain⟨k,hk⟩:∃k,k=(Bg D).k:=⟨_,rfl⟩
    obtain⟨t,ht⟩:∃t,t=(Bg D).t:=⟨_,rfl⟩
    obtain⟨e,he⟩:∃e,e=(Bg D).e:=⟨_,rfl⟩
    obtain⟨n,hnn⟩:∃n,n=(Bg D).n:=⟨_,rfl⟩
    have hpos:=Pt D hDe;rw[<-hk,<-ht,<-he,<-hnn]at hn;rw[<-he,<-hnn]at hpos;rw[<-hk,<-ht,<-he,<-hnn]at heq
    obtain⟨p1,hp1⟩:∃p1,p1=p+n:=⟨_,rfl⟩
    rw[<-hp1]at hn
    have hu0:upd ([(0,scr s p ln)]++Ax Ap 42 1 out) 0 (scr s p1 ln)=[(0,scr s p1 ln)]++Ax Ap 42 1 out:=by
     simp[upd]
    rw[hu0]at hn;by_cases he0:e=0
    .obtain⟨hn1,hn2⟩:=hpos he0;rw[zz (by simpa using he0)]at heq
     have hdd:D.drop n=l.drop p1:=by rw[hD,Xw,hp1]
     rw[hdd]at heq;have hsl1:=Nz (l.drop p1) false;have hsn1:=Ps (l.drop p1) false;rw[Xj]at hsl1
     obtain⟨p2,hp2⟩:∃p2,p2=p1+(AV false (l.drop p1)).1:=⟨_,rfl⟩
     obtain⟨ln2,hln2⟩:∃x,x=ln+(AV false (l.drop p1)).2:=⟨_,rfl⟩
     have hdd2:(l.drop p1).drop (AV false (l.drop p1)).1=l.drop p2:=by rw[Xw,hp2]
     rw[hdd2,<-hln2]at heq
     have htok:Dh k t ln e = .tu [.ag (tkc k t ln),iv e]:=by rw[Dh,zy he0,he0]
     have hb:(e != 0)=false:=by rw[he0];rfl
     have r0':Ar Ap 42 ((3,.cells 42 [.t (iv k),.t (sv (bs t)),.t (iv (ln:Int))])::(2,tkr k t ln)::([(0,scr s p1 ln)]++Ax Ap 42 1 out)) 1 out:=
      (((Ar.head' Ap 42 1 out).cons (k:=0) (by omega)).cons (k:=2) (by omega)).cons (k:=3) (by omega)
     obtain⟨b2,H2,n2,ap2,r2,ne2,hle2,hold,hb2⟩:=Gd (e:=Ap) (ty:=42) (by':=32) (nx:=4) (m:=[⟨k,t,ln⟩]) r0' (Gc (e:=Ap) (b:=3) (ty:=42) ⟨k,t,ln⟩ rfl) (by simp;omega) (by simp;omega);have ap2':B1 42 3 32 ((3,.cells 42 [.t (iv k),.t (sv (bs t)),.t (iv (ln:Int))])::(2,tkr k t ln)::(0,scr s p1 ln)::Ax Ap 42 1 out) 4 (rowP Ap 1 out) (.row 3 0 1 3)=some (rowP Ap b2 (out++[⟨k,t,ln⟩]),H2,n2):=ap2;have hl0':Aa H2 0=some (scr s p1 ln):=(hold 0 (by omega) (by omega)).trans rfl;have hsk:=cG (q:=q) s p1 ln hs (by omega) (by omega) (H:=H2) (nx:=n2) hl0' (by omega);rw[<-hl,<-hp2,<-hln2]at hsk;have ctxb:=A5.nil.ctxH (.cons hn (.cons hsk .nil)) mixed;refine Aw ctxb ?_;simp -implicitDefEqProofs [SSc,sl1,hlt,h1,htok,Bv,hb,st2,ldt,bst,ap2'];refine Aq.mk ⟨f',p2,ln2,out++[⟨k,t,ln⟩]⟩ ⟨⟨by show p2<=_;omega,by show l.length-p2<f';omega,by show ln2<=p2+1;omega,by simp;omega,?_⟩,by show f'<f'+1;omega⟩ ?_
     .show Hf (out++[⟨k,t,ln⟩]) (CY f' (l.drop p2) ln2)=R;rw[<-heq]
      cases CY f' (l.drop p2) ln2 with
      | error x=>rfl
      | ok ts=>show Except.ok _=Except.ok _;simp
     .have r2':Ar Ap 42 (upd H2 0 (scr s p2 ln2)) b2 (out++[⟨k,t,ln⟩]):=r2.imp id λh=>by rw[A9,zz (by omega)];exact h
      have h02:Aa (upd H2 0 (scr s p2 ln2)) 0=some (scr s p2 ln2):=by rw[A9,zy rfl,hl0'];rfl
      exact Dv (k:=b2) r2' (by omega) (by omega) (by simp -implicitDefEqProofs [BG,AX,ren,BU,Bl,under,h02];omega) (by simp -implicitDefEqProofs [Cs,Ct,ren,under])
    .have hRe:R = .error (ln,e):=by
      rw[<-heq,zy he0];rfl
     rw[hRe]at hT;simp only at hT;have ctxb:=A5.nil.ctxH (.cons hn .nil) mixed;refine Aw ctxb ?_
     have hb:(e != 0)=true:=by rw[bne_iff_ne];exact he0
     have htok:Dh k t ln e = .tu [.ag (tkc 0 [] 0),iv e]:=by rw[Dh,zz he0]
     simp -implicitDefEqProofs [SSc,sl1,hlt,h1,htok,Bv,hb,hT,st2,ld2]
   .have hps:p=s.size:=by omega
    subst hps;refine Aw Af ?_;simp -implicitDefEqProofs [SSc,sl1];refine Aq.mk ⟨f,s.size,ln,out⟩ ⟨hok',rfl⟩ ?_;exact Dv (k:=1) r0 (by omega) (by omega) (by simp -implicitDefEqProofs [BG,AX,ren,BU,Bl,under]) (by simp -implicitDefEqProofs [Cs,Ct,ren,under])
 rintro⟨f,p,ln,out⟩ ⟨hok,hps⟩;obtain⟨hp,hfu,hln,hol,heq⟩:=hok;simp only at hp hfu hln hol heq hps;subst hps;have r0:Ar Ap 42 ([(0,scr s s.size ln)]++Ax Ap 42 1 out) 1 out:=(Ar.head' Ap 42 1 out).cons (by omega);have hd0:l.drop s.size=[]:=Yg (by omega)
 have hRo:R = .ok out:=by
  rw[<-heq,hd0]
  cases f with
  | zero=>show Except.ok (out++[])=_;rw[Xu]
  | succ f=>rw[CY];show Except.ok (out++[])=_;rw[Xu]
 rw[hRo]at hT;simp only at hT;have ht:=cE r0 (iv 0) (iv 0);refine Aw Af ?_;have ht':toT ((0,scr s s.size ln)::Ax Ap 42 1 out) (CF [rowP Ap 1 out,.t (iv 0),.t (iv 0)])=some (.tu [Am Ap out,iv 0,iv 0],FF 1 out):=ht;simp -implicitDefEqProofs [SSc,hT,-CF,ht']
def InZ (n p:Nat):Prop:=p<=n
def SRr (s:ByteArray) (big:Bool) (p:Nat):Ac:=⟨[(5,.t (iv (p:Int))),(1,.t (bv big)),(0,.t (sv s))],[],0,20⟩
theorem zP (s:ByteArray) (big:Bool) (hs:s.size<=65536):AA Xa (G q) 50 [sv s,bv big] (· = iv (Bc big s.data.toList:Int)):=by
 have hlen:s.data.toList.length=s.size:=rfl
 obtain⟨n,hn⟩:∃n,n=Bc big s.data.toList:=⟨_,rfl⟩
 have hnl:n<=s.size:=by rw[hn,<-hlen];exact Kl _ _
 rw[<-hn];refine oL.call rfl ?_;(conv in VB=>cbv);refine Az Pl ?_;simp -implicitDefEqProofs;refine Az Pl ?_;simp -implicitDefEqProofs;refine BM (α:=Unit) (λ_=>SRr s big n) (λ_=>True) (λ_=>rfl) ?_ ?_
 .refine BI ?_;refine CV (SRr s big) (λp=>n-p) (InZ n) 0 (λ_=>rfl) (Xx _) ?_ rfl ?_
  .refine AJ rfl rfl ?_ ?_<;>simp -implicitDefEqProofs [SRr]
  .intro p hp;have hp:p<=n:=hp;refine Aw Pl ?_;by_cases hlt:p<s.size
   .obtain⟨c,hc⟩:∃c,s.data.toList[p]?=some c:=⟨_,Xk hlt⟩
    have ix:=Dw s p c hc
    obtain⟨p1,hp1⟩:∃p1,p1=p+1:=⟨_,rfl⟩
    have e1:Xc.wrap ((p:Int)+1)=(p1:Int):=by rw[hp1];exact AH (by omega) (by omega)
    have gq:=E2 (τ:=Pk) (σ:=OU) (f:=λc b=>some (bv (CJ b c))) (a:=cv c) (b:=bv big) rfl rfl;by_cases hpn:p<n
    .have hd:CJ big c=true:=Nx (by show p<Bc big s.data.toList;omega) hc;simp -implicitDefEqProofs [SRr,hlt,ix,tbp,gq,hd,e1];exact Aq.mk p1 ⟨by show p1<=n;omega,by omega⟩ (AJ rfl rfl (by simp -implicitDefEqProofs [SRr]) (by simp -implicitDefEqProofs [SRr]))
    .have hpz:p=n:=by omega
     have hd:CJ big c=false:=Ny (by show s.data.toList[Bc big s.data.toList]?=some c;rw[<-hn,<-hpz];exact hc);subst hpz;simp -implicitDefEqProofs [SRr,hlt,ix,tbp,gq,hd];exact Aq.mk () trivial (AJ rfl rfl (by simp -implicitDefEqProofs [SRr]) (by simp -implicitDefEqProofs [SRr]))
   .have hpz:p=n:=by omega
    subst hpz;simp -implicitDefEqProofs [SRr,hlt];exact Aq.mk () trivial (AJ rfl rfl (by simp -implicitDefEqProofs [SRr]) (by simp -implicitDefEqProofs [SRr]))
 rintro _ -;refine Aw Pl ?_;simp -implicitDefEqProofs [SRr]
def SRf (s:ByteArray) (k p:Nat):Ac:=⟨[(4,.t (iv (p:Int))),(3,.t (iv (k:Int))),(0,.t (sv s))],[],0,25⟩
def C7 (l:List UInt8):Nat:=if BH l=DS l then 0 else BH l
theorem zQ (s:ByteArray) (hs:s.size<=65536) (h0:0<s.size):AA Xa (G q) 51 [sv s] (· = iv (C7 s.data.toList:Int)):=by
 have hlen:s.data.toList.length=s.size:=rfl
 obtain⟨l,hl⟩:∃l,l=s.data.toList:=⟨_,rfl⟩
 rw[<-hl]at hlen ⊢
 obtain⟨c0,hc0⟩:∃c,l[0]?=some c:=⟨_,Xk (by omega)⟩
 have ix0:=Dw s 0 c0 (by rw[<-hl];exact hc0);simp only[Yh]at ix0
 obtain⟨n,hn⟩:∃n,n=BH l:=⟨_,rfl⟩
 obtain⟨k,hk⟩:∃k,k=DS l:=⟨_,rfl⟩
 have hnl:n<=s.size:=by rw[hn,<-hlen];exact N1 _
 have hkn:k<=n:=by rw[hn,hk];unfold BH;omega
 have hr:C7 l=if n=k then 0 else n:=by rw[C7,hn,hk]
 have e45:((c0.toNat:Int)==45)=(c0==45):=by
  by_cases h:c0=45
  .subst h;rfl
  .have:¬c0.toNat=45:=λe=>h (X4.1 e);rw[beq_eq_false_iff_ne.2 h,zu];omega
 have hk':k=if c0==45 then 1 else 0:=by
  rw[hk];unfold DS
  cases l with
  | nil=>cases hc0
  | cons x t=>
   have:x=c0:=by simpa using hc0
   rw[this];cases h:(c0==45)<;>simp[h]
 refine oM.call rfl ?_;(conv in VC=>cbv);refine Az Dg ?_;simp -implicitDefEqProofs;refine Az Dg ?_;simp -implicitDefEqProofs;refine BM (α:=Unit) (λ_=>(⟨[(3,.t (iv (k:Int))),(0,.t (sv s))],[],0,25⟩:Ac)) (λ_=>True) (λ_=>rfl) ?_ ?_
 .refine Aw Dg ?_
  cases h45:(c0==45)with
  | true=>
   rw[h45]at hk';have hk1:k=1:=hk';subst hk1;simp -implicitDefEqProofs [ix0,e45,h45];exact Aq.mk () trivial (AJ rfl rfl (by simp -implicitDefEqProofs) (by simp -implicitDefEqProofs))
  | false=>
   rw[h45]at hk';have hk1:k=0:=hk';subst hk1;simp -implicitDefEqProofs [ix0,e45,h45];exact Aq.mk () trivial (AJ rfl rfl (by simp -implicitDefEqProofs) (by simp -implicitDefEqProofs))
 rintro _ -;refine Az Dg ?_;simp -implicitDefEqProofs;refine BM (α:=Unit) (λ_=>SRf s k n) (λ_=>True) (λ_=>rfl) ?_ ?_
 .refine BI ?_;refine CV (SRf s k) (λp=>n-p) (InR k (n-k)) k (λ_=>rfl) ⟨Xf _,by omega⟩ ?_ rfl ?_
  .refine AJ rfl rfl ?_ ?_<;>simp -implicitDefEqProofs [SRf]
  .rintro p ⟨hp1,hp2⟩;refine Aw Dg ?_;by_cases hlt:p<s.size
   .obtain⟨c,hc⟩:∃c,l[p]?=some c:=⟨_,Xk (by omega)⟩
    have ix:=Dw s p c (by rw[<-hl];exact hc)
    obtain⟨p1,hp1'⟩:∃p1,p1=p+1:=⟨_,rfl⟩
    have e1:Xc.wrap ((p:Int)+1)=(p1:Int):=by rw[hp1'];exact AH (by omega) (by omega)
    have hc':(l.drop k)[p-k]?=some c:=by rw[List.getElem?_drop,show k+(p-k)=p by omega];exact hc
    have hnk:n-k=((l.drop k).takeWhile AQ).length:=by rw[hn,hk];unfold BH;omega
    have qd:=Jh AQ c;by_cases hpn:p<n
    .have hd:AQ c=true:=Nx (by rw[<-hnk];omega) hc';rw[hd]at qd;simp -implicitDefEqProofs [SRf,hlt,ix,tbc,qd,e1];exact Aq.mk p1 ⟨⟨by omega,by omega⟩,by omega⟩ (AJ rfl rfl (by simp -implicitDefEqProofs [SRf]) (by simp -implicitDefEqProofs [SRf]))
    .have hpz:p=n:=by omega
     have hd:AQ c=false:=Ny (by rw[<-hnk,show n-k=p-k by omega];exact hc');rw[hd]at qd;subst hpz;simp -implicitDefEqProofs [SRf,hlt,ix,tbc,qd];exact Aq.mk () trivial (AJ rfl rfl (by simp -implicitDefEqProofs [SRf]) (by simp -implicitDefEqProofs [SRf]))
   .have hpz:p=n:=by omega
    subst hpz;simp -implicitDefEqProofs [SRf,hlt];exact Aq.mk () trivial (AJ rfl rfl (by simp -implicitDefEqProofs [SRf]) (by simp -implicitDefEqProofs [SRf]))
 rintro _ -;refine Aw Dg ?_;by_cases hnk:n=k
 .have hb:((n:Int)==(k:Int))=true:=by rw[hnk];simp
  rw[zy hnk]at hr;simp -implicitDefEqProofs [SRf,hb,hr]
 .have hb:((n:Int)==(k:Int))=false:=by rw[zu];omega
  rw[zz hnk]at hr;simp -implicitDefEqProofs [SRf,hb,hr]
def KN (l:List UInt8):T:=if(AU (l.drop 1)).2=0 then .tu [iv ((AU (l.drop 1)).1+2:Nat),iv 0]else .tu [iv 0,iv (AU (l.drop 1)).2]
def SRq (s:ByteArray) (p:Nat):Ac:=⟨[(4,.t (iv (p:Int))),(0,.t (sv s))],[],0,27⟩
theorem zR (s:ByteArray) (hs:s.size<=65536) (h0:0<s.size):AA Xa (G q) 53 [sv s] (· = KN s.data.toList):=by
 have hlen:s.data.toList.length=s.size:=rfl
 obtain⟨l,hl⟩:∃l,l=s.data.toList:=⟨_,rfl⟩
 rw[<-hl]at hlen ⊢;obtain⟨hq1,hq2,hq3⟩:=N3 (l.drop 1);rw[Xj]at hq1 hq2
 have hT:KN l=if(AU (l.drop 1)).2=0 then .tu [iv ((AU (l.drop 1)).1+2:Nat),iv 0]else .tu [iv 0,iv (AU (l.drop 1)).2]:=rfl
 obtain⟨n,hn⟩:∃n,n=(AU (l.drop 1)).1:=⟨_,rfl⟩
 obtain⟨e,he⟩:∃e,e=(AU (l.drop 1)).2:=⟨_,rfl⟩
 rw[<-hn,<-he]at hT;rw[<-hn,<-he]at hq2;rw[<-hn]at hq1;refine oO.call rfl ?_;(conv in VD=>cbv);refine Az Af ?_;simp -implicitDefEqProofs;refine BM (α:=Unit) (λ_=>SRq s s.size) (λ_=>e=9) (λ_=>rfl) ?_ ?_
 .refine Az Af ?_;simp -implicitDefEqProofs;refine BI ?_;refine CV (SRq s) (λp=>s.size-p) (OkQ l (1+n) e 1) 1 (λ_=>rfl) ⟨Xf _,by omega,by rw[<-hn],by rw[<-he]⟩ ?_ rfl ?_
  .refine AJ rfl rfl ?_ ?_<;>simp -implicitDefEqProofs [SRq]
  .rintro p ⟨hp0,hp,hp1,hp2⟩;refine Aw Af ?_;by_cases hlt:p<s.size
   .obtain⟨c,hc⟩:∃c,l[p]?=some c:=⟨_,Xk (by omega)⟩
    have ix:=Dw s p c (by rw[<-hl];exact hc)
    have hdrop:l.drop p=c::l.drop (p+1):=by
     have:=Y8 (l:=l) (i:=p) (by omega);rw[this,(Xh.1 hc).2]
    rw[hdrop,AU]at hp1 hp2
    obtain⟨p1,hp1'⟩:∃p1,p1=p+1:=⟨_,rfl⟩
    rw[<-hp1']at hp1 hp2
    have e1:Xc.wrap ((p:Int)+1)=(p1:Int):=by rw[hp1'];exact AH (by omega) (by omega)
    have b34:((c.toNat:Int)==34)=decide (c.toNat=34):=by
     by_cases h:c.toNat=34
     .rw[h];rfl
     .rw[zx h,zu];omega
    by_cases h34:c.toNat=34
    .rw[zy h34]at hp1 hp2;rw[zw h34]at b34
     have hpz:p=1+n:=by simpa using hp1
     have he0:e=0:=by simpa using hp2.symm
     rw[zy he0,show n+2=p1 by omega]at hT;simp -implicitDefEqProofs [SRq,hlt,ix,b34,e1,hT]
    .rw[zz h34]at hp1 hp2;rw[zx h34]at b34;have hk:=Pn c
     have bad:prt c=false->KN l = .tu [iv 0,iv 8]:=by
      intro h;rw[h]at hp1 hp2;simp at hp1 hp2;rw[hT,zz (by omega),<-hp2]
     cases t1:decide ((c.toNat:Int)<32)with
     | true=>rw[t1]at hk;simp -implicitDefEqProofs [SRq,hlt,ix,b34,t1,bad hk]
     | false=>
      cases t2:decide (126<(c.toNat:Int))with
      | true=>rw[t1,t2]at hk;simp -implicitDefEqProofs [SRq,hlt,ix,b34,t1,t2,bad hk]
      | false=>
       rw[t1,t2]at hk;rw[hk]at hp1 hp2;simp only[Yi,Ye,if_true]at hp1 hp2;simp -implicitDefEqProofs [SRq,hlt,ix,b34,t1,t2,e1];exact Aq.mk p1 ⟨⟨by omega,by omega,by omega,hp2⟩,by omega⟩ (AJ rfl rfl (by simp -implicitDefEqProofs [SRq]) (by simp -implicitDefEqProofs [SRq]))
   .have hd0:l.drop p=[]:=Yg (by omega);rw[hd0,AU]at hp1 hp2
    have h2:e=9:=by simpa using hp2.symm
    have hps:p=s.size:=by omega
    subst hps;simp -implicitDefEqProofs [SRq];exact Aq.mk () h2 (AJ rfl rfl (by simp -implicitDefEqProofs [SRq]) (by simp -implicitDefEqProofs [SRq]))
 rintro _ h9
 have hT9:KN l = .tu [iv 0,iv 9]:=by rw[hT,h9,zz (by omega)]
 refine Aw Af ?_;simp -implicitDefEqProofs [SRq,hT9]
theorem cH (l:List UInt8) (x y:UInt8):Lib.hasPrefix l [x,y]=(decide (1<l.length)&&(l.take 2==[x,y])):=by
 cases l with
 | nil=>rfl
 | cons a l=>
  cases l with
  | nil=>simp[Lib.hasPrefix,Yj]
  | cons b l=>
   have:decide (1<(a::b::l).length)=true:=by simp
   rw[this,Yf]
   show(x==a&&(y==b&&true))=(a==x&&(b==y&&true))
   have cm:∀u v:UInt8,(u==v)=(v==u):=by
    intro u v;by_cases h:u=v
    .subst h;rfl
    .rw[beq_eq_false_iff_ne.2 h,beq_eq_false_iff_ne.2 (Ne.symm h)]
   rw[cm x a,cm y b]
def zS (c:UInt8) (l:List UInt8):Prop:=AG l=if Fw.contains c then(1,0)else(0,8)
theorem zT (s:ByteArray) (hs:s.size<=65536) (h0:0<s.size):AA Xa (G q) 54 [sv s] (· = iv ((AG s.data.toList).1:Int)):=by
 have hlen:s.data.toList.length=s.size:=rfl
 obtain⟨l,hl⟩:∃l,l=s.data.toList:=⟨_,rfl⟩
 rw[<-hl]at hlen ⊢
 obtain⟨c,hc⟩:∃c,l[0]?=some c:=⟨_,Xk (by omega)⟩
 have ix:=Dw s 0 c (by rw[<-hl];exact hc);simp only[Yh]at ix
 have hh:l.head?=some c:=by rw[List.head?_eq_getElem?];exact hc
 have p1:=cH l 60 33;have p2:=cH l 33 62
 have hS:AG l=if Lib.hasPrefix l [60,33]||Lib.hasPrefix l [33,62]then(2,0)else if Fw.contains c then(1,0)else(0,8):=by
  unfold AG;rw[hh];rfl
 rw[p1,p2]at hS;refine oP.call rfl ?_;(conv in VE=>cbv);refine Az Af ?_;simp -implicitDefEqProofs;refine BM (α:=Unit) (λ_=>(⟨[(0,.t (sv s))],[],0,37⟩:Ac)) (λ_=>zS c l) (λ_=>rfl) ?_ ?_
 .refine Aw Af ?_;by_cases h1:1<s.size
  .have h1':(1:Int)<(s.size:Int):=by omega
   rw[zw (by omega:1<l.length)]at hS;have hsl:=YY s 2 (by omega)
   have hx:(s.extract 0 2).toList=l.take 2:=by rw[stl,Lib.extract_data,<-hl];rfl
   have hsl':Dn (.t (sv s)) none (some (.t (.v (.int .i64 2))))=some (.t (sv (s.extract 0 2))):=hsl
   cases b1:(l.take 2==[60,33])with
   | true=>
    rw[b1]at hS
    have hS2:AG l=(2,0):=by rw[hS];rfl
    simp -implicitDefEqProofs [h1',hsl',hx,CM,b1,hS2]
   | false=>
    cases b2:(l.take 2==[33,62])with
    | true=>
     rw[b1,b2]at hS
     have hS2:AG l=(2,0):=by rw[hS];rfl
     simp -implicitDefEqProofs [h1',hsl',hx,CM,b1,b2,hS2]
    | false=>
     rw[b1,b2]at hS;simp -implicitDefEqProofs [h1',hsl',hx,CM,b1,b2];exact Aq.mk () (by show AG l=_;rw[hS];rfl) (AJ rfl rfl (by simp -implicitDefEqProofs) (by simp -implicitDefEqProofs))
  .have h1':¬(1:Int)<(s.size:Int):=by omega
   rw[zx (by omega:¬1<l.length)]at hS;simp -implicitDefEqProofs [h1'];exact Aq.mk () (by show AG l=_;rw[hS];rfl) (AJ rfl rfl (by simp -implicitDefEqProofs) (by simp -implicitDefEqProofs))
 rintro _ hok;have hok:AG l=if Fw.contains c then(1,0)else(0,8):=hok
 have yes:∀n:Nat,Fw.contains (Y9 n)=true->c.toNat=n->(AG l).1=1:=by
  intro n h e
  have:c=Y9 n:=by rw[<-e];simp
  rw[hok,this,h];rfl
 refine Aw Af ?_;by_cases h40:c.toNat=40
 .have b:((c.toNat:Int)==40)=true:=by rw[h40];rfl
  have hy:(AG l).1=1:=yes 40 (by decide) h40;simp -implicitDefEqProofs [ix,b,hy]
 have f40:((c.toNat:Int)==40)=false:=by rw[zu];omega
 by_cases h41:c.toNat=41
 .have b:((c.toNat:Int)==41)=true:=by rw[h41];rfl
  have hy:(AG l).1=1:=yes 41 (by decide) h41;simp -implicitDefEqProofs [ix,f40,b,hy]
 have f41:((c.toNat:Int)==41)=false:=by rw[zu];omega
 by_cases h91:c.toNat=91
 .have b:((c.toNat:Int)==91)=true:=by rw[h91];rfl
  have hy:(AG l).1=1:=yes 91 (by decide) h91;simp -implicitDefEqProofs [ix,f40,f41,b,hy]
 have f91:((c.toNat:Int)==91)=false:=by rw[zu];omega
 by_cases h93:c.toNat=93
 .have b:((c.toNat:Int)==93)=true:=by rw[h93];rfl
  have hy:(AG l).1=1:=yes 93 (by decide) h93;simp -implicitDefEqProofs [ix,f40,f41,f91,b,hy]
 have f93:((c.toNat:Int)==93)=false:=by rw[zu];omega
 by_cases h60:c.toNat=60
 .have b:((c.toNat:Int)==60)=true:=by rw[h60];rfl
  have hy:(AG l).1=1:=yes 60 (by decide) h60;simp -implicitDefEqProofs [ix,f40,f41,f91,f93,b,hy]
 have f60:((c.toNat:Int)==60)=false:=by rw[zu];omega
 by_cases h62:c.toNat=62
 .have b:((c.toNat:Int)==62)=true:=by rw[h62];rfl
  have hy:(AG l).1=1:=yes 62 (by decide) h62;simp -implicitDefEqProofs [ix,f40,f41,f91,f93,f60,b,hy]
 have f62:((c.toNat:Int)==62)=false:=by rw[zu];omega
 by_cases h123:c.toNat=123
 .have b:((c.toNat:Int)==123)=true:=by rw[h123];rfl
  have hy:(AG l).1=1:=yes 123 (by decide) h123;simp -implicitDefEqProofs [ix,f40,f41,f91,f93,f60,f62,b,hy]
 have f123:((c.toNat:Int)==123)=false:=by rw[zu];omega
 by_cases h125:c.toNat=125
 .have b:((c.toNat:Int)==125)=true:=by rw[h125];rfl
  have hy:(AG l).1=1:=yes 125 (by decide) h125;simp -implicitDefEqProofs [ix,f40,f41,f91,f93,f60,f62,f123,b,hy]
 have f125:((c.toNat:Int)==125)=false:=by rw[zu];omega
 by_cases h44:c.toNat=44
 .have b:((c.toNat:Int)==44)=true:=by rw[h44];rfl
  have hy:(AG l).1=1:=yes 44 (by decide) h44;simp -implicitDefEqProofs [ix,f40,f41,f91,f93,f60,f62,f123,f125,b,hy]
 have f44:((c.toNat:Int)==44)=false:=by rw[zu];omega
 by_cases h46:c.toNat=46
 .have b:((c.toNat:Int)==46)=true:=by rw[h46];rfl
  have hy:(AG l).1=1:=yes 46 (by decide) h46;simp -implicitDefEqProofs [ix,f40,f41,f91,f93,f60,f62,f123,f125,f44,b,hy]
 have f46:((c.toNat:Int)==46)=false:=by rw[zu];omega
 by_cases h59:c.toNat=59
 .have b:((c.toNat:Int)==59)=true:=by rw[h59];rfl
  have hy:(AG l).1=1:=yes 59 (by decide) h59;simp -implicitDefEqProofs [ix,f40,f41,f91,f93,f60,f62,f123,f125,f44,f46,b,hy]
 have f59:((c.toNat:Int)==59)=false:=by rw[zu];omega
 by_cases h58:c.toNat=58
 .have b:((c.toNat:Int)==58)=true:=by rw[h58];rfl
  have hy:(AG l).1=1:=yes 58 (by decide) h58;simp -implicitDefEqProofs [ix,f40,f41,f91,f93,f60,f62,f123,f125,f44,f46,f59,b,hy]
 have f58:((c.toNat:Int)==58)=false:=by rw[zu];omega
 by_cases h61:c.toNat=61
 .have b:((c.toNat:Int)==61)=true:=by rw[h61];rfl
  have hy:(AG l).1=1:=yes 61 (by decide) h61;simp -implicitDefEqProofs [ix,f40,f41,f91,f93,f60,f62,f123,f125,f44,f46,f59,f58,b,hy]
 have f61:((c.toNat:Int)==61)=false:=by rw[zu];omega
 by_cases h38:c.toNat=38
 .have b:((c.toNat:Int)==38)=true:=by rw[h38];rfl
  have hy:(AG l).1=1:=yes 38 (by decide) h38;simp -implicitDefEqProofs [ix,f40,f41,f91,f93,f60,f62,f123,f125,f44,f46,f59,f58,f61,b,hy]
 have f38:((c.toNat:Int)==38)=false:=by rw[zu];omega
 by_cases h124:c.toNat=124
 .have b:((c.toNat:Int)==124)=true:=by rw[h124];rfl
  have hy:(AG l).1=1:=yes 124 (by decide) h124;simp -implicitDefEqProofs [ix,f40,f41,f91,f93,f60,f62,f123,f125,f44,f46,f59,f58,f61,f38,b,hy]
 have f124:((c.toNat:Int)==124)=false:=by rw[zu];omega
 by_cases h47:c.toNat=47
 .have b:((c.toNat:Int)==47)=true:=by rw[h47];rfl
  have hy:(AG l).1=1:=yes 47 (by decide) h47;simp -implicitDefEqProofs [ix,f40,f41,f91,f93,f60,f62,f123,f125,f44,f46,f59,f58,f61,f38,f124,b,hy]
 have f47:((c.toNat:Int)==47)=false:=by rw[zu];omega
 by_cases h35:c.toNat=35
 .have b:((c.toNat:Int)==35)=true:=by rw[h35];rfl
  have hy:(AG l).1=1:=yes 35 (by decide) h35;simp -implicitDefEqProofs [ix,f40,f41,f91,f93,f60,f62,f123,f125,f44,f46,f59,f58,f61,f38,f124,f47,b,hy]
 have f35:((c.toNat:Int)==35)=false:=by rw[zu];omega
 by_cases h64:c.toNat=64
 .have b:((c.toNat:Int)==64)=true:=by rw[h64];rfl
  have hy:(AG l).1=1:=yes 64 (by decide) h64;simp -implicitDefEqProofs [ix,f40,f41,f91,f93,f60,f62,f123,f125,f44,f46,f59,f58,f61,f38,f124,f47,f35,b,hy]
 have f64:((c.toNat:Int)==64)=false:=by rw[zu];omega
 have hno:Fw.contains c=false:=by
  cases h:Fw.contains c with
  | false=>rfl
  | true=>
   exfalso
   have hm:c∈Fw:=by simpa using h
   simp only[Fw,Xi,Xn,or_false]at hm;rcases hm with rfl | rfl | rfl | rfl | rfl | rfl | rfl | rfl | rfl | rfl | rfl | rfl | rfl | rfl | rfl | rfl | rfl | rfl<;>simp at *
 have hy:(AG l).1=0:=by rw[hok,hno];rfl
 simp -implicitDefEqProofs [ix,f40,f41,f91,f93,f60,f62,f123,f125,f44,f46,f59,f58,f61,f38,f124,f47,f35,f64,hy]
abbrev E7 (k:Int) (t:List UInt8) (n:Nat) (e:Int):T:=.tu [.ag (tkc k t 0),iv (n:Int),iv e]
def Mo (l:List UInt8):T:=
 match l with
 | []=>E7 0 [] 0 8
 | c::_=>
  if BS c||Bw c then(if 32<Bc (Bw c) l then E7 0 [] 0 7 else E7 (if Bw c then 2 else 1) (l.take (Bc (Bw c) l)) (Bc (Bw c) l) 0)
  else if 0<C7 l then E7 4 (l.take (C7 l)) (C7 l) (DR (l.take (C7 l))).2
  else if c.toNat=34 then(if(AU (l.drop 1)).2=0 then E7 3 ((l.drop 1).take (AU (l.drop 1)).1) ((AU (l.drop 1)).1+2) 0 else E7 0 [] 0 (AU (l.drop 1)).2)
  else if 0<(AG l).1 then E7 5 (l.take (AG l).1) (AG l).1 0 else E7 0 [] 0 8
theorem zU {c:UInt8} {r l:List UInt8} (h:c::r=l):Bg l =
 if BS c then⟨1,l.take (Bc false l),if 32<Bc false l then 7 else 0,Bc false l⟩
 else if Bw c then⟨2,l.take (Bc true l),if 32<Bc true l then 7 else 0,Bc true l⟩
 else if AQ c||decide (c.toNat=45)then⟨4,l.take (BH l),DF (l.take (BH l)),BH l⟩
 else if c.toNat=34 then⟨3,(l.drop 1).take (AU (l.drop 1)).1,(AU (l.drop 1)).2,1+(AU (l.drop 1)).1+(if(AU (l.drop 1)).2=0 then 1 else 0)⟩
 else⟨5,l.take (AG l).1,(AG l).2,(AG l).1⟩:=by subst h;rfl
theorem cI {c:UInt8} {r l:List UInt8} (h:c::r=l):Mo l =
 if BS c||Bw c then(if 32<Bc (Bw c) l then E7 0 [] 0 7 else E7 (if Bw c then 2 else 1) (l.take (Bc (Bw c) l)) (Bc (Bw c) l) 0)
 else if 0<C7 l then E7 4 (l.take (C7 l)) (C7 l) (DR (l.take (C7 l))).2
 else if c.toNat=34 then(if(AU (l.drop 1)).2=0 then E7 3 ((l.drop 1).take (AU (l.drop 1)).1) ((AU (l.drop 1)).1+2) 0 else E7 0 [] 0 (AU (l.drop 1)).2)
 else if 0<(AG l).1 then E7 5 (l.take (AG l).1) (AG l).1 0 else E7 0 [] 0 8:=by subst h;rfl
theorem SM {c:UInt8} (h:BS c=true):Bw c=false:=by
 simp only[BS,Bw,Xs,decide_eq_true_eq]at h ⊢;rw[Y7];right;rw[decide_eq_false_iff_not];omega
theorem zV (l:List UInt8) (h0:l.isEmpty=false):if(Bg l).e=0 then Mo l=E7 (Bg l).k (Bg l).t (Bg l).n 0 else ∃k t n,Mo l=E7 k t n (Bg l).e:=by
 cases l with
 | nil=>cases h0
 | cons c r=>
  generalize hl:c::r=l;have hN:=zU hl;have hR:=cI hl;by_cases t1:BS c=true
  .rw[zy t1]at hN;rw[t1,SM t1]at hR;simp only[Yk,if_true,Xe,if_false]at hR;rw[hN,hR];by_cases h:32<Bc false l
   .simp only[zy h];exact⟨0,[],0,rfl⟩
   .simp[zz h]
  .rw[zz t1]at hN
   have t1':BS c=false:=by simpa using t1
   by_cases t2:Bw c=true
   .rw[zy t2]at hN;rw[t2]at hR;simp only[Yl,if_true]at hR;rw[hN,hR];by_cases h:32<Bc true l
    .simp only[zy h];exact⟨0,[],0,rfl⟩
    .simp[zz h]
   .rw[zz t2]at hN
    have t2':Bw c=false:=by simpa using t2
    rw[t1',t2']at hR;simp only[Yi,Xe,if_false]at hR;have hfig:BH l=DS l+((l.drop (DS l)).takeWhile AQ).length:=rfl
    have hmin:DS l=if c==45 then 1 else 0:=by
     rw[<-hl];unfold DS;cases h:(c==45)<;>simp[h]
    by_cases t3:(AQ c||decide (c.toNat=45))=true
    .rw[zy t3]at hN;by_cases h1:BH l=DS l
     .
      have hr:C7 l=0:=by rw[C7,zy h1]
      have hc:c=45:=by
       by_cases h45:c=45
       .exact h45
       .exfalso
        have hd:AQ c=true:=by
         rcases Za.1 t3 with h | h
         .exact h
         .exact absurd (X4.1 (by have:=of_decide_eq_true h;show c.toNat=45;omega)) h45
        have:(c==45)=false:=by simpa using h45
        rw[this]at hmin;have hm0:DS l=0:=hmin;rw[hm0]at hfig h1;rw[Xl,<-hl,Xy,zy hd]at hfig;rw[<-hl]at h1;simp at hfig;omega
      have hm1:DS l=1:=by rw[hmin,hc];rfl
      have hf1:BH l=1:=by rw[h1,hm1]
      have htk:l.take (BH l)=[45]:=by rw[hf1,<-hl,hc];rfl
      have he:DF (l.take (BH l))=8:=by rw[htk];rfl
      rw[hr]at hR
      have h34:¬c.toNat=34:=by rw[hc];decide
      have hsy:(AG l).1=0:=by
       rw[<-hl,hc]
       have a1:Lib.hasPrefix (45::r) [60,33]=false:=by simp[Lib.hasPrefix,Yj]
       have a2:Lib.hasPrefix (45::r) [33,62]=false:=by simp[Lib.hasPrefix,Yj]
       unfold AG;rw[a1,a2];rfl
      rw[zz (by omega),zz h34,hsy,zz (by omega)]at hR;rw[hN];simp only[he];exact⟨0,[],0,hR⟩
     .have hr:C7 l=BH l:=by rw[C7,zz h1]
      have hpos:0<BH l:=by omega
      have hne:l.take (BH l)≠[45]:=by
       intro e;have hlen:=congrArg List.length e;rw[Zb]at hlen;have:=N1 l
       have hf1:BH l=1:=by simp at hlen;omega
       have hc:c=45:=by
        rw[hf1,<-hl]at e;injection e
       rw[hc]at hmin;have:DS l=1:=hmin;omega
      have he:DF (l.take (BH l))=(DR (l.take (BH l))).2:=by rw[DF,zz hne]
      rw[hr,zy hpos]at hR;rw[hN,hR];simp only[he];split
      .rename_i h;rw[h]
      .exact⟨_,_,_,rfl⟩
    .rw[zz t3]at hN
     have t3':(AQ c||decide (c.toNat=45))=false:=by simpa using t3
     have hd:AQ c=false:=(Zc.1 t3').1;have h45:¬c.toNat=45:=of_decide_eq_false (Zc.1 t3').2
     have hc45:(c==45)=false:=by
      rw[zu];intro e;rw[e]at h45;exact h45 rfl
     rw[hc45]at hmin;have hm0:DS l=0:=hmin
     have hf0:BH l=0:=by
      rw[hfig,hm0,Xl,<-hl,Xy,zz (by rw[hd];simp)];rfl
     have hr:C7 l=0:=by rw[C7,zy (by rw[hf0,hm0])]
     rw[hr,zz (by omega)]at hR;by_cases t4:c.toNat=34
     .rw[zy t4]at hN hR;rw[hN,hR];by_cases h:(AU (l.drop 1)).2=0
      .simp only[zy h];rw[show 1+(AU (l.drop 1)).1+1=(AU (l.drop 1)).1+2 by omega]
      .simp only[zz h];exact⟨0,[],0,rfl⟩
     .rw[zz t4]at hN hR;rw[hN,hR];simp only
      have hsym:((AG l).2=0/\0<(AG l).1)\/((AG l).2=8/\(AG l).1=0):=by
       unfold AG;split
       .left;simp
       .split
        .left;simp
        .right;simp
      rcases hsym with⟨h1,h2⟩ | ⟨h1,h2⟩
      .rw[zy h1,zy h2]
      .rw[zz (by omega),zz (by omega),h1];exact⟨0,[],0,rfl⟩
noncomputable def PR:List T->Option T:=g2 BX OU λs b=>if s.size<=65536 then some (iv (Bc b s.data.toList:Int))else none
theorem zW:GOK Xa (G q) 50 PR:=DY λa b s c r ha hb hr=>by
 have e1:a=sv s:=ha;have e2:b=bv c:=hb;subst e1;subst e2;split at hr
 .rename_i h;injection hr with hr;subst hr;exact zP s c h
 .cases hr
noncomputable def NV:List T->Option T:=g1 BX λs=>if s.size<=65536/\0<s.size then some (iv (C7 s.data.toList:Int))else none
theorem zX:GOK Xa (G q) 51 NV:=GX λa s r ha hr=>by
 have e1:a=sv s:=ha;subst e1;split at hr
 .rename_i h;injection hr with hr;subst hr;exact zQ s h.1 h.2
 .cases hr
noncomputable def PS:List T->Option T:=g1 BX λs=>if s.size<=65536/\0<s.size then some (KN s.data.toList)else none
theorem zY:GOK Xa (G q) 53 PS:=GX λa s r ha hr=>by
 have e1:a=sv s:=ha;subst e1;split at hr
 .rename_i h;injection hr with hr;subst hr;exact zR s h.1 h.2
 .cases hr
noncomputable def NW:List T->Option T:=g1 BX λs=>if s.size<=65536/\0<s.size then some (iv ((AG s.data.toList).1:Int))else none
theorem zZ:GOK Xa (G q) 54 NW:=GX λa s r ha hr=>by
 have e1:a=sv s:=ha;subst e1;split at hr
 .rename_i h;injection hr with hr;subst hr;exact zT s h.1 h.2
 .cases hr
noncomputable def PT:List T->Option T:=g1 BX λs=>if s.size<=281474976710656 then some (Dq s.data.toList)else none
theorem A0a:GOK Xa (G q) 52 PT:=GX λa s r ha hr=>by
 have e1:a=sv s:=ha;subst e1;split at hr
 .rename_i h;injection hr with hr;subst hr;exact tB s h
 .cases hr
noncomputable def Hr:Tbl:=[(48,Jg BS),(49,Jg Bw),(50,PR),(51,NV),(53,PS),(54,NW),(52,PT)]
theorem A0b:Ctx Xa (G q) (orc Hr):=(A5.cons (LK YG) (.cons (LK YF) (.cons zW (.cons zX (.cons zY (.cons zZ (.cons A0a .nil))))))).ctx mixed
theorem PU {Φ:AC} {H:Ab} {nx:Nat} (k:Int) (t:ByteArray):Ah Φ H nx (.build [(0,1),(1,1),(2,1)] [.int .i64 0,.string ⟨#[]⟩,.int .i64 0] [0,1]) [.t (iv k),.t (sv t)]=some (.t (.ag [iv k,sv t,iv 0]),H,nx):=rfl
theorem A0c {Φ:AC} {H:Ab} {nx:Nat} (k:Int) (t:ByteArray):Bb Φ H nx (.build [(0,1),(1,1),(2,1)] [.int .i64 0,.string ⟨#[]⟩,.int .i64 0] [0,1]) [.t (iv k),.t (sv t)]=some (.t (.ag [iv k,sv t,iv 0])):=rfl
theorem Iv (k l:Int) (t:ByteArray) (x y z:PV) (R:Ab):A8 3 ((0,.cells 42 [x,y,z])::R) (.ptr 0 0) (.t (.ag [iv k,sv t,iv l]))=some ((0,.cells 42 [.t (iv k),.t (sv t),.t (iv l)])::R):=rfl
theorem Iw (k l:Int) (t:ByteArray) (R:Ab):Ao true 3 ((0,.cells 42 [.t (iv k),.t (sv t),.t (iv l)])::R) (.ptr 0 0)=some (.t (.ag [iv k,sv t,iv l])):=rfl
theorem A0d (s:ByteArray) (hs:s.size<=65536) (h0:0<s.size):AA Xa (G q) 21 [sv s] (· = Mo s.data.toList):=by
 have hlen:s.data.toList.length=s.size:=rfl
 obtain⟨l,hl⟩:∃l,l=s.data.toList:=⟨_,rfl⟩
 rw[<-hl]at hlen ⊢
 obtain⟨c,r,hcr⟩:∃c r,c::r=l:=by
  cases l with
  | nil=>simp at hlen;omega
  | cons c r=>exact⟨c,r,rfl⟩
 have ix:=Dw s 0 c (by rw[<-hl,<-hcr];rfl);simp only[Yh]at ix;have hR:=cI hcr;have q1:=Jh BS c;have q2:=Jh Bw c
 have q3:∀b,PR [.v (.string s),bv b]=some (iv (Bc b l:Int)):=by intro b;rw[PR,E2 (τ:=BX) (σ:=OU) (x:=s) (y:=b) rfl rfl,zy hs,hl]
 have q4:NV [.v (.string s)]=some (iv (C7 l:Int)):=by rw[NV,HY (τ:=BX) (x:=s) rfl,zy ⟨hs,h0⟩,hl]
 have q5:PS [.v (.string s)]=some (KN l):=by rw[PS,HY (τ:=BX) (x:=s) rfl,zy ⟨hs,h0⟩,hl]
 have q6:NW [.v (.string s)]=some (iv ((AG l).1:Int)):=by rw[NW,HY (τ:=BX) (x:=s) rfl,zy ⟨hs,h0⟩,hl]
 have slt:∀n:Nat,n<=l.length->Dn (.t (sv s)) none (some (.t (iv (n:Int))))=some (.t (sv (bs (l.take n)))):=by
  intro n hn;rw[YY s n (by omega)]
  have e3:s.extract 0 n=bs (l.take n):=by
   rw[<-GZ (s.extract 0 n),Lib.extract_data,<-hl];rfl
  rw[e3]
 refine oF.call rfl ?_;refine Aw A0b ?_
 cases t1:BS c with
 | true=>
  rw[t1,SM t1]at hR;simp only[Yk,if_true,Xe,if_false]at hR;rw[t1]at q1;rw[SM t1]at q2;have hrl:=Kl false l;have sl:=slt _ hrl;have q3':=q3 false;generalize Bc false l=n at *;by_cases h:32<n
  .rw[zy h]at hR
   have h':(32:Int)<(n:Int):=by omega
   (conv in GY=>cbv);simp -implicitDefEqProofs [ix,Hr,q1,q2,q3',h',-AF,G9,Iv,Iw,hR]
  .rw[zz h]at hR
   have h':¬(32:Int)<(n:Int):=by omega
   (conv in GY=>cbv);simp -implicitDefEqProofs [ix,Hr,q1,q2,q3',h',sl,-AF,PU,Iv,Iw,hR]
 | false=>
 rw[t1]at q1
 cases t2:Bw c with
 | true=>
  rw[t1,t2]at hR;simp only[Yl,if_true]at hR;rw[t2]at q2;have hrl:=Kl true l;have sl:=slt _ hrl;have q3':=q3 true;generalize Bc true l=n at *;by_cases h:32<n
  .rw[zy h]at hR
   have h':(32:Int)<(n:Int):=by omega
   (conv in GY=>cbv);simp -implicitDefEqProofs [ix,Hr,q1,q2,q3',h',-AF,G9,Iv,Iw,hR]
  .rw[zz h]at hR
   have h':¬(32:Int)<(n:Int):=by omega
   (conv in GY=>cbv);simp -implicitDefEqProofs [ix,Hr,q1,q2,q3',h',sl,-AF,PU,Iv,Iw,hR]
 | false=>
 rw[t2]at q2;rw[t1,t2]at hR;simp only[Yi,Xe,if_false]at hR;by_cases hf:0<C7 l
 .rw[zy hf]at hR
  have hfl:C7 l<=l.length:=by
   have:=N1 l;unfold C7;split
   .omega
   .exact this
  have sl:=slt _ hfl
  have gn:PT [.v (.string (bs (l.take (C7 l))))]=some (Dq (l.take (C7 l))):=by
   rw[PT,HY (τ:=BX) (x:=bs (l.take (C7 l))) rfl,zy (by show(l.take (C7 l)).toArray.size<=_;simp;omega)]
  generalize l.take (C7 l)=t at *;generalize C7 l=n at *
  have hf':(0:Int)<(n:Int):=by omega
  (conv in GY=>cbv);simp -implicitDefEqProofs [ix,Hr,q1,q2,q4,hf,sl,gn,Bv,Dq,-AF,PU,Iv,Iw,hR]
 .rw[zz hf]at hR
  have hf0:C7 l=0:=by omega
  rw[hf0]at q4;have q4':NV [.v (.string s)]=some (iv 0):=q4;by_cases h34:c.toNat=34
  .rw[zy h34]at hR
   have b34:((c.toNat:Int)==34)=true:=by rw[h34];rfl
   unfold KN at q5;obtain⟨hq1,hq2,hq3⟩:=N3 (l.drop 1);rw[Xj]at hq1 hq2
   obtain⟨n,hn⟩:∃n,n=(AU (l.drop 1)).1:=⟨_,rfl⟩
   obtain⟨e,he⟩:∃e,e=(AU (l.drop 1)).2:=⟨_,rfl⟩
   rw[<-hn,<-he]at hR q5 hq2;rw[<-hn]at hq1;by_cases h:e=0
   .rw[zy h]at hR q5
    obtain⟨m,hm⟩:∃m,m=n+2:=⟨_,rfl⟩
    obtain⟨m1,hm1⟩:∃m1,m1=n+1:=⟨_,rfl⟩
    rw[<-hm]at hR q5;have hlt:=hq2 h
    have e1:Xc.wrap ((m:Int)-1)=(m1:Int):=by rw[Fs (by omega) (by omega)];omega
    have sl:Dn (.t (sv s)) (some (.t (.v (.int .i64 1)))) (some (.t (iv (m1:Int))))=some (.t (sv (bs ((l.drop 1).take n)))):=by
     have:=LL s 1 m1 (by omega) (by omega)
     have e3:s.extract 1 m1=bs ((l.drop 1).take n):=by
      rw[<-GZ (s.extract 1 m1),Lib.extract_data,<-hl,hm1,Nat.add_sub_cancel]
     rw[e3]at this;exact this
    (conv in GY=>cbv);simp -implicitDefEqProofs [ix,Hr,q1,q2,q4',b34,q5,Bv,e1,sl,-AF,PU,Iv,Iw,hR]
   .rw[zz h]at hR q5
    have hb:(e != 0)=true:=by rw[bne_iff_ne];exact h
    (conv in GY=>cbv);simp -implicitDefEqProofs [ix,Hr,q1,q2,q4',b34,q5,Bv,hb,-AF,G9,Iv,Iw,hR]
  .rw[zz h34]at hR
   have b34:((c.toNat:Int)==34)=false:=by rw[zu];omega
   have hsl:(AG l).1<=l.length:=by
    unfold AG;split
    .rename_i h;rcases Za.1 h with h | h
     .have:=(Zd.1 h).length_le;simpa using this
     .have:=(Zd.1 h).length_le;simpa using this
    .split
     .show 1<=l.length;omega
     .simp
   have sl:=slt _ hsl;generalize (AG l).1=n at *;by_cases hp:0<n
   .rw[zy hp]at hR
    (conv in GY=>cbv);simp -implicitDefEqProofs [ix,Hr,q1,q2,q4',b34,q6,hp,sl,-AF,-Ja,A0c,Iv,Iw,hR]
   .rw[zz hp]at hR
    have hn0:n=0:=by omega
    subst hn0;have q6':NW [.v (.string s)]=some (iv 0):=q6
    (conv in GY=>cbv);simp -implicitDefEqProofs [ix,Hr,q1,q2,q4',b34,q6',-AF,G9,Iv,Iw,hR]
noncomputable def PW:List T->Option T:=g1 BX λs=>if s.size<=65536/\0<s.size then some (Mo s.data.toList)else none
theorem A0e:GOK Xa (G q) 21 PW:=GX λa s r ha hr=>by
 have e1:a=sv s:=ha;subst e1;split at hr
 .rename_i h;injection hr with hr;subst hr;exact A0d s h.1 h.2
 .cases hr
noncomputable def SO:Tbl:=[(21,PW)]
theorem J6:Ctx Xa (G q) (orc SO):=(A5.cons A0e .nil).ctx mixed
structure RSc where
 f:Nat
 p:Nat
 ln:Nat
 cm:Bool
 out:List Tok
def GG (f:Nat) (cm:Bool) (D:List UInt8) (l:Nat):Except (Nat×Int) (List Tok):=CY f (D.drop (AV cm D).1) (l+(AV cm D).2)
def SRs (s:ByteArray) (a:RSc):Ac:=⟨[(8,.t (iv (a.p:Int))),(7,.t (bv a.cm)),(6,.t (iv (a.ln:Int))),(5,rowP Ap 0 a.out),(0,.t (sv s))],Ax Ap 42 0 a.out,1,71⟩
structure SP (l:List UInt8) (R:Except (Nat×Int) (List Tok)) (a:RSc):Prop where
 le:a.p<=l.length
 fu:l.length-a.p<a.f
 ln:a.ln<=a.p+1
 ol:a.out.length<=a.p
 eq:Hf a.out (GG a.f a.cm (l.drop a.p) a.ln)=R
theorem cJ (k l:Int) (t:List UInt8) (x y z:PV) (R:Ab):A8 3 ((1,.cells 42 [x,y,z])::R) (.ptr 1 0) (.t (.ag (tkc k t l)))=some ((1,tkr k t l)::R):=rfl
theorem A0f (k l m:Int) (t:List UInt8) (R:Ab):A8 1 ((1,tkr k t l)::R) (.ptr 1 2) (.t (iv m))=some ((1,tkr k t m)::R):=rfl
theorem A0g (k l:Int) (t:List UInt8) (R:Ab):Ao true 3 ((1,tkr k t l)::R) (.ptr 1 0)=some (.t (.ag (tkc k t l))):=rfl
theorem A0h (k l:Int) (t:List UInt8):De 42 3 [.int .i64 0,.string ⟨#[]⟩,.int .i64 0] 1 [(0,.t (.ag (tkc k t l)))] 2=some (.row 2 0 1 3,.cells 42 [.t (iv k),.t (sv (bs t)),.t (iv l)]):=rfl
theorem A0i (s:ByteArray) (hlim:s.size<=lim):AA Xa (G q) 10 [sv s] (· = Ff s.data.toList):=by
 refine nX.call rfl ?_;(conv in V1=>cbv)
 obtain⟨l,hl⟩:∃l,l=s.data.toList:=⟨_,rfl⟩
 have hlen:l.length=s.size:=by rw[hl];rfl
 rw[<-hl];by_cases hbig:65536<s.size
 .have hb':(65536:Int)<(s.size:Int):=by omega
  have hT:Ff l = .tu [Ad,iv 0,iv 7]:=by rw[Ff,zy (by omega)]
  refine Aw Af ?_;simp -implicitDefEqProofs [hb',hT]
 have hb':¬(65536:Int)<(s.size:Int):=by omega
 have hs:s.size<=65536:=by omega
 have hT:Ff l=match EY l 1 with
  | .error x=>.tu [Ad,iv (x.1:Int),iv x.2]
  | .ok ts=>.tu [Am Ap ts,iv 0,iv 0]:=by rw[Ff,zz (by omega)]<;>cases EY l 1<;>rfl
 obtain⟨R,hR⟩:∃R,R=EY l 1:=⟨_,rfl⟩
 rw[<-hR]at hT;refine Az J6 ?_;simp -implicitDefEqProofs;refine Az J6 ?_;simp -implicitDefEqProofs [hb'];refine Az J6 ?_;simp -implicitDefEqProofs;refine Az J6 ?_;simp -implicitDefEqProofs;refine Az J6 ?_;simp -implicitDefEqProofs;refine BM (α:=RSc) (SRs s) (λa=>SP l R a/\a.p=s.size) (λ_=>rfl) ?_ ?_
 .refine Az J6 ?_;simp -implicitDefEqProofs;refine BI ?_;refine CV (SRs s) (λa=>s.size-a.p) (SP l R) ⟨l.length+1,0,1,false,[]⟩ (λ_=>rfl) ⟨Xx _,by show l.length-0<l.length+1;omega,Xf _,by simp,?_⟩ ?_ rfl ?_
  .show Hf [] (GG (l.length+1) false (l.drop 0) 1)=R;rw[ZD,hR,Xl];rfl
  .exact Rm (by omega) (by simp -implicitDefEqProofs [SRs,under,rowP])
  .rintro⟨f,p,ln,cm,out⟩ hok;have hok':=hok;obtain⟨hp,hfu,hln,hol,heq⟩:=hok;simp only at hp hfu hln hol heq;have r0:Ar Ap 42 (Ax Ap 42 0 out) 0 out:=Ar.head' Ap 42 0 out;refine Aw J6 ?_;by_cases hlt:p<s.size
   .obtain⟨c,hc⟩:∃c,l[p]?=some c:=⟨_,Xk (by omega)⟩
    have ix:=Dw s p c (by rw[<-hl];exact hc)
    have hdrop:l.drop p=c::l.drop (p+1):=by
     have:=Y8 (l:=l) (i:=p) (by omega);rw[this,(Xh.1 hc).2]
    obtain⟨p1,hp1⟩:∃p1,p1=p+1:=⟨_,rfl⟩
    rw[<-hp1]at hdrop
    have e1:Xc.wrap ((p:Int)+1)=(p1:Int):=by rw[hp1];exact AH (by omega) (by omega)
    have hsk:AV cm (l.drop p)=if c.toNat=10 then((AV false (l.drop p1)).1+1,(AV false (l.drop p1)).2+1)
      else if cm||decide (c.toNat=37)then((AV true (l.drop p1)).1+1,(AV true (l.drop p1)).2)
      else if c.toNat=32\/c.toNat=9\/c.toNat=13 then((AV false (l.drop p1)).1+1,(AV false (l.drop p1)).2)
      else(0,0):=by rw[hdrop,AV]
    have go:∀(ln':Nat) (cm':Bool),ln'<=ln+1->AV cm (l.drop p)=((AV cm' (l.drop p1)).1+1,(ln'-ln)+(AV cm' (l.drop p1)).2)->ln<=ln'->GG f cm (l.drop p) ln=GG f cm' (l.drop p1) ln':=by
     intro ln' cm' h1 h2 h3;unfold GG;rw[h2];simp only;rw[Xw,Xw,show p+((AV cm' (l.drop p1)).1+1)=p1+(AV cm' (l.drop p1)).1 by omega,show ln+((ln'-ln)+(AV cm' (l.drop p1)).2)=ln'+(AV cm' (l.drop p1)).2 by omega]
    have nxt:∀(ln':Nat) (cm':Bool) (env:List (Nat×PV)),ln'<=ln+1->ln<=ln'->AV cm (l.drop p)=((AV cm' (l.drop p1)).1+1,(ln'-ln)+(AV cm' (l.drop p1)).2) ->
      (∀q∈(SRs s ⟨f,p1,ln',cm',out⟩).env,Aa env q.1=some q.2) ->
      Aq Xa (G q) 0 (SRs s) (λa'=>SP l R a'/\s.size-a'.p<s.size-p) ⟨env,Ax Ap 42 0 out,1,71⟩:=by
     intro ln' cm' env h1 h2 h3 h4;refine Aq.mk ⟨f,p1,ln',cm',out⟩ ⟨⟨by show p1<=_;omega,by show l.length-p1<f;omega,by show ln'<=p1+1;omega,by show out.length<=p1;omega,?_⟩,by show s.size-p1<s.size-p;omega⟩ (AJ rfl rfl h4 λq hq=>?_)
     .show Hf out (GG f cm' (l.drop p1) ln')=R;rw[<-go ln' cm' h1 h3 h2];exact heq
     .have:q∈Ax Ap 42 0 out:=hq
      cases out with
      | nil=>cases this
      | cons y r=>
       simp only[Ax,Xp]at this;subst this;rfl
    have b10:((c.toNat:Int)==10)=decide (c.toNat=10):=by
     by_cases h:c.toNat=10
     .rw[h];rfl
     .rw[zx h,zu];omega
    have b37:((c.toNat:Int)==37)=decide (c.toNat=37):=by
     by_cases h:c.toNat=37
     .rw[h];rfl
     .rw[zx h,zu];omega
    by_cases h10:c.toNat=10
    .rw[zy h10]at hsk;rw[zw h10]at b10
     obtain⟨ln1,hln1⟩:∃ln1,ln1=ln+1:=⟨_,rfl⟩
     have e2:Xc.wrap ((ln:Int)+1)=(ln1:Int):=by rw[hln1];exact AH (by omega) (by omega)
     simp -implicitDefEqProofs [SRs,hlt,ix,b10,e1,e2];exact nxt ln1 false _ (by omega) (by omega) (by rw[hsk,hln1,Nat.add_sub_cancel_left,Nat.add_comm 1]) (by simp -implicitDefEqProofs [SRs])
    .rw[zz h10]at hsk;rw[zx h10]at b10
     have same:∀cm',AV cm (l.drop p)=((AV cm' (l.drop p1)).1+1,(AV cm' (l.drop p1)).2)->AV cm (l.drop p)=((AV cm' (l.drop p1)).1+1,(ln-ln)+(AV cm' (l.drop p1)).2):=by
      intro cm' h;rw[h,Nat.sub_self,Xo]
     cases hcm:cm with
     | true=>
      rw[hcm]at hsk;simp only[Yk,if_true]at hsk;subst hcm;simp -implicitDefEqProofs [SRs,hlt,ix,b10,e1];exact nxt ln true _ (by omega) (by omega) (same true hsk) (by simp -implicitDefEqProofs [SRs])
     | false=>
      subst hcm;by_cases h37:c.toNat=37
      .rw[zw h37]at b37 hsk;simp only[Yl,if_true]at hsk;simp -implicitDefEqProofs [SRs,hlt,ix,b10,b37,e1];exact nxt ln true _ (by omega) (by omega) (same true hsk) (by simp -implicitDefEqProofs [SRs])
      .rw[zx h37]at b37 hsk;simp only[Bool.or_false,Xe,if_false]at hsk;by_cases h32:c.toNat=32
       .rw[zy (.inl h32)]at hsk
        have b32:((c.toNat:Int)==32)=true:=by rw[h32];rfl
        simp -implicitDefEqProofs [SRs,hlt,ix,b10,b37,b32,e1];exact nxt ln false _ (by omega) (by omega) (same false hsk) (by simp -implicitDefEqProofs [SRs])
       .have b32:((c.toNat:Int)==32)=false:=by rw[zu];omega
        by_cases h9:c.toNat=9
        .rw[zy (.inr (.inl h9))]at hsk
         have b9:((c.toNat:Int)==9)=true:=by rw[h9];rfl
         simp -implicitDefEqProofs [SRs,hlt,ix,b10,b37,b32,b9,e1];exact nxt ln false _ (by omega) (by omega) (same false hsk) (by simp -implicitDefEqProofs [SRs])
        .have b9:((c.toNat:Int)==9)=false:=by rw[zu];omega
         by_cases h13:c.toNat=13
         .rw[zy (.inr (.inr h13))]at hsk
          have b13:((c.toNat:Int)==13)=true:=by rw[h13];rfl
          simp -implicitDefEqProofs [SRs,hlt,ix,b10,b37,b32,b9,b13,e1];exact nxt ln false _ (by omega) (by omega) (same false hsk) (by simp -implicitDefEqProofs [SRs])
         .have b13:((c.toNat:Int)==13)=false:=by rw[zu];omega
          rw[zz (by omega)]at hsk
          have heq2:Hf out (CY f (l.drop p) ln)=R:=by
           rw[<-heq];unfold GG;rw[hsk];rfl
          obtain⟨D,hD⟩:∃D,D=l.drop p:=⟨_,rfl⟩
          have hDl:D.length=l.length-p:=by rw[hD,Xj]
          have hDe:D.isEmpty=false:=by rw[hD,hdrop];rfl
          have hsl:=YX s p (by omega)
          have hxd:(s.extract p s.size).data.toList=D:=by
           rw[Lib.extract_data,<-hl,<-hD];exact Xz (by omega)
          have hxs:(s.extract p s.size).size=D.length:=by rw[<-hxd];rfl
          have gt:PW [.v (.string (s.extract p s.size))]=some (Mo D):=by
           rw[PW,HY (τ:=BX) (x:=s.extract p s.size) rfl,zy ⟨by omega,by omega⟩,hxd]
          have hrn:=zV D hDe;have hpos:=Pt D hDe;rw[<-hD]at heq2
          obtain⟨f',rfl⟩:∃f',f=f'+1:=⟨f-1,by omega⟩
          rw[CY,hDe]at heq2;simp only[Xe,if_false]at heq2
          obtain⟨k,hk⟩:∃k,k=(Bg D).k:=⟨_,rfl⟩
          obtain⟨t,ht⟩:∃t,t=(Bg D).t:=⟨_,rfl⟩
          obtain⟨e,he⟩:∃e,e=(Bg D).e:=⟨_,rfl⟩
          obtain⟨n,hnn⟩:∃n,n=(Bg D).n:=⟨_,rfl⟩
          rw[<-he,<-hnn]at hpos;rw[<-hk,<-ht,<-he,<-hnn]at heq2 hrn;by_cases he0:e=0
          .rw[zy he0]at hrn;rw[hrn]at gt;obtain⟨hn1,hn2⟩:=hpos he0;rw[zz (by simpa using he0)]at heq2
           obtain⟨p2,hp2⟩:∃p2,p2=p+n:=⟨_,rfl⟩
           have e3:Xc.wrap ((p:Int)+(n:Int))=(p2:Int):=by rw[Fs (by omega) (by omega)];omega
           have hdd:D.drop n=l.drop p2:=by rw[hD,Xw,hp2]
           rw[hdd]at heq2;have r0':Ar Ap 42 ((2,.cells 42 [.t (iv k),.t (sv (bs t)),.t (iv (ln:Int))])::(1,tkr k t ln)::Ax Ap 42 0 out) 0 out:=(r0.cons (k:=1) (by omega)).cons (k:=2) (by omega);obtain⟨b2,H2,n2,ap2,r2,ne2,hle2,hold,hb2⟩:=Gd (e:=Ap) (ty:=42) (by':=32) (nx:=3) (m:=[⟨k,t,ln⟩]) r0' (Gc (e:=Ap) (b:=2) (ty:=42) ⟨k,t,ln⟩ rfl) (by simp;omega) (by simp;omega);have ap2':B1 42 3 32 ((2,.cells 42 [.t (iv k),.t (sv (bs t)),.t (iv (ln:Int))])::(1,tkr k t ln)::Ax Ap 42 0 out) 3 (rowP Ap 0 out) (.row 2 0 1 3)=some (rowP Ap b2 (out++[⟨k,t,ln⟩]),H2,n2):=ap2;simp -implicitDefEqProofs [SRs,hlt,ix,b10,b37,b32,b9,b13,hsl,SO,gt,Bv,cJ,A0f,A0g,A0h,ap2',e3];refine Aq.mk ⟨f',p2,ln,false,out++[⟨k,t,ln⟩]⟩ ⟨⟨by show p2<=_;omega,by show l.length-p2<f';omega,by show ln<=p2+1;omega,by simp;omega,?_⟩,by show s.size-p2<s.size-p;omega⟩ ?_
           .show Hf (out++[⟨k,t,ln⟩]) (GG f' false (l.drop p2) ln)=R;rw[<-heq2];unfold GG
            cases CY f' ((l.drop p2).drop (AV false (l.drop p2)).1) (ln+(AV false (l.drop p2)).2)with
            | error x=>rfl
            | ok ts=>show Except.ok _=Except.ok _;simp
           .unfold SRs;exact Jd (k:=b2) r2 (by omega) (by omega) (by simp -implicitDefEqProofs [Cs,Ct,ren,under])
          .rw[zz he0]at hrn;obtain⟨k',t',n',hrn⟩:=hrn;rw[hrn]at gt
           have hRe:R = .error (ln,e):=by rw[<-heq2,zy he0];rfl
           rw[hRe]at hT;simp only at hT
           have hb:(e != 0)=true:=by rw[bne_iff_ne];exact he0
           simp -implicitDefEqProofs [SRs,hlt,ix,b10,b37,b32,b9,b13,hsl,SO,gt,Bv,cJ,hb,hT]
   .have hps:p=s.size:=by omega
    subst hps;simp -implicitDefEqProofs [SRs];refine Aq.mk ⟨f,s.size,ln,cm,out⟩ ⟨hok',rfl⟩ ?_;exact Jd (k:=0) r0 (by omega) (by omega) (by simp -implicitDefEqProofs [Cs,Ct,ren,under])
 rintro⟨f,p,ln,cm,out⟩ ⟨hok,hps⟩;obtain⟨hp,hfu,hln,hol,heq⟩:=hok;simp only at hp hfu hln hol heq hps;subst hps;have r0:Ar Ap 42 (Ax Ap 42 0 out) 0 out:=Ar.head' Ap 42 0 out;have hd0:l.drop s.size=[]:=Yg (by omega)
 have hRo:R = .ok out:=by
  rw[<-heq,hd0];show Hf out (CY f ([].drop (AV cm []).1) (ln+(AV cm []).2))=_
  cases f with
  | zero=>show Except.ok (out++[])=_;rw[Xu]
  | succ f=>rw[CY];show Except.ok (out++[])=_;rw[Xu]
 rw[hRo]at hT;simp only at hT;have ht:=cE r0 (iv 0) (iv 0);refine Aw J6 ?_;simp -implicitDefEqProofs [SRs,hT,-CF,ht]
theorem PY:∀(l acc:List UInt8),(BQ acc l).length<=l.length+1
 | [],acc=>by simp[BQ]
 | c::r,acc=>by
  rw[BQ];have h1:=PY r [];have h2:=PY r (acc++[c]);split
  .simp;omega
  .simp;omega
theorem cK:∀(f:Nat) (D:List UInt8) (l:Nat) (ts:List Tok),CY f D l = .ok ts->ts.length<=D.length
 | 0,D,l,ts,h=>by simp only[CY,Except.ok.injEq]at h;subst h;simp
 | f+1,D,l,ts,h=>by
  rw[CY]at h;split at h
  .simp only[Except.ok.injEq]at h;subst h;simp
  .rename_i h0;split at h
   .cases h
   .rename_i he;obtain⟨n1,n2⟩:=Pt D (by simpa using h0) (by simpa using he);split at h
    .cases h
    .rename_i ts' h2;injection h with h;subst h;have:=cK f _ _ _ h2;simp only[Xj]at this;simp only[X0];omega
theorem SR {D:List UInt8} {l:Nat} {ts:List Tok} (h:EY D l = .ok ts):ts.length<=D.length:=by
 have:=cK _ _ _ _ h;simp only[Xj]at this;omega
theorem cL {p:UInt8->Bool}:∀{D:List UInt8} {c:UInt8},c∈D.takeWhile p->p c=true
 | [],c,h=>by simp at h
 | x::D,c,h=>by
  rw[Xy]at h;split at h
  .rename_i hx;rcases Xi.1 h with e | e
   .rw[e];exact hx
   .exact cL e
  .simp at h
theorem cM {p:UInt8->Bool}:∀D:List UInt8,D.take (D.takeWhile p).length=D.takeWhile p
 | []=>rfl
 | c::D=>by
  by_cases h:p c=true
  .rw[Xy,zy h,X0,X5,cM D]
  .rw[Xy,zz h];rfl
theorem cN:∀D:List UInt8,(AU D).2=0->D.take ((AU D).1+1)=D.take (AU D).1++[34]
 | [],h=>by cases h
 | c::D,h=>by
  rw[AU]at h;by_cases h1:c.toNat=34
  .have:c=34:=X4.1 h1;rw[AU,zy h1,this];rfl
  .rw[zz h1]at h;by_cases h2:prt c=true
   .rw[zy h2]at h;rw[AU,zz h1,zy h2,X5,X5,cN D h];rfl
   .rw[zz h2]at h;cases h
def wr (k:Int) (t:List UInt8):List UInt8:=if k=3 then 34::t++[34]else t
theorem A0j (c:UInt8) (r:List UInt8) (he:(Bg (c::r)).e=0):wr (Bg (c::r)).k (Bg (c::r)).t=(c::r).take (Bg (c::r)).n:=by
 rw[Bg]at he ⊢;split
 .rw[wr,zz (by simp)]
 .rename_i t1;rw[zz t1]at he;split
  .rw[wr,zz (by simp)]
  .rename_i t2;rw[zz t2]at he;split
   .rw[wr,zz (by simp)]
   .rename_i t3;rw[zz t3]at he;split
    .rename_i t4;rw[zy t4]at he;have he':(AU r).2=0:=he;have hc:c=34:=X4.1 t4;have e1:(c::r).drop 1=r:=rfl;rw[wr,zy rfl];simp only[e1,he',if_true];rw[show 1+(AU r).1+1=((AU r).1+1)+1 by omega,X5,cN r he',hc];rfl
    .rw[wr,zz (by simp)]
def nl (l:List UInt8):Nat:=l.countP λc=>c.toNat==10
theorem cO (f:Nat) (c:UInt8) (r:List UInt8) (l:Nat) (he:(Bg (c::r)).e=0) :
  CY (f+1) (c::r) l=match GG f false ((c::r).drop (Bg (c::r)).n) l with
   | .error x=>.error x
   | .ok ts=>.ok (⟨(Bg (c::r)).k,(Bg (c::r)).t,l⟩::ts):=by
 rw[CY];simp only[X3,Xe,if_false,he,ne_eq,not_true_eq_false,GG];generalize CY f (X6 (AV false (X6 (Bg (c::r)).n (c::r))).fst (X6 (Bg (c::r)).n (c::r))) (l+(AV false (X6 (Bg (c::r)).n (c::r))).snd)=z;cases z<;>rfl
def SS (t:Tok):Prop:=∃c r,(Bg (c::r)).e=0/\t.k=(Bg (c::r)).k/\t.t=(Bg (c::r)).t
def wrT (t:Tok):List UInt8:=wr t.k t.t
theorem PZ:∀(f:Nat) (D:List UInt8) (l:Nat) (ts:List Tok),CY f D l = .ok ts->(∀t∈ts,SS t)/\(ts.flatMap wrT).length<=D.length
 | 0,D,l,ts,h=>by simp only[CY,Except.ok.injEq]at h;subst h;simp
 | f+1,[],l,ts,h=>by
  rw[CY]at h;simp only[List.isEmpty_nil,if_true,Except.ok.injEq]at h;subst h;simp
 | f+1,c::r,l,ts,h=>by
  by_cases he:(Bg (c::r)).e=0
  .rw[cO f c r l he]at h;split at h
   .cases h
   .rename_i ts' h2;injection h with h;subst h;obtain⟨i1,i2⟩:=PZ f _ _ _ h2;obtain⟨n1,n2⟩:=Pt (c::r) rfl he;refine⟨λt ht=>?_,?_⟩
    .rcases Xi.1 ht with e | e
     .rw[e];exact⟨c,r,he,rfl,rfl⟩
     .exact i1 t e
    .rw[List.flatMap_cons,Xm];have hw:wrT ⟨(Bg (c::r)).k,(Bg (c::r)).t,l⟩=(c::r).take (Bg (c::r)).n:=A0j c r he;rw[hw,Zb];rw[Xj,Xj]at i2;omega
  .rw[CY]at h;simp only[X3,Xe,if_false,ne_eq,he,not_false_eq_true,if_true]at h;cases h
theorem cP:∀(f:Nat) (D:List UInt8) (l:Nat) (x:Nat×Int),CY f D l = .error x->l<=x.1/\x.2≠0
 | 0,D,l,x,h=>by cases h
 | f+1,[],l,x,h=>by cases h
 | f+1,c::r,l,x,h=>by
  by_cases he:(Bg (c::r)).e=0
  .rw[cO f c r l he]at h;split at h
   .rename_i y hy;injection h with h;subst h;have:=cP f _ _ _ hy;exact⟨by omega,this.2⟩
   .cases h
  .rw[CY]at h;simp only[X3,Xe,if_false,ne_eq,he,not_false_eq_true,if_true]at h;injection h with h;subst h;exact⟨Xf _,he⟩
theorem cQ {D:List UInt8} {l:Nat} {x:Nat×Int} (h:EY D l = .error x):l<=x.1/\x.2≠0:=by
 have:=cP _ _ _ _ h;exact⟨by omega,this.2⟩
def later (k:Nat):Except (Nat×Int) (List Tok)->Except (Nat×Int) (List Tok)
 | .error x=>.error (x.1+k,x.2)
 | .ok ts=>.ok (ts.map λt=>⟨t.k,t.t,t.l+k⟩)
noncomputable def FQ (ts:List T):Option T:=g2 (tSl Ap) OT (λl i=>if l.length<=1000000/\0<=i/\i<=(l.length:Int)then some (BV (As (l.map kt) 64 i.toNat))else none) ts
theorem SU {t:T} {l:List Tok} (h:IsS Ap t l) (hl:l.length<=1000000) {i:Nat} (hi:i<=l.length):FQ [t,iv (i:Int)]=some (BV (As (l.map kt) 64 i)):=by
 show g2 _ _ _ _=_;rw[E2 (τ:=tSl Ap) (σ:=OT) (x:=l) (y:=(i:Int)) h rfl,zy ⟨hl,by omega,by omega⟩,Int.toNat_natCast]
theorem A0k:GOK Xa (G q) 133 FQ:=DY λa b x y r ha hb hr=>by
 split at hr
 .rename_i hc;injection hr with hr;subst hr;cases hb;obtain⟨n,rfl⟩:=Xt hc.2.1;exact yJ ha hc.1 (by omega)
 .cases hr
theorem A0l:GOK Xa (G q) 136 FQ:=DY λa b x y r ha hb hr=>by
 split at hr
 .rename_i hc;injection hr with hr;subst hr;cases hb;obtain⟨n,rfl⟩:=Xt hc.2.1;exact zL ha hc.1 (by omega)
 .cases hr
def J7 (ts:List T):Option T:=match ts with
 | [.v (.string s)]=>if s.size<=1000000 then some (Ff s.data.toList)else none
 | _=>none
theorem A0m:GOK Xa (G q) 28 J7:=λargs r h=>by
 unfold J7 at h;split at h
 .split at h
  .injection h with h;subst h;exact zO _ (by unfold lim;omega)
  .cases h
 .cases h
theorem A0n:GOK Xa (G q) 10 J7:=λargs r h=>by
 unfold J7 at h;split at h
 .split at h
  .injection h with h;subst h;exact A0i _ (by unfold lim;omega)
  .cases h
 .cases h
abbrev cR:Nat:=66
abbrev J8:Nat:=42
def rr (t:T) (i:Nat):Row:=.cells cR [.t t,.t (iv (i:Int))]
theorem Hs (n:Nat) (t:T) (i:Nat):ClR n (rr t i):=ClR.trees n cR [t,iv (i:Int)]
structure A0o (t:T) (i:Nat) (H:Ab) (k:Nat):Prop where
 l0:Ao false 1 H (.ptr k 0)=some (.t t)
 l1:Ao false 1 H (.ptr k 1)=some (.t (iv (i:Int)))
section
variable {t : T} {k0 i nx : Nat} {H : Ab} {l : List Tok}
theorem Eb (h:Aa H k0=some (rr t i)):A0o t i H k0:=by
 have l:∀j,Ao false 1 H (.ptr k0 j)=([.t t,.t (iv (i:Int))]:List PV)[j]?:=λj=>by
  simp only[Ao,h,rr,Xe,if_false]
 exact⟨l 0,l 1⟩
theorem SV (h:Aa H k0=some (rr t i)) (j:Nat):A8 1 H (.ptr k0 1) (.t (iv (j:Int)))=some (Xd H k0 (rr t j)):=
 Em (ns:=[.t (iv (j:Int))]) h rfl rfl (by show 1+1<=2;omega)
theorem Ix {i':Nat} (h:Aa H k0=some (rr t i')) (j:Nat):A8 1 H (.ptr k0 1) (.t (iv ((j:Int)+1)))=some (Xd H k0 (rr t (j+1))):=SV h (j+1)
theorem J9 (h:Aa H k0=some (rr t i)) (j:Nat):Aa (Xd H k0 (rr t j)) k0=some (rr t j):=by rw[A9,zy rfl,h];rfl
structure StR {α:Type} (l:List Tok) (t:T) (k0:Nat) (H:Ab) (nx:Nat) (Sh:T->Prop) (g:α->T) (o:Res α) (f:Fin):Prop where
 ex:∃y e i',f.r = .t (.tu [y,iv e])/\Aa f.H k0=some (rr t i')/\i'<=l.length/\Sh y/\((∃x,o = .ok (x,i')/\y=g x/\e=0)\/(o = .error e/\e≠0))
 k:Kr k0 H nx f.H f.nx
structure StE (l:List Tok) (t:T) (k0:Nat) (H:Ab) (nx:Nat) (o:Except Int Nat) (f:Fin):Prop where
 ex:∃e i',f.r = .t (iv e)/\Aa f.H k0=some (rr t i')/\i'<=l.length/\((o = .ok i'/\e=0)\/(o = .error e/\e≠0))
 k:Kr k0 H nx f.H f.nx
theorem Ec {α:Type} {fn:FuncId} {xs:List PV} {Sh:T->Prop} {g:α->T} {o:Res α} (h:∃f:Fin,StR l t k0 H nx Sh g o f/\AB Xa (G q) fn xs H nx f.r f.H f.nx) :
  ∃y e i' H' nx' tb,Aa H' k0=some (rr t i')/\i'<=l.length/\Sh y/\((∃x,o = .ok (x,i')/\y=g x/\e=0)\/(o = .error e/\e≠0))/\Kr k0 H nx H' nx'/\tb xs H nx=some (.t (.tu [y,iv e]),H',nx')/\HOK Xa (G q) fn tb:=by
 obtain⟨⟨fr,fH,fn'⟩,⟨⟨y,e,i',hr,ho,hi,hs,hd⟩,hk⟩,hc⟩:=h;simp only at hr ho hk hc;subst hr;obtain⟨tb,t1,t2⟩:=hAt hc hk.fr;exact⟨y,e,i',fH,fn',tb,ho,hi,hs,hd,hk,t1,t2⟩
theorem cS {fn:FuncId} {xs:List PV} {o:Except Int Nat} (h:∃f:Fin,StE l t k0 H nx o f/\AB Xa (G q) fn xs H nx f.r f.H f.nx) :
  ∃e i' H' nx' tb,Aa H' k0=some (rr t i')/\i'<=l.length/\((o = .ok i'/\e=0)\/(o = .error e/\e≠0))/\Kr k0 H nx H' nx'/\tb xs H nx=some (.t (iv e),H',nx')/\HOK Xa (G q) fn tb:=by
 obtain⟨⟨fr,fH,fn'⟩,⟨⟨e,i',hr,ho,hi,hd⟩,hk⟩,hc⟩:=h;simp only at hr ho hk hc;subst hr;obtain⟨tb,t1,t2⟩:=hAt hc hk.fr;exact⟨e,i',fH,fn',tb,ho,hi,hd,hk,t1,t2⟩
def ShS (y:T):Prop:=∃s,y=sv s
theorem cT (R:Ab) (b:Nat) (x y z:PV) (k v:Int) (s:ByteArray):A8 3 ((b,.cells J8 [x,y,z])::R) (.ptr b 0) (.t (.ag [iv k,sv s,iv v]))=some ((b,.cells J8 [.t (iv k),.t (sv s),.t (iv v)])::R):=by
 have hz:B7 (.t (.ag [iv k,sv s,iv v]))=some [.t (iv k),.t (sv s),.t (iv v)]:=rfl;simp[A8,hz,Xd,Bj]
theorem Qa {b:Nat} {k v:Int} {s:ByteArray} (h:Aa H b=some (.cells J8 [.t (iv k),.t (sv s),.t (iv v)])) :
  Ao false 1 H (.ptr b 0)=some (.t (iv k))/\Ao false 1 H (.ptr b 1)=some (.t (sv s))/\Ao false 1 H (.ptr b 2)=some (.t (iv v))/\Ao true 3 H (.ptr b 0)=some (.t (.ag [iv k,sv s,iv v])):=by
 simp only[Ao,h];exact⟨rfl,rfl,rfl,rfl⟩
theorem Ht (ht:IsS Ap t l) (hlim:l.length<=1000000) (h0:Aa H k0=some (rr t i)) (hk:k0<nx) (hi:i<=l.length) (k:Int) :
  ∃f:Fin,StR l t k0 H nx ShS sv (AE (l.map kt) i k) f/\AB Xa (G q) 22 [.ptr k0 0,.t (iv k)] H nx f.r f.H f.nx:=by
 have L:=Eb h0;have hlen:Bd (.t t)=some (.t (iv (l.length:Int))):=ht.len;refine pU.callX rfl ?_;(conv in WI=>cbv);refine Ai Af ?_;simp -implicitDefEqProofs
 cases hx:l[i]? with
 | none=>
  have hge:l.length<=i:=by simpa using hx
  have e1:AE (l.map kt) i k = .error 9:=by unfold AE;rw[E5,hx];rfl
  have d1:decide ((l.length:Int)<=(i:Int))=true:=zw (by omega);rw[e1];refine Ai Af ?_;simp -implicitDefEqProofs [L.l0,L.l1,hlen,d1,hge];exact A6 ⟨.t (.tu [sv ⟨#[]⟩,iv 9]),H,nx⟩ ⟨⟨_,_,i,rfl,h0,hi,⟨_,rfl⟩,.inr ⟨rfl,by decide⟩⟩,Kr.refl⟩ (by simp -implicitDefEqProofs)
 | some x=>
  have hlt:i<l.length:=(Xh.1 hx).1;have d1:decide ((l.length:Int)<=(i:Int))=false:=zx (by omega)
  have d2:¬l.length<=i:=by omega
  obtain⟨r,hr⟩:=EH ht hx;have st:=cT H nx (.t (iv 0)) (.t (sv ⟨#[]⟩)) (.t (iv 0)) x.k x.l (bs x.t)
  obtain⟨H1,hH1⟩:∃H1:Ab,H1=(nx,.cells J8 [.t (iv x.k),.t (sv (bs x.t)),.t (iv (x.l:Int))])::H:=⟨_,rfl⟩
  rw[<-hH1]at st
  have h1:Aa H1 k0=some (rr t i):=by rw[hH1,A1,zz (by omega)];exact h0
  have L1:=Eb h1
  have p1:Aa H1 nx=some (.cells J8 [.t (iv x.k),.t (sv (bs x.t)),.t (iv (x.l:Int))]):=by rw[hH1,A1,zy rfl]
  obtain⟨q0,q1,_,_⟩:=Qa p1
  have K1:Kr k0 H nx H1 (nx+1):=by rw[hH1];exact Kr.refl.cons (ClR.trees _ _ [_,_,_])
  refine Ai Af ?_;simp -implicitDefEqProofs [L.l0,L.l1,hlen,d1,d2];refine Ai Af ?_;simp -implicitDefEqProofs [L.l0,L.l1,hlen,d1,d2,hr,lp3,st];by_cases hkk:x.k=k
  .have e1:AE (l.map kt) i k = .ok (bs x.t,i+1):=by unfold AE;rw[E5,hx];simp[hkk]
   have hkn:(x.k != k)=false:=by simpa using hkk
   have e2:Xc.wrap ((i:Int)+1)=(i:Int)+1:=AH (n:=i+1) (by omega) (by omega);have s1:=Ix h1 i;have h2:=J9 h1 (i+1);have K2:=K1.upd (.inl rfl) (Hs (nx+1) t (i+1))
   have p2:Aa (Xd H1 k0 (rr t (i+1))) nx=some (.cells J8 [.t (iv x.k),.t (sv (bs x.t)),.t (iv (x.l:Int))]):=by rw[A9,zz (by omega)];exact p1
   obtain⟨_,q1',_,_⟩:=Qa p2
   obtain⟨H2,hH2⟩:∃H2,H2=Xd H1 k0 (rr t (i+1)):=⟨_,rfl⟩
   rw[<-hH2]at s1 h2 K2 q1';rw[e1];refine Ai Af ?_;simp -implicitDefEqProofs [q0,hkn];refine Ai Af ?_;simp -implicitDefEqProofs [L1.l1,e2,s1];refine A7 Af ?_;simp -implicitDefEqProofs [q1'];exact A6 ⟨.t (.tu [sv (bs x.t),iv 0]),H2,nx+1⟩ ⟨⟨_,_,i+1,rfl,h2,hlt,⟨_,rfl⟩,.inl ⟨_,rfl,rfl,rfl⟩⟩,K2⟩ (by simp -implicitDefEqProofs)
  .have e1:AE (l.map kt) i k = .error 8:=by unfold AE;rw[E5,hx];simp[hkk]
   have hkn:(x.k != k)=true:=by simpa using hkk
   rw[e1];refine Ai Af ?_;simp -implicitDefEqProofs [q0,hkn];exact A6 ⟨.t (.tu [sv ⟨#[]⟩,iv 8]),H1,nx+1⟩ ⟨⟨_,_,i,rfl,h1,hi,⟨_,rfl⟩,.inr ⟨rfl,by decide⟩⟩,K1⟩ (by simp -implicitDefEqProofs)
theorem A0p (ht:IsS Ap t l) (h0:Aa H k0=some (rr t i)) (s:ByteArray) :
  AB Xa (G q) 23 [.ptr k0 0,.t (sv s)] H nx (.t (bv (Au (l.map kt) i s.data.toList))) H nx:=by
 have L:=Eb h0;have hlen:Bd (.t t)=some (.t (iv (l.length:Int))):=ht.len
 suffices ∃f:Fin,f=⟨.t (bv (Au (l.map kt) i s.data.toList)),H,nx⟩/\AB Xa (G q) 23 [.ptr k0 0,.t (sv s)] H nx f.r f.H f.nx by
  obtain⟨f,rfl,hc⟩:=this;exact hc
 refine pV.callX rfl ?_;(conv in WJ=>cbv);refine Ai Af ?_;simp -implicitDefEqProofs;by_cases hi:l.length<=i
 .rw[ND hi]
  have hi1:¬((i:Int)<(l.length:Int)):=by omega
  have hi2:¬i<l.length:=by omega
  refine A7 Af ?_;simp -implicitDefEqProofs [L.l0,L.l1,BJ,hlen,hi1,hi2];exact A6 ⟨.t (bv false),H,nx⟩ rfl (by simp -implicitDefEqProofs)
 .obtain⟨x,hx⟩:∃x,l[i]?=some x:=⟨_,Xk (by omega)⟩
  rw[Pw hx];obtain⟨r,hr⟩:=EH ht hx
  have hi1:((i:Int)<(l.length:Int)):=by omega
  have hi2:i<l.length:=by omega
  have hts:(x.t==s.toList)=decide (x.t=s.data.toList):=by rw[Ft];exact Bool.eq_iff_iff.2 (by simp)
  by_cases h5:x.k=5
  .have hb:(x.k==5)=true:=by rw[h5];rfl
   have hd:decide (x.k=5)=true:=by rw[h5];rfl
   refine A7 Af ?_;simp -implicitDefEqProofs [L.l0,L.l1,BJ,hlen,hi1,hi2,hr,hb,hd,hts];exact A6 ⟨.t (bv (decide (x.t=s.data.toList))),H,nx⟩ rfl (by simp -implicitDefEqProofs)
  .have hb:(x.k==5)=false:=by simpa using h5
   have hd:decide (x.k=5)=false:=by simpa using h5
   refine A7 Af ?_;simp -implicitDefEqProofs [L.l0,L.l1,BJ,hlen,hi1,hi2,hr,hb,hd];exact A6 ⟨.t (bv false),H,nx⟩ rfl (by simp -implicitDefEqProofs)
theorem Iy (ht:IsS Ap t l) (h0:Aa H k0=some (rr t i)) (s:ByteArray):∃tb,tb [.ptr k0 0,.t (sv s)] H nx=some (.t (bv (Au (l.map kt) i s.data.toList)),H,nx)/\HOK Xa (G q) 23 tb:=by
 obtain⟨tb,t1,t2⟩:=hAt (A0p (q:=q) (nx:=nx) ht h0 s) (λh=>h);exact⟨tb,t1,t2⟩
theorem cU (ht:IsS Ap t l) (hlim:l.length<=1000000) (h0:Aa H k0=some (rr t i)) (hi:i<=l.length) (s:ByteArray) :
  ∃f:Fin,StE l t k0 H nx (Bk (l.map kt) i s.data.toList) f/\AB Xa (G q) 32 [.ptr k0 0,.t (sv s)] H nx f.r f.H f.nx:=by
 have L:=Eb h0;have hlen:Bd (.t t)=some (.t (iv (l.length:Int))):=ht.len;obtain⟨tn,n1,n2⟩:=Iy (q:=q) (nx:=nx) ht h0 s;have C:Ctx Xa (G q) _:=A5.nil.ctxH (B6.cons n2 .nil) mixed;refine pY.callX rfl ?_;(conv in WM=>cbv);refine Ai Af ?_;simp -implicitDefEqProofs;by_cases hge:l.length<=i
 .have e1:Bk (l.map kt) i s.data.toList = .error 9:=by unfold Bk;rw[zy (by simpa using hge)]
  have d1:decide ((l.length:Int)<=(i:Int))=true:=zw (by omega);rw[e1];refine Ai Af ?_;simp -implicitDefEqProofs [L.l0,L.l1,hlen,d1,hge];exact A6 ⟨.t (iv 9),H,nx⟩ ⟨⟨_,i,rfl,h0,hi,.inr ⟨rfl,by decide⟩⟩,Kr.refl⟩ (by simp -implicitDefEqProofs)
 .have d1:decide ((l.length:Int)<=(i:Int))=false:=zx (by omega)
  have hlt:¬(l.map kt).length<=i:=by simpa using hge
  refine Ai Af ?_;simp -implicitDefEqProofs [L.l0,L.l1,hlen,d1,hge]
  cases hs:Au (l.map kt) i s.data.toList with
  | true=>
   have e1:Bk (l.map kt) i s.data.toList = .ok (i+1):=by unfold Bk;rw[zz hlt,hs];rfl
   have e2:Xc.wrap ((i:Int)+1)=(i:Int)+1:=AH (n:=i+1) (by omega) (by omega);rw[hs]at n1;rw[e1];have s1:=Ix h0 i;have h2:=J9 h0 (i+1);have K2:=(Kr.refl (k0:=k0) (H:=H) (nx:=nx)).upd (.inl rfl) (Hs nx t (i+1))
   obtain⟨H2,hH2⟩:∃H2,H2=Xd H k0 (rr t (i+1)):=⟨_,rfl⟩
   rw[<-hH2]at s1 h2 K2;refine Ai C ?_;simp -implicitDefEqProofs [n1];refine Ai Af ?_;simp -implicitDefEqProofs [L.l1,e2,s1];refine A7 Af ?_;simp -implicitDefEqProofs;exact A6 ⟨.t (iv 0),H2,nx⟩ ⟨⟨_,i+1,rfl,h2,by omega,.inl ⟨rfl,rfl⟩⟩,K2⟩ (by simp -implicitDefEqProofs)
  | false=>
   have e1:Bk (l.map kt) i s.data.toList = .error 8:=by unfold Bk;rw[zz hlt,hs];rfl
   rw[hs]at n1;rw[e1];refine Ai C ?_;simp -implicitDefEqProofs [n1];exact A6 ⟨.t (iv 8),H,nx⟩ ⟨⟨_,i,rfl,h0,hi,.inr ⟨rfl,by decide⟩⟩,Kr.refl⟩ (by simp -implicitDefEqProofs)
end
abbrev KO:Nat:=9
def ShL (y:T):Prop:=∃out:List ByteArray,y=Am Aj out
structure PtC where
 H:Ab
 nx:Nat
 i:Nat
 b:Nat
 out:List ByteArray
 m:Nat
def SPt (k0:Nat) (c:PtC):Ac:=⟨[(4,rowP Aj c.b c.out),(0,.ptr k0 0)],c.H,c.nx,33⟩
structure PtI (l:List Tok) (t:T) (k0:Nat) (H:Ab) (nx:Nat) (Z:Res (List ByteArray)) (c:PtC):Prop where
 z:Z=Cb (l.map kt) (λp=>AE (l.map kt) p 2) [46] 64 c.m c.i c.out
 rd:Aa c.H k0=some (rr t c.i)
 i:c.i<=l.length
 m:l.length<c.i+c.m
 o:c.out.length<=c.i
 row:Ar Aj KO c.H c.b c.out
 b0:nx<=c.b
 b1:c.b<c.nx
 K:Kr k0 H nx c.H c.nx
section
variable {t : T} {k0 i nx : Nat} {H : Ab} {l : List Tok}
theorem SX {F:List Nat} (h:Aa H k0=some (rr t i)) (hF:k0∉F):Aa (B8 H F) k0=some (rr t i):=
 PF hF h λx hx=>by injection hx with hx;subst hx;exact uT [t,iv (i:Int)]
theorem A0q (ht:IsS Ap t l) (hlim:l.length<=1000000) (h0:Aa H k0=some (rr t i)) (hk:k0<nx) (hi:i<=l.length) (hC:Cl H nx) :
  ∃f:Fin,StR l t k0 H nx ShL (Am Aj) (En (l.map kt) i) f/\AB Xa (G q) 57 [.ptr k0 0] H nx f.r f.H f.nx:=by
 obtain⟨Z,hZ⟩:∃Z,Z=En (l.map kt) i:=⟨_,rfl⟩
 rw[<-hZ];refine qA.callX rfl ?_;(conv in WR=>cbv);refine Ai Af ?_;simp -implicitDefEqProofs;refine Ai Af ?_;simp -implicitDefEqProofs;refine B9 (s':=⟨[(4,.t Ad),(0,.ptr k0 0)],H,nx+1,33⟩) ((Jq (nx':=nx+1) (Xg _)).trans (sub_env (by simp -implicitDefEqProofs))) rfl ?_;refine CQ ?_
 refine FN (SPt k0) (λc=>c.m) (λc=>PtI l t k0 H nx Z c) ⟨H,nx+1,i,nx,[],l.length+1⟩ (λ_=>rfl)
  ⟨by rw[hZ];unfold En;rw[Xb],h0,hi,by show l.length<i+(l.length+1);omega,Xx _,.inl rfl,Xf _,Xq _,Kr.refl.mono (Xg _)⟩ ?_ rfl ?_
 .exact sub_env (by simp -implicitDefEqProofs [SPt,rowP])
 rintro⟨Hc,nc,j,b,out,m⟩ ⟨hz,rd,hj,hm,ho,row,b0,b1,K⟩;simp only at hz rd hj hm ho row b0 b1 K
 obtain⟨m,rfl⟩:∃m',m=m'+1:=⟨m-1,by omega⟩
 have n0:=K.n;obtain⟨y,e,j1,H1,n1,ta,rd1,hj1,⟨s,rfl⟩,hd,K1,a1,a2⟩:=Ec (Ht (q:=q) ht hlim rd (nx:=nc) (by omega) hj 2);have CA:Ctx Xa (G q) _:=A5.nil.ctxH (B6.cons a2 .nil) mixed;have n1':=K1.n;refine CQ ?_;refine Ai CA ?_;simp -implicitDefEqProofs [SPt,a1];rcases hd with⟨x,hx,hxy,rfl⟩ | ⟨hx,he⟩
 rotate_left
 .have hb:(e != 0)=true:=by rw[bne_iff_ne];exact he
  rw[Cb,hx]at hz;refine Ai Af ?_;simp -implicitDefEqProofs [hb];exact A6 ⟨.t (.tu [Ad,iv e]),H1,n1⟩ ⟨⟨_,e,j1,rfl,rd1,hj1,⟨[],rfl⟩,.inr ⟨hz,he⟩⟩,K.trans K1⟩ (by simp -implicitDefEqProofs)
 injection hxy with hxy;injection hxy with hxy;subst hxy;obtain⟨hj2,hj3⟩:=D1 hx;rw[Cb,hx]at hz;simp only at hz
 have row1:Ar Aj KO H1 b out:=row.imp id λh=>by rw[K1.k b b1 (by omega)];exact h
 obtain⟨H2,ap,row2,k2,f2,c2⟩:=PH (by':=16) (nx:=n1) s 1 rfl [.t (sv s)] rfl row1 (by omega) (by omega) (by omega);have K2:=(K.trans K1).app (H'':=H2) (nx'':=n1+2) b0 k2 (by omega) f2 c2
 have rd2:Aa H2 k0=some (rr t j1):=by rw[k2 k0 (by omega) (by omega)];exact rd1
 obtain⟨out',hout'⟩:∃out',out'=out++[s]:=⟨_,rfl⟩
 have ol:out'.length=out.length+1:=by rw[hout',Xm];rfl
 rw[<-hout']at ap row2 hz;obtain⟨tn,t1,t2⟩:=Iy (q:=q) (nx:=n1+2) ht rd2 ⟨#[46]⟩;have CN:Ctx Xa (G q) _:=A5.nil.ctxH (B6.cons t2 .nil) mixed;refine Ai Af ?_;simp -implicitDefEqProofs;refine Ai Af ?_;simp -implicitDefEqProofs [bsS,ap]
 cases hs:Au (l.map kt) j1 [46]with
 | false=>
  rw[hs,zz (by decide)]at hz;rw[show(⟨#[46]⟩:ByteArray).data.toList=[46]from rfl,hs]at t1;refine B9 (s':=⟨[(4,.t (Am Aj out')),(0,.ptr k0 0)],B8 H2 [n1+1],n1+2,33⟩) (EG [n1+1] (by simp -implicitDefEqProofs [Il,Hh row2 (Xp.2 rfl)])) rfl ?_;have K3:=K2.frz hC (F:=[n1+1]) (by intro b hb;rw[Xp]at hb;omega);have rd3:=SX (F:=[n1+1]) rd2 (by simp;omega)
  obtain⟨H3,hH3⟩:∃H3,H3=B8 H2 [n1+1]:=⟨_,rfl⟩
  rw[<-hH3]at K3 rd3 ⊢;obtain⟨tn,t1,t2⟩:=Iy (q:=q) (nx:=n1+2) ht rd3 ⟨#[46]⟩;rw[show(⟨#[46]⟩:ByteArray).data.toList=[46]from rfl,hs]at t1;have CN:Ctx Xa (G q) _:=A5.nil.ctxH (B6.cons t2 .nil) mixed;refine Ai CN ?_;simp -implicitDefEqProofs [t1];exact A6 ⟨.t (.tu [Am Aj out',iv 0]),H3,n1+2⟩ ⟨⟨_,0,j1,rfl,rd3,hj1,⟨out',rfl⟩,.inl ⟨out',hz,rfl,rfl⟩⟩,K3⟩ (by simp -implicitDefEqProofs)
 | true=>
  rw[hs,zy rfl]at hz;rw[show(⟨#[46]⟩:ByteArray).data.toList=[46]from rfl,hs]at t1;have lj:=Bo hs;rw[Xb]at lj;refine Ai CN ?_;simp -implicitDefEqProofs [t1];have hlen:Bd (rowP Aj (n1+1) out')=some (.t (iv (out'.length:Int))):=ED _ _ _;by_cases h64:64<=out.length+1
  .rw[zy h64]at hz
   have d1:(64:Int)<=(out'.length:Int):=by omega
   have d2:64<=out'.length:=by omega
   refine Ai Af ?_;simp -implicitDefEqProofs [hlen,d1,d2];exact A6 ⟨.t (.tu [Ad,iv 7]),H2,n1+2⟩ ⟨⟨_,7,j1,rfl,rd2,hj1,⟨[],rfl⟩,.inr ⟨hz,by decide⟩⟩,K2⟩ (by simp -implicitDefEqProofs)
  .rw[zz h64]at hz
   have d1:¬(64:Int)<=(out'.length:Int):=by omega
   have d2:¬64<=out'.length:=by omega
   have L2:=Eb rd2;have s3:=Ix rd2 j1;have rd3:=J9 rd2 (j1+1);have K3:=K2.upd (.inl rfl) (Hs (n1+2) t (j1+1))
   have row3:Ar Aj KO (Xd H2 k0 (rr t (j1+1))) (n1+1) out':=row2.imp id λh=>by rw[A9,zz (by omega)];exact h
   have e2:Xc.wrap ((j1:Int)+1)=(j1:Int)+1:=AH (n:=j1+1) (by omega) (by omega)
   obtain⟨H3,hH3⟩:∃H3,H3=Xd H2 k0 (rr t (j1+1)):=⟨_,rfl⟩
   rw[<-hH3]at s3 rd3 K3 row3;refine Ai Af ?_;simp -implicitDefEqProofs [hlen,d1,d2];refine A7 Af ?_;simp -implicitDefEqProofs [L2.l1,e2,s3];exact Aq.mk ⟨H3,n1+2,j1+1,n1+1,out',m⟩ ⟨⟨hz,rd3,lj,by show l.length<j1+1+m;omega,by show out'.length<=j1+1;omega,row3,by show nx<=n1+1;omega,by show n1+1<n1+2;omega,K3⟩,Xq m⟩ (sub_env (by simp -implicitDefEqProofs [SPt]))
end
structure Qb (q:Gl) {α:Type} (l:List Tok) (t:T) (k0 f1:Nat) (caps:List PV) (step:Nat->Res α) (Inv:Nat->List α->Ab->Nat->Prop):Prop where
 rd:∀{i out H nx},Inv i out H nx->Aa H k0=some (rr t i)/\i<=l.length
 st:∀{i out H nx},Inv i out H nx->i+1<=l.length->Inv (i+1) out (Xd H k0 (rr t (i+1))) nx
 fw:∀{i x i'},step i = .ok (x,i')->i<i'
 one:∀{i out H nx},Inv i out H nx->out.length<=i->∃f:Fin,(∃n e i' out',f.r = .t (.tu [iv n,iv e])/\Inv i' out' f.H f.nx/\((∃x,step i = .ok (x,i')/\out'=out++[x]/\n=(out'.length:Int)/\e=0)\/(step i = .error e/\e≠0)))/\(Frs H nx->Frs f.H f.nx) /\
  AB Xa (G q) f1 caps H nx f.r f.H f.nx
structure LiP {α:Type} (Inv:Nat->List α->Ab->Nat->Prop) (Z:Res (List α)) (H:Ab) (nx:Nat) (f:Fin):Prop where
 ex:∃e i' out',f.r = .t (iv e)/\Inv i' out' f.H f.nx/\((Z = .ok (out',i')/\e=0)\/(Z = .error e/\e≠0))
 fr:Frs H nx->Frs f.H f.nx
structure LiC (α:Type) where
 H:Ab
 nx:Nat
 i:Nat
 out:List α
 m:Nat
def SLi {α:Type} (k0 f1:Nat) (caps:List PV) (s:ByteArray) (c:LiC α):Ac:=⟨[(2,.t (sv s)),(1,.fn (.func f1) [] caps),(0,.ptr k0 0)],c.H,c.nx,30⟩
section
variable {t : T} {k0 i nx f1 : Nat} {H : Ab} {l : List Tok} {α : Type} {caps : List PV} {step : Nat -> Res α} {Inv : Nat -> List α -> Ab -> Nat -> Prop}
theorem SY (O:Qb q l t k0 f1 caps step Inv) (ht:IsS Ap t l) (hlim:l.length<=1000000) (hI:Inv i [] H nx) (s:ByteArray) :
  ∃f:Fin,(∃e i' out',f.r = .t (iv e)/\Inv i' out' f.H f.nx/\((Cb (l.map kt) step s.data.toList 256 ((l.map kt).length+1) i [] = .ok (out',i')/\e=0)\/(Cb (l.map kt) step s.data.toList 256 ((l.map kt).length+1) i [] = .error e/\e≠0)))/\(Frs H nx->Frs f.H f.nx) /\
   AB Xa (G q) 95 [.ptr k0 0,.fn (.func f1) [] caps,.t (sv s)] H nx f.r f.H f.nx:=by
 obtain⟨S,hS⟩:∃S,S=s.data.toList:=⟨_,rfl⟩
 rw[<-hS]
 obtain⟨Z,hZ⟩:∃Z,Z=Cb (l.map kt) step S 256 ((l.map kt).length+1) i []:=⟨_,rfl⟩
 rw[<-hZ]
 suffices h:∃f:Fin,LiP Inv Z H nx f/\AB Xa (G q) 95 [.ptr k0 0,.fn (.func f1) [] caps,.t (sv s)] H nx f.r f.H f.nx by
  obtain⟨f,⟨h1,h2⟩,h3⟩:=h;exact⟨f,h1,h2,h3⟩
 refine qQ.callX rfl ?_;(conv in XH=>cbv);refine Ai Af ?_;simp -implicitDefEqProofs;refine CQ ?_
 refine FN (SLi k0 f1 caps s) (λc=>c.m) (λc=>Z=Cb (l.map kt) step S 256 c.m c.i c.out/\l.length<c.i+c.m/\c.out.length<=c.i/\Inv c.i c.out c.H c.nx/\(Frs H nx->Frs c.H c.nx)) ⟨H,nx,i,[],(l.map kt).length+1⟩ (λ_=>rfl)
  ⟨hZ,by show l.length<i+((l.map kt).length+1);rw[Xb];omega,Xx _,hI,λh=>h⟩ ?_ rfl ?_
 .exact sub_env (by simp -implicitDefEqProofs [SLi])
 rintro⟨Hc,nc,j,out,m⟩ ⟨hz,hm,ho,hIn,hF⟩;simp only at hz hm ho hIn hF;obtain⟨rd,hj⟩:=O.rd hIn
 obtain⟨m,rfl⟩:∃m',m=m'+1:=⟨m-1,by omega⟩
 obtain⟨⟨fr,H1,n1⟩,⟨n,e,j1,out',hr,hI1,hd⟩,hf1,hc⟩:=O.one hIn ho;simp only at hr hI1 hf1 hc;subst hr;obtain⟨ta,a1,a2⟩:=hAt hc hf1;obtain⟨rd1,hj1⟩:=O.rd hI1;have CA:Ctx Xa (G q) _:=A5.nil.ctxH (B6.cons a2 .nil) mixed;refine CQ ?_;refine Ai CA ?_;simp -implicitDefEqProofs [SLi,a1];rcases hd with⟨x,hx,hout',hn,rfl⟩ | ⟨hx,he⟩
 rotate_left
 .have hb:(e != 0)=true:=by rw[bne_iff_ne];exact he
  rw[Cb,hx]at hz;refine Ai Af ?_;simp -implicitDefEqProofs [hb];exact A6 ⟨.t (iv e),H1,n1⟩ ⟨⟨e,j1,out',rfl,hI1,.inr ⟨hz,he⟩⟩,λh=>hf1 (hF h)⟩ (by simp -implicitDefEqProofs)
 have hfw:=O.fw hx
 have ol:out'.length=out.length+1:=by rw[hout',Xm];rfl
 rw[Cb,hx]at hz;simp only at hz;rw[<-hout']at hz;obtain⟨tn,t1,t2⟩:=Iy (q:=q) (nx:=n1) ht rd1 s;rw[<-hS]at t1;have CN:Ctx Xa (G q) _:=A5.nil.ctxH (B6.cons t2 .nil) mixed;refine Ai Af ?_;simp -implicitDefEqProofs
 cases hs:Au (l.map kt) j1 S with
 | false=>
  rw[hs,zz (by decide)]at hz;rw[hs]at t1;refine Ai CN ?_;simp -implicitDefEqProofs [t1];exact A6 ⟨.t (iv 0),H1,n1⟩ ⟨⟨0,j1,out',rfl,hI1,.inl ⟨hz,rfl⟩⟩,λh=>hf1 (hF h)⟩ (by simp -implicitDefEqProofs)
 | true=>
  rw[hs,zy rfl]at hz;rw[hs]at t1;have lj:=Bo hs;rw[Xb]at lj;refine Ai CN ?_;simp -implicitDefEqProofs [t1];by_cases h256:256<=out.length+1
  .rw[zy h256]at hz
   have d1:(256:Int)<=n:=by omega
   refine Ai Af ?_;simp -implicitDefEqProofs [d1];exact A6 ⟨.t (iv 7),H1,n1⟩ ⟨⟨7,j1,out',rfl,hI1,.inr ⟨hz,by decide⟩⟩,λh=>hf1 (hF h)⟩ (by simp -implicitDefEqProofs)
  .rw[zz h256]at hz
   have d1:¬(256:Int)<=n:=by omega
   have L1:=Eb rd1;have s3:=Ix rd1 j1;have hI3:=O.st hI1 lj;have e2:Xc.wrap ((j1:Int)+1)=(j1:Int)+1:=AH (n:=j1+1) (by omega) (by omega);have f3:Frs H nx->Frs (Xd H1 k0 (rr t (j1+1))) n1:=λh=>(hf1 (hF h)).upd
   obtain⟨H3,hH3⟩:∃H3,H3=Xd H1 k0 (rr t (j1+1)):=⟨_,rfl⟩
   rw[<-hH3]at s3 hI3 f3;refine Ai Af ?_;simp -implicitDefEqProofs [d1];refine A7 Af ?_;simp -implicitDefEqProofs [L1.l1,e2,s3];exact Aq.mk ⟨H3,n1,j1+1,out',m⟩ ⟨⟨hz,by show l.length<j1+1+m;omega,by show out'.length<=j1+1;omega,hI3,f3⟩,Xq m⟩ (sub_env (by simp -implicitDefEqProofs [SLi]))
end
end Go.Proofs.YtobnacghaamfoaaGreatDoor
namespace Go.Abs
open Go
theorem SZ {α:Type} (cs:List α) (o:Nat) (a:α) (h:o<cs.length):(Bj cs o [a])[o]?=some a:=List.getElem?_set_self h
theorem cV {α:Type} (cs ps:List α) (o:Nat) (h:o+ps.length<=cs.length):(Bj cs o ps).length=cs.length:=Ln h
theorem cW {α:Type} (cs:List α) (o:Nat) (a b:α):Bj (Bj cs o [a]) o [b]=Bj cs o [b]:=List.set_set a
theorem Qc {α β:Type} (f:α->β) (cs ps:List α) (o:Nat):Bj (cs.map f) o (ps.map f)=(Bj cs o ps).map f:=by
 match ps with
 | []=>simp[Bj]
 | [p]=>exact List.map_set.symm
 | a::b::r=>simp[Bj]
theorem A0r {α:Type} (cs:List α) (o:Nat) (a:α) (h:cs[o]?=some a):Bj cs o [a]=cs:=by
 obtain⟨h1,h2⟩:=Xh.1 h;show cs.set o a=cs;subst h2;exact List.set_getElem_self h1
theorem KP {α:Type} (zs ds:List α) (h:zs.length=ds.length):Bj zs 0 ds=ds:=by
 match ds,zs with
 | [],[]=>rfl
 | [p],[z]=>rfl
 | a::b::r,zs=>
  simp only[Bj,List.take_zero,X1,Xo];rw[List.drop_of_length_le (by omega),Xu]
end Go.Abs
namespace Go.Proofs.YtobnacghaamfoaaGreatDoor
open Go Go.Abs
variable {q : Gl}
def OwX (X:List (Nat×Row)) (kd nx0:Nat) (H:Ab) (nx:Nat):Prop:=∀p∈X,Aa H p.1=some p.2/\nx0<=p.1/\p.1<nx/\p.1≠kd/\ClR 0 p.2
structure LsI {α:Type} (e:Enc α) (ty:Nat) (l:List Tok) (t:T) (k0 kd o tyD:Nat) (cs:List T) (X:List (Nat×Row)) (H0:Ab) (nx0:Nat) (i:Nat) (out:List α) (H:Ab) (nx:Nat):Prop where
 rd:Aa H k0=some (rr t i)
 i:i<=l.length
 x:OwX X kd nx0 H nx
 d:∃kv,Aa H kd=some (.cells tyD (Bj (cs.map .t) o [rowP e kv out]))/\Ar e ty H kv out/\nx0<=kv/\kv<nx/\kv≠kd/\∀p∈X,p.1≠kv
 K:Kr k0 H0 nx0 H nx
 k0:k0<nx0
 kd:nx0<=kd/\kd<nx
structure DrI (l:List Tok) (t:T) (k0 kd tyD:Nat) (cs:List T) (X:List (Nat×Row)) (H0:Ab) (nx0:Nat) (i:Nat) (H:Ab) (nx:Nat):Prop where
 rd:Aa H k0=some (rr t i)
 i:i<=l.length
 x:OwX X kd nx0 H nx
 d:Aa H kd=some (.cells tyD (cs.map .t))
 K:Kr k0 H0 nx0 H nx
 k0:k0<nx0
 kd:nx0<=kd/\kd<nx
section
variable {α : Type} {e : Enc α} {ty : Nat} {l : List Tok} {t : T} {k0 kd o tyD : Nat} {cs : List T} {X : List (Nat × Row)} {H0 H H' : Ab} {nx0 nx nx' i j : Nat} {out : List α}
theorem OwX.kr (h:OwX X kd nx0 H nx) (K:Kr k0 H nx H' nx') (hk:k0<nx0):OwX X kd nx0 H' nx':=λp hp=>by
 obtain⟨h1,h2,h3,h4,h5⟩:=h p hp;exact⟨by rw[K.k p.1 h3 (by omega)];exact h1,h2,by have:=K.n;omega,h4,h5⟩
theorem OwX.upd (h:OwX X kd nx0 H nx) {b:Nat} (hb:b<nx0\/b=kd) (r:Row):OwX X kd nx0 (Xd H b r) nx:=λp hp=>by
 obtain⟨h1,h2,h3,h4,h5⟩:=h p hp;exact⟨by rw[A9,zz (by omega)];exact h1,h2,h3,h4,h5⟩
theorem OwX.frz (h:OwX X kd nx0 H nx) {F:List Nat} (hF:∀p∈X,p.1∉F):OwX X kd nx0 (B8 H F) nx:=λp hp=>by
 obtain⟨h1,h2,h3,h4,h5⟩:=h p hp;exact⟨PF (hF p hp) h1 λx hx=>by injection hx with hx;subst hx;exact h5 H F λ_ _=>Xx _,h2,h3,h4,h5⟩
theorem OwX.mono (h:OwX X kd nx0 H nx) (hn:nx<=nx'):OwX X kd nx0 H nx':=λp hp=>by
 obtain⟨h1,h2,h3,h4,h5⟩:=h p hp;exact⟨h1,h2,by omega,h4,h5⟩
theorem LsI.kr (I:LsI e ty l t k0 kd o tyD cs X H0 nx0 i out H nx) (K:Kr k0 H nx H' nx') (hr:Aa H' k0=some (rr t j)) (hj:j<=l.length):LsI e ty l t k0 kd o tyD cs X H0 nx0 j out H' nx':=by
 obtain⟨kv,d1,d2,d3,d4,d5,d6⟩:=I.d;have hk:=I.k0;have hd:=I.kd;have hn:=K.n;exact⟨hr,hj,I.x.kr K hk,⟨kv,by rw[K.k kd hd.2 (by omega)];exact d1,d2.imp id λh=>by rw[K.k kv d4 (by omega)];exact h,d3,by omega,d5,d6⟩,I.K.trans K,hk,hd.1,by omega⟩
theorem LsI.st (I:LsI e ty l t k0 kd o tyD cs X H0 nx0 i out H nx) (hj:j<=l.length):LsI e ty l t k0 kd o tyD cs X H0 nx0 j out (Xd H k0 (rr t j)) nx:=
 I.kr (Kr.refl.upd (.inl rfl) (Hs nx t j)) (J9 I.rd j) hj
theorem DrI.kr (I:DrI l t k0 kd tyD cs X H0 nx0 i H nx) (K:Kr k0 H nx H' nx') (hr:Aa H' k0=some (rr t j)) (hj:j<=l.length):DrI l t k0 kd tyD cs X H0 nx0 j H' nx':=by
 have hk:=I.k0;have hd:=I.kd;have hn:=K.n;exact⟨hr,hj,I.x.kr K hk,by rw[K.k kd hd.2 (by omega)];exact I.d,I.K.trans K,hk,hd.1,by omega⟩
theorem DrI.st (I:DrI l t k0 kd tyD cs X H0 nx0 i H nx) (hj:j<=l.length):DrI l t k0 kd tyD cs X H0 nx0 j (Xd H k0 (rr t j)) nx:=
 I.kr (Kr.refl.upd (.inl rfl) (Hs nx t j)) (J9 I.rd j) hj
theorem DrI.ls (I:DrI l t k0 kd tyD cs X H0 nx0 i H nx) (e:Enc α) (ty:Nat) (ho:cs[o]?=some Ad):LsI e ty l t k0 kd o tyD cs X H0 nx0 i [] H (nx+1):=by
 have hd:=I.kd;have hn:=I.K.n;refine⟨I.rd,I.i,I.x.mono (Xg _),⟨nx,?_,.inl rfl,hn,Xq _,by omega,λp hp=>by have:=(I.x p hp).2.2.1;omega⟩,I.K.mono (Xg _),I.k0,hd.1,by omega⟩;rw[I.d];show _=some (Row.cells tyD (Bj (cs.map .t) o [.t Ad]));rw[A0r];rw[List.getElem?_map,ho];rfl
theorem LsI.dr (I:LsI e ty l t k0 kd o tyD cs X H0 nx0 i out H nx) (hC:Cl H0 nx0) (ho:o<cs.length):∃kv,DrI l t k0 kd tyD (Bj cs o [Am e out]) X H0 nx0 i (B8 H [kv]) nx:=by
 obtain⟨kv,d1,d2,d3,d4,d5,d6⟩:=I.d;have hk:=I.k0;refine⟨kv,SX I.rd (by simp;omega),I.i,I.x.frz (λp hp=>by simpa using d6 p hp),?_,I.K.frz hC (by intro b hb;rw[Xp]at hb;omega),hk,I.kd⟩;rw[LU (by simpa using d5.symm) d1]
 have hcs:∀l:List T,(l.map PV.t).map (B5 H [kv])=l.map PV.t:=λl=>by
  rw[List.map_map];rfl
 show some (Row.cells tyD ((Bj (cs.map .t) o [rowP e kv out]).map (B5 H [kv])))=_;rw[<-Qc,List.map_singleton,Hh d2 (Xp.2 rfl),hcs];rw[show [PV.t (Am e out)]=[Am e out].map PV.t from rfl,Qc]
theorem DrI.ld (I:DrI l t k0 kd tyD cs X H0 nx0 i H nx) {n:Nat} (hn:n=cs.length):Ao true n H (.ptr kd 0)=some (.t (.ag cs)):=by
 subst hn;simp only[Ao,I.d,if_true,Xb,Xo,Xf,Xl];rw[Xz (by rw[Xb];exact Xf _)];simp only[AN,Ke]
theorem DrI.set (I:DrI l t k0 kd tyD cs X H0 nx0 i H nx) {n o:Nat} (ds:List T) (hn:ds.length=n) (ho:o+n<=cs.length):A8 n H (.ptr kd o) (.t (.ag ds))=some (Xd H kd (.cells tyD ((Bj cs o ds).map .t)))/\DrI l t k0 kd tyD (Bj cs o ds) X H0 nx0 i (Xd H kd (.cells tyD ((Bj cs o ds).map .t))) nx:=by
 have hk:=I.k0;have hd:=I.kd;constructor
 .rw[<-Qc];exact Em (ns:=ds.map .t) I.d rfl (by rw[Xb];exact hn) (by rw[Xb];exact ho)
 .exact⟨by rw[A9,zz (by omega)];exact I.rd,I.i,I.x.upd (.inr rfl) _,by rw[A9,zy rfl,I.d];rfl,I.K.upd (.inr hd.1) (ClR.trees _ _ _),hk,hd⟩
theorem LsI.push (I:LsI e ty l t k0 kd o tyD cs X H0 nx0 i out H nx) (x:α) {z by':Nat} (hz:e.z=z) {xs:List PV} (hxs:xs=(e.enc x).map .t) (ho:o<cs.length) (hl:out.length<=1000000) (hb:by'<=1000) :
  ∃p p' H1 H2,Ao false 1 H (.ptr kd o)=some p/\B1 ty z by' ((nx,.cells ty xs)::H) (nx+1) p (.row nx 0 1 z)=some (p',H1,nx+2)/\A8 1 H1 (.ptr kd o) p'=some H2/\Ao false 1 H2 (.ptr kd o)=some p'/\Bd p'=some (.t (iv ((out++[x]).length:Int))) /\
   LsI e ty l t k0 kd o tyD cs X H0 nx0 i (out++[x]) H2 (nx+2)/\(Frs H nx->Frs H2 (nx+2)):=by
 obtain⟨kv,d1,d2,d3,d4,d5,d6⟩:=I.d;have hk:=I.k0;have hd:=I.kd;have hn0:=I.K.n
 have hlen:o<(cs.map PV.t).length:=by rw[Xb];exact ho
 have ld:∀(Ha:Ab) (p:PV),Aa Ha kd=some (.cells tyD (Bj (cs.map .t) o [p]))->Ao false 1 Ha (.ptr kd o)=some p:=λHa p h=>by
  simp only[Ao,h,Xe,if_false];exact SZ _ _ _ hlen
 have hb2:(out.length+1)*by'<=140737488355328:=Ym (Yn (Yo hl) hb) (by decide)
 obtain⟨H1,ap,row1,k1,f1,c1⟩:=PH (by':=by') (nx:=nx) x z hz xs hxs d2 d4 hb2 (by omega)
 have dd:Aa H1 kd=some (.cells tyD (Bj (cs.map .t) o [rowP e kv out])):=by rw[k1 kd hd.2 d5.symm];exact d1
 have cp:B7 (rowP e (nx+1) (out++[x]))=some [rowP e (nx+1) (out++[x])]:=by cases out<;>rfl
 have s2:=Em (n:=1) (o:=o) dd cp rfl (by rw[cV _ _ _ (show o+1<=_ from hlen)];exact hlen);rw[cW]at s2
 obtain⟨H2,hH2⟩:∃H2,H2=Xd H1 kd (.cells tyD (Bj (cs.map .t) o [rowP e (nx+1) (out++[x])])):=⟨_,rfl⟩
 rw[<-hH2]at s2
 have dd2:Aa H2 kd=some (.cells tyD (Bj (cs.map .t) o [rowP e (nx+1) (out++[x])])):=by rw[hH2,A9,zy rfl,dd];rfl
 have K1:=I.K.app d3 k1 (Y5 _ 2) f1 c1
 have K2:Kr k0 H0 nx0 H2 (nx+2):=by
  rw[hH2];refine K1.upd (.inr hd.1) (ClR.cells λp hp=>?_);rcases Ze hp with hp | rfl
  .obtain⟨y,_,rfl⟩:=List.mem_map.1 hp;exact ClP.t _ _
  .exact ClP.rowP λ_=>by omega
 refine⟨_,_,H1,H2,ld H _ d1,ap,s2,ld H2 _ dd2,ED _ _ _,⟨?_,I.i,λp hp=>?_,⟨nx+1,dd2,row1.imp id λh=>by rw[hH2,A9,zz (by omega)];exact h,by omega,by omega,by omega,λp hp=>by have:=(I.x p hp).2.2.1;omega⟩,K2,hk,hd.1,by omega⟩,λh=>by rw[hH2];exact(f1 h).upd⟩
 .rw[hH2,A9,zz (by omega),k1 k0 (by omega) (by omega)];exact I.rd
 .obtain⟨h1,h2,h3,h4,h5⟩:=I.x p hp;exact⟨by rw[hH2,A9,zz h4,k1 p.1 h3 (d6 p hp)];exact h1,h2,by omega,h4,h5⟩
theorem DrI.fin (I:DrI l t k0 kd tyD cs X H0 nx0 i H nx) {ka tyA n:Nat} {zs ds:List T} (hX:(ka,Row.cells tyA (zs.map .t))∈X) (hz:zs.length=n) (hd:ds.length=n) :
  ∃H',A8 n H (.ptr ka 0) (.t (.ag ds))=some H'/\Ao true n H' (.ptr ka 0)=some (.t (.ag ds))/\Kr k0 H0 nx0 H' nx/\Aa H' k0=some (rr t i):=by
 obtain⟨h1,h2,h3,h4,h5⟩:=I.x _ hX;simp only at h1 h2 h3 h4;have hk:=I.k0;have s1:=Em (n:=n) (b:=ka) (o:=0) (t:=.t (.ag ds)) (ns:=ds.map .t) h1 rfl (by rw[Xb];exact hd) (by rw[Xb];omega);rw[KP _ _ (by rw[Xb,Xb];omega)]at s1;refine⟨_,s1,?_,I.K.upd (.inr h2) (ClR.trees _ _ _),by rw[A9,zz (by omega)];exact I.rd⟩
 have hl:Aa (Xd H ka (.cells tyA (ds.map .t))) ka=some (.cells tyA (ds.map .t)):=by rw[A9,zy rfl,h1];rfl
 simp only[Ao,hl,if_true,Xb,Xo,Xl];rw[zy (by omega),Xz (by rw[Xb];omega)];simp only[AN,Ke]
end
end Go.Proofs.YtobnacghaamfoaaGreatDoor
namespace Go.Abs
open Go
section
variable {α : Type} {e : Enc α} {ty b : Nat} {H : Ab} {l : List α}
theorem cX {nx c:Nat} {m:List α} (hc:c≠nx) (hb:l≠[]->c≠b):Aa (Abs.appH e ty H nx b l m) c=Aa H c:=by
 unfold Abs.appH;split
 .rfl
 .rw[A1,zz (Ne.symm hc)];split
  .rfl
  .rename_i h;rw[Cr,zz (hb (by intro e;rw[e]at h;exact h rfl))]
theorem Qd {by' nx:Nat} (x:α) (z:Nat) (hz:e.z=z) (cs:List PV) (hcs:cs=(e.enc x).map .t) (h:Ar e ty H b l) (hb:l≠[]->b<nx)
  (hl:(l.length+1)*by'<=140737488355328) (hl2:l.length<=1000000000000) :
  ∃H',B1 ty z by' ((nx,.cells ty cs)::H) (nx+1) (X7 e b l) (.row nx 0 1 z)=some (X7 e (nx+1) (l++[x]),H',nx+2)/\Ar e ty H' (nx+1) (l++[x]) /\
   (∀c,c<nx->(l≠[]->c≠b)->Aa H' c=Aa H c)/\(Frs H nx->Frs H' (nx+2))/\(Cl H nx->Cl H' (nx+2)):=by
 subst hz;subst hcs;have hs:=Gc (e:=e) (H:=(nx,.cells ty ((e.enc x).map .t))::H) (b:=nx) (ty:=ty) x (by rw[A1,zy rfl])
 have h':Ar e ty ((nx,.cells ty ((e.enc x).map .t))::H) b l:=by
  rcases h with h | h
  .exact .inl h
  .by_cases hn:l=[]
   .exact .inl hn
   .exact .inr (by rw[A1,zz (by have:=hb hn;omega)];exact h)
 have ap:=Nj (nx:=nx+1) (by':=by') (m:=[x]) h' hs (by simpa using hl) (by simp;omega)
 have hn:Ej (nx+1) l [x]=nx+2:=by unfold Ej;simp
 rw[hn]at ap
 exact⟨_,ap,Ar.app,λc h1 h2=>by rw[cX (by omega) h2,A1,zz (by omega)],λh=>(h.cons (Xq _) (Xg _)).appH,
  λh=>(h.cons (ClR.trees _ ty _) (Xg _)).appH⟩
theorem cY {by' nx:Nat} (x:α) (z:Nat) (hz:e.z=z) (cs:List T) (hcs:cs=e.enc x) (h:Ar e ty H b l) (hb:l≠[]->b<nx)
  (hl:(l.length+1)*by'<=140737488355328) (hl2:l.length<=1000000000000) :
  ∃H',B1 ty z by' H nx (X7 e b l) (.t (.sl 1 cs))=some (X7 e nx (l++[x]),H',nx+1)/\Ar e ty H' nx (l++[x])/\(∀c,c<nx->(l≠[]->c≠b)->Aa H' c=Aa H c)/\(Frs H nx->Frs H' (nx+1))/\(Cl H nx->Cl H' (nx+1)):=by
 subst hz;subst hcs
 have hs:DB H e.z (.t (.sl 1 (e.enc x)))=some ([x].length,([x].flatMap e.enc).map .t):=by
  have:T.sl 1 (e.enc x)=slT e [x]:=by simp[slT]
  rw[this];exact OV (.inr rfl)
 have ap:=Nj (nx:=nx) (by':=by') (m:=[x]) h hs (by simpa using hl) (by simp;omega)
 have hn:Ej nx l [x]=nx+1:=by unfold Ej;simp
 rw[hn]at ap;exact⟨_,ap,Ar.app,λc h1 h2=>cX (by omega) h2,λh=>h.appH,λh=>h.appH⟩
theorem GH (ps:List PV):B7 (AN ps)=some ps:=by
 unfold AN;split
 .rename_i ts h;rw[Gu h];rfl
 .rfl
end
end Go.Abs
namespace Go.Proofs.YtobnacghaamfoaaGreatDoor
open Go Go.Abs
variable {q : Gl}
abbrev AD:Nat:=51
def tyE:Nat->Nat
 | 0=>9
 | 1=>112
 | 2=>59
 | 3=>61
 | 4=>118
 | 5=>59
 | 6=>59
 | 7=>44
 | _=>9
def AM (name:ByteArray) (ks:Nat->Nat) (els:List El):List PV:=
 [.t (sv name),rowP (eRw 0) (ks 0) (AL 0 els),rowP (eRw 1) (ks 1) (AL 1 els),rowP (eRw 2) (ks 2) (AL 2 els),rowP (eRw 3) (ks 3) (AL 3 els),rowP (eRw 4) (ks 4) (AL 4 els),rowP (eRw 5) (ks 5) (AL 5 els),rowP (eRw 6) (ks 6) (AL 6 els),rowP (eRw 7) (ks 7) (AL 7 els),rowP (eRw 8) (ks 8) (AL 8 els)]
structure BZ (els:List El) (ks:Nat->Nat) (H:Ab) (nx:Nat):Prop where
 row:∀j,Ar (eRw j) (tyE j) H (ks j) (AL j els)
 lt:∀j,AL j els≠[]->ks j<nx
 inj:∀i j,AL i els≠[]->AL j els≠[]->ks i=ks j->i=j
def BC (els:List El) (ks:Nat->Nat) (c:Nat):Prop:=∀j,AL j els≠[]->c≠ks j
section
variable {els : List El} {ks : Nat -> Nat} {H H' : Ab} {nx nx' kb : Nat} {name : ByteArray}
theorem BZ.nil (ks:Nat->Nat) (H:Ab) (nx:Nat):BZ [] ks H nx:=⟨λ_=>.inl rfl,λ_ h=>absurd rfl h,λ_ _ h=>absurd rfl h⟩
theorem BC.nil (ks:Nat->Nat) (c:Nat):BC [] ks c:=λ_ h=>absurd rfl h
theorem BZ.keep (M:BZ els ks H nx) (hk:∀j,AL j els≠[]->Aa H' (ks j)=Aa H (ks j)) (hn:nx<=nx'):BZ els ks H' nx':=
 ⟨λj=>by
  by_cases h:AL j els=[]
  .exact .inl h
  .exact(M.row j).imp id λe=>by rw[hk j h];exact e,λj h=>Y4 (M.lt j h) hn,M.inj⟩
theorem A0s (name:ByteArray) (ks:Nat->Nat) (els:List El) {j:Nat} (h:j<9):(AM name ks els)[j+1]?=some (rowP (eRw j) (ks j) (AL j els)):=by
 match j,h with
 | 0,_=>rfl
 | 1,_=>rfl
 | 2,_=>rfl
 | 3,_=>rfl
 | 4,_=>rfl
 | 5,_=>rfl
 | 6,_=>rfl
 | 7,_=>rfl
 | 8,_=>rfl
def ksU (ks:Nat->Nat) (j b:Nat):Nat->Nat:=λi=>if i=j then b else ks i
theorem A0t {i:Nat} {y:El} (b:Nat) (h:y.j≠i):rowP (eRw i) (ksU ks y.j b i) (AL i (els++[y]))=rowP (eRw i) (ks i) (AL i els):=by
 rw[Jr els h,ksU,zz (Ne.symm h)]
theorem A0u (y:El) (b:Nat):rowP (eRw y.j) (ksU ks y.j b y.j) (AL y.j (els++[y]))=rowP (eRw y.j) b (AL y.j els++[⟨y.cs,y.len⟩]):=by
 rw[ZT,ksU,zy rfl]
theorem JA {i j:Nat} {y:El} {b:Nat} (hy:y.j=j) (h:j≠i):rowP (eRw i) (ks i) (AL i els)=rowP (eRw i) (ksU ks j b i) (AL i (els++[y])):=by
 subst hy;exact(A0t b h).symm
theorem A0v (y:El) (b:Nat):Bj (AM name ks els) (y.j+1) [rowP (eRw y.j) b (AL y.j els++[⟨y.cs,y.len⟩])]=AM name (ksU ks y.j b) (els++[y]):=by
 rw[<-A0u (ks:=ks) y b];unfold AM;cases y<;>simp only[Bj,El.j,List.set_cons_succ,List.set_cons_zero,List.cons.injEq,true_and,and_true]
 all_goals exact⟨JA rfl (by decide),JA rfl (by decide),JA rfl (by decide),JA rfl (by decide),JA rfl (by decide),JA rfl (by decide),JA rfl (by decide),JA rfl (by decide)⟩
theorem BZ.push (M:BZ els ks H nx) (y:El) {b:Nat} (hb:Ar (eRw y.j) (tyE y.j) H' b (AL y.j els++[⟨y.cs,y.len⟩])) (hk:∀i,AL i els≠[]->i≠y.j->Aa H' (ks i)=Aa H (ks i)) (hn:nx<=b) (hb':b<nx'):BZ (els++[y]) (ksU ks y.j b) H' nx':=by
 refine⟨λi=>?_,λi h=>?_,λi i' h h' e=>?_⟩
 .by_cases hi:y.j=i
  .subst hi;rw[ZT,ksU,zy rfl];exact hb
  .rw[Jr els hi,ksU,zz (Ne.symm hi)]
   by_cases h:AL i els=[]
   .exact .inl h
   .exact(M.row i).imp id λe=>by rw[hk i h (Ne.symm hi)];exact e
 .by_cases hi:y.j=i
  .subst hi;rw[ksU,zy rfl];exact hb'
  .rw[Jr els hi]at h;rw[ksU,zz (Ne.symm hi)];have:=M.lt i h;omega
 .by_cases hi:y.j=i<;>by_cases hi':y.j=i'
  .omega
  .subst hi;rw[Jr els hi']at h';rw[ksU,ksU,zy rfl,zz (Ne.symm hi')]at e;have:=M.lt i' h';omega
  .subst hi';rw[Jr els hi]at h;rw[ksU,ksU,zy rfl,zz (Ne.symm hi)]at e;have:=M.lt i h;omega
  .rw[Jr els hi]at h;rw[Jr els hi']at h';rw[ksU,ksU,zz (Ne.symm hi),zz (Ne.symm hi')]at e;exact M.inj i i' h h' e
structure PuM (els:List El) (ks:Nat->Nat) (name:ByteArray) (kb j:Nat) (x:List T) (H:Ab) (nx:Nat) (H2:Ab) (nx2:Nat):Prop where
 bx:∃ps,ps.length=10/\Aa H2 kb=some (.cells AD ps)/\∀y:El,y.j=j->y.cs=x->∃ks',ps=AM name ks' (els++[y])/\BZ (els++[y]) ks' H2 nx2/\∀c,c<nx->BC els ks c->BC (els++[y]) ks' c
 k:∀c,c<nx->c≠kb->BC els ks c->Aa H2 c=Aa H c
 n:nx<=nx2
 fr:Frs H nx->Frs H2 nx2
 cl:Cl H nx->Cl H2 nx2
theorem cZ (hb:Aa H kb=some (.cells AD (AM name ks els))) {j o:Nat} (hj:j<9) (ho:o=j+1):Ao false 1 H (.ptr kb o)=some (rowP (eRw j) (ks j) (AL j els)):=by
 subst ho;simp only[Ao,hb,Xe,if_false];exact A0s _ _ _ hj
theorem GJ {ps:List PV} (hb:Aa H kb=some (.cells AD ps)) (h:ps.length=10):Ao true 10 H (.ptr kb 0)=some (AN ps):=by
 simp only[Ao,hb,if_true,Xo,Xl];rw[zy (by omega),Xz (by omega)]
theorem dA (M:BZ els ks H nx) (hb:Aa H kb=some (.cells AD (AM name ks els))) (hkb:kb<nx) (hkn:BC els ks kb) {j o:Nat} (hj:j<9) (ho:o=j+1) (x:RwC (zE j)) {b nx2:Nat} {H1:Ab} (hn:nx<=b) (hn2:b<nx2)
  (row:Ar (eRw j) (tyE j) H1 b (AL j els++[x])) (k1:∀c,c<nx->(AL j els≠[]->c≠ks j)->Aa H1 c=Aa H c) (f1:Frs H nx->Frs H1 nx2) (c1:Cl H nx->Cl H1 nx2) :
  ∃H2,A8 1 H1 (.ptr kb o) (rowP (eRw j) b (AL j els++[x]))=some H2/\PuM els ks name kb j x.1 H nx H2 nx2:=by
 subst ho
 have hb1:Aa H1 kb=some (.cells AD (AM name ks els)):=by rw[k1 kb hkb (hkn j)];exact hb
 have cp:B7 (rowP (eRw j) b (AL j els++[x]))=some [rowP (eRw j) b (AL j els++[x])]:=by cases AL j els<;>rfl
 have s2:=Em (n:=1) (o:=j+1) hb1 cp rfl (by show j+1+1<=10;omega);refine⟨_,s2,?_⟩
 obtain⟨P,hP⟩:∃P,P=Bj (AM name ks els) (j+1) [rowP (eRw j) b (AL j els++[x])]:=⟨_,rfl⟩
 rw[<-hP]
 have hl:P.length=10:=by rw[hP,Ln (by show j+1+1<=10;omega)];rfl
 refine⟨⟨P,hl,by rw[A9,zy rfl,hb1];rfl,λy hy hc=>?_⟩,λc h1 h2 h3=>by rw[A9,zz h2];exact k1 c h1 (h3 j),by omega,λh=>(f1 h).upd,λh=>?_⟩
 .subst hy;obtain⟨xc,xl⟩:=x;simp only at hc;subst hc;refine⟨_,by rw[hP];exact A0v y b,M.push y (row.imp id λe=>by rw[A9,zz (by omega)];exact e) (λi hi hne=>?_) hn hn2,λc hc hN i hi=>?_⟩
  .have h1:=M.lt i hi;rw[A9,zz (Ne.symm (hkn i hi))];exact k1 _ h1 λh e=>hne (M.inj _ _ hi h e)
  .by_cases h:y.j=i
   .subst h;rw[ksU,zy rfl];omega
   .rw[ksU,zz (Ne.symm h)];rw[Jr els h]at hi;exact hN i hi
 .refine(c1 h).upd (ClR.cells λp hp=>?_);rw[hP]at hp;rcases Ze hp with hp | rfl
  .have h1:=h _ _ hb;intro H2 F2 hF2;have h3:=h1 H2 F2 (λc hc=>by have:=hF2 c hc;omega);simp only[Cy]at h3;injection h3 with _ h3
   have h4:(AM name ks els).map (B5 H2 F2)=(AM name ks els).map id:=by rw[h3,List.map_id]
   exact List.map_inj_left.1 h4 p hp
  .exact ClP.rowP λ_=>hn2
theorem dB (M:BZ els ks H nx) (hb:Aa H kb=some (.cells AD (AM name ks els))) (hkb:kb<nx) (hkn:BC els ks kb) {j o z ty by':Nat} (hj:j<9) (ho:o=j+1) (hz:z=zE j) (hty:ty=tyE j) (x:List T) (hx:x.length=z) (xs:List PV) (hxs:xs=x.map .t) (hby:by'<=1000) (hl:Cp j els<=1000000) :
  ∃p p' H1 H2,Ao false 1 H (.ptr kb o)=some p/\B1 ty z by' ((nx,.cells ty xs)::H) (nx+1) p (.row nx 0 1 z)=some (p',H1,nx+2)/\A8 1 H1 (.ptr kb o) p'=some H2/\PuM els ks name kb j x H nx H2 (nx+2):=by
 subst hz;subst hty;rw[<-NC]at hl
 have hb2:((AL j els).length+1)*by'<=140737488355328:=Ym (Yn (Yo hl) hby) (by decide)
 obtain⟨H1,ap,row,k1,f1,c1⟩:=Qd (e:=eRw j) (ty:=tyE j) (H:=H) (b:=ks j) (l:=AL j els) (by':=by') (nx:=nx) ⟨x,hx⟩ (zE j) rfl xs hxs (M.row j) (M.lt j) hb2 (by omega);obtain⟨H2,s2,pu⟩:=dA M hb hkb hkn hj ho ⟨x,hx⟩ (Xg nx) (Xq _) row k1 f1 c1;exact⟨_,_,H1,H2,cZ hb hj ho,ap,s2,pu⟩
theorem A0w (M:BZ els ks H nx) (hb:Aa H kb=some (.cells AD (AM name ks els))) (hkb:kb<nx) (hkn:BC els ks kb) {j o z ty by':Nat} (hj:j<9) (ho:o=j+1) (hz:z=zE j) (hty:ty=tyE j) (x:List T) (hx:x.length=z) (hby:by'<=1000) (hl:Cp j els<=1000000) :
  ∃p p' H1 H2,Ao false 1 H (.ptr kb o)=some p/\B1 ty z by' H nx p (.t (.sl 1 x))=some (p',H1,nx+1)/\A8 1 H1 (.ptr kb o) p'=some H2/\PuM els ks name kb j x H nx H2 (nx+1):=by
 subst hz;subst hty;rw[<-NC]at hl
 have hb2:((AL j els).length+1)*by'<=140737488355328:=Ym (Yn (Yo hl) hby) (by decide)
 obtain⟨H1,ap,row,k1,f1,c1⟩:=cY (e:=eRw j) (ty:=tyE j) (H:=H) (b:=ks j) (l:=AL j els) (by':=by') (nx:=nx) ⟨x,hx⟩ (zE j) rfl x rfl (M.row j) (M.lt j) hb2 (by omega);obtain⟨H2,s2,pu⟩:=dA M hb hkb hkn hj ho ⟨x,hx⟩ (Xf nx) (Xq _) row k1 f1 c1;exact⟨_,_,H1,H2,cZ hb hj ho,ap,s2,pu⟩
end
theorem A0x:A0 Xa (G q) 96 2 21 RC [(.tmp 2),(.tmp 3)]:=by
 obtain⟨fn,h1,h2,h3,h4,h5⟩:=qR (q:=q);exact⟨fn,h1,h2,h3,h4,by omega⟩
theorem dC:A0 Xa (G q) 97 2 32 Pe [(.tmp 2),(.tmp 3)]:=by
 obtain⟨fn,h1,h2,h3,h4,h5⟩:=qS (q:=q);exact⟨fn,h1,h2,h3,h4,by omega⟩
abbrev Iz:Nat:=112
abbrev Mp:Nat:=142
section
variable {t : T} {k0 kb kd o tyD i nx nx0 : Nat} {cs : List T} {X : List (Nat × Row)} {H H0 : Ab} {l : List Tok}
def Mq (X:List (Nat×Row)) (kb k0:Nat):Prop:=∃tyB,(kb,Row.cells tyB [.ptr k0 0])∈X
theorem Gq (hB:Mq X kb k0) (h:OwX X kd nx0 H nx):Ao false 1 H (.ptr kb 0)=some (.ptr k0 0):=by
 obtain⟨tyB,hB⟩:=hB;have:=(h _ hB).1;simp only[Ao,this];rfl
theorem A0y (ht:IsS Ap t l) (hlim:l.length<=1000000) (hB:Mq X kb k0) {c0 c2:T}:Qb q l t k0 96 [.ptr kb 0,.ptr kd 0] (λp=>AE (l.map kt) p 1) (LsI Aj KO l t k0 kd 1 tyD [c0,Ad,c2] X H0 nx0) where
 rd I:=⟨I.rd,I.i⟩
 st I h:=I.st h
 fw h:=by have:=(D1 h).1;omega
 one {i out H nx} I hoi:=by
  have hi:=I.i;have hk:=I.k0;have hn:=I.K.n;obtain⟨y,e,j1,H1,n1,ta,rd1,hj1,⟨s,rfl⟩,hd,K1,a1,a2⟩:=Ec (Ht (q:=q) ht hlim I.rd (nx:=nx) (by omega) I.i 1);have I1:=I.kr K1 rd1 hj1;have b0:=Gq hB I.x;obtain⟨p,p',H2,H3,l1,ap,s2,l2,hlen,I2,f2⟩:=I1.push (z:=1) (by':=16) s rfl (xs:=[.t (sv s)]) rfl (by show 1<3;omega) (by omega) (by omega);have CA:Ctx Xa (G q) _:=A5.nil.ctxH (B6.cons a2 .nil) mixed
  obtain⟨m,hm⟩:∃m:Int,m=((out++[s]).length:Int):=⟨_,rfl⟩
  rw[<-hm]at hlen
  suffices h:∃f:Fin,IsF (.t (.tu [iv m,iv e])) H3 (n1+2) f/\AB Xa (G q) 96 [.ptr kb 0,.ptr kd 0] H nx f.r f.H f.nx by
   have hc:=S4 h;refine⟨⟨_,_,_⟩,⟨_,e,j1,out++[s],rfl,I2,?_⟩,λh=>?_,hc⟩
   .rcases hd with⟨x,hx,hxy,rfl⟩ | ⟨hx,he⟩
    .injection hxy with hxy;injection hxy with hxy;subst hxy;exact .inl ⟨s,hx,rfl,hm,rfl⟩
    .exact .inr ⟨hx,he⟩
   .exact f2 (K1.fr h)
  refine A0x.callX rfl ?_;(conv in RC=>cbv);refine Ai Af ?_;simp -implicitDefEqProofs;refine Ai CA ?_;simp -implicitDefEqProofs [b0,a1];refine Ai Af ?_;simp -implicitDefEqProofs [l1,bsS,ap,s2];refine A7 Af ?_;simp -implicitDefEqProofs [l2,hlen];exact A6 ⟨.t (.tu [iv m,iv e]),H3,n1+2⟩ ⟨rfl,rfl,rfl⟩ (by simp -implicitDefEqProofs)
theorem A0z {L:List KT} {p p':Nat} {x:ByteArray×ByteArray} (h:ftS L p = .ok (x,p')):p<p'/\p'<=L.length:=by
 unfold ftS at h;split at h
 .cases h
 .rename_i s p1 h1;split at h
  .cases h
  .rename_i v p2 h2;injection h with h;injection h with _ h;subst h;have a1:=D1 h1;have a2:=D1 h2;omega
theorem bsF (n:Nat) (a b:ByteArray):De Mp 2 [.string ⟨#[]⟩,.string ⟨#[]⟩] 1 [(0,.t (.ag [sv a,sv b]))] n=some (.row n 0 1 2,.cells Mp [.t (sv a),.t (sv b)]):=rfl
theorem bd2 (Φ:AC) (H:Ab) (nx:Nat) (a b:ByteArray):Ah Φ H nx (.build [(0,1),(1,1)] [.string ⟨#[]⟩,.string ⟨#[]⟩] [0,1]) [.t (sv a),.t (sv b)]=some (.t (.ag [sv a,sv b]),H,nx):=rfl
theorem A1a (ht:IsS Ap t l) (hlim:l.length<=1000000) (hB:Mq X kb k0) {c0 c1:T}:Qb q l t k0 97 [.ptr kb 0,.ptr kd 0] (ftS (l.map kt)) (LsI eFt Mp l t k0 kd 2 tyD [c0,c1,Ad] X H0 nx0) where
 rd I:=⟨I.rd,I.i⟩
 st I h:=I.st h
 fw h:=(A0z h).1
 one {i out H nx} I hoi:=by
  have hi:=I.i;have hk:=I.k0;have hn:=I.K.n;obtain⟨y,e,j1,H1,n1,ta,rd1,hj1,⟨s,rfl⟩,hd,K1,a1,a2⟩:=Ec (Ht (q:=q) ht hlim I.rd (nx:=nx) (by omega) I.i 2);have I1:=I.kr K1 rd1 hj1;have b0:=Gq hB I.x;have n1':=K1.n;have CA:Ctx Xa (G q) _:=A5.nil.ctxH (B6.cons a2 .nil) mixed;rcases hd with⟨x,hx,hxy,rfl⟩ | ⟨hx,he⟩
  rotate_left
  .have hb:(e != 0)=true:=by rw[bne_iff_ne];exact he
   have hf:ftS (l.map kt) i = .error e:=by unfold ftS;rw[hx]
   suffices h:∃f:Fin,IsF (.t (.tu [iv 0,iv e])) H1 (n1) f/\AB Xa (G q) 97 [.ptr kb 0,.ptr kd 0] H nx f.r f.H f.nx by
    have hc:=S4 h;exact⟨⟨_,_,_⟩,⟨_,e,j1,out,rfl,I1,.inr ⟨hf,he⟩⟩,K1.fr,hc⟩
   refine dC.callX rfl ?_;(conv in Pe=>cbv);refine Ai Af ?_;simp -implicitDefEqProofs;refine Ai CA ?_;simp -implicitDefEqProofs [b0,a1];refine Ai Af ?_;simp -implicitDefEqProofs [hb];exact A6 ⟨.t (.tu [iv 0,iv e]),H1,n1⟩ ⟨rfl,rfl,rfl⟩ (by simp -implicitDefEqProofs)
  injection hxy with hxy;injection hxy with hxy;subst hxy;have b1:=Gq hB I1.x;obtain⟨y,e,j2,H2,n2,tb,rd2,hj2,⟨v,rfl⟩,hd,K2,t1,t2⟩:=Ec (Ht (q:=q) ht hlim I1.rd (nx:=n1) (by omega) I1.i 1);have I2:=I1.kr K2 rd2 hj2;have CB:Ctx Xa (G q) _:=A5.nil.ctxH (B6.cons t2 .nil) mixed;obtain⟨p,p',H3,H4,l1,ap,s2,l2,hlen,I3,f3⟩:=I2.push (z:=2) (by':=32) (s,v) rfl (xs:=[.t (sv s),.t (sv v)]) rfl (by show 2<3;omega) (by omega) (by omega)
  obtain⟨m,hm⟩:∃m:Int,m=((out++[(s,v)]).length:Int):=⟨_,rfl⟩
  rw[<-hm]at hlen
  suffices h:∃f:Fin,IsF (.t (.tu [iv m,iv e])) H4 (n2+2) f/\AB Xa (G q) 97 [.ptr kb 0,.ptr kd 0] H nx f.r f.H f.nx by
   have hc:=S4 h;refine⟨⟨_,_,_⟩,⟨_,e,j2,out++[(s,v)],rfl,I3,?_⟩,λh=>f3 (K2.fr (K1.fr h)),hc⟩;rcases hd with⟨x,hx2,hxy,rfl⟩ | ⟨hx2,he⟩
   .injection hxy with hxy;injection hxy with hxy;subst hxy;exact .inl ⟨(s,v),by unfold ftS;rw[hx];simp only;rw[hx2],rfl,hm,rfl⟩
   .exact .inr ⟨by unfold ftS;rw[hx];simp only;rw[hx2],he⟩
  refine dC.callX rfl ?_;(conv in Pe=>cbv);refine Ai Af ?_;simp -implicitDefEqProofs;refine Ai CA ?_;simp -implicitDefEqProofs [b0,a1];refine Ai Af ?_;simp -implicitDefEqProofs;refine Ai CB ?_;simp -implicitDefEqProofs [b1,t1];refine Ai Af ?_;simp -implicitDefEqProofs [l1,bd2,bsF,ap,s2,-AF];refine A7 Af ?_;simp -implicitDefEqProofs [l2,hlen];exact A6 ⟨.t (.tu [iv m,iv e]),H4,n2+2⟩ ⟨rfl,rfl,rfl⟩ (by simp -implicitDefEqProofs)
end
def ShA (n:Nat) (y:T):Prop:=∃cs:List T,y = .ag cs/\cs.length=n
structure DcC where
 H:Ab
 nx:Nat
 i:Nat
def GK (nx:Nat) (c:DcC):Ac:=⟨[(6,.ptr (nx+2) 0),(4,.ptr (nx+1) 0),(2,.ptr nx 0)],c.H,c.nx,44⟩
theorem A1b (Φ:AC) (H:Ab) (nx:Nat) (a:ByteArray):Ah Φ H nx (.build [(0,1),(1,1),(2,1)] [.string ⟨#[]⟩,.slice none 0 0,.slice none 0 0] [0]) [.t (sv a)]=some (.t (.ag [sv a,Ad,Ad]),H,nx):=rfl
section
variable {t : T} {k0 i nx : Nat} {H : Ab} {l : List Tok}
theorem Ta (f:Nat) (a b:PV):exM (.mkf (.func f) 0) [a,b]=some (.fn (.func f) [] [a,b]):=rfl
theorem A1c (ht:IsS Ap t l) (hlim:l.length<=1000000) (h0:Aa H k0=some (rr t i)) (hk:k0<nx) (hi:i<=l.length) (hC:Cl H nx) (name:ByteArray) :
  ∃f:Fin,StR l t k0 H nx (ShA 3) (λd=>.ag (TyD.cs d)) (FJ (l.map kt) name i) f/\AB Xa (G q) 58 [.ptr k0 0,.t (sv name)] H nx f.r f.H f.nx:=by
 obtain⟨Z,hZ⟩:∃Z,Z=FJ (l.map kt) name i:=⟨_,rfl⟩
 rw[<-hZ];refine qB.callX rfl ?_;(conv in WS=>cbv);refine Ai Af ?_;simp -implicitDefEqProofs;refine Ai Af ?_
 have u1:∀a b c R,A8 3 ((nx+2,.cells Iz [a,b,c])::R) (.ptr (nx+2) 0) (.t (.ag [sv name,Ad,Ad]))=some ((nx+2,.cells Iz [.t (sv name),.t Ad,.t Ad])::R):=λa b c R=>by
  have hz:B7 (.t (.ag [sv name,Ad,Ad]))=some [.t (sv name),.t Ad,.t Ad]:=rfl;simp[A8,hz,Xd,Bj]
 simp -implicitDefEqProofs [A1b,u1,-AF]
 obtain⟨X,hX⟩:∃X:List (Nat×Row),X=[(nx,.cells 64 [.ptr k0 0]),(nx+1,.cells Iz ([sv ⟨#[]⟩,Ad,Ad].map .t))]:=⟨_,rfl⟩
 obtain⟨H3,hH3⟩:∃H3:Ab,H3=(nx+2,.cells Iz [.t (sv name),.t Ad,.t Ad])::(nx+1,.cells Iz [.t (sv ⟨#[]⟩),.t Ad,.t Ad])::(nx,.cells 64 [.ptr k0 0])::H:=⟨_,rfl⟩
 have I:DrI l t k0 (nx+2) Iz [sv name,Ad,Ad] X H nx i H3 (nx+3):=by
  refine⟨by rw[hH3,A1,zz (by omega),A1,zz (by omega),A1,zz (by omega)];exact h0,hi,λp hp=>?_,by rw[hH3,A1,zy rfl];rfl,?_,hk,by omega,by omega⟩
  .rw[hX]at hp;simp only[Xi,Xn,or_false]at hp;rcases hp with rfl | rfl
   .exact⟨by rw[hH3,A1,zz (by show nx+2≠nx;omega),A1,zz (by show nx+1≠nx;omega),A1,zy rfl],Xf _,by show nx<_;omega,by show nx≠_;omega,ClR.cells λp hp=>by
     rw[Xp]at hp;subst hp;exact ClP.ptr _ _ _⟩
   .exact⟨by rw[hH3,A1,zz (by show nx+2≠nx+1;omega),A1,zy rfl];rfl,Xg _,by show nx+1<_;omega,by show nx+1≠_;omega,ClR.trees _ _ _⟩
  .rw[hH3];exact((Kr.refl.cons (ClR.cells λp hp=>by rw[Xp]at hp;subst hp;exact ClP.ptr _ _ _)).cons (ClR.trees _ _ [_,_,_])).cons (ClR.trees _ _ [_,_,_])
 have hB:Mq X nx k0:=⟨64,by rw[hX];simp⟩
 have hA:(nx+1,Row.cells Iz ([sv ⟨#[]⟩,Ad,Ad].map .t))∈X:=by rw[hX];simp
 refine B9 (s':=GK nx ⟨H3,nx+3,i⟩) (by rw[hH3];exact sub_env (by simp -implicitDefEqProofs [GK])) rfl ?_;clear hH3 hX;refine D5 (GK nx) (λc=>∃su,Cf (l.map kt) [60] (Fb (l.map kt)) i = .ok (su,c.i)/\DrI l t k0 (nx+2) Iz [sv name,Am Aj su,Ad] X H nx c.i c.H c.nx) (λ_=>rfl) ?_ ?_
 .obtain⟨tn,t1,t2⟩:=Iy (q:=q) (nx:=nx+3) ht I.rd ⟨#[60]⟩;rw[show(⟨#[60]⟩:ByteArray).data.toList=[60]from rfl]at t1;have CN:Ctx Xa (G q) _:=A5.nil.ctxH (B6.cons t2 .nil) mixed;have b0:=Gq hB I.x;refine Ai CN ?_;simp -implicitDefEqProofs [GK,b0,t1]
  cases hs:Au (l.map kt) i [60]with
  | false=>
   refine PE (t:=false) (by simp -implicitDefEqProofs [hs]) ?_;refine A7 Af ?_;simp -implicitDefEqProofs;exact Aq.mk ⟨H3,nx+3,i⟩ ⟨[],by unfold Cf;rw[zz (by rw[hs];decide)],I⟩ (sub_env (by simp -implicitDefEqProofs [GK]))
  | true=>
   have lj:=Bo hs;rw[Xb]at lj;have L1:=Eb I.rd;have s3:=Ix I.rd i;have I2:=I.st (j:=i+1) lj;have e2:Xc.wrap ((i:Int)+1)=(i:Int)+1:=AH (n:=i+1) (by omega) (by omega)
   obtain⟨H4,hH4⟩:∃H4,H4=Xd H3 k0 (rr t (i+1)):=⟨_,rfl⟩
   rw[<-hH4]at s3 I2;have b1:=Gq hB I2.x;have I3:=I2.ls (o:=1) Aj KO rfl;obtain⟨⟨fr,H5,n5⟩,⟨e,j,su,hr,I5,hd⟩,hf,hc⟩:=SY (q:=q) (A0y ht hlim hB) ht hlim I3 ⟨#[44]⟩;simp only at hr I5 hf hc;subst hr;obtain⟨ta,a1,a2⟩:=hAt hc hf;have CL:Ctx Xa (G q) _:=A5.nil.ctxH (B6.cons a2 .nil) mixed;obtain⟨kv,I6⟩:=I5.dr hC (by show 1<3;omega);refine PE (t:=true) (by simp -implicitDefEqProofs [hs]) ?_;simp only[if_true];refine Ai Af ?_;simp -implicitDefEqProofs [b0,L1.l1,e2,s3];refine B9 (s':=⟨[(6,.ptr (nx+2) 0),(4,.ptr (nx+1) 0),(2,.ptr nx 0)],H4,nx+3+1,44⟩) ((Jq (Xg _)).trans (sub_env (by simp -implicitDefEqProofs))) rfl ?_;refine Ai CL ?_;simp -implicitDefEqProofs [b1,Ta,a1];refine B9 (s':=⟨[(7,.t (iv e)),(6,.ptr (nx+2) 0),(4,.ptr (nx+1) 0),(2,.ptr nx 0)],B8 H5 [kv],n5,44⟩) (EG [kv] (by simp -implicitDefEqProofs [Il,Gh])) rfl ?_
   obtain⟨H6,hH6⟩:∃H6,H6=B8 H5 [kv]:=⟨_,rfl⟩
   rw[<-hH6]at I6 ⊢;rcases hd with⟨hz,rfl⟩ | ⟨hz,he⟩
   .refine A7 Af ?_;simp -implicitDefEqProofs;exact Aq.mk ⟨H6,n5,j⟩ ⟨su,by unfold Cf;rw[zy hs];exact hz,I6⟩ (sub_env (by simp -implicitDefEqProofs [GK]))
   .have hb:(e != 0)=true:=by rw[bne_iff_ne];exact he
    have ld:=I6.ld (n:=3) rfl;obtain⟨H7,st7,ld7,K7,r7⟩:=I6.fin (n:=3) (ds:=Bj [sv name,Ad,Ad] 1 [Am Aj su]) hA rfl rfl;refine A7 Af ?_;simp -implicitDefEqProofs [hb,ld,st7];exact A6 ⟨.t (.tu [.ag (Bj [sv name,Ad,Ad] 1 [Am Aj su]),iv e]),H7,n5⟩ ⟨⟨_,e,j,rfl,r7,I6.i,⟨_,rfl,rfl⟩,.inr ⟨by rw[hZ];unfold FJ Cf;rw[zy hs];unfold Fb;rw[show([44]:List UInt8)=(⟨#[44]⟩:ByteArray).data.toList from rfl,hz],he⟩⟩,K7⟩ (by simp -implicitDefEqProofs [ld7])
 rintro⟨Hc,nc,j⟩ ⟨su,ho,I⟩;simp only at ho I;refine D5 (GK nx) (λc=>∃fe,Cf (l.map kt) [58] (EI (l.map kt)) j = .ok (fe,c.i)/\DrI l t k0 (nx+2) Iz [sv name,Am Aj su,Am eFt fe] X H nx c.i c.H c.nx) (λ_=>rfl) ?_ ?_
 .obtain⟨tn,t1,t2⟩:=Iy (q:=q) (nx:=nc) ht I.rd ⟨#[58]⟩;rw[show(⟨#[58]⟩:ByteArray).data.toList=[58]from rfl]at t1;have CN:Ctx Xa (G q) _:=A5.nil.ctxH (B6.cons t2 .nil) mixed;have b0:=Gq hB I.x;have hi:=I.i;refine Ai CN ?_;simp -implicitDefEqProofs [GK,b0,t1]
  cases hs:Au (l.map kt) j [58]with
  | false=>
   refine PE (t:=false) (by simp -implicitDefEqProofs [hs]) ?_;refine A7 Af ?_;simp -implicitDefEqProofs;exact Aq.mk ⟨Hc,nc,j⟩ ⟨[],by unfold Cf;rw[zz (by rw[hs];decide)],I⟩ (sub_env (by simp -implicitDefEqProofs [GK]))
  | true=>
   have lj:=Bo hs;rw[Xb]at lj;have L1:=Eb I.rd;have s3:=Ix I.rd j;have I2:=I.st (j:=j+1) lj;have e2:Xc.wrap ((j:Int)+1)=(j:Int)+1:=AH (n:=j+1) (by omega) (by omega)
   obtain⟨H4,hH4⟩:∃H4,H4=Xd Hc k0 (rr t (j+1)):=⟨_,rfl⟩
   rw[<-hH4]at s3 I2;have b1:=Gq hB I2.x;have I3:=I2.ls (o:=2) eFt Mp rfl;obtain⟨⟨fr,H5,n5⟩,⟨e,j5,fe,hr,I5,hd⟩,hf,hc⟩:=SY (q:=q) (A1a ht hlim hB) ht hlim I3 ⟨#[44]⟩;simp only at hr I5 hf hc;subst hr;obtain⟨ta,a1,a2⟩:=hAt hc hf;have CL:Ctx Xa (G q) _:=A5.nil.ctxH (B6.cons a2 .nil) mixed;obtain⟨kv,I6⟩:=I5.dr hC (by show 2<3;omega);refine PE (t:=true) (by simp -implicitDefEqProofs [hs]) ?_;simp only[if_true];refine Ai Af ?_;simp -implicitDefEqProofs [b0,L1.l1,e2,s3];refine B9 (s':=⟨[(6,.ptr (nx+2) 0),(4,.ptr (nx+1) 0),(2,.ptr nx 0)],H4,nc+1,44⟩) ((Jq (Xg _)).trans (sub_env (by simp -implicitDefEqProofs))) rfl ?_;refine Ai CL ?_;simp -implicitDefEqProofs [b1,Ta,a1];refine B9 (s':=⟨[(8,.t (iv e)),(6,.ptr (nx+2) 0),(4,.ptr (nx+1) 0),(2,.ptr nx 0)],B8 H5 [kv],n5,44⟩) (EG [kv] (by simp -implicitDefEqProofs [Il,Gh])) rfl ?_
   obtain⟨H6,hH6⟩:∃H6,H6=B8 H5 [kv]:=⟨_,rfl⟩
   rw[<-hH6]at I6 ⊢;rcases hd with⟨hz,rfl⟩ | ⟨hz,he⟩
   .refine A7 Af ?_;simp -implicitDefEqProofs;exact Aq.mk ⟨H6,n5,j5⟩ ⟨fe,by unfold Cf;rw[zy hs];exact hz,I6⟩ (sub_env (by simp -implicitDefEqProofs [GK]))
   .have hb:(e != 0)=true:=by rw[bne_iff_ne];exact he
    have ld:=I6.ld (n:=3) rfl;obtain⟨H7,st7,ld7,K7,r7⟩:=I6.fin (n:=3) (ds:=Bj [sv name,Am Aj su,Ad] 2 [Am eFt fe]) hA rfl rfl;refine A7 Af ?_;simp -implicitDefEqProofs [hb,ld,st7];exact A6 ⟨.t (.tu [.ag (Bj [sv name,Am Aj su,Ad] 2 [Am eFt fe]),iv e]),H7,n5⟩ ⟨⟨_,e,j5,rfl,r7,I6.i,⟨_,rfl,rfl⟩,.inr ⟨by rw[hZ];unfold FJ;rw[ho];simp only;unfold Cf;rw[zy hs];unfold EI;rw[show([44]:List UInt8)=(⟨#[44]⟩:ByteArray).data.toList from rfl,hz],he⟩⟩,K7⟩ (by simp -implicitDefEqProofs [ld7])
 rintro⟨Hd,nd,j2⟩ ⟨fe,ho2,I⟩;simp only at ho2 I;have ld:=I.ld (n:=3) rfl;obtain⟨H7,st7,ld7,K7,r7⟩:=I.fin (n:=3) (ds:=[sv name,Am Aj su,Am eFt fe]) hA rfl rfl;refine A7 Af ?_;simp -implicitDefEqProofs [GK,ld,st7];exact A6 ⟨.t (.tu [.ag [sv name,Am Aj su,Am eFt fe],iv 0]),H7,nd⟩ ⟨⟨_,0,j2,rfl,r7,I.i,⟨_,rfl,rfl⟩,.inl ⟨⟨name,su,fe⟩,by rw[hZ];unfold FJ;rw[ho];simp only;rw[ho2],rfl,rfl⟩⟩,K7⟩ (by simp -implicitDefEqProofs [ld7])
end
abbrev Bu:Nat:=57
noncomputable def Tb:Tbl:=[(133,FQ)]
theorem dD:Ctx Xa (G q) (orc Tb):=(A5.cons A0k .nil).ctx mixed
theorem Fg {b ty n:Nat} {zs:List PV} {ds:List T} (hz:zs.length=n) (hd:ds.length=n) (R:Ab):A8 n ((b,.cells ty zs)::R) (.ptr b 0) (.t (.ag ds))=some ((b,.cells ty (ds.map .t))::R):=by
 have h1:=Em (n:=n) (b:=b) (o:=0) (H:=(b,.cells ty zs)::R) (t:=.t (.ag ds)) (ns:=ds.map .t) (ty:=ty) (cs:=zs) (by rw[A1,zy rfl]) rfl (by rw[Xb];exact hd) (by omega);rw[h1];congr 1;simp only[Xd,if_true];rw[KP _ _ (by rw[Xb];omega)]
theorem ldN {b ty n:Nat} {ds:List T} {H:Ab} (h:Aa H b=some (.cells ty (ds.map .t))) (hd:ds.length=n):Ao true n H (.ptr b 0)=some (.t (.ag ds)):=by
 simp only[Ao,h,if_true,Xb,Xo,Xl];rw[zy (by omega),Xz (by rw[Xb];omega)];simp only[AN,Ke]
theorem Hu {b ty n:Nat} {zs ds:List T} {H:Ab} (h:Aa H b=some (.cells ty (zs.map .t))) (hz:zs.length=n) (hd:ds.length=n):A8 n H (.ptr b 0) (.t (.ag ds))=some (Xd H b (.cells ty (ds.map .t))):=by
 have h1:=Em (n:=n) (b:=b) (o:=0) (t:=.t (.ag ds)) (ns:=ds.map .t) h rfl (by rw[Xb];exact hd) (by rw[Xb];omega);rw[KP _ _ (by rw[Xb,Xb];omega)]at h1;exact h1
def ShD (y:T):Prop:=∃d:Ds,y = .ag (A4 d)
section
variable {t : T} {k0 i nx : Nat} {H : Ab} {l : List Tok}
theorem dE (ht:IsS Ap t l) (hlim:l.length<=1000000) (h0:Aa H k0=some (rr t i)) (hk:k0<nx) (hi:i<=l.length) :
  ∃f:Fin,StR l t k0 H nx ShD (λd=>.ag (A4 d)) (As (l.map kt) 64 i) f/\AB Xa (G q) 117 [.ptr k0 0] H nx f.r f.H f.nx:=by
 have L:=Eb h0;have gr:=SU ht hlim hi;refine qU.callX rfl ?_;(conv in XJ=>cbv);refine Ai Af ?_;simp -implicitDefEqProofs
 obtain⟨zs,hzs⟩:∃zs:List T,zs=[iv 0,sv ⟨#[]⟩,Ad,Ad]:=⟨_,rfl⟩
 have hzl:zs.length=4:=by rw[hzs];rfl
 obtain⟨H1,hH1⟩:∃H1:Ab,H1=(nx,.cells Bu (zs.map .t))::H:=⟨_,rfl⟩
 have r1:Aa H1 k0=some (rr t i):=by rw[hH1,A1,zz (by omega)];exact h0
 have p1:Aa H1 nx=some (.cells Bu (zs.map .t)):=by rw[hH1,A1,zy rfl]
 have K1:Kr k0 H nx H1 (nx+1):=by rw[hH1];exact Kr.refl.cons (ClR.trees _ _ _)
 refine B9 (s':=⟨[(2,.ptr nx 0),(0,.ptr k0 0)],H1,nx+1,29⟩) (by rw[hH1,hzs];exact sub_env (by simp -implicitDefEqProofs)) rfl ?_;have L1:=Eb r1;have zag:Ah (orc []) H1 (nx+1) (.build [(0,1),(1,1),(2,1),(3,1)] [.int .i64 0,.string ⟨#[]⟩,.slice none 0 0,.slice none 0 0] []) []=some (.t (.ag [iv 0,sv ⟨#[]⟩,Ad,Ad]),H1,nx+1):=rfl
 cases hd:As (l.map kt) 64 i with
 | error e=>
  rw[hd]at gr
  have gr:FQ [t,iv (i:Int)]=some (.tu [.ag zs,iv 0,iv e]):=by rw[gr,hzs];rfl
  have he:e≠0:=F4 _ _ _ hd
  have hb:(e != 0)=true:=by rw[bne_iff_ne];exact he
  have st:∀R ys,ys.length=4->A8 4 ((nx+1,.cells Bu ys)::R) (.ptr (nx+1) 0) (.t (.ag zs))=some ((nx+1,.cells Bu (zs.map .t))::R):=λR ys h=>Fg h hzl R
  obtain⟨H2,hH2⟩:∃H2:Ab,H2=(nx+1,.cells Bu (zs.map .t))::H1:=⟨_,rfl⟩
  have st':=st H1 [.t (iv 0),.t (sv ⟨#[]⟩),.t Ad,.t Ad] rfl;rw[<-hH2]at st'
  have p2:Aa H2 nx=some (.cells Bu (zs.map .t)):=by rw[hH2,A1,zz (by omega)];exact p1
  have r2:Aa H2 k0=some (rr t i):=by rw[hH2,A1,zz (by omega)];exact r1
  have K2:Kr k0 H nx H2 (nx+2):=by rw[hH2];exact K1.cons (ClR.trees _ _ _)
  have s3:=Hu (ds:=zs) p2 hzl hzl;have K3:=K2.upd (b:=nx) (.inr (Xf _)) (ClR.trees _ Bu zs)
  have p3:Aa (Xd H2 nx (.cells Bu (zs.map .t))) nx=some (.cells Bu (zs.map .t)):=by rw[A9,zy rfl,p2];rfl
  have r3:Aa (Xd H2 nx (.cells Bu (zs.map .t))) k0=some (rr t i):=by rw[A9,zz (by omega)];exact r2
  have l3:=ldN p3 hzl
  obtain⟨H3,hH3⟩:∃H3,H3=Xd H2 nx (.cells Bu (zs.map .t)):=⟨_,rfl⟩
  rw[<-hH3]at s3 K3 p3 r3 l3
  have zag2:Ah (orc []) H2 (nx+1+1) (.build [(0,1),(1,1),(2,1),(3,1)] [.int .i64 0,.string ⟨#[]⟩,.slice none 0 0,.slice none 0 0] []) []=some (.t (.ag zs),H2,nx+1+1):=by rw[hzs];rfl
  refine Ai dD ?_;simp -implicitDefEqProofs [Tb,L1.l0,L1.l1,gr,st'];refine Ai Af ?_;simp -implicitDefEqProofs [hb,zag2,s3,-AF];exact A6 ⟨.t (.tu [.ag zs,iv e]),H3,nx+2⟩ ⟨⟨_,e,i,rfl,r3,hi,⟨zDs,by rw[hzs];rfl⟩,.inr ⟨rfl,he⟩⟩,K3⟩ (by simp -implicitDefEqProofs [l3])
 | ok x=>
  obtain⟨d,p⟩:=x;have hp:=D2 (l:=l.map kt) 64 i d p hd;rw[Xb]at hp;rw[hd]at gr;have gr:FQ [t,iv (i:Int)]=some (.tu [.ag (A4 d),iv (p:Int),iv 0]):=gr;have hdl:=Gf d
  obtain⟨ds,hds⟩:∃ds,ds=A4 d:=⟨_,rfl⟩
  rw[<-hds]at gr hdl;have st':A8 4 ((nx+1,.cells Bu [.t (iv 0),.t (sv ⟨#[]⟩),.t Ad,.t Ad])::H1) (.ptr (nx+1) 0) (.t (.ag ds))=some ((nx+1,.cells Bu (ds.map .t))::H1):=Fg rfl hdl H1
  obtain⟨H2,hH2⟩:∃H2:Ab,H2=(nx+1,.cells Bu (ds.map .t))::H1:=⟨_,rfl⟩
  rw[<-hH2]at st'
  have p2:Aa H2 nx=some (.cells Bu (zs.map .t)):=by rw[hH2,A1,zz (by omega)];exact p1
  have o2:Aa H2 (nx+1)=some (.cells Bu (ds.map .t)):=by rw[hH2,A1,zy rfl]
  have r2:Aa H2 k0=some (rr t i):=by rw[hH2,A1,zz (by omega)];exact r1
  have K2:Kr k0 H nx H2 (nx+2):=by rw[hH2];exact K1.cons (ClR.trees _ _ _)
  have s3:=SV r2 p;have r3:=J9 r2 p;have K3:=K2.upd (.inl rfl) (Hs (nx+2) t p)
  have p3:Aa (Xd H2 k0 (rr t p)) nx=some (.cells Bu (zs.map .t)):=by rw[A9,zz (by omega)];exact p2
  have o3:Aa (Xd H2 k0 (rr t p)) (nx+1)=some (.cells Bu (ds.map .t)):=by rw[A9,zz (by omega)];exact o2
  obtain⟨H3,hH3⟩:∃H3,H3=Xd H2 k0 (rr t p):=⟨_,rfl⟩
  rw[<-hH3]at s3 r3 K3 p3 o3;have l3:=ldN o3 hdl;have s4:=Hu (ds:=ds) p3 hzl hdl;have K4:=K3.upd (b:=nx) (.inr (Xf _)) (ClR.trees _ Bu ds)
  have p4:Aa (Xd H3 nx (.cells Bu (ds.map .t))) nx=some (.cells Bu (ds.map .t)):=by rw[A9,zy rfl,p3];rfl
  have r4:Aa (Xd H3 nx (.cells Bu (ds.map .t))) k0=some (rr t p):=by rw[A9,zz (by omega)];exact r3
  have l4:=ldN p4 hdl
  obtain⟨H4,hH4⟩:∃H4,H4=Xd H3 nx (.cells Bu (ds.map .t)):=⟨_,rfl⟩
  rw[<-hH4]at s4 K4 p4 r4 l4;refine Ai dD ?_;simp -implicitDefEqProofs [Tb,L1.l0,L1.l1,gr,st'];refine Ai Af ?_;simp -implicitDefEqProofs;refine Ai Af ?_;simp -implicitDefEqProofs [s3];refine A7 Af ?_;simp -implicitDefEqProofs [l3,s4];exact A6 ⟨.t (.tu [.ag ds,iv 0]),H4,nx+2⟩ ⟨⟨_,0,p,rfl,r4,hp.2,⟨d,by rw[hds]⟩,.inl ⟨d,rfl,by rw[hds],rfl⟩⟩,K4⟩ (by simp -implicitDefEqProofs [l4])
end
def DM {α:Type} (one:α->Int):List α->Int
 | []=>0
 | x::r=>if one x≠0 then one x else DM one r
inductive NY:Ds->Prop where
 | mk (op:Int) (name:ByteArray) (path:List ByteArray) (kids:List Ds):name.size<=1000000->path.length<=1000->(∀s∈path,s.size<=1000000)->kids.length<=1000->(∀k∈kids,NY k)->NY (.mk op name path kids)
theorem NY.fine:∀{d:Ds},NY d->Eu d:=λh=>by
 induction h with
 | mk op name path kids h1 h2 h3 h4 h5 ih=>exact .mk op name path kids h2 h4 ih
theorem Small.sized:∀{d:Ds},Small d->NY d:=λh=>by
 induction h with
 | mk op name path kids h1 h2 h3 h4 h5 ih=>exact .mk op name path kids (by omega) (by omega) (λs hs=>by have:=h3 s hs;omega) (by omega) ih
def F5:List ByteArray->List UInt8
 | []=>[]
 | s::r=>s.data.toList++(match r with | []=>[] | _::_=>46::F5 r)
def Qe {α β:Type} (sep last:List α) (r:List β):List α:=match r with
 | []=>[]
 | [_]=>last
 | _::_::_=>sep
mutual
def wrD:Ds->List UInt8
 | .mk op name path kids=>
  if op=1 then name.data.toList
  else if op=2 then 64::name.data.toList
  else if op=3 then 35::name.data.toList
  else if op=4 then wrL [32,38,32] [32,38,32] kids
  else if op=5 then 91::(F5 path++32::(wrL [] [] kids++[93]))
  else if op=6 then 60::(wrL [44,32] [44,32] kids++[62])
  else if op=7 then 60::(wrL [44,32] [32,124,32] kids++[62])
  else if kids.length=0 then [60,33,32,33,62]
  else 60::33::32::(wrL [44,32] [44,32] kids++[32,33,62])
def wrL (sep last:List UInt8):List Ds->List UInt8
 | []=>[]
 | d::r=>wrD d++(Qe sep last r++wrL sep last r)
end
theorem A1d {big:Bool} {s:ByteArray} (h:Be big s=true):∃c r,s.data.toList=c::r/\s.size<=32/\AQ c=false/\c.toNat≠45/\(c::r).all (CJ big)=true:=by
 unfold Be at h;split at h
 .cases h
 .rename_i c r hs;simp only[Xs,Bool.not_eq_true',decide_eq_true_eq,decide_eq_false_iff_not]at h;exact⟨c,r,hs,h.1.1.1,h.1.1.2,h.1.2,h.2⟩
theorem A1e {op:Int} {name:ByteArray} {path:List ByteArray} {kids:List Ds} {lv:Nat} (h:Cg (.mk op name path kids) lv=0) :
  lv<=64/\path.length<=64/\kids.length<=256/\1<=op/\op<=8/\Ju op name path kids=true/\FL kids (if op=4 then lv else lv+1)=0:=by
 rw[Cg]at h;split at h
 .cases h
 .rename_i h1;split at h
  .rename_i h2;exact absurd h h2
  .rename_i h2
   have h2':Gj op name path kids=0:=by simpa using h2
   unfold Gj at h2';split at h2'
   .cases h2'
   .rename_i h3;split at h2'
    .rename_i h4;refine⟨by omega,by omega,by omega,by omega,by omega,h4,h⟩
    .cases h2'
theorem A1f {d:Ds} {r:List Ds} {lv:Nat} (h:FL (d::r) lv=0):Cg d lv=0/\FL r lv=0:=by
 rw[FL]at h;split at h
 .rename_i h1;exact absurd h h1
 .rename_i h1;exact⟨by simpa using h1,h⟩
theorem A1g {op:Int} {name:ByteArray} {path:List ByteArray} {kids:List Ds} (h:Ju op name path kids=true) :
  (if LY op then Be false name=true else name.size=0)/\(op=5 ↔ 0<path.length)/\path.all (Be true)=true/\LZ op kids=true:=by
 unfold Ju at h;simp only[Xs,beq_iff_eq,decide_eq_decide]at h;obtain⟨⟨⟨h1,h2⟩,h3⟩,h4⟩:=h;refine⟨?_,h2,h3,h4⟩;split at h1
 .rename_i h5;rw[zy h5];exact h1
 .rename_i h5;rw[zz h5];simpa using h1
section
variable {l : List KT}
theorem Tc:∀{r:List Ds} {lv:Nat},(∀k∈r,Cg k lv=0)->FL r lv=0
 | [],lv,_=>by rw[FL]
 | d::r,lv,h=>by
  rw[FL,zz (by simpa using h d (by simp))];exact Tc λk hk=>h k (by simp[hk])
end
theorem A1h {c:List T} {d:Ds} (hd:Cm d c):AA Xa (G q) 159 [.ag c] (· = bv (decide (d.op=4))):=by
 cases d with
 | mk op name path kids=>
  obtain⟨tp,tk,rfl,hp,hk⟩:=hd.parts;have:(op==4)=decide (op=4):=rfl;refine oX.call rfl ?_;refine Aw BN ?_
  (conv in VM=>cbv);simp -implicitDefEqProofs [aL,dl0,this,Ds.op]
  exact decide_eq_decide.2 Iff.rfl
noncomputable def gF1 (ts:List T):Option T:=g1 tD (λd=>some (bv (decide (d.op=4)))) ts
theorem hF1:GOK Xa (G q) 159 gF1:=GX λa x r ha hr=>by
 injection hr with hr;subst hr;obtain⟨c,rfl,hd⟩:=ha;exact A1h hd
def gTn (ts:List T):Option T:=match ts with
 | [.v (.string s)]=>if s.size<=lim then some (bv (Be false s))else none
 | _=>none
def gTf (ts:List T):Option T:=match ts with
 | [.v (.string s)]=>if s.size<=lim then some (bv (Be true s))else none
 | _=>none
theorem hTn:GOK Xa (G q) 64 gTn:=λargs r h=>by
 unfold gTn at h;split at h
 .split at h
  .injection h with h;subst h;exact sH _ (by assumption)
  .cases h
 .cases h
theorem hTf:GOK Xa (G q) 105 gTf:=λargs r h=>by
 unfold gTf at h;split at h
 .split at h
  .injection h with h;subst h;exact sI _ (by assumption)
  .cases h
 .cases h
theorem A1i {s:ByteArray} (h:s.size<=1000000):gTf [sv s]=some (bv (Be true s)):=zy (by show s.size<=lim;unfold lim;omega)
theorem Td {s:ByteArray} (h:s.size<=1000000):gTn [sv s]=some (bv (Be false s)):=zy (by show s.size<=lim;unfold lim;omega)
def Te (s:ByteArray):Bool:=!Be true s
theorem A1j {s:ByteArray} (hs:s.size<=1000000):AA Xa (G q) 161 [sv s] (· = bv (Te s)):=by
 have C:=(A5.cons (hTf (q:=q)) .nil).ctx mixed;have hg:=A1i hs;refine oY.call rfl ?_;refine Aw C ?_
 (conv in VN=>cbv);simp -implicitDefEqProofs [hg]
 unfold Te;simp
def gF2 (ts:List T):Option T:=match ts with
 | [.v (.string s)]=>if s.size<=1000000 then some (bv (Te s))else none
 | _=>none
theorem hF2:GOK Xa (G q) 161 gF2:=λargs r h=>by
 unfold gF2 at h;split at h
 .split at h
  .injection h with h;subst h;exact A1j (by assumption)
  .cases h
 .cases h
def Hv (s:ByteArray):Int:=if Be false s then 0 else 1
def JB (s:ByteArray):Int:=if Be true s then 0 else 1
def NZ (p:List ByteArray):Int:=if p=[]then 1 else if 64<p.length then 7 else DM JB p
def JC (p:ByteArray×ByteArray):Int:=if Be true p.1&&Be false p.2 then 0 else 1
def Oa (x:TyD):Int:=if Be false x.name=false then 1 else if 256<x.supers.length\/256<x.feats.length then 7 else if DM Hv x.supers≠0 then 1 else DM JC x.feats
theorem ldS (H:Ab) (a:T) (r:List T):Ao false 1 H (.t (.pt (a::r)))=some (.t a):=rfl
def Ms (c:UInt8):Bool:=decide (32<=c.toNat/\c.toNat<=126/\c.toNat≠34)
def KQ (s:ByteArray):Bool:=s.data.toList.all Ms
end Go.Proofs.YtobnacghaamfoaaGreatDoor
