/-
 Auxiliary facts. No statement of the program stands here.
-/
import Derived.Test.YtbiadmfmjnoecaaVAQ39
import Derived.Test.YtbiadmfmjnoecaaVAQ30
import Derived.Test.YtbiadmfmjnoecaaVAQ37
import Derived.Test.YtbiadmfmjnoecaaVAQ31
import Derived.Test.YtbiadmfmjnoecaaVAQ33
import Derived.Test.YtbiadmfmjnoecaaVAQ14
import Derived.Test.YtbiadmfmjnoecaaVAQ12
import Derived.Test.YtbiadmfmjnoecaaVAQ35
import Derived.Test.YtbiadmfmjnoecaaVAQ32
namespace Go.Proofs.Ytbiadmfmjnoecaa
set_option linter.unusedSimpArgs false
set_option linter.unusedVariables false
open Go Go.Abs
theorem G0i:GOK Try.prog G 35 gGen:=F9w G0h
noncomputable def ta13:Tbl:=[(35,gGen)]
theorem ca13:Ctx Try.prog G (orc ta13):=(A1o.cons G0i .nil).ctx A1w
def SA38 (tt tf tl:T) (u:Nat->T) (i:Nat):A0b:=
 ⟨[(7,.t (iv ((i+1:Nat):Int))),(6,.ptr 2 0),(4,.ptr 1 0),(2,.ptr 0 0),(1,.t tl)],[(2,.cells 25 [.t (u i)]),(1,.cells 25 [.t nilS]),(0,.cells 29 [.t tt,.t tf])],3,29⟩
theorem G0j {tt tf tl:T} {h:List Typ×List Ft} {l:List FSv} (hT:IsS eTyp tt h.1) (hF:IsS eFt tf h.2) (ht:IsS eFS tl l) (ha:APre h l):A0y Try.prog G 38 [.ag [tt,tf],tl] (· = allT h l):=by
 have h3:=ha.2.2.1
 have cph:A0q (.t (.ag [tt,tf]))=some [.t tt,.t tf]:=rfl
 have cpa:∀x:T,A0q (.t (.ag [x]))=some [.t x]:=fun _=>rfl
 have agh:agOf [.t tt,.t tf] = .t (.ag [tt,tf]):=rfl
 have aga:∀x:T,agOf [.t x] = .t (.ag [x]):=fun _=>rfl
 have lt1:∀(H:Heap) c cs,A0f true 1 H (.t (.pt (c::cs)))=some (.t (.ag [c])):=fun _ _ _=>rfl
 refine E1s.call rfl ?_
 unfold D0q
 refine A0a ca13 ?_
 simp -implicitDefEqProofs [cph]
 cases hl0:l.length with
 | zero=>
  have hres:allT h l = .tu [.ag [nilS],bv false]:=by
   have:l=[]:=List.eq_nil_of_length_eq_zero hl0
   rw[this]
   rfl
  have e0:A6q (.t tl)=some (.t (iv 0)):=by rw[ht.len,hl0];rfl
  have bdE:∀{Φ:A1f} {H:Heap} {nx:Nat},A0l Φ H nx (.build [(0,1)] [.slice none 0 0] []) []=some (.t (.ag [nilS]),H,nx):=rfl
  refine A0c ca13 ?_
  simp -implicitDefEqProofs [e0,-evalK_build,bdE,cpa,A0v,A1h,A0f,aga,hres]
 | succ n=>
  obtain⟨x,hx⟩:∃x,l[0]?=some x:=⟨_,List.getElem?_eq_getElem (by omega)⟩
  have i0:A2j 1 (.t tl) (.t (.v (.int .i64 0)))=some (.t (.pt (x.tree::rest eFS l 0))):=D6r ht hx
  have hpos:=(ha.2.2.2 x (List.mem_of_getElem? hx)).1.form.pos
  have hxt:x.tree=A0m eNd (outL h l 0):=by
   have:outL h l 0=x.nodes:=by
    unfold outL
    cases l with
    | nil=>simp at hl0
    | cons z r=>
     simp at hx
     subst hx
     rfl
   rw[this]
   exact F9z x.ok hpos
  have e1:A6q (.t tl)=some (.t (iv ((n+1:Nat):Int))):=by rw[ht.len,hl0]
  have hne:¬((n:Int)+1=0):=by omega
  refine A0a ca13 ?_
  simp -implicitDefEqProofs [e1,hne]
  refine A0a ca13 ?_
  simp -implicitDefEqProofs [i0,lt1,cpa,A0v,A1h]
  refine A0r (fun _:Unit=>SA38 tt tf tl (fun i=>A0m eNd (outL h l i)) n) (fun _=>True) (fun _=>rfl) ?_ ?_
  ·refine A0a ca13 ?_
   simp -implicitDefEqProofs
   refine A0h ?_
   refine A1a (SA38 tt tf tl (fun i=>A0m eNd (outL h l i))) n (fun _=>rfl) ?_ rfl ?_ ?_
   ·refine A0d rfl rfl ?_ ?_<;>simp -implicitDefEqProofs [SA38,hxt]
   ·intro i hi
    obtain⟨y,hy⟩:∃y,l[i+1]?=some y:=⟨_,List.getElem?_eq_getElem (by omega)⟩
    have iy:=D6r ht hy
    obtain⟨v1,v2⟩:=ha.2.2.2 y (List.mem_of_getElem? hy)
    obtain⟨o1,o2,o3⟩:=F9y ha (i:=i) (by omega)
    have gg:gGen [.ag [tt,tf],.ag [A0m eNd (outL h l i)],.ag [y.tree]]=some (.ag [A0m eNd (outL h l (i+1))]):=by
     rw[E8o hy]
     exact B3p hT hF (IsS.tree _ _) y.ok ⟨ha.1,⟨o1,v1⟩,⟨o2,B9s v1 (fun x hx=>v1.asc hx) ha.2.1⟩,Nat.le_trans (Nat.mul_le_mul o3 v2) (by omega)⟩
    have e2:IntKind.i64.wrap (((i+1:Nat):Int)+1)=((i+1+1:Nat):Int):=A0k (by omega) (by omega)
    have hlt:((i+1:Nat):Int)<(n:Int)+1:=by omega
    obtain⟨k,hk⟩:∃k,k=i+1:=⟨_,rfl⟩
    rw[<-hk]at iy e2 hlt
    have hk2:IntKind.i64.wrap ((k:Int)+1)=((k+1:Nat):Int):=e2
    refine A0c ca13 ?_
    unfold SA38
    rw[<-hk]
    simp -implicitDefEqProofs [e1,hlt,iy,lt1,cpa,A0v,A1h,A0f,agh,aga,ta13,gg,hk2]
    refine C4d (by omega) ?_ ?_<;>simp -implicitDefEqProofs [A1b,A2c,under,hk]
   ·refine A0c ca13 ?_
    simp -implicitDefEqProofs [SA38,e1]
    exact Next.mk () trivial (A3e (by simp -implicitDefEqProofs))
  ·rintro _ _
   have hres:allT h l = .tu [.ag [A0m eNd (outL h l n)],bv true]:=by
    unfold allT outL
    rw[<-hl0,List.take_length,decide_eq_true (by omega)]
   refine A0c ca13 ?_
   simp -implicitDefEqProofs [SA38,A0f,aga,cpa,A0v,A1h,hres]
theorem G8q:GOK Try.prog G 38 gAll:=G0a G0j
end Go.Proofs.Ytbiadmfmjnoecaa
namespace Go.Abs
set_option linter.unusedSimpArgs false
set_option linter.unusedVariables false
open Go
section
variable {P : Program} {G : A1j} {B N : Nat} {Φ : A1f}
theorem E1y (hmix:P.follows .mixedOrders=true) (hΦ:Φ.Sound P G) {Q:Exit->A0b->Prop} {s:A0b} {id:Nat} {ops:Array Oper} {l:List Mini} (ha0:ops.toList.mapM (A4c P G N true ops)=some l)
  (can:(Nat->Bool)->A0b) (Ok:(Nat->Bool)->Prop) (hn:∀b,(can b).n=N)
  (back:∀(i:Nat) o,ops[i]?=some o->∀e∈o.after.toList,Region.binds .any e=true->e.on<i)
  (h0:Sub P G B s (can fun _=>false)) (ok0:Ok fun _=>false)
  (step:∀b,Ok b->∀(i:Nat) o m,ops[i]?=some o->l[i]?=some m->b i=false->(∀e∈o.after.toList,Region.binds .any e=true->b e.on=true) ->
   m.g=none/\∃r H' nx',A0l Φ (can b).H (can b).nx m.k (m.xs.map (·.ev (can b).env))=some (r,H',nx')/\Ok (fun j=>if i=j then true else b j) /\
    Sub P G B (({ can b with H:=H',nx:=nx' }:A0b).put m.dst r) (can fun j=>if i=j then true else b j))
  (stop:∀b,Ok b->(∀i,i<ops.size->b i=true)->Q .normal (can b)):A5m P G B (.region id ops true) Q s:=by
 intro L0 a0 w0 hi0
 have ha:=A5t ha0
 refine wp_region_any hmix ?_
 have main:∀(fuel:Nat) (S:Array Bool) (L:Loc) (a:Act) (w:World),S.size=ops.size->ops.size<=cnt S+fuel->Ok (fun i=>S.getD i false)->Interp P G B L (can fun i=>S.getD i false) a w ->
   Ext L0 s.H w0 L (can fun i=>S.getD i false).H w->(∀b,b<B->L.μ b=L0.μ b)->wpAny P .any ops (Post P G B Q L0 s.H w0) fuel S a w:=by
  intro fuel
  induction fuel with
  | zero=>
   intro S L a w hs hc hok hi hx hμ
   have hall:=E5r (S:=S) (by omega)
   refine⟨?_,_,L,stop _ hok (fun i hi=>hall i (by omega)),hi,hx,hμ⟩
   rw[List.eq_nil_iff_forall_not_mem]
   intro i hi
   obtain⟨h1,h2,_⟩:=B6e hi
   rw[B1h (by omega),hall i (by omega)]at h2
   cases h2
  | succ fuel ih=>
   intro S L a w hs hc hok hi hx hμ
   refine⟨fun hr=>⟨_,L,stop _ hok (fun i=>?_),hi,hx,hμ⟩,fun i hir=>?_⟩
   ·induction i using Nat.strongRecOn with
    | _ i ihi=>
     intro hil
     cases hS':S.getD i false with
     | true=>rfl
     | false=>
      exfalso
      have:i∈Region.ready .any ops S:=E5q (o:=ops[i]) (Array.getElem?_eq_getElem hil) (by rw[B1h (by omega)];exact hS')
       (fun e he hb=>by
        have:=back i _ (Array.getElem?_eq_getElem hil) e he hb
        exact ihi _ this (by omega))
      rw[hr]at this
      cases this
   ·obtain⟨hi1,hun,o,ho,hp⟩:=B6e hir
    rw[B1h (by omega)]at hun
    obtain⟨m,hm,hcomp⟩:=(ha.at_ i).1 o (by simpa using ho)
    obtain⟨hk,hdst,hd,hw⟩:=A8r hcomp
    obtain⟨hg,r,H',nx',he,hok',hsub⟩:=step _ hok i o m ho hm hun hp
    have hww:(can fun i=>S.getD i false).wants ops o=some true:=by rw[hw];simp[Mini.wants,hg]
    have hd':∀k,o.dst=some k->k<(can fun i=>S.getD i false).n:=fun k hk=>by rw[hn];exact hd k hk
    have hset:(fun j=>(S.setIfInBounds i true).getD j false)=fun j=>if i=j then true else S.getD j false:=by
     funext j
     exact A5u S i j (by omega)
    have hc':ops.size<=cnt (S.setIfInBounds i true)+fuel:=by rw[F4g (by omega) hun];omega
    unfold wpOp
    rw[ho]
    simp only
    rw[if_pos (hi.wants hww)]
    refine .inl (A3k ?_ (fun _ _ _ h=>h.elim) (C2n hΦ hk he L a w hi))
    rintro a' w' ⟨v,L',rfl,hr,hheap,rfl,hmo,hxx⟩
    have hi':=C2i hi hd' hr hheap hmo
    rw[<-hdst]at hi'
    obtain⟨L2,hi2,hx2,hμ2⟩:=hsub L' _ w' hi'
    rw[B9v]at hx2
    rw[hdst]at hi2
    refine ih _ L2 _ w' (by simpa using hs) hc' (by rw[hset];exact hok') (by rw[hset];exact hi2) (by rw[hset];exact(hx.trans hxx).trans hx2) (fun b hb=>?_)
    rw[hμ2 b hb,hmo.μ b (Nat.lt_of_lt_of_le hb hi.base),hμ b hb]
 obtain⟨hok,hm,hx⟩:=hi0.heap.of_heap (w':={ w0 with drawn:=w0.drawn+1 }) ⟨rfl,rfl,rfl⟩ rfl
 have hi0':Interp P G B L0 s a0 { w0 with drawn:=w0.drawn+1 }:=⟨hok,hi0.nx,hi0.base,hi0.size,hi0.defers,fun k u hu=>RepV.keep hm u (hi0.env k u hu)⟩
 obtain⟨L1,hi1,hx1,hμ1⟩:=h0 L0 a0 _ hi0'
 have hfalse:(fun i=>(Array.replicate ops.size false).getD i false)=fun _:Nat=>false:=by
  funext i
  simp only[Array.getD_eq_getD_getElem?,Array.getElem?_replicate]
  split<;>rfl
 refine main ops.size _ L1 a0 _ (by simp) (by omega) (by rw[hfalse];exact ok0) (by rw[hfalse];exact hi1) (by rw[hfalse];exact hx.trans hx1) hμ1
end
end Go.Abs
namespace Go.Proofs.Ytbiadmfmjnoecaa
set_option linter.unusedSimpArgs false
set_option linter.unusedVariables false
open Go Go.Abs
set_option maxRecDepth 100000
noncomputable def b63:Code:=match Try.f63.body with
 | some c=>c
 | none=>.skip
def H0s:Code->Code
 | .seq x _=>x
 | c=>c
def G8r:Code->Code
 | .seq _ y=>y
 | c=>c
def opsC:Code->Array Oper
 | .region _ ops _=>ops
 | _=>#[]
noncomputable def c63a:Code:=H0s b63
noncomputable def o63:Array Oper:=opsC (H0s (G8r b63))
noncomputable def c63b:Code:=G8r (G8r b63)
theorem G5b:Try.f63.body=some b63:=by kernel_rfl
theorem H0t:b63 = .seq c63a (.seq (.region 1 o63 true) c63b):=by kernel_rfl
def M63a:A0s:=(.ops [⟨(some 1),(.box 25),[(.tmp 0)],none⟩,⟨(some 2),.mv,[(.k (.t (.v (.bool false))))],none⟩])
def M63b:A0s:=(.seq (.ops [⟨(some 5),(.alloc 133 [.nilFunc]),[],none⟩]) (.seq (.ops [⟨(some 15),(.ex (.mkf (.func 86) 0)),[(.tmp 3),(.tmp 1),(.tmp 4),(.tmp 5)],none⟩,⟨none,(.store 1),[(.tmp 5),(.tmp 15)],none⟩]) (.seq (.seq (.ops [⟨(some 16),(.faddr 0),[(.tmp 1)],none⟩,⟨(some 17),(.load false 1),[(.tmp 16)],none⟩,⟨(some 18),.lensl,[(.tmp 17)],none⟩,⟨(some 19),.mv,[(.k (.t (.v (.int .i64 0))))],none⟩]) (.block 0 (.loop (.seq (.ops [⟨(some 20),(.bin false .lss none),[(.tmp 19),(.tmp 18)],none⟩]) (.seq (.cond (.tmp 20) .skip (.exit 0)) (.seq (.block 1 (.seq (.ops [⟨(some 21),.mv,[(.tmp 19)],none⟩,⟨(some 6),.mv,[(.tmp 21)],none⟩]) (.seq (.ops [⟨(some 22),(.load false 1),[(.tmp 4)],none⟩,⟨(some 23),.mv,[(.tmp 6)],none⟩,⟨(some 24),(.iaddr 1),[(.tmp 22),(.tmp 23)],none⟩,⟨(some 25),(.load false 1),[(.tmp 24)],none⟩,⟨(some 26),(.un .not),[(.tmp 25)],none⟩,⟨(some 27),.mv,[(.tmp 26)],none⟩,⟨(some 28),(.load false 1),[(.tmp 5)],(some (27,true))⟩,⟨(some 29),.mv,[(.tmp 6)],(some (27,true))⟩,⟨(some 30),.callv,[(.tmp 28),(.tmp 29)],(some (27,true))⟩,⟨(some 31),.pick,[(.tmp 27),(.tmp 30),(.k (.t (.v (.bool false))))],none⟩]) (.cond (.tmp 31) (.seq (.ops [⟨(some 2),.mv,[(.k (.t (.v (.bool true))))],none⟩]) .ret) .skip)))) (.ops [⟨(some 32),(.bin false .add none),[(.tmp 19),(.k (.t (.v (.int .i64 1))))],none⟩,⟨(some 19),.mv,[(.tmp 32)],none⟩]))))))) (.seq (.ops [⟨(some 2),.mv,[(.k (.t (.v (.bool false))))],none⟩]) .ret))))
def l63:List Mini:=[⟨(some 7),(.faddr 0),[(.tmp 1)],none⟩,⟨(some 8),(.load false 1),[(.tmp 7)],none⟩,⟨(some 9),.lensl,[(.tmp 8)],none⟩,⟨(some 10),(.make 4 1 1 [(.bool false)]),[(.tmp 9),(.tmp 9)],none⟩,⟨(some 11),(.faddr 0),[(.tmp 1)],none⟩,⟨(some 12),(.load false 1),[(.tmp 11)],none⟩,⟨(some 13),.lensl,[(.tmp 12)],none⟩,⟨(some 14),(.make 4 1 1 [(.bool false)]),[(.tmp 13),(.tmp 13)],none⟩,⟨(some 3),(.alloc 132 [(.slice none 0 0)]),[],none⟩,⟨(some 4),(.alloc 132 [(.slice none 0 0)]),[],none⟩,⟨none,(.store 1),[(.tmp 3),(.tmp 10)],none⟩,⟨none,(.store 1),[(.tmp 4),(.tmp 14)],none⟩]
theorem G8s:comp Try.prog G 33 c63a=some M63a:=by kernel_rfl
theorem G8t:comp Try.prog G 33 c63b=some M63b:=by kernel_rfl
theorem H0u:o63.toList.mapM (A4c Try.prog G 33 true o63)=some l63:=by kernel_rfl
def H0v (ops:Array Oper) (dp:List (List Nat)):Bool:=(List.range ops.size).all fun i=>(dp.getD i []).all fun d=>match ops[i]? with
 | some o=>o.after.toList.any fun e=>e.on==d&&Region.binds .any e
 | none=>false
def H0w (ops:Array Oper):Bool:=(List.range ops.size).all fun i=>match ops[i]? with
 | some o=>o.after.toList.all fun e=>!(Region.binds .any e)||decide (e.on<i)
 | none=>false
def dp63:List (List Nat):=[[],[0],[1],[2],[],[4],[5],[6],[],[],[3,8,9],[7,9,10]]
theorem G8u:H0v o63 dp63=true:=by kernel_rfl
theorem G0k:H0w o63=true:=by kernel_rfl
theorem H0x:o63.size=12:=by kernel_rfl
theorem G8v {ops:Array Oper} {dp:List (List Nat)} (h:H0v ops dp=true) {i:Nat} {o:Oper} (ho:ops[i]?=some o) {b:Nat->Bool} (hb:∀e∈o.after.toList,Region.binds .any e=true->b e.on=true):∀d∈dp.getD i [],b d=true:=by
 intro d hd
 have hi:i<ops.size:=(Array.getElem?_eq_some_iff.1 ho).1
 have h1:=List.all_eq_true.1 h i (List.mem_range.2 hi)
 have h2:=List.all_eq_true.1 h1 d hd
 rw[ho]at h2
 obtain⟨e,he,h3⟩:=List.any_eq_true.1 h2
 simp only[Bool.and_eq_true,beq_iff_eq]at h3
 rw[<-h3.1]
 exact hb e he h3.2
theorem G8w {ops:Array Oper} (h:H0w ops=true) (i:Nat) (o:Oper) (ho:ops[i]?=some o):∀e∈o.after.toList,Region.binds .any e=true->e.on<i:=by
 intro e he hb
 have hi:i<ops.size:=(Array.getElem?_eq_some_iff.1 ho).1
 have h1:=List.all_eq_true.1 h i (List.mem_range.2 hi)
 rw[ho]at h1
 have h2:=List.all_eq_true.1 h1 e he
 rw[hb]at h2
 simpa using h2
def z63:Row:=.cells 4 [.t (bv false),.t (bv false),.t (bv false),.t (bv false),.t (bv false),.t (bv false)]
def e63 (t:T) (b:Nat->Bool):List (Nat×PV):=
 [(7,if b 0 then .ptr 0 0 else .dead),(8,if b 1 then .t t else .dead),(9,if b 2 then .t (iv 6)else .dead),(10,if b 3 then .row 1 0 6 1 else .dead),
  (11,if b 4 then .ptr 0 0 else .dead),(12,if b 5 then .t t else .dead),(13,if b 6 then .t (iv 6)else .dead),(14,if b 7 then .row 2 0 6 1 else .dead),
  (3,if b 8 then .ptr 3 0 else .dead),(4,if b 9 then .ptr 4 0 else .dead),(2,.t (bv false)),(1,.ptr 0 0)]
def r63 (c:Bool) (k:Nat):Row:=.cells 132 [if c then .row k 0 6 1 else .t nilS]
def h63 (t:T) (b:Nat->Bool):Heap:=(0,fsR t)::((if b 3 then [(1,z63)]else [])++((if b 7 then [(2,z63)]else [])++((if b 8 then [(3,r63 (b 10) 1)]else [])++(if b 9 then [(4,r63 (b 11) 2)]else []))))
def s63 (t:T) (b:Nat->Bool):A0b:=⟨e63 t b,h63 t b,5,33⟩
structure Ok63 (b:Nat->Bool):Prop where
 a:b 10=true->b 3=true/\b 8=true
 c:b 11=true->b 7=true/\b 9=true
theorem E8r (t:T) (b:Nat->Bool):Abs.look (h63 t b) 0=some (fsR t)/\(b 3=true->Abs.look (h63 t b) 1=some z63)/\(b 7=true->Abs.look (h63 t b) 2=some z63)/\(b 8=true->Abs.look (h63 t b) 3=some (r63 (b 10) 1))/\(b 9=true->Abs.look (h63 t b) 4=some (r63 (b 11) 2)):=by
 unfold h63
 refine⟨rfl,fun h=>?_,fun h=>?_,fun h=>?_,fun h=>?_⟩
 ·rw[h];rfl
 ·rw[h];cases b 3<;>rfl
 ·rw[h];cases b 3<;>cases b 7<;>rfl
 ·rw[h];cases b 3<;>cases b 7<;>cases b 8<;>rfl
theorem G8x {t:T} {b:Nat->Bool} {q:Nat×Row} (h:q∈h63 t b):q=(0,fsR t)\/(b 3=true/\q=(1,z63))\/(b 7=true/\q=(2,z63))\/(b 8=true/\q=(3,r63 (b 10) 1))\/(b 9=true/\q=(4,r63 (b 11) 2)):=by
 unfold h63 at h
 have one:∀{c:Bool} {x:Nat×Row},q∈(if c then [x]else [])->c=true/\q=x:=fun {c x} h=>by
  cases c with
  | false=>simp at h
  | true=>exact⟨rfl,by simpa using h⟩
 rcases List.mem_cons.1 h with h | h
 ·exact .inl h
 ·rcases List.mem_append.1 h with h | h
  ·exact .inr (.inl (one h))
  ·rcases List.mem_append.1 h with h | h
   ·exact .inr (.inr (.inl (one h)))
   ·rcases List.mem_append.1 h with h | h
    ·exact .inr (.inr (.inr (.inl (one h))))
    ·exact .inr (.inr (.inr (.inr (one h))))
theorem E8s (σ:Nat->Nat) (c:Bool) (p:PV):ren σ (if c then p else .dead)=if c then ren σ p else .dead:=by cases c<;>rfl
theorem C6p (n:Nat) (c:Bool) (p:PV):under n (if c then p else .dead)=if c then under n p else true:=by cases c<;>rfl
theorem sub63 {t:T} {b b':Nat->Bool} {d k:Nat} {v:PV} {row:Row} (hk:1<=k/\k<=4) (h0:Abs.look (h63 t b) k=none\/True)
  (hrow:∀q∈h63 t b',q.1=k->A1v (fun x=>if x=k then 5 else x) q.2=row) (hsame:∀q∈h63 t b',q.1≠k->A1v (fun x=>if x=k then 5 else x) q.2=q.2/\Abs.look (h63 t b) q.1=some q.2) (hund:∀q∈h63 t b',q.1<5/\A1b 5 q.2=true)
  (he:∀q∈e63 t b',Abs.look ((d,v)::e63 t b) q.1=some (ren (fun x=>if x=k then 5 else x) q.2)/\under 5 q.2=true) :
  Sub Try.prog G 0 ⟨(d,v)::e63 t b,(5,row)::h63 t b,6,33⟩ (s63 t b'):=by
 refine B2k (fun x=>if x=k then 5 else x) rfl (Nat.zero_le _) (fun x hx=>by omega) he (fun q hq=>?_) (fun q hq q' hq' e=>?_)
 ·refine⟨?_,hund q hq⟩
  show Abs.look ((5,row)::h63 t b) (if q.1=k then 5 else q.1)=_
  by_cases e:q.1=k
  ·rw[if_pos e,look_cons,if_pos rfl,hrow q hq e]
  ·rw[if_neg e,look_cons,if_neg (by have:=(hund q hq).1;omega),(hsame q hq e).1]
   exact(hsame q hq e).2
 ·have h1:=(hund q hq).1
  have h2:=(hund q' hq').1
  have e:(if q.1=k then 5 else q.1)=(if q'.1=k then 5 else q'.1):=e
  split at e<;>split at e<;>omega
section
variable {t : T} {b : Nat -> Bool} {Φ : A1f}
def plus (b:Nat->Bool) (i:Nat):Nat->Bool:=fun j=>if i=j then true else b j
theorem ld63:A0f false 1 (h63 t b) (.ptr 0 0)=some (.t t):=by simp[A0f,(E8r t b).1,fsR]
theorem mk63:C5t 4 1 1 [.bool false] (.t (iv 6)) (.t (iv 6)) 5=some (.row 5 0 6 1,z63):=rfl
theorem D4i {i d:Nat} {v:PV} (hh:h63 t (plus b i)=h63 t b) (he:∀q∈e63 t (plus b i),Abs.look ((d,v)::e63 t b) q.1=some q.2):Sub Try.prog G 0 ⟨(d,v)::e63 t b,h63 t b,5,33⟩ (s63 t (plus b i)):=by
 unfold s63
 rw[hh]
 exact A3e he
theorem H0y (h:b 0=false):Sub Try.prog G 0 ⟨(7,.ptr 0 0)::e63 t b,h63 t b,5,33⟩ (s63 t (plus b 0)):=D4i rfl (by simp -implicitDefEqProofs [e63,plus])
theorem H0z (h:b 1=false):Sub Try.prog G 0 ⟨(8,.t t)::e63 t b,h63 t b,5,33⟩ (s63 t (plus b 1)):=D4i rfl (by simp -implicitDefEqProofs [e63,plus])
theorem H1a (h:b 2=false):Sub Try.prog G 0 ⟨(9,.t (iv 6))::e63 t b,h63 t b,5,33⟩ (s63 t (plus b 2)):=D4i rfl (by simp -implicitDefEqProofs [e63,plus])
theorem H1b (h:b 4=false):Sub Try.prog G 0 ⟨(11,.ptr 0 0)::e63 t b,h63 t b,5,33⟩ (s63 t (plus b 4)):=D4i rfl (by simp -implicitDefEqProofs [e63,plus])
theorem H1c (h:b 5=false):Sub Try.prog G 0 ⟨(12,.t t)::e63 t b,h63 t b,5,33⟩ (s63 t (plus b 5)):=D4i rfl (by simp -implicitDefEqProofs [e63,plus])
theorem H1d (h:b 6=false):Sub Try.prog G 0 ⟨(13,.t (iv 6))::e63 t b,h63 t b,5,33⟩ (s63 t (plus b 6)):=D4i rfl (by simp -implicitDefEqProofs [e63,plus])
theorem G0l {σ:Nat->Nat} {c:Bool} {k:Nat} (h:c=true->σ k=k):A1v σ (r63 c k)=r63 c k:=by
 cases c with
 | false=>rfl
 | true=>simp[r63,A1v,renL,ren,h rfl]
theorem G0m {c:Bool} {k:Nat} (hk:k<5):A1b 5 (r63 c k)=true:=by
 cases c with
 | false=>rfl
 | true=>simp[r63,A1b,A2c,under,hk]
theorem C6q {i d k:Nat} {v:PV} {row:Row} (hk:(k=1/\i=3/\row=z63)\/(k=2/\i=7/\row=z63)\/(k=3/\i=8/\row=r63 false 1)\/(k=4/\i=9/\row=r63 false 2)) (hi:b i=false) (ok:Ok63 b)
  (he:∀q∈e63 t (plus b i),Abs.look ((d,v)::e63 t b) q.1=some (ren (fun x=>if x=k then 5 else x) q.2)/\under 5 q.2=true) :
  Sub Try.prog G 0 ⟨(d,v)::e63 t b,(5,row)::h63 t b,6,33⟩ (s63 t (plus b i)):=by
 obtain⟨l0,l1,l2,l3,l4⟩:=E8r t b
 have h10:i=3\/i=8->b 10=false:=fun h=>by
  cases hb:b 10 with
  | false=>rfl
  | true=>
   obtain⟨a1,a2⟩:=ok.a hb
   rcases h with rfl | rfl
   ·rw[hi]at a1;cases a1
   ·rw[hi]at a2;cases a2
 have h11:i=7\/i=9->b 11=false:=fun h=>by
  cases hb:b 11 with
  | false=>rfl
  | true=>
   obtain⟨a1,a2⟩:=ok.c hb
   rcases h with rfl | rfl
   ·rw[hi]at a1;cases a1
   ·rw[hi]at a2;cases a2
 have p10:plus b i 10=b 10:=by unfold plus;rw[if_neg (by omega)]
 have p11:plus b i 11=b 11:=by unfold plus;rw[if_neg (by omega)]
 have pj:∀j,j≠i->plus b i j=b j:=fun j h=>by unfold plus;rw[if_neg (Ne.symm h)]
 refine sub63 (k:=k) (by omega) (.inr trivial) (fun q hq e=>?_) (fun q hq e=>?_) (fun q hq=>?_) he
 ·rcases G8x hq with rfl | ⟨h,rfl⟩ | ⟨h,rfl⟩ | ⟨h,rfl⟩ | ⟨h,rfl⟩<;>simp only at e<;>subst e
  ·omega
  ·obtain⟨_,_,rfl⟩ | h' | h' | h':=hk
   ·rfl
   all_goals omega
  ·obtain h' | ⟨_,_,rfl⟩ | h' | h':=hk
   ·omega
   ·rfl
   all_goals omega
  ·obtain h' | h' | ⟨_,hi3,rfl⟩ | h':=hk
   ·omega
   ·omega
   ·rw[p10,h10 (.inr hi3)];rfl
   ·omega
  ·obtain h' | h' | h' | ⟨_,hi3,rfl⟩:=hk
   ·omega
   ·omega
   ·omega
   ·rw[p11,h11 (.inr hi3)];rfl
 ·rcases G8x hq with rfl | ⟨h,rfl⟩ | ⟨h,rfl⟩ | ⟨h,rfl⟩ | ⟨h,rfl⟩<;>simp only at e ⊢
  ·exact⟨rfl,l0⟩
  ·exact⟨rfl,l1 (by rw[<-pj 3 (by omega)];exact h)⟩
  ·exact⟨rfl,l2 (by rw[<-pj 7 (by omega)];exact h)⟩
  ·rw[p10]
   refine⟨G0l fun hc=>if_neg fun hk1=>?_,l3 (by rw[<-pj 8 (by omega)];exact h)⟩
   rw[h10 (.inl (by omega))]at hc
   cases hc
  ·rw[p11]
   refine⟨G0l fun hc=>if_neg fun hk1=>?_,l4 (by rw[<-pj 9 (by omega)];exact h)⟩
   rw[h11 (.inl (by omega))]at hc
   cases hc
 ·rcases G8x hq with rfl | ⟨h,rfl⟩ | ⟨h,rfl⟩ | ⟨h,rfl⟩ | ⟨h,rfl⟩
  ·exact⟨by show 0<5;omega,rfl⟩
  ·exact⟨by show 1<5;omega,rfl⟩
  ·exact⟨by show 2<5;omega,rfl⟩
  ·exact⟨by show 3<5;omega,G0m (by omega)⟩
  ·exact⟨by show 4<5;omega,G0m (by omega)⟩
theorem H1e (h:b 3=false) (ok:Ok63 b):Sub Try.prog G 0 ⟨(10,.row 5 0 6 1)::e63 t b,(5,z63)::h63 t b,6,33⟩ (s63 t (plus b 3)):=
 C6q (k:=1) (.inl ⟨rfl,rfl,rfl⟩) h ok (by simp -implicitDefEqProofs [e63,plus,E8s,C6p,ren,under])
theorem H1f (h:b 7=false) (ok:Ok63 b):Sub Try.prog G 0 ⟨(14,.row 5 0 6 1)::e63 t b,(5,z63)::h63 t b,6,33⟩ (s63 t (plus b 7)):=
 C6q (k:=2) (.inr (.inl ⟨rfl,rfl,rfl⟩)) h ok (by simp -implicitDefEqProofs [e63,plus,E8s,C6p,ren,under])
theorem H1g (h:b 8=false) (ok:Ok63 b):Sub Try.prog G 0 ⟨(3,.ptr 5 0)::e63 t b,(5,r63 false 1)::h63 t b,6,33⟩ (s63 t (plus b 8)):=
 C6q (k:=3) (.inr (.inr (.inl ⟨rfl,rfl,rfl⟩))) h ok (by simp -implicitDefEqProofs [e63,plus,E8s,C6p,ren,under])
theorem H1h (h:b 9=false) (ok:Ok63 b):Sub Try.prog G 0 ⟨(4,.ptr 5 0)::e63 t b,(5,r63 false 2)::h63 t b,6,33⟩ (s63 t (plus b 9)):=
 C6q (k:=4) (.inr (.inr (.inr ⟨rfl,rfl,rfl⟩))) h ok (by simp -implicitDefEqProofs [e63,plus,E8s,C6p,ren,under])
end
section
variable {t : T} {b : Nat -> Bool} {Φ : A1f}
theorem G8y (h3:b 3=true) (h8:b 8=true) (h:b 10=false):A0v 1 (h63 t b) (.ptr 3 0) (.row 1 0 6 1)=some (h63 t (plus b 10)):=by
 have e:upd (h63 t b) 3 (r63 true 1)=h63 t (plus b 10):=by
  show _=(0,fsR t)::((if b 3 then [(1,z63)]else [])++((if b 7 then [(2,z63)]else [])++((if b 8 then [(3,r63 true 1)]else [])++(if b 9 then [(4,r63 (b 11) 2)]else []))))
  unfold h63
  rw[h3,h8]
  cases b 7<;>cases b 9<;>rfl
 rw[<-e]
 have hl:=(E8r t b).2.2.2.1 h8
 rw[h]at hl
 simp only[A0v,hl,r63]
 rfl
theorem G8z (h7:b 7=true) (h9:b 9=true) (h:b 11=false):A0v 1 (h63 t b) (.ptr 4 0) (.row 2 0 6 1)=some (h63 t (plus b 11)):=by
 have e:upd (h63 t b) 4 (r63 true 2)=h63 t (plus b 11):=by
  show _=(0,fsR t)::((if b 3 then [(1,z63)]else [])++((if b 7 then [(2,z63)]else [])++((if b 8 then [(3,r63 (b 10) 1)]else [])++(if b 9 then [(4,r63 true 2)]else []))))
  unfold h63
  rw[h7,h9]
  cases b 3<;>cases b 8<;>rfl
 rw[<-e]
 have hl:=(E8r t b).2.2.2.2 h9
 rw[h]at hl
 simp only[A0v,hl,r63]
 rfl
theorem A8b {i j:Nat} (h:b j=true):plus b i j=true:=by
 unfold plus
 split
 ·rfl
 ·exact h
theorem E5a {i:Nat} (ok:Ok63 b) (h10:i=10->b 3=true/\b 8=true) (h11:i=11->b 7=true/\b 9=true):Ok63 (plus b i):=by
 refine⟨fun h=>?_,fun h=>?_⟩
 ·unfold plus at h
  split at h
  ·rename_i e
   exact⟨A8b (h10 e).1,A8b (h10 e).2⟩
  ·exact⟨A8b (ok.a h).1,A8b (ok.a h).2⟩
 ·unfold plus at h
  split at h
  ·rename_i e
   exact⟨A8b (h11 e).1,A8b (h11 e).2⟩
  ·exact⟨A8b (ok.c h).1,A8b (ok.c h).2⟩
theorem G5c (hΦ:Φ.Sound Try.prog G) {Q:Exit->A0b->Prop} {s:A0b} (hl:A6q (.t t)=some (.t (iv 6))) (h0:Sub Try.prog G 0 s (s63 t fun _=>false)) (stop:Q .normal (s63 t fun _=>true)):A5m Try.prog G 0 (.region 1 o63 true) Q s:=by
 refine E1y A1w hΦ H0u (s63 t) Ok63 (fun _=>rfl) (G8w G0k) h0 ⟨fun h=>(by cases h),fun h=>(by cases h)⟩ (fun b ok i o m ho hm hbi hdeps=>?_) (fun b ok hall=>?_)
 ·have hd:=G8v G8u ho hdeps
  clear hdeps ho
  have ok':(i≠10/\i≠11)->Ok63 (plus b i):=fun h=>E5a ok (fun e=>absurd e h.1) (fun e=>absurd e h.2)
  rcases i with _ | _ | _ | _ | _ | _ | _ | _ | _ | _ | _ | _ | i
  ·injection hm with hm;subst hm
   exact⟨rfl,.ptr 0 0,h63 t b,5,by simp -implicitDefEqProofs [s63,e63],ok' (by omega),H0y hbi⟩
  ·injection hm with hm;subst hm
   have d0:b 0=true:=hd 0 (by simp[dp63])
   exact⟨rfl,.t t,h63 t b,5,by simp -implicitDefEqProofs [s63,e63,d0,ld63],ok' (by omega),H0z hbi⟩
  ·injection hm with hm;subst hm
   have d1:b 1=true:=hd 1 (by simp[dp63])
   exact⟨rfl,.t (iv 6),h63 t b,5,by simp -implicitDefEqProofs [s63,e63,d1,hl],ok' (by omega),H1a hbi⟩
  ·injection hm with hm;subst hm
   have d2:b 2=true:=hd 2 (by simp[dp63])
   exact⟨rfl,.row 5 0 6 1,(5,z63)::h63 t b,6,by simp -implicitDefEqProofs [s63,e63,d2,mk63],ok' (by omega),H1e hbi ok⟩
  ·injection hm with hm;subst hm
   exact⟨rfl,.ptr 0 0,h63 t b,5,by simp -implicitDefEqProofs [s63,e63],ok' (by omega),H1b hbi⟩
  ·injection hm with hm;subst hm
   have d4:b 4=true:=hd 4 (by simp[dp63])
   exact⟨rfl,.t t,h63 t b,5,by simp -implicitDefEqProofs [s63,e63,d4,ld63],ok' (by omega),H1c hbi⟩
  ·injection hm with hm;subst hm
   have d5:b 5=true:=hd 5 (by simp[dp63])
   exact⟨rfl,.t (iv 6),h63 t b,5,by simp -implicitDefEqProofs [s63,e63,d5,hl],ok' (by omega),H1d hbi⟩
  ·injection hm with hm;subst hm
   have d6:b 6=true:=hd 6 (by simp[dp63])
   exact⟨rfl,.row 5 0 6 1,(5,z63)::h63 t b,6,by simp -implicitDefEqProofs [s63,e63,d6,mk63],ok' (by omega),H1f hbi ok⟩
  ·injection hm with hm;subst hm
   exact⟨rfl,.ptr 5 0,(5,r63 false 1)::h63 t b,6,rfl,ok' (by omega),H1g hbi ok⟩
  ·injection hm with hm;subst hm
   exact⟨rfl,.ptr 5 0,(5,r63 false 2)::h63 t b,6,rfl,ok' (by omega),H1h hbi ok⟩
  ·injection hm with hm;subst hm
   have d3:b 3=true:=hd 3 (by simp[dp63])
   have d8:b 8=true:=hd 8 (by simp[dp63])
   exact⟨rfl,.t (.v undef),h63 t (plus b 10),5,by simp -implicitDefEqProofs [s63,e63,d3,d8,G8y d3 d8 hbi],E5a ok (fun _=>⟨d3,d8⟩) (fun e=>by omega),Sub.refl _⟩
  ·injection hm with hm;subst hm
   have d7:b 7=true:=hd 7 (by simp[dp63])
   have d9:b 9=true:=hd 9 (by simp[dp63])
   exact⟨rfl,.t (.v undef),h63 t (plus b 11),5,by simp -implicitDefEqProofs [s63,e63,d7,d9,G8z d7 d9 hbi],E5a ok (fun e=>by omega) (fun _=>⟨d7,d9⟩),Sub.refl _⟩
  ·simp[l63]at hm
 ·have e:s63 t b=s63 t fun _=>true:=by
   have h:=fun i hi=>hall i (by rw[H0x];exact hi)
   simp only[s63,e63,h63,h 0 (by omega),h 1 (by omega),h 2 (by omega),h 3 (by omega),h 4 (by omega),h 5 (by omega),h 6 (by omega),h 7 (by omega),h 8 (by omega),h 9 (by omega),h 10 (by omega),h 11 (by omega)]
  rw[e]
  exact stop
end
def sixT:T:=.sl 6 [iv 0,.sl 1 [iv 0,iv 1],iv 0,.sl 1 [iv 0,iv 2],iv 0,.sl 1 [iv 0,iv 3],iv 0,.sl 1 [iv 0,iv 4],iv 0,.sl 1 [iv 0,iv 5],iv 0,.sl 1 [iv 0,iv 0]]
def vs63:List RV:=[.tmp 2]
def G9a:List (Nat×FnM):=[(86,⟨5,49,A8k,[.tmp 6]⟩)]
theorem G5d:D6p Try.prog G G9a:=by
 intro q hq
 simp only[G9a,List.mem_cons,List.not_mem_nil,or_false]at hq
 subst hq
 exact⟨Try.f86,Try.func86,by kernel_rfl,by kernel_rfl,by kernel_rfl,by kernel_rfl⟩
def Φ63:A1f:=E0v G9a [] 60 20
theorem G0n:Ctx Try.prog G Φ63:=⟨A1w,A2n A1w G5d A5l.nil 60 20⟩
theorem G5e {P:Program} {B nx n:Nat} {env env':List (Nat×PV)} {H:Heap} (he:∀q∈env',q.2 = .dead\/Abs.look env q.1=some q.2):Sub P G B ⟨env,H,nx,n⟩ ⟨env',H,nx,n⟩:=fun L a w hi=>
 ⟨L,⟨hi.heap,hi.nx,hi.base,hi.size,hi.defers,fun k p hl=>by
  rcases he (k,p) (A0t hl)with h | h
  ·have h:p = .dead:=h
   rw[h]
   simp only[RepV]
  ·exact hi.env k p h⟩,Ext.refl _ _ _,fun _ _=>rfl⟩
def G6d:Bool:=match runF Φ63 60 M63b (s63 sixT fun _=>true)with
 | some (.ret,s)=>(match resM s vs63 with
  | some [.t (.v (.bool true))]=>true
  | _=>false)
 | _=>false
theorem G0o:G6d=true:=by kernel_rfl
theorem run63:∃s,runF Φ63 60 M63b (s63 sixT fun _=>true)=some (.ret,s)/\resM s vs63=some [.t (bv true)]:=by
 have h:=G0o
 unfold G6d at h
 split at h
 ·rename_i s hs
  split at h
  ·rename_i hr
   exact⟨s,hs,hr⟩
  ·cases h
 ·cases h
theorem G9b:Try.f63.results.toList.mapM (C0h Try.prog)=some vs63:=by kernel_rfl
theorem G9c (args:List PV) (h:args=[.t (.ag [sixT])]):E5e Try.f63 args=⟨[(0,.t (.ag [sixT]))],[],0,33⟩:=by
 subst h
 have:1+(Try.f63.ntmps-1)=33:=by kernel_rfl
 show(⟨[(0,.t (.ag [sixT]))],[],0,1+(Try.f63.ntmps-1)⟩:A0b)=_
 rw[this]
theorem F2y:A0y Try.prog G 63 [.ag [sixT]] (· = bv true):=by
 refine D4q Try.func63 G5b (by kernel_rfl) ?_
 rw[show([T.ag [sixT]].map PV.t)=[.t (.ag [sixT])]from rfl,G9c _ rfl,H0t]
 refine B9u ?_
 have hb:A5m Try.prog G 0 (.seq (.region 1 o63 true) c63b) (Abs.Ends Try.prog G Try.f63 (· = bv true)) ⟨[(2,.t (.v (.bool false))),(1,.ptr 0 0),(0,.t (.ag [sixT]))],[(0,.cells 25 [.t sixT])],1,33⟩:=by
  refine B9u (G5c (t:=sixT) G0n.sound rfl ?_ ?_)
  ·refine(C4d (nx':=5) (env':=[(2,.t (bv false)),(1,.ptr 0 0)]) (R:=[(0,.cells 25 [.t sixT])]) (Nat.zero_le _) (by simp -implicitDefEqProofs [A1b,A2c,under]) (by simp -implicitDefEqProofs [under])).trans ?_
   refine G5e fun q hq=>?_
   simp only[e63,List.mem_cons,List.not_mem_nil,or_false]at hq
   rcases hq with rfl | rfl | rfl | rfl | rfl | rfl | rfl | rfl | rfl | rfl | rfl | rfl<;>first | exact .inl rfl | exact .inr rfl
  ·obtain⟨s',h1,h2⟩:=run63
   refine A5g G0n 60 M63b h1 ?_ c63b G8t rfl
   refine⟨s',bv true,Sub.refl _,?_,rfl⟩
   unfold B0t
   rw[C6x G9b h2]
 have h0:A5c Φ63 M63a ⟨[(0,.t (.ag [sixT]))],[],0,33⟩ (Then Try.prog G 0 (.seq (.region 1 o63 true) c63b) (Abs.Ends Try.prog G Try.f63 (· = bv true))):=by
  have cpa:∀x:T,A0q (.t (.ag [x]))=some [.t x]:=fun _=>rfl
  unfold M63a
  simp -implicitDefEqProofs [cpa]
  exact hb
 exact A0c G0n h0 c63a G8s rfl
end Go.Proofs.Ytbiadmfmjnoecaa
namespace Go.Abs
set_option linter.unusedSimpArgs false
set_option linter.unusedVariables false
open Go
def H1i (H:Heap) (F:List Nat):List Nat:=F.filter fun b=>match look H b with
 | some (.cells _ cs)=>(allT cs).isSome
 | _=>false
def frzR:Nat->A0b->A0b
 | 0,s=>s
 | k+1,s=>match H1i s.H (G7x s.H)with
  | []=>s
  | F=>frzR k (s.frz F)
def G0p (tab:List (Nat×FnM)) (rounds:Nat) (Φ:A1f) (f:FuncId) (args:List T):Option T:=
 match look tab f with
 | some fm=>if args.length=fm.k then
   (match runF Φ rounds fm.M (startM fm.N args)with
   | some (.ret,s)=>resT fm.vs (frzR 4 s)
   | _=>none)
  else none
 | none=>none
def E8t (tab:List (Nat×FnM)) (memo:Memo) (rounds:Nat):Nat->A1f
 | 0=>⟨memo.get,fun _ _ _ _=>none⟩
 | n+1=>⟨fun f args=>match memo.get f args with
   | some r=>some r
   | none=>G0p tab rounds (E8t tab memo rounds n) f args,E7k tab rounds (E8t tab memo rounds n)⟩
section
variable {P : Program} {G : A1j} {B : Nat} {Φ : A1f}
theorem E8u:∀(k:Nat) (s:A0b),Sub P G B s (frzR k s)
 | 0,s=>Sub.refl s
 | k+1,s=>by
  unfold frzR
  split
  ·exact Sub.refl s
  ·exact(A9c _).trans (E8u k _)
theorem E1z (hm:P.follows .mixedOrders=true) {tab:List (Nat×FnM)} (ht:D6p P G tab) (rounds:Nat) (hΦ:Φ.Sound P G) (f:FuncId) (args:List T) (r:T) (h:G0p tab rounds Φ f args=some r):A0y P G f args (· = r):=by
 unfold G0p at h
 split at h
 ·rename_i fm hf
  split at h
  ·rename_i hk
   split at h
   ·rename_i s hr
    unfold resT at h
    split at h
    ·rename_i ps hps
     split at h
     ·rename_i r' F hT
      injection h with h;subst h
      refine(ht _ (A0t hf)).call hk fun c hc hn=>?_
      exact(A5g (Q:=fun e s1=>e = .ret/\s1=s) ⟨hm,hΦ⟩ rounds fm.M hr ⟨rfl,rfl⟩ c hc hn).post fun e s1 hq=>⟨frzR 4 s1,E8u 4 s1,by
       obtain⟨rfl,rfl⟩:=hq
       exact⟨.inr rfl,ps,r',F,hps,hT,rfl⟩⟩
     ·cases h
    ·cases h
   ·cases h
  ·cases h
 ·cases h
theorem B0s (hm:P.follows .mixedOrders=true) {tab:List (Nat×FnM)} (ht:D6p P G tab) {memo:Memo} (hme:A5l P G memo) (rounds:Nat):∀n,(E8t tab memo rounds n).Sound P G
 | 0=>⟨fun _ _ _ h=>Memo.get_sound hme h,fun _ _ _ _ _ _ _ h=>(by cases h),fun _ _ _ _ _ _ _ h=>(by cases h)⟩
 | n+1=>⟨fun f args r h=>by
   simp only[E8t]at h
   split at h
   ·rename_i r' hr
    injection h with h
    subst h
    exact Memo.get_sound hme hr
   ·exact E1z hm ht rounds (B0s hm ht hme rounds n) f args r h,
   fun f ps H nx r H' nx' h=>(B0l hm ht rounds (B0s hm ht hme rounds n) f ps H nx r H' nx' h).1,
   fun f ps H nx r H' nx' h _=>(B0l hm ht rounds (B0s hm ht hme rounds n) f ps H nx r H' nx' h).2⟩
end
end Go.Abs
namespace Go.Proofs.Ytbiadmfmjnoecaa
set_option linter.unusedSimpArgs false
set_option linter.unusedVariables false
open Go Go.Abs
set_option maxRecDepth 100000
def tabN:List (Nat×FnM):=[(65,⟨2,117,A2b,[(.tmp 4)]⟩),(34,⟨3,22,A4r,[(.cell 6 true 1)]⟩),(37,⟨2,29,B3o,[(.cell 4 true 1),(.tmp 5)]⟩),(41,⟨3,52,B9q,[(.tmp 6)]⟩),(67,⟨2,19,B9r,[(.tmp 4)]⟩),(35,⟨3,112,A8j,[(.cell 6 true 1)]⟩),(38,⟨2,29,D0q,[(.cell 4 true 1),(.tmp 5)]⟩),(62,⟨2,32,D4h,[(.cell 4 true 2)]⟩),(61,⟨1,5,E8k,[(.cell 2 true 1)]⟩),(60,⟨0,17,D0t,[(.cell 0 true 2)]⟩),(32,⟨0,114,B0m,[(.tmp 0)]⟩),(86,⟨1,49,A8k,[(.tmp 6)]⟩)]
theorem G9d:D6p Try.prog G tabN:=by
 intro q hq
 simp only[tabN,List.mem_cons,List.not_mem_nil,or_false]at hq
 rcases hq with rfl | rfl | rfl | rfl | rfl | rfl | rfl | rfl | rfl | rfl | rfl | rfl
 ·exact A3a
 ·exact A8q
 ·exact C1y
 ·exact D0o
 ·exact D0p
 ·exact B3t
 ·exact E1s
 ·exact F2s
 ·exact G4u
 ·exact E4x
 ·exact C1z
 ·exact C6c
def tabZ:List (Nat×FnM):=tabN++tabX
theorem G0q:D6p Try.prog G tabZ:=by
 intro q hq
 rcases List.mem_append.1 hq with h | h
 ·exact G9d q h
 ·exact B9k q h
theorem G0r:A0y Try.prog G 60 [] (· = E0y):=(A2n A1w G0q (memo:=[(45,E7o,E7p)]) (A5l.cons H0f A5l.nil) 400 30).t _ _ _ (by kernel_rfl)
theorem G0s:A0y Try.prog G 32 [] (· = .v (.bool true)):=(B0s A1w G0q (memo:=[(60,[],E0y),(63,[.ag [sixT]],bv true)]) (A5l.cons G0r (.cons F2y A5l.nil)) 400 30).t _ _ _ (by kernel_rfl)
theorem C4n {d:List TD} (hd:d.length<=12->DOK d):(hOf d).1.length<=256/\(hOf d).2.length<=64:=by
 have main:∀d',DOK d'->A1g d'=0->(A8v d').length<=256/\(ftL d').length<=64:=fun d' h h5=>by
  refine⟨?_,?_⟩
  ·unfold A8v
   rw[C1n d' (Nat.le_refl _),C1i]
   exact B3n h5
  ·unfold ftL
   rw[List.length_map]
   exact(A2m h h5).fl
 unfold hOf
 split
 ·rename_i h
  exact main d (hd h.1) h.2
 ·split
  ·rename_i h
   exact main preD C4h h
  ·simp
theorem H1j {d:List TD} (hd:d.length<=12->DOK d):JOK (hOf d).1:=⟨G5z hd,by have:=(C4n hd).1;omega,G8f hd,G4g hd,G8g hd⟩
theorem A4p {nt nf:Nat} {l:List FSv} (h:B9m nt nf l=true):∀x∈l,(A2t x.nodes/\A1d nt nf x.nodes)/\x.nodes.length<=12:=by
 intro x hx
 refine⟨F7z h x hx,?_⟩
 obtain⟨i,hi,e⟩:=List.getElem_of_mem hx
 have:=A4l (of_decide_eq_true h) i hi
 simp only[fitE,List.getElem?_eq_getElem hi,e]at this
 split at this
 ·rename_i hl
  exact(C7z hl).1
 ·cases this
theorem B9t {d:List TD} (hd:d.length<=12->DOK d) {h:List Typ×List Ft} (hh:h=hOf d) {a b:List Nd} (ha:(A2t a/\A1d h.1.length h.2.length a)/\a.length<=12) (hb:(A2t b/\A1d h.1.length h.2.length b)/\b.length<=12):GPre h a b:=
 ⟨by rw[hh];exact H1j hd,⟨ha.1.2,hb.1.2⟩,⟨ha.1.1,hb.1.1⟩,Nat.le_trans (Nat.mul_le_mul ha.2 hb.2) (by decide)⟩
theorem C5r {d:List TD} (hd:d.length<=12->DOK d) {h:List Typ×List Ft} (hh:h=hOf d) {a b:List Nd} (ha:A2t a/\A1d h.1.length h.2.length a) (hb:A2t b/\A1d h.1.length h.2.length b):F2i h a b:=
 ⟨by rw[hh];exact G5z hd,⟨ha.2,hb.2⟩,ha.1,hb.1⟩
theorem D0u {h:List Typ×List Ft} {a b:List Nd} (hg:GPre h a b) (hf:h.2.length<=64):A2t (genL (A2q h.1) a b)/\A1d h.1.length h.2.length (genL (A2q h.1) a b):=
 ⟨F8x hg.2.1.1 hg.2.1.2 hg.2.2.2 hg.1.join (by omega),C1t hg.1.join hg.2.1.1 hg.2.1.2 hg.2.2.2⟩
theorem D7g (a:List Nd):eqE a a=true:=E4f.2 rfl
noncomputable def D7h:List T->Option T:=g1 (tSl eTD) fun d=>open Classical in if d.length<=12->DOK d then some (hT d)else none
theorem D4j:GOK Try.prog G 30 D7h:=C7j fun a d r ha hr=>by
 split at hr
 ·rename_i h;injection hr with hr;subst hr;exact D1r rfl D0s ha h
 ·cases hr
theorem B1y {t:T} {d:List TD} (ht:IsS eTD t d) (hd:d.length<=12->DOK d):D7h [t]=some (hT d):=(C7k (τ:=tSl eTD) ht).trans (if_pos hd)
theorem D4k:GOK Try.prog G 31 G3x:=A6z fun a b h l r ha hb hr=>by
 obtain⟨u,v,rfl,hu,hv⟩:=ha
 split at hr
 ·rename_i hl;injection hr with hr;subst hr;exact F8b rfl F2r hu hv hb hl
 ·cases hr
def G0t:List T->Option T
 | []=>some (.v (.bool true))
 | _=>none
theorem E8v:GOK Try.prog G 32 G0t:=by
 intro args r h
 unfold G0t at h
 split at h
 ·injection h with h;subst h;exact G0s
 ·cases h
theorem A4e:G0t []=some (.v (.bool true)):=rfl
noncomputable def tx21:Tbl:=[(30,D7h),(31,G3x),(32,G0t),(34,gGen),(35,gGen),(33,C9x),(21,F8d)]
theorem cx21:Ctx Try.prog G (orc tx21):=(A1o.cons D4j (.cons D4k (.cons E8v (.cons F9x (.cons G0i (.cons C4e (.cons G3w .nil))))))).ctx A1w
theorem G0u {t ta tb:T} {d:List TD} {a b:List Nd} (ht:IsS eTD t d) (hd:d.length<=12->DOK d) (hta:IsS eNd ta a) (htb:IsS eNd tb b):A0y Try.prog G 9 [t,.ag [ta],.ag [tb]] (· = .v (.bool true)):=by
 have gh:=B1y ht hd
 obtain⟨h,hh⟩:∃h,h=hOf d:=⟨_,rfl⟩
 obtain⟨u,hu'⟩:∃u,u=A0m eTyp h.1:=⟨_,rfl⟩
 obtain⟨v,hv'⟩:∃v,v=A0m eFt h.2:=⟨_,rfl⟩
 have hu:IsS eTyp u h.1:=hu'▸IsS.tree _ _
 have hv:IsS eFt v h.2:=hv'▸IsS.tree _ _
 have hTd:hT d = .ag [u,v]:=by unfold hT;rw[<-hh,hu',hv']
 rw[hTd]at gh
 have c1:A0q (.t (.ag [u,v]))=some [.t u,.t v]:=rfl
 have c2:A0q (.t (.ag [ta]))=some [.t ta]:=rfl
 have c3:A0q (.t (.ag [tb]))=some [.t tb]:=rfl
 have a1:agOf [.t u,.t v] = .t (.ag [u,v]):=rfl
 have a2:agOf [.t ta] = .t (.ag [ta]):=rfl
 have a3:agOf [.t tb] = .t (.ag [tb]):=rfl
 have hsl:IsS eFS (.sl 2 [ta,tb]) [⟨ta,a,hta⟩,⟨tb,b,htb⟩]:=.inr rfl
 have gf:=C1o hu hv hsl (by simp)
 have bs:A1m 25 1 [.slice none 0 0] 2 [(0,.t (.ag [ta])),(1,.t (.ag [tb]))] 3=some (.row 3 0 2 1,.cells 25 [.t ta,.t tb]):=by
  rcases hta with⟨rfl,_⟩ | rfl<;>rcases htb with⟨rfl,_⟩ | rfl<;>rfl
 refine C2a.call rfl ?_
 unfold B0n
 refine A0a cx21 ?_
 simp -implicitDefEqProofs [c2,c3]
 refine A0a cx21 ?_
 simp -implicitDefEqProofs [tx21,gh,A0v,c1,A1h]
 cases hf:B9m h.1.length h.2.length [⟨ta,a,hta⟩,⟨tb,b,htb⟩]with
 | false=>
  rw[hf]at gf
  refine A0a cx21 ?_
  simp -implicitDefEqProofs [A0f,a1,a2,a3,bs,tx21,gf,A4e]
 | true=>
  rw[hf]at gf
  have hall:=A4p hf
  have hA:=hall ⟨ta,a,hta⟩ (by simp)
  have hB:=hall ⟨tb,b,htb⟩ (by simp)
  have hg:GPre h a b:=B9t hd hh hA hB
  have gm:=B3p hu hv hta htb hg
  have hsv:=D0u hg (by rw[hh];exact(C4n hd).2)
  have ge:=A7f (IsS.tree eNd (genL (A2q h.1) a b)) (IsS.tree eNd (genL (A2q h.1) a b)) hsv.1 hsv.1
  rw[D7g]at ge
  unfold genT at gm
  refine A0a cx21 ?_
  simp -implicitDefEqProofs [A0f,a1,a2,a3,bs,tx21,gf]
  refine A0c cx21 ?_
  simp -implicitDefEqProofs (maxDischargeDepth:=8) [A0f,a1,a2,a3,tx21,gm,ge,A4e]
set_option maxHeartbeats 2000000 in
theorem F2z {t ta tb:T} {d:List TD} {a b:List Nd} (ht:IsS eTD t d) (hd:d.length<=12->DOK d) (hta:IsS eNd ta a) (htb:IsS eNd tb b):A0y Try.prog G 12 [t,.ag [ta],.ag [tb]] (· = .v (.bool true)):=by
 have gh:=B1y ht hd
 obtain⟨h,hh⟩:∃h,h=hOf d:=⟨_,rfl⟩
 obtain⟨u,hu'⟩:∃u,u=A0m eTyp h.1:=⟨_,rfl⟩
 obtain⟨v,hv'⟩:∃v,v=A0m eFt h.2:=⟨_,rfl⟩
 have hu:IsS eTyp u h.1:=hu'▸IsS.tree _ _
 have hv:IsS eFt v h.2:=hv'▸IsS.tree _ _
 have hTd:hT d = .ag [u,v]:=by unfold hT;rw[<-hh,hu',hv']
 rw[hTd]at gh
 have c1:A0q (.t (.ag [u,v]))=some [.t u,.t v]:=rfl
 have c2:∀x:T,A0q (.t (.ag [x]))=some [.t x]:=fun _=>rfl
 have a1:agOf [.t u,.t v] = .t (.ag [u,v]):=rfl
 have a2:∀x:T,agOf [.t x] = .t (.ag [x]):=fun _=>rfl
 have hsl:IsS eFS (.sl 2 [ta,tb]) [⟨ta,a,hta⟩,⟨tb,b,htb⟩]:=.inr rfl
 have gf:=C1o hu hv hsl (by simp)
 have bs:A1m 25 1 [.slice none 0 0] 2 [(0,.t (.ag [ta])),(1,.t (.ag [tb]))] 3=some (.row 3 0 2 1,.cells 25 [.t ta,.t tb]):=by
  rcases hta with⟨rfl,_⟩ | rfl<;>rcases htb with⟨rfl,_⟩ | rfl<;>rfl
 refine C4l.call rfl ?_
 unfold B1x
 refine A0a cx21 ?_
 simp -implicitDefEqProofs [c2]
 refine A0a cx21 ?_
 simp -implicitDefEqProofs [tx21,gh,A0v,c1,A1h]
 cases hf:B9m h.1.length h.2.length [⟨ta,a,hta⟩,⟨tb,b,htb⟩]with
 | false=>
  rw[hf]at gf
  refine A0a cx21 ?_
  simp -implicitDefEqProofs [A0f,a1,a2,bs,tx21,gf,A4e]
 | true=>
  rw[hf]at gf
  have hall:=A4p hf
  have hA:=hall ⟨ta,a,hta⟩ (by simp)
  have hB:=hall ⟨tb,b,htb⟩ (by simp)
  have hl2:h.2.length<=64:=by rw[hh];exact(C4n hd).2
  have hg:GPre h a b:=B9t hd hh hA hB
  have hg':GPre h b a:=B9t hd hh hB hA
  have hga:GPre h a a:=B9t hd hh hA hA
  have hm:F2i h a b:=C5r hd hh hA.1 hB.1
  have gm:=B3p hu hv hta htb hg
  have gm':=B3p hu hv htb hta hg'
  have gma:=B3p hu hv hta hta hga
  have s1:=D0u hg hl2
  have s2:=D0u hg' hl2
  have s3:=D0u hga hl2
  have gs:=A7z hu hv hta htb hm
  have hj:=hg.1.join
  have e1:=A7f (IsS.tree eNd (genL (A2q h.1) a b)) (IsS.tree eNd (genL (A2q h.1) b a)) s1.1 s2.1
  have e2:=A7f (IsS.tree eNd (genL (A2q h.1) a a)) hta s3.1 hA.1.1
  have e3:=A7f (IsS.tree eNd (genL (A2q h.1) a b)) hta s1.1 hA.1.1
  rw[G4k hg.1.inj hj hg.2.1.1 hg.2.1.2 hg.2.2.2]at e1
  rw[G4l hga.1.inj hj hga.2.1.1 hga.2.2.2]at e2
  rw[G8j hg.1.inj hj hg.2.1.1 hg.2.1.2 hg.2.2.2]at gs
  unfold genT at gm gm' gma
  generalize A0m eNd (genL (A2q h.1) a b)=x1 at *
  generalize A0m eNd (genL (A2q h.1) b a)=x2 at *
  generalize A0m eNd (genL (A2q h.1) a a)=x3 at *
  generalize eqE (genL (A2q h.1) a b) a=q at *
  refine A0a cx21 ?_
  simp -implicitDefEqProofs [A0f,a1,a2,bs,tx21,gf]
  refine A0a cx21 ?_
  simp -implicitDefEqProofs [A0f,a1,a2,c2,tx21,gm,A0v,A1h]
  refine A0c cx21 ?_
  simp -implicitDefEqProofs (maxDischargeDepth:=8) [A0f,a1,a2,tx21,gm',gma,e1,e2,e3,gs,A4e]
end Go.Proofs.Ytbiadmfmjnoecaa
