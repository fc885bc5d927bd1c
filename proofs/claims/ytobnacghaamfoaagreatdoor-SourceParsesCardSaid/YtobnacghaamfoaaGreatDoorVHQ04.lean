/- Auxiliary facts. -/
import Derived.Test.YtobnacghaamfoaaGreatDoorVHQ03
import Derived.WalkSpells
set_option linter.unusedSimpArgs false
set_option linter.unusedVariables false
open Nat renaming le_refl->Xa,zero_le->Xc
open Option renaming some->Xb
open List renaming map_cons->Xd,cons->Xe,map_eq_nil_iff->Xf
namespace Go.Abs
open Go
@[simp] def CD (p:Option PV) (d:Nat):Option Nat:=
 match p with
 | none=>some d
 | some (.t (.v (.int _ i)))=>if 0<=i then some i.toNat else none
 | _=>none
theorem O3 {P:Program} {w:World} (isSlice:Bool) (n cap:Nat) (hnc:n<=cap) {L:Loc} {lo hi:Option PV} {lo' hi':Option Value} {l h:Nat}
  (hlo:∀p,lo=some p->∃u,lo'=some u/\Ae P L w p u) (hlo0:lo=none->lo'=none)
  (hhi:∀p,hi=some p->∃u,hi'=some u/\Ae P L w p u) (hhi0:hi=none->hi'=none)
  (el:CD lo 0=some l) (eh:CD hi n=some h) (hlh:l<=h) (hh:h<=n) :
  (Instr.sliceBounds isSlice n cap lo' hi' none).run P w = .ok (l,h,cap) w:=by
 have bnd:∀{p:PV} {u:Value} {d r y:Nat} (c:BoundsCode),Ae P L w p u->CD (some p) d=some r->r<=y->(Instr.sliceBound u y c).run P w = .ok r w:=by
  intro p u d r y c hr hb hy;unfold CD at hb;split at hb
  .rename_i heq;cases heq
  .rename_i k i heq;injection heq with heq;subst heq;simp only[Ae,An]at hr;subst hr;split at hb
   .rename_i hi;injection hb with hb;subst hb;simp only[Instr.sliceBound,asIntOf,Sem.run_bind,Sem.run_pure,Result.andThen_ok];rw[zy ⟨hi,by omega⟩];simp
   .cases hb
  .cases hb
 cases hi with
 | none=>
  have e1:=hhi0 rfl;subst e1;simp only[CD,Xb.injEq]at eh;subst eh
  cases lo with
  | none=>
   have e2:=hlo0 rfl;subst e2;simp only[CD,Xb.injEq]at el;subst el;simp[Instr.sliceBounds]
  | some p=>
   obtain⟨u,rfl,hr⟩:=hlo p rfl;simp[Instr.sliceBounds,bnd _ hr el hlh]
 | some q=>
  obtain⟨v,rfl,hq⟩:=hhi q rfl
  cases lo with
  | none=>
   have e2:=hlo0 rfl;subst e2;simp only[CD,Xb.injEq]at el;subst el;simp[Instr.sliceBounds,bnd _ hq eh (by omega:h<=cap)]
  | some p=>
   obtain⟨u,rfl,hr⟩:=hlo p rfl;simp[Instr.sliceBounds,bnd _ hr el hlh,bnd _ hq eh (by omega:h<=cap)]
def HI (P:Program) (t:TypeId) (x:PV) (lo hi:Option PV):Option PV:=
 match x,P.underlying t with
 | .t (.v (.string s)),some .string=>match CD lo 0,CD hi s.size with
  | some l,some h=>if l<=h/\h<=s.size then some (.t (.v (.string (s.extract l h))))else none
  | _,_=>none
 | .t (.v (.slice none n c)),some (.slice _)=>match FA P t,CD lo 0,CD hi n with
  | some _,some l,some h=>if l=0/\h=0/\n=0/\c=0 then some (.t (.v (.slice none 0 0)))else none
  | _,_,_=>none
 | .t (.sl n cs),some (.slice _)=>match FA P t,CD lo 0,CD hi n with
  | some (_,z),some l,some h=>if l<=h/\h<=n then some (.t (.sl (h-l) ((cs.drop (l*z)).take ((h-l)*z))))else none
  | _,_,_=>none
 | .row b o n z,some (.slice _)=>match FA P t,CD lo 0,CD hi n with
  | some (_,z'),some l,some h=>if z'≠z then none else if l<h/\h<=n then some (.row b (o+l*z) (h-l) z)else if l=0/\h=0 then some (.row b o 0 z)else if l=h/\h<=n then some (.t (.sl 0 []))else none
  | _,_,_=>none
 | _,_=>none
theorem jU {P:Program} {G:Ay} {L:Loc} {H:Ab} {w:World} (hok:Bx P G L H w) {t:TypeId} {x r:PV} {lo hi:Option PV} {u:Value} {lo' hi':Option Value}
  (hlo:∀p,lo=some p->∃u,lo'=some u/\Ae P L w p u) (hlo0:lo=none->lo'=none)
  (hhi:∀p,hi=some p->∃u,hi'=some u/\Ae P L w p u) (hhi0:hi=none->hi'=none)
  (h:HI P t x lo hi=some r) (hx:Ae P L w x u) :
  ∃v,(Instr.sliceAt t u lo' hi' none).run P w = .ok v w/\Ae P L w r v:=by
 unfold HI at h;split at h
 .rename_i s hu;split at h
  .rename_i l hh el eh;split at h
   .rename_i hb;injection h with h;subst h;simp only[Ae,An]at hx;subst hx;have:=O3 (P:=P) (w:=w) false s.size s.size (Xa _) hlo hlo0 hhi hhi0 el eh hb.1 hb.2;refine⟨.string (s.extract l hh),?_,by simp only[Ae,An]⟩;simp[Instr.sliceAt,Instr.slice,run_underlying hu,this]
   .cases h
  .cases h
 .rename_i n c e hu;split at h
  .rename_i ez l hh ee el eh;split at h
   .rename_i hb;obtain⟨rfl,rfl,rfl,rfl⟩:=hb;injection h with h;subst h;simp only[Ae,An]at hx;subst hx;obtain⟨e',z⟩:=ez;obtain⟨hu',hz⟩:=O0 ee w;have:=O3 (P:=P) (w:=w) true 0 0 (Xa _) hlo hlo0 hhi hhi0 el eh (Xa _) (Xa _);refine⟨.slice none 0 0,?_,by simp only[Ae,An]⟩;simp[Instr.sliceAt,Instr.slice,run_underlying hu',this,hz]
   .cases h
  .cases h
 .rename_i n cs e hu;split at h
  .rename_i e' z l hh ee el eh;split at h
   .rename_i hb;injection h with h;subst h;simp only[Ae,An]at hx;obtain⟨a,c,rfl,hc,hI⟩:=hx;obtain⟨hu',hz⟩:=O0 ee w;have:=O3 (P:=P) (w:=w) true n c hc hlo hlo0 hhi hhi0 el eh hb.1 hb.2
    have hrun:(Instr.sliceAt t (.slice (some a) n c) lo' hi' none).run P w = .ok (.slice (if c=l then some a else some (a.add (l*z))) (hh-l) (c-l)) w:=by
     simp[Instr.sliceAt,Instr.slice,run_underlying hu',this,hz]
    refine⟨_,hrun,?_⟩;simp only[Ae,An];by_cases hcl:c=l
    .have h0:hh-l=0:=by omega
     rw[zy hcl,h0];exact⟨a,c-l,rfl,Xc _,.inl ⟨rfl,by simp⟩⟩
    .rw[zz hcl];refine⟨a.add (l*z),c-l,rfl,by omega,?_⟩;rcases hI with⟨h1,h2⟩ | ⟨hsp,hb',hr⟩
     .exact .inl ⟨by omega,by simp[h2]⟩
     .obtain⟨b,o,sp⟩:=a;simp only at hsp hb' hr;subst hsp;rw[Addr.add_lit];exact .inr ⟨rfl,hb',(hr.drop _).take _⟩
   .cases h
  .cases h
 .rename_i b o n z e hu;split at h
  .rename_i e' z' l hh ee el eh;split at h
   .cases h
   rename_i hzz
   have hzz:z'=z:=by simpa using hzz
   subst hzz;simp only[Ae]at hx;obtain⟨hb,hm,c,rfl,hc,hcap⟩:=hx;obtain⟨hu',hz⟩:=O0 ee w
   have hrun:∀(_:l<=hh) (_:hh<=n),(Instr.sliceAt t (.slice (some ⟨L.μ b,o,none⟩) n c) lo' hi' none).run P w = .ok (.slice (if c=l then some ⟨L.μ b,o,none⟩else some ⟨L.μ b,o+l*z',none⟩) (hh-l) (c-l)) w:=by
    intro h1 h2;have:=O3 (P:=P) (w:=w) true n c hc hlo hlo0 hhi hhi0 el eh h1 h2;simp[Instr.sliceAt,Instr.slice,run_underlying hu',this,hz,Addr.add_lit]
   split at h
   .rename_i hlh;injection h with h;subst h;refine⟨_,hrun (by omega) hlh.2,?_⟩;rw[zz (by omega)];simp only[Ae];refine⟨hb,hm,c-l,rfl,by omega,λarr ty fz he=>?_⟩;have hcc:=hcap arr ty fz he
    have e1:l*z'+(c-l)*z'=c*z':=by rw[<-Nat.add_mul];congr 1;omega
    omega
   .split at h
    .rename_i hlh;obtain⟨rfl,rfl⟩:=hlh;injection h with h;subst h;refine⟨_,hrun (by omega) (by omega),?_⟩;simp only[Ae,Nat.zero_mul,Nat.add_zero,ite_self,Nat.sub_zero];exact⟨hb,hm,c,rfl,by omega,hcap⟩
    .split at h
     .rename_i hlh;obtain⟨rfl,hle⟩:=hlh;injection h with h;subst h;refine⟨_,hrun (by omega) hle,?_⟩;simp only[Ae,An,Nat.sub_self];by_cases hcl:c=l
      .rw[zy hcl];exact⟨_,_,rfl,Xc _,.inl ⟨trivial,trivial⟩⟩
      .rw[zz hcl];exact⟨_,_,rfl,Xc _,.inl ⟨trivial,trivial⟩⟩
     .cases h
  .cases h
 .cases h
def IR (P:Program) (t:TypeId) (p:PV) (c:Value):Option Bool:=
 match c,P.underlying t,p with
 | .slice none _ _,some (.slice _),.t (.v (.slice none _ _))=>some true
 | .slice none _ _,some (.slice _),.t (.sl _ _)=>some false
 | .slice none _ _,some (.slice _),.row _ _ _ _=>some false
 | .nilIface,some (.interface _),.t (.v .nilIface)=>some true
 | .nilIface,some (.interface _),.t (.ic _ _)=>some false
 | .nilIface,some (.interface _),.ic _ _=>some false
 | .pointer none,some (.pointer _),.t (.v (.pointer none))=>some true
 | .pointer none,some (.pointer _),.t (.pt _)=>some false
 | .pointer none,some (.pointer _),.ptr _ _=>some false
 | .nilFunc,some (.func _ _ _),.t (.v .nilFunc)=>some true
 | .nilFunc,some (.func _ _ _),.t (.v (.func _ _ _))=>some false
 | .nilFunc,some (.func _ _ _),.fn _ _ _=>some false
 | .map none,some (.map _ _),.t (.v (.map none))=>some true
 | .map none,some (.map _ _),.mp _=>some false
 | _,_,_=>none
theorem JO {P:Program} {t:TypeId} {x y:Value} {b:Bool} {w:World} (h:∀d,(Op.equalIn (d+1) t x y).run P w = .ok b w):(Op.equal t x y).run P w = .ok b w:=by
 unfold Op.equal;rw[show Op.maxDepth=9999+1 from rfl];exact h _
section
variable {P : Program} {t : TypeId} (w : World)
theorem QB {e:TypeId} (hu:P.underlying t=some (.slice e)) (A:Option Addr) (n c n' c':Nat):(Op.equal t (.slice A n c) (.slice none n' c')).run P w = .ok A.isNone w:=
 JO λd=>by cases A<;>simp[Op.equalIn,run_underlying hu]
theorem jY {ms} (hu:P.underlying t=some (.interface ms)):(Op.equal t .nilIface .nilIface).run P w = .ok true w:=JO λd=>by simp[Op.equalIn,run_underlying hu]
theorem Ue {ms} (hu:P.underlying t=some (.interface ms)) (k:TypeId) (y:Value):(Op.equal t (.iface k y) .nilIface).run P w = .ok false w:=JO λd=>by simp[Op.equalIn,run_underlying hu]
theorem QC {e} (hu:P.underlying t=some (.pointer e)) (A:Option Addr):(Op.equal t (.pointer A) (.pointer none)).run P w = .ok A.isNone w:=JO λd=>by cases A<;>simp[Op.equalIn,run_underlying hu]
theorem jZ {a b c} (hu:P.underlying t=some (.func a b c)):(Op.equal t .nilFunc .nilFunc).run P w = .ok true w:=JO λd=>by simp[Op.equalIn,run_underlying hu]
theorem Uf {a b c} (hu:P.underlying t=some (.func a b c)) (f:Fn) (us vs:Array Value):(Op.equal t (.func f us vs) .nilFunc).run P w = .ok false w:=JO λd=>by simp[Op.equalIn,run_underlying hu]
theorem Ug {k e} (hu:P.underlying t=some (.map k e)) (A:Option Nat):(Op.equal t (.map A) (.map none)).run P w = .ok A.isNone w:=JO λd=>by cases A<;>simp[Op.equalIn,run_underlying hu]
end
theorem Uh {P:Program} {L:Loc} {w:World} {t:TypeId} {p:PV} {c u:Value} {b:Bool} (h:IR P t p c=some b) (hp:Ae P L w p u) (x:Operand) :
  (do eqGuard .eql t x (.const c) u c;binOp .eql t u c:Sem Value).run P w = .ok (.bool b) w/\(do eqGuard .neq t x (.const c) u c;binOp .neq t u c:Sem Value).run P w = .ok (.bool (!b)) w:=by
 unfold IR at h;split at h<;>(try cases h)<;>(simp only[Ae,An]at hp)
 .rename_i hu;subst hp;simp[eqGuard_at_slice,binOp,QB w hu]
 .rename_i hu;obtain⟨a,cc,rfl,_⟩:=hp;simp[eqGuard_at_slice,binOp,QB w hu]
 .rename_i hu;obtain⟨_,_,cc,rfl,_⟩:=hp;simp[eqGuard_at_slice,binOp,QB w hu]
 .rename_i hu;subst hp;simp[eqGuard_nil_constR,binOp,jY w hu]
 .rename_i hu;obtain⟨y,rfl,_⟩:=hp;simp[eqGuard_at_iface,binOp,Ue w hu]
 .rename_i hu;obtain⟨y,rfl,_⟩:=hp;simp[eqGuard_at_iface,binOp,Ue w hu]
 .rename_i hu;subst hp;simp[eqGuard_at_pointer,binOp,QC w hu]
 .rename_i hu;obtain⟨b,o,rfl,_⟩:=hp;simp[eqGuard_at_pointer,binOp,QC w hu]
 .rename_i hu;obtain⟨_,rfl⟩:=hp;simp[eqGuard_at_pointer,binOp,QC w hu]
 .rename_i hu;subst hp;simp[eqGuard_at_nilFunc,binOp,jZ w hu]
 .rename_i hu;subst hp;simp[eqGuard_at_func,binOp,Uf w hu]
 .rename_i hu;obtain⟨us,vs,rfl,_⟩:=hp;simp[eqGuard_at_func,binOp,Uf w hu]
 .rename_i hu;subst hp;simp[eqGuard_at_map,binOp,Ug w hu]
 .rename_i hu;obtain⟨_,rfl⟩:=hp;simp[eqGuard_at_map,binOp,Ug w hu]
def GP (P:Program) (op:BinOp) (t:TypeId) (p:PV) (y:Operand):Option PV:=
 match y with
 | .const c=>match op with
  | .eql=>(IR P t p c).map λb=>.t (.v (.bool b))
  | .neq=>(IR P t p c).map λb=>.t (.v (.bool (!b)))
  | _=>none
 | _=>none
theorem kA {P:Program} {L:Loc} {w:World} {t:TypeId} {op:BinOp} {p r:PV} {x y:Operand} {u:Value} {ρ:Operand->Value} (hconst:∀c,ρ (.const c)=c) (h:GP P op t p y=some r) (hp:Ae P L w p u) :
  ∃v,(do eqGuard op t x y u (ρ y);binOp op t u (ρ y):Sem Value).run P w = .ok v w/\Ae P L w r v:=by
 cases y with
 | const c=>
  simp only[GP]at h;rw[hconst]
  cases op<;>simp only at h<;>try cases h
  .cases hn:IR P t p c with
   | none=>rw[hn]at h;cases h
   | some b=>
    rw[hn]at h;injection h with h;subst h;exact⟨.bool b,(Uh hn hp x).1,by simp only[Ae,An]⟩
  .cases hn:IR P t p c with
   | none=>rw[hn]at h;cases h
   | some b=>
    rw[hn]at h;injection h with h;subst h;exact⟨.bool (!b),(Uh hn hp x).2,by simp only[Ae,An]⟩
 | tmp _=>simp[GP]at h
 | global _=>simp[GP]at h
 | func _=>simp[GP]at h
@[simp] def MI (p q:PV):Option PV:=
 match p,q with
 | .t (.v (.int k x)),.t (.v (.int _ y))=>some (.t (.v (.int k (if y<x then y else x))))
 | _,_=>none
@[simp] def MJ (p q:PV):Option PV:=
 match p,q with
 | .t (.v (.int k x)),.t (.v (.int _ y))=>some (.t (.v (.int k (if y>x then y else x))))
 | _,_=>none
theorem kB {P:Program} {L:Loc} {w:World} {p q r:PV} {u v:Value} (ts:Array TypeId) (ty:TypeId) (h:MI p q=some r) (hp:Ae P L w p u) (hq:Ae P L w q v) :
  ∃x,(Builtin.min_ ts ty #[u,v]).run P w = .ok x w/\Ae P L w r x:=by
 unfold MI at h;split at h
 .rename_i k x k' y;injection h with h;subst h;simp only[Ae,An]at hp hq;subst hp;subst hq;exact⟨.int k (if y<x then y else x),by simp[Builtin.min_,Builtin.min2],by simp only[Ae,An]⟩
 .cases h
theorem kC {P:Program} {L:Loc} {w:World} {p q r:PV} {u v:Value} (ts:Array TypeId) (ty:TypeId) (h:MJ p q=some r) (hp:Ae P L w p u) (hq:Ae P L w q v) :
  ∃x,(Builtin.max_ ts ty #[u,v]).run P w = .ok x w/\Ae P L w r x:=by
 unfold MJ at h;split at h
 .rename_i k x k' y;injection h with h;subst h;simp only[Ae,An]at hp hq;subst hp;subst hq;exact⟨.int k (if y>x then y else x),by simp[Builtin.max_,Builtin.max2],by simp only[Ae,An]⟩
 .cases h
def Lm (P:Program) (b:Builtin) (args:List PV) (ts:List TypeId):Option PV:=
 match b,args,ts with
 | .len,[x],[t]=>JN P t x
 | .min,[x,y],_=>MI x y
 | .max,[x,y],_=>MJ x y
 | _,_,_=>none
def Dd (P:Program) (H:Ab) (ev:Operand->PV) (o:Op):Option PV:=
 match o with
 | .move x=>some (ev x)
 | .assign x=>some (ev x)
 | .pick c a b=>match ev c with
  | .t (.v (.bool t))=>some (bif t then ev a else ev b)
  | _=>none
 | .binOp op t x y _=>match ev x,ev y with
  | .t (.v a),.t (.v b)=>match MD P t op a b with
   | some v=>some (.t (.v v))
   | none=>GP P op t (ev x) y
  | _,_=>GP P op t (ev x) y
 | .unOp op _ x=>match ev x with
  | .t (.v a)=>(unV op a).map λv=>.t (.v v)
  | _=>none
 | .convert src dst x=>match ev x with
  | .t (.v a)=>(Lk P src dst a).map λv=>.t (.v v)
  | _=>none
 | .load t a=>JM P H t (ev a)
 | .fieldAddr t x f=>MF P t (ev x) f
 | .field t x f=>MG P t (ev x) f
 | .indexAddr t x i=>HH P t (ev x) (ev i)
 | .index t x i=>MH P t (ev x) (ev i)
 | .slice t x lo hi none=>HI P t (ev x) (lo.map ev) (hi.map ev)
 | .extract x i=>Bv (ev x) i
 | .nilCheck x=>match ev x with
  | .ptr b o=>some (.ptr b o)
  | .t (.pt cs)=>some (.t (.pt cs))
  | .fn (.func f) first cap=>some (.fn (.func f) first cap)
  | .t (.v (.func (.func f) x y))=>some (.t (.v (.func (.func f) x y)))
  | _=>none
 | .call ⟨.builtin b,args,ts⟩=>Lm P b (args.toList.map ev) ts.toList
 | _=>none
theorem kD {P:Program} {G:Ay} {L:Loc} {H:Ab} {w:World} {ev:Operand->PV} {ρ:Operand->Value} {o:Oper} {r:PV} (hok:Bx P G L H w) (hev:∀x,Ae P L w (ev x) (ρ x))
  (hconst:∀c,ρ (.const c)=c) (h:Dd P H ev o.op=some r):∃v,(execOp ρ o).run P w = .ok (.value v) w/\Ae P L w r v:=by
 unfold Dd at h;split at h
 .rename_i x ho;injection h with h;subst h;exact⟨ρ x,by simp[execOp,ho],hev x⟩
 .rename_i x ho;injection h with h;subst h;exact⟨ρ x,by simp[execOp,ho],hev x⟩
 .rename_i c a b ho;split at h
  .rename_i t hc;injection h with h;subst h;have h1:=hev c;rw[hc]at h1;simp only[Ae,An]at h1;cases t
   .exact⟨ρ b,by simp[execOp,ho,h1,asBool],hev b⟩
   .exact⟨ρ a,by simp[execOp,ho,h1,asBool],hev a⟩
  .cases h
 .rename_i op t x y yt ho
  have noconst:GP P op t (ev x) y=some r->∃v,(execOp ρ o).run P w = .ok (.value v) w/\Ae P L w r v:=by
   intro hh;obtain⟨v,hrun,hr⟩:=kA (x:=x) hconst hh (hev x);refine⟨v,?_,hr⟩;simp only[execOp,ho,Sem.run_bind]at hrun ⊢;rw[hrun];simp
  split at h
  .rename_i a b ha hb;split at h
   .rename_i v hv;injection h with h;subst h;have h1:=hev x;have h2:=hev y;rw[ha]at h1;rw[hb]at h2;simp only[Ae,An]at h1 h2;have:=jD hv x y w;refine⟨v,?_,by simp only[Ae,An]⟩;simp only[execOp,ho,h1,h2,Sem.run_bind]at this ⊢;rw[this];simp
   .exact noconst h
  .exact noconst h
 .rename_i op t x ho;split at h
  .rename_i a ha
   cases hv:unV op a with
   | none=>rw[hv]at h;cases h
   | some v=>
    rw[hv]at h;injection h with h;subst h;have h1:=hev x;rw[ha]at h1;simp only[Ae,An]at h1;exact⟨v,by simp[execOp,ho,h1,jE hv w],by simp only[Ae,An]⟩
  .cases h
 .rename_i src dst x ho;split at h
  .rename_i a ha
   cases hv:Lk P src dst a with
   | none=>rw[hv]at h;cases h
   | some v=>
    rw[hv]at h;injection h with h;subst h;have h1:=hev x;rw[ha]at h1;simp only[Ae,An]at h1;exact⟨v,by simp[execOp,ho,h1,jH hv w],by simp only[Ae,An]⟩
  .cases h
 .rename_i t x ho;obtain⟨v,hrun,hr⟩:=Ub hok h (hev x);exact⟨v,by simp[execOp,ho,hrun],hr⟩
 .rename_i t x f ho;obtain⟨v,hrun,hr⟩:=jK h (hev x);exact⟨v,by simp[execOp,ho,hrun],hr⟩
 .rename_i t x f ho;obtain⟨v,hrun,hr⟩:=jP h (hev x);exact⟨v,by simp[execOp,ho,hrun],hr⟩
 .rename_i t x i ho;obtain⟨v,hrun,hr⟩:=jJ h (hev x) (hev i);exact⟨v,by simp[execOp,ho,hrun],hr⟩
 .rename_i t x i ho;obtain⟨v,hrun,hr⟩:=jQ h (hev x) (hev i);exact⟨v,by simp[execOp,ho,hrun],hr⟩
 .rename_i t x lo hi ho
  have aux:∀(q:Option Operand),(∀p,q.map ev=some p->∃u,q.map ρ=some u/\Ae P L w p u)/\(q.map ev=none->q.map ρ=none):=by
   intro q
   cases q with
   | none=>simp
   | some q=>exact⟨λp hp=>by simp at hp;subst hp;exact⟨ρ q,rfl,hev q⟩,by simp⟩
  obtain⟨v,hrun,hr⟩:=jU hok (aux lo).1 (aux lo).2 (aux hi).1 (aux hi).2 h (hev x);exact⟨v,by simp[execOp,ho,hrun],hr⟩
 .rename_i x i ho;obtain⟨v,hrun,hr⟩:=jS h (hev x);exact⟨v,by simp[execOp,ho,hrun],hr⟩
 .rename_i x ho;have h1:=hev x;split at h
  .rename_i b off hx;injection h with h;subst h;rw[hx]at h1;refine⟨ρ x,?_,h1⟩;simp only[Ae]at h1;simp[execOp,ho,h1.2]
  .rename_i cs hx;injection h with h;subst h;rw[hx]at h1;refine⟨ρ x,?_,h1⟩;simp only[Ae,An]at h1;obtain⟨b,off,e,_⟩:=h1;simp[execOp,ho,e]
  .rename_i f first cap hx
   injection h with h;subst h;rw[hx]at h1;refine⟨ρ x,?_,h1⟩;simp only[Ae]at h1;obtain⟨us,vs,e,_⟩:=h1;simp[execOp,ho,e]
  .rename_i f us vs hx;injection h with h;subst h;rw[hx]at h1;refine⟨ρ x,?_,h1⟩;simp only[Ae,An]at h1;simp[execOp,ho,h1]
  .cases h
 .rename_i b args ts ho;unfold Lm at h;split at h
  .rename_i x t hx ht;obtain⟨args⟩:=args;obtain⟨ts⟩:=ts;simp only at hx ht
   cases args with
   | nil=>simp at hx
   | cons y args=>
    simp only[Xd,Xe.injEq,Xf]at hx;obtain⟨rfl,rfl⟩:=hx;subst ht;obtain⟨v,hrun,hr⟩:=jR (ty:=o.type) h (hev y);exact⟨v,by simp[execOp,ho,resolve,invoke,builtin,hrun],hr⟩
  .rename_i x y ts' hx;obtain⟨args⟩:=args;simp only at hx
   cases args with
   | nil=>simp at hx
   | cons p args=>cases args with
    | nil=>simp at hx
    | cons q args=>
     simp only[Xd,Xe.injEq,Xf]at hx;obtain⟨rfl,rfl,rfl⟩:=hx;obtain⟨v,hrun,hr⟩:=kB ts o.type h (hev p) (hev q);exact⟨v,by simp[execOp,ho,resolve,invoke,builtin,hrun],hr⟩
  .rename_i x y ts' hx;obtain⟨args⟩:=args;simp only at hx
   cases args with
   | nil=>simp at hx
   | cons p args=>cases args with
    | nil=>simp at hx
    | cons q args=>
     simp only[Xd,Xe.injEq,Xf]at hx;obtain⟨rfl,rfl,rfl⟩:=hx;obtain⟨v,hrun,hr⟩:=kC ts o.type h (hev p) (hev q);exact⟨v,by simp[execOp,ho,resolve,invoke,builtin,hrun],hr⟩
  .cases h
 .cases h
theorem kE {P:Program} {G:Ay} {B:Nat} {s:Ac} {o:Oper} {r:PV} (h:Dd P s.H (s.ev G) o.op=some r):AOp P G B o s r s.H s.nx:=
 Lj λ_ _ _ hi=>kD hi.heap hi.ev (λ_=>rfl) h
end Go.Abs
