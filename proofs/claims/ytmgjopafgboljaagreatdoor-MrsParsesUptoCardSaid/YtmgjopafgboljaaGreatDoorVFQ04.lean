/- Auxiliary facts. -/
import Derived.Test.YtmgjopafgboljaaGreatDoorVFQ03
import Derived.WalkSpells
set_option linter.unusedSimpArgs false
set_option linter.unusedVariables false
open Nat renaming le_refl->Xc,zero_le->Xe
open Option renaming some->Xd
open List renaming map_cons->Xf,cons->Xg,map_eq_nil_iff->Xh
namespace Go.Abs
open Go
@[simp] def Cu (p:Option PV) (d:Nat):Option Nat:=
 match p with
 | none=>some d
 | some (.t (.v (.int _ i)))=>if 0<=i then some i.toNat else none
 | _=>none
theorem M9 {P:Program} {w:World} (isSlice:Bool) (n cap:Nat) (hnc:n<=cap) {L:Loc} {lo hi:Option PV} {lo' hi':Option Value} {l h:Nat}
  (hlo:∀p,lo=some p->∃u,lo'=some u/\Aq P L w p u) (hlo0:lo=none->lo'=none)
  (hhi:∀p,hi=some p->∃u,hi'=some u/\Aq P L w p u) (hhi0:hi=none->hi'=none)
  (el:Cu lo 0=some l) (eh:Cu hi n=some h) (hlh:l<=h) (hh:h<=n) :
  (Instr.sliceBounds isSlice n cap lo' hi' none).run P w = .ok (l,h,cap) w:=by
 have bnd:∀{p:PV} {u:Value} {d r y:Nat} (c:BoundsCode),Aq P L w p u->Cu (some p) d=some r->r<=y->(Instr.sliceBound u y c).run P w = .ok r w:=by
  intro p u d r y c hr hb hy;unfold Cu at hb;split at hb
  .rename_i heq;cases heq
  .rename_i k i heq;injection heq with heq;subst heq;simp only[Aq,AA]at hr;subst hr;split at hb
   .rename_i hi;injection hb with hb;subst hb;simp only[Instr.sliceBound,asIntOf,Sem.run_bind,Sem.run_pure,Result.andThen_ok];rw[zu ⟨hi,by omega⟩];simp
   .cases hb
  .cases hb
 cases hi with
 | none=>
  have e1:=hhi0 rfl;subst e1;simp only[Cu,Xd.injEq]at eh;subst eh
  cases lo with
  | none=>
   have e2:=hlo0 rfl;subst e2;simp only[Cu,Xd.injEq]at el;subst el;simp[Instr.sliceBounds]
  | some p=>
   obtain⟨u,rfl,hr⟩:=hlo p rfl;simp[Instr.sliceBounds,bnd _ hr el hlh]
 | some q=>
  obtain⟨v,rfl,hq⟩:=hhi q rfl
  cases lo with
  | none=>
   have e2:=hlo0 rfl;subst e2;simp only[Cu,Xd.injEq]at el;subst el;simp[Instr.sliceBounds,bnd _ hq eh (by omega:h<=cap)]
  | some p=>
   obtain⟨u,rfl,hr⟩:=hlo p rfl;simp[Instr.sliceBounds,bnd _ hr el hlh,bnd _ hq eh (by omega:h<=cap)]
def GO (P:Program) (t:TypeId) (x:PV) (lo hi:Option PV):Option PV:=
 match x,P.underlying t with
 | .t (.v (.string s)),some .string=>match Cu lo 0,Cu hi s.size with
  | some l,some h=>if l<=h/\h<=s.size then some (.t (.v (.string (s.extract l h))))else none
  | _,_=>none
 | .t (.v (.slice none n c)),some (.slice _)=>match EY P t,Cu lo 0,Cu hi n with
  | some _,some l,some h=>if l=0/\h=0/\n=0/\c=0 then some (.t (.v (.slice none 0 0)))else none
  | _,_,_=>none
 | .t (.sl n cs),some (.slice _)=>match EY P t,Cu lo 0,Cu hi n with
  | some (_,z),some l,some h=>if l<=h/\h<=n then some (.t (.sl (h-l) ((cs.drop (l*z)).take ((h-l)*z))))else none
  | _,_,_=>none
 | .row b o n z,some (.slice _)=>match EY P t,Cu lo 0,Cu hi n with
  | some (_,z'),some l,some h=>if z'≠z then none else if l<h/\h<=n then some (.row b (o+l*z) (h-l) z)else if l=0/\h=0 then some (.row b o 0 z)else if l=h/\h<=n then some (.t (.sl 0 []))else none
  | _,_,_=>none
 | _,_=>none
theorem dA {P:Program} {G:AM} {L:Loc} {H:Ak} {w:World} (hok:B1 P G L H w) {t:TypeId} {x r:PV} {lo hi:Option PV} {u:Value} {lo' hi':Option Value}
  (hlo:∀p,lo=some p->∃u,lo'=some u/\Aq P L w p u) (hlo0:lo=none->lo'=none)
  (hhi:∀p,hi=some p->∃u,hi'=some u/\Aq P L w p u) (hhi0:hi=none->hi'=none)
  (h:GO P t x lo hi=some r) (hx:Aq P L w x u) :
  ∃v,(Instr.sliceAt t u lo' hi' none).run P w = .ok v w/\Aq P L w r v:=by
 unfold GO at h;split at h
 .rename_i s hu;split at h
  .rename_i l hh el eh;split at h
   .rename_i hb;injection h with h;subst h;simp only[Aq,AA]at hx;subst hx;have:=M9 (P:=P) (w:=w) false s.size s.size (Xc _) hlo hlo0 hhi hhi0 el eh hb.1 hb.2;refine⟨.string (s.extract l hh),?_,by simp only[Aq,AA]⟩;simp[Instr.sliceAt,Instr.slice,run_underlying hu,this]
   .cases h
  .cases h
 .rename_i n c e hu;split at h
  .rename_i ez l hh ee el eh;split at h
   .rename_i hb;obtain⟨rfl,rfl,rfl,rfl⟩:=hb;injection h with h;subst h;simp only[Aq,AA]at hx;subst hx;obtain⟨e',z⟩:=ez;obtain⟨hu',hz⟩:=M8 ee w;have:=M9 (P:=P) (w:=w) true 0 0 (Xc _) hlo hlo0 hhi hhi0 el eh (Xc _) (Xc _);refine⟨.slice none 0 0,?_,by simp only[Aq,AA]⟩;simp[Instr.sliceAt,Instr.slice,run_underlying hu',this,hz]
   .cases h
  .cases h
 .rename_i n cs e hu;split at h
  .rename_i e' z l hh ee el eh;split at h
   .rename_i hb;injection h with h;subst h;simp only[Aq,AA]at hx;obtain⟨a,c,rfl,hc,hI⟩:=hx;obtain⟨hu',hz⟩:=M8 ee w;have:=M9 (P:=P) (w:=w) true n c hc hlo hlo0 hhi hhi0 el eh hb.1 hb.2
    have hrun:(Instr.sliceAt t (.slice (some a) n c) lo' hi' none).run P w = .ok (.slice (if c=l then some a else some (a.add (l*z))) (hh-l) (c-l)) w:=by
     simp[Instr.sliceAt,Instr.slice,run_underlying hu',this,hz]
    refine⟨_,hrun,?_⟩;simp only[Aq,AA];by_cases hcl:c=l
    .have h0:hh-l=0:=by omega
     rw[zu hcl,h0];exact⟨a,c-l,rfl,Xe _,.inl ⟨rfl,by simp⟩⟩
    .rw[zw hcl];refine⟨a.add (l*z),c-l,rfl,by omega,?_⟩;rcases hI with⟨h1,h2⟩ | ⟨hsp,hb',hr⟩
     .exact .inl ⟨by omega,by simp[h2]⟩
     .obtain⟨b,o,sp⟩:=a;simp only at hsp hb' hr;subst hsp;rw[Addr.add_lit];exact .inr ⟨rfl,hb',(hr.drop _).take _⟩
   .cases h
  .cases h
 .rename_i b o n z e hu;split at h
  .rename_i e' z' l hh ee el eh;split at h
   .cases h
   rename_i hzz
   have hzz:z'=z:=by simpa using hzz
   subst hzz;simp only[Aq]at hx;obtain⟨hb,hm,c,rfl,hc,hcap⟩:=hx;obtain⟨hu',hz⟩:=M8 ee w
   have hrun:∀(_:l<=hh) (_:hh<=n),(Instr.sliceAt t (.slice (some ⟨L.μ b,o,none⟩) n c) lo' hi' none).run P w = .ok (.slice (if c=l then some ⟨L.μ b,o,none⟩else some ⟨L.μ b,o+l*z',none⟩) (hh-l) (c-l)) w:=by
    intro h1 h2;have:=M9 (P:=P) (w:=w) true n c hc hlo hlo0 hhi hhi0 el eh h1 h2;simp[Instr.sliceAt,Instr.slice,run_underlying hu',this,hz,Addr.add_lit]
   split at h
   .rename_i hlh;injection h with h;subst h;refine⟨_,hrun (by omega) hlh.2,?_⟩;rw[zw (by omega)];simp only[Aq];refine⟨hb,hm,c-l,rfl,by omega,λarr ty fz he=>?_⟩;have hcc:=hcap arr ty fz he
    have e1:l*z'+(c-l)*z'=c*z':=by rw[<-Nat.add_mul];congr 1;omega
    omega
   .split at h
    .rename_i hlh;obtain⟨rfl,rfl⟩:=hlh;injection h with h;subst h;refine⟨_,hrun (by omega) (by omega),?_⟩;simp only[Aq,Nat.zero_mul,Nat.add_zero,ite_self,Nat.sub_zero];exact⟨hb,hm,c,rfl,by omega,hcap⟩
    .split at h
     .rename_i hlh;obtain⟨rfl,hle⟩:=hlh;injection h with h;subst h;refine⟨_,hrun (by omega) hle,?_⟩;simp only[Aq,AA,Nat.sub_self];by_cases hcl:c=l
      .rw[zu hcl];exact⟨_,_,rfl,Xe _,.inl ⟨trivial,trivial⟩⟩
      .rw[zw hcl];exact⟨_,_,rfl,Xe _,.inl ⟨trivial,trivial⟩⟩
     .cases h
  .cases h
 .cases h
def HN (P:Program) (t:TypeId) (p:PV) (c:Value):Option Bool:=
 match c,P.underlying t,p with
 | .slice none _ _,some (.slice _),.t (.v (.slice none _ _))=>some true
 | .slice none _ _,some (.slice _),.t (.sl _ _)=>some false
 | .slice none _ _,some (.slice _),.row _ _ _ _=>some false
 | .nilIface,some (.interface _),.t (.v .nilIface)=>some true
 | .nilIface,some (.interface _),.t (.ic _ _)=>some false
 | .nilIface,some (.interface _),.ic _ _=>some false
 | .pointer none,some (.pointer _),.t (.v (.pointer none))=>some true
 | .pointer none,some (.pointer _),.t (.pt _)=>some false
 | .pointer none,some (.pointer _),.ptr _ _=>some false
 | .nilFunc,some (.func _ _ _),.t (.v .nilFunc)=>some true
 | .nilFunc,some (.func _ _ _),.t (.v (.func _ _ _))=>some false
 | .nilFunc,some (.func _ _ _),.fn _ _ _=>some false
 | .map none,some (.map _ _),.t (.v (.map none))=>some true
 | .map none,some (.map _ _),.mp _=>some false
 | _,_,_=>none
theorem I8 {P:Program} {t:TypeId} {x y:Value} {b:Bool} {w:World} (h:∀d,(Op.equalIn (d+1) t x y).run P w = .ok b w):(Op.equal t x y).run P w = .ok b w:=by
 unfold Op.equal;rw[show Op.maxDepth=9999+1 from rfl];exact h _
section
variable {P : Program} {t : TypeId} (w : World)
theorem OJ {e:TypeId} (hu:P.underlying t=some (.slice e)) (A:Option Addr) (n c n' c':Nat):(Op.equal t (.slice A n c) (.slice none n' c')).run P w = .ok A.isNone w:=
 I8 λd=>by cases A<;>simp[Op.equalIn,run_underlying hu]
theorem dC {ms} (hu:P.underlying t=some (.interface ms)):(Op.equal t .nilIface .nilIface).run P w = .ok true w:=I8 λd=>by simp[Op.equalIn,run_underlying hu]
theorem RJ {ms} (hu:P.underlying t=some (.interface ms)) (k:TypeId) (y:Value):(Op.equal t (.iface k y) .nilIface).run P w = .ok false w:=I8 λd=>by simp[Op.equalIn,run_underlying hu]
theorem OK {e} (hu:P.underlying t=some (.pointer e)) (A:Option Addr):(Op.equal t (.pointer A) (.pointer none)).run P w = .ok A.isNone w:=I8 λd=>by cases A<;>simp[Op.equalIn,run_underlying hu]
theorem dD {a b c} (hu:P.underlying t=some (.func a b c)):(Op.equal t .nilFunc .nilFunc).run P w = .ok true w:=I8 λd=>by simp[Op.equalIn,run_underlying hu]
theorem RK {a b c} (hu:P.underlying t=some (.func a b c)) (f:Fn) (us vs:Array Value):(Op.equal t (.func f us vs) .nilFunc).run P w = .ok false w:=I8 λd=>by simp[Op.equalIn,run_underlying hu]
theorem RM {k e} (hu:P.underlying t=some (.map k e)) (A:Option Nat):(Op.equal t (.map A) (.map none)).run P w = .ok A.isNone w:=I8 λd=>by cases A<;>simp[Op.equalIn,run_underlying hu]
end
theorem RN {P:Program} {L:Loc} {w:World} {t:TypeId} {p:PV} {c u:Value} {b:Bool} (h:HN P t p c=some b) (hp:Aq P L w p u) (x:Operand) :
  (do eqGuard .eql t x (.const c) u c;binOp .eql t u c:Sem Value).run P w = .ok (.bool b) w/\(do eqGuard .neq t x (.const c) u c;binOp .neq t u c:Sem Value).run P w = .ok (.bool (!b)) w:=by
 unfold HN at h;split at h<;>(try cases h)<;>(simp only[Aq,AA]at hp)
 .rename_i hu;subst hp;simp[eqGuard_at_slice,binOp,OJ w hu]
 .rename_i hu;obtain⟨a,cc,rfl,_⟩:=hp;simp[eqGuard_at_slice,binOp,OJ w hu]
 .rename_i hu;obtain⟨_,_,cc,rfl,_⟩:=hp;simp[eqGuard_at_slice,binOp,OJ w hu]
 .rename_i hu;subst hp;simp[eqGuard_nil_constR,binOp,dC w hu]
 .rename_i hu;obtain⟨y,rfl,_⟩:=hp;simp[eqGuard_at_iface,binOp,RJ w hu]
 .rename_i hu;obtain⟨y,rfl,_⟩:=hp;simp[eqGuard_at_iface,binOp,RJ w hu]
 .rename_i hu;subst hp;simp[eqGuard_at_pointer,binOp,OK w hu]
 .rename_i hu;obtain⟨b,o,rfl,_⟩:=hp;simp[eqGuard_at_pointer,binOp,OK w hu]
 .rename_i hu;obtain⟨_,rfl⟩:=hp;simp[eqGuard_at_pointer,binOp,OK w hu]
 .rename_i hu;subst hp;simp[eqGuard_at_nilFunc,binOp,dD w hu]
 .rename_i hu;subst hp;simp[eqGuard_at_func,binOp,RK w hu]
 .rename_i hu;obtain⟨us,vs,rfl,_⟩:=hp;simp[eqGuard_at_func,binOp,RK w hu]
 .rename_i hu;subst hp;simp[eqGuard_at_map,binOp,RM w hu]
 .rename_i hu;obtain⟨_,rfl⟩:=hp;simp[eqGuard_at_map,binOp,RM w hu]
def Gq (P:Program) (op:BinOp) (t:TypeId) (p:PV) (y:Operand):Option PV:=
 match y with
 | .const c=>match op with
  | .eql=>(HN P t p c).map λb=>.t (.v (.bool b))
  | .neq=>(HN P t p c).map λb=>.t (.v (.bool (!b)))
  | _=>none
 | _=>none
theorem dE {P:Program} {L:Loc} {w:World} {t:TypeId} {op:BinOp} {p r:PV} {x y:Operand} {u:Value} {ρ:Operand->Value} (hconst:∀c,ρ (.const c)=c) (h:Gq P op t p y=some r) (hp:Aq P L w p u) :
  ∃v,(do eqGuard op t x y u (ρ y);binOp op t u (ρ y):Sem Value).run P w = .ok v w/\Aq P L w r v:=by
 cases y with
 | const c=>
  simp only[Gq]at h;rw[hconst]
  cases op<;>simp only at h<;>try cases h
  .cases hn:HN P t p c with
   | none=>rw[hn]at h;cases h
   | some b=>
    rw[hn]at h;injection h with h;subst h;exact⟨.bool b,(RN hn hp x).1,by simp only[Aq,AA]⟩
  .cases hn:HN P t p c with
   | none=>rw[hn]at h;cases h
   | some b=>
    rw[hn]at h;injection h with h;subst h;exact⟨.bool (!b),(RN hn hp x).2,by simp only[Aq,AA]⟩
 | tmp _=>simp[Gq]at h
 | global _=>simp[Gq]at h
 | func _=>simp[Gq]at h
@[simp] def KL (p q:PV):Option PV:=
 match p,q with
 | .t (.v (.int k x)),.t (.v (.int _ y))=>some (.t (.v (.int k (if y<x then y else x))))
 | _,_=>none
@[simp] def I9 (p q:PV):Option PV:=
 match p,q with
 | .t (.v (.int k x)),.t (.v (.int _ y))=>some (.t (.v (.int k (if y>x then y else x))))
 | _,_=>none
theorem dF {P:Program} {L:Loc} {w:World} {p q r:PV} {u v:Value} (ts:Array TypeId) (ty:TypeId) (h:KL p q=some r) (hp:Aq P L w p u) (hq:Aq P L w q v) :
  ∃x,(Builtin.min_ ts ty #[u,v]).run P w = .ok x w/\Aq P L w r x:=by
 unfold KL at h;split at h
 .rename_i k x k' y;injection h with h;subst h;simp only[Aq,AA]at hp hq;subst hp;subst hq;exact⟨.int k (if y<x then y else x),by simp[Builtin.min_,Builtin.min2],by simp only[Aq,AA]⟩
 .cases h
theorem dG {P:Program} {L:Loc} {w:World} {p q r:PV} {u v:Value} (ts:Array TypeId) (ty:TypeId) (h:I9 p q=some r) (hp:Aq P L w p u) (hq:Aq P L w q v) :
  ∃x,(Builtin.max_ ts ty #[u,v]).run P w = .ok x w/\Aq P L w r x:=by
 unfold I9 at h;split at h
 .rename_i k x k' y;injection h with h;subst h;simp only[Aq,AA]at hp hq;subst hp;subst hq;exact⟨.int k (if y>x then y else x),by simp[Builtin.max_,Builtin.max2],by simp only[Aq,AA]⟩
 .cases h
def Jx (P:Program) (b:Builtin) (args:List PV) (ts:List TypeId):Option PV:=
 match b,args,ts with
 | .len,[x],[t]=>I7 P t x
 | .min,[x,y],_=>KL x y
 | .max,[x,y],_=>I9 x y
 | _,_,_=>none
def CT (P:Program) (H:Ak) (ev:Operand->PV) (o:Op):Option PV:=
 match o with
 | .move x=>some (ev x)
 | .assign x=>some (ev x)
 | .pick c a b=>match ev c with
  | .t (.v (.bool t))=>some (bif t then ev a else ev b)
  | _=>none
 | .binOp op t x y _=>match ev x,ev y with
  | .t (.v a),.t (.v b)=>match KG P t op a b with
   | some v=>some (.t (.v v))
   | none=>Gq P op t (ev x) y
  | _,_=>Gq P op t (ev x) y
 | .unOp op _ x=>match ev x with
  | .t (.v a)=>(unV op a).map λv=>.t (.v v)
  | _=>none
 | .convert src dst x=>match ev x with
  | .t (.v a)=>(Jt P src dst a).map λv=>.t (.v v)
  | _=>none
 | .load t a=>I6 P H t (ev a)
 | .fieldAddr t x f=>KH P t (ev x) f
 | .field t x f=>KI P t (ev x) f
 | .indexAddr t x i=>GN P t (ev x) (ev i)
 | .index t x i=>KJ P t (ev x) (ev i)
 | .slice t x lo hi none=>GO P t (ev x) (lo.map ev) (hi.map ev)
 | .extract x i=>B5 (ev x) i
 | .nilCheck x=>match ev x with
  | .ptr b o=>some (.ptr b o)
  | .t (.pt cs)=>some (.t (.pt cs))
  | .fn (.func f) first cap=>some (.fn (.func f) first cap)
  | .t (.v (.func (.func f) x y))=>some (.t (.v (.func (.func f) x y)))
  | _=>none
 | .call ⟨.builtin b,args,ts⟩=>Jx P b (args.toList.map ev) ts.toList
 | _=>none
theorem dH {P:Program} {G:AM} {L:Loc} {H:Ak} {w:World} {ev:Operand->PV} {ρ:Operand->Value} {o:Oper} {r:PV} (hok:B1 P G L H w) (hev:∀x,Aq P L w (ev x) (ρ x))
  (hconst:∀c,ρ (.const c)=c) (h:CT P H ev o.op=some r):∃v,(execOp ρ o).run P w = .ok (.value v) w/\Aq P L w r v:=by
 unfold CT at h;split at h
 .rename_i x ho;injection h with h;subst h;exact⟨ρ x,by simp[execOp,ho],hev x⟩
 .rename_i x ho;injection h with h;subst h;exact⟨ρ x,by simp[execOp,ho],hev x⟩
 .rename_i c a b ho;split at h
  .rename_i t hc;injection h with h;subst h;have h1:=hev c;rw[hc]at h1;simp only[Aq,AA]at h1;cases t
   .exact⟨ρ b,by simp[execOp,ho,h1,asBool],hev b⟩
   .exact⟨ρ a,by simp[execOp,ho,h1,asBool],hev a⟩
  .cases h
 .rename_i op t x y yt ho
  have noconst:Gq P op t (ev x) y=some r->∃v,(execOp ρ o).run P w = .ok (.value v) w/\Aq P L w r v:=by
   intro hh;obtain⟨v,hrun,hr⟩:=dE (x:=x) hconst hh (hev x);refine⟨v,?_,hr⟩;simp only[execOp,ho,Sem.run_bind]at hrun ⊢;rw[hrun];simp
  split at h
  .rename_i a b ha hb;split at h
   .rename_i v hv;injection h with h;subst h;have h1:=hev x;have h2:=hev y;rw[ha]at h1;rw[hb]at h2;simp only[Aq,AA]at h1 h2;have:=cR hv x y w;refine⟨v,?_,by simp only[Aq,AA]⟩;simp only[execOp,ho,h1,h2,Sem.run_bind]at this ⊢;rw[this];simp
   .exact noconst h
  .exact noconst h
 .rename_i op t x ho;split at h
  .rename_i a ha
   cases hv:unV op a with
   | none=>rw[hv]at h;cases h
   | some v=>
    rw[hv]at h;injection h with h;subst h;have h1:=hev x;rw[ha]at h1;simp only[Aq,AA]at h1;exact⟨v,by simp[execOp,ho,h1,cS hv w],by simp only[Aq,AA]⟩
  .cases h
 .rename_i src dst x ho;split at h
  .rename_i a ha
   cases hv:Jt P src dst a with
   | none=>rw[hv]at h;cases h
   | some v=>
    rw[hv]at h;injection h with h;subst h;have h1:=hev x;rw[ha]at h1;simp only[Aq,AA]at h1;exact⟨v,by simp[execOp,ho,h1,cT hv w],by simp only[Aq,AA]⟩
  .cases h
 .rename_i t x ho;obtain⟨v,hrun,hr⟩:=RG hok h (hev x);exact⟨v,by simp[execOp,ho,hrun],hr⟩
 .rename_i t x f ho;obtain⟨v,hrun,hr⟩:=cV h (hev x);exact⟨v,by simp[execOp,ho,hrun],hr⟩
 .rename_i t x f ho;obtain⟨v,hrun,hr⟩:=cW h (hev x);exact⟨v,by simp[execOp,ho,hrun],hr⟩
 .rename_i t x i ho;obtain⟨v,hrun,hr⟩:=cU h (hev x) (hev i);exact⟨v,by simp[execOp,ho,hrun],hr⟩
 .rename_i t x i ho;obtain⟨v,hrun,hr⟩:=cX h (hev x) (hev i);exact⟨v,by simp[execOp,ho,hrun],hr⟩
 .rename_i t x lo hi ho
  have aux:∀(q:Option Operand),(∀p,q.map ev=some p->∃u,q.map ρ=some u/\Aq P L w p u)/\(q.map ev=none->q.map ρ=none):=by
   intro q
   cases q with
   | none=>simp
   | some q=>exact⟨λp hp=>by simp at hp;subst hp;exact⟨ρ q,rfl,hev q⟩,by simp⟩
  obtain⟨v,hrun,hr⟩:=dA hok (aux lo).1 (aux lo).2 (aux hi).1 (aux hi).2 h (hev x);exact⟨v,by simp[execOp,ho,hrun],hr⟩
 .rename_i x i ho;obtain⟨v,hrun,hr⟩:=cZ h (hev x);exact⟨v,by simp[execOp,ho,hrun],hr⟩
 .rename_i x ho;have h1:=hev x;split at h
  .rename_i b off hx;injection h with h;subst h;rw[hx]at h1;refine⟨ρ x,?_,h1⟩;simp only[Aq]at h1;simp[execOp,ho,h1.2]
  .rename_i cs hx;injection h with h;subst h;rw[hx]at h1;refine⟨ρ x,?_,h1⟩;simp only[Aq,AA]at h1;obtain⟨b,off,e,_⟩:=h1;simp[execOp,ho,e]
  .rename_i f first cap hx
   injection h with h;subst h;rw[hx]at h1;refine⟨ρ x,?_,h1⟩;simp only[Aq]at h1;obtain⟨us,vs,e,_⟩:=h1;simp[execOp,ho,e]
  .rename_i f us vs hx;injection h with h;subst h;rw[hx]at h1;refine⟨ρ x,?_,h1⟩;simp only[Aq,AA]at h1;simp[execOp,ho,h1]
  .cases h
 .rename_i b args ts ho;unfold Jx at h;split at h
  .rename_i x t hx ht;obtain⟨args⟩:=args;obtain⟨ts⟩:=ts;simp only at hx ht
   cases args with
   | nil=>simp at hx
   | cons y args=>
    simp only[Xf,Xg.injEq,Xh]at hx;obtain⟨rfl,rfl⟩:=hx;subst ht;obtain⟨v,hrun,hr⟩:=cY (ty:=o.type) h (hev y);exact⟨v,by simp[execOp,ho,resolve,invoke,builtin,hrun],hr⟩
  .rename_i x y ts' hx;obtain⟨args⟩:=args;simp only at hx
   cases args with
   | nil=>simp at hx
   | cons p args=>cases args with
    | nil=>simp at hx
    | cons q args=>
     simp only[Xf,Xg.injEq,Xh]at hx;obtain⟨rfl,rfl,rfl⟩:=hx;obtain⟨v,hrun,hr⟩:=dF ts o.type h (hev p) (hev q);exact⟨v,by simp[execOp,ho,resolve,invoke,builtin,hrun],hr⟩
  .rename_i x y ts' hx;obtain⟨args⟩:=args;simp only at hx
   cases args with
   | nil=>simp at hx
   | cons p args=>cases args with
    | nil=>simp at hx
    | cons q args=>
     simp only[Xf,Xg.injEq,Xh]at hx;obtain⟨rfl,rfl,rfl⟩:=hx;obtain⟨v,hrun,hr⟩:=dG ts o.type h (hev p) (hev q);exact⟨v,by simp[execOp,ho,resolve,invoke,builtin,hrun],hr⟩
  .cases h
 .cases h
theorem dI {P:Program} {G:AM} {B:Nat} {s:Am} {o:Oper} {r:PV} (h:CT P s.H (s.ev G) o.op=some r):AOp P G B o s r s.H s.nx:=
 Fm λ_ _ _ hi=>dH hi.heap hi.ev (λ_=>rfl) h
end Go.Abs
