/- Auxiliary facts. -/
import Derived.Test.YtobnacghaamfoaaGreatDoorVHQ02
import Derived.Laws.Entries
import Derived.Laws.Slices
import Derived.Laws.Cells
import Derived.Laws.Rows
set_option linter.unusedSimpArgs false
set_option linter.unusedVariables false
open BitVec renaming ofInt->Xa
open Go.Result renaming andThen_ok->Xb
open List renaming getElem?_take->Xc,getElem?_drop->Xe,mem_of_mem_drop->Xf,mem_of_mem_take->Xg,extract_eq_take_drop->Xh
open Option renaming some->Xd
namespace Go.Abs
open Go
section
variable {P : Program} {G : Ay} {B : Nat} {s : Ac} {o : Oper} {r : PV}
theorem Lj (h:∀L a w,Interp P G B L s a w->∃v,(execOp a.eval o).run P w = .ok (.value v) w/\Ae P L w r v):AOp P G B o s r s.H s.nx:=λL a w hi=>by
 obtain⟨v,hrun,hr⟩:=h L a w hi;unfold Oper.wp;rw[hrun,Oper.upon_value];exact⟨v,L,rfl,hr,hi.heap,hi.nx,AO.refl L w,Ext.refl _ _ _⟩
end
def MD (P:Program) (t:TypeId) (op:BinOp) (x y:Value):Option Value:=
 match x,y with
 | .int k a,.int k' b=>
  match op with
  | .shl=>if b<0 then none else some (.int k (k.wrap (a*2^(min b.toNat k.bits))))
  | .shr=>if b<0 then none else some (.int k (a.fdiv (2^(min b.toNat k.bits))))
  | .add=>if k=k' then some (.int k (k.wrap (a+b)))else none
  | .sub=>if k=k' then some (.int k (k.wrap (a-b)))else none
  | .mul=>if k=k' then some (.int k (k.wrap (a*b)))else none
  | .quo=>if k=k' then(if b=0 then none else some (.int k (k.wrap (a.tdiv b))))else none
  | .rem=>if k=k' then(if b=0 then none else some (.int k (a.tmod b)))else none
  | .and=>if k=k' then some (.int k (k.wrap (Xa k.bits a&&&Xa k.bits b).toNat))else none
  | .or=>if k=k' then some (.int k (k.wrap (Xa k.bits a|||Xa k.bits b).toNat))else none
  | .xor=>if k=k' then some (.int k (k.wrap (Xa k.bits a ^^^ Xa k.bits b).toNat))else none
  | .andNot=>if k=k' then some (.int k (k.wrap (Xa k.bits a &&& ~~~ (Xa k.bits b)).toNat))else none
  | .eql=>if k=k' then some (.bool (a==b))else none
  | .neq=>if k=k' then some (.bool (a != b))else none
  | .lss=>if k=k' then some (.bool (decide (a<b)))else none
  | .leq=>if k=k' then some (.bool (decide (a<=b)))else none
  | .gtr=>if k=k' then some (.bool (decide (b<a)))else none
  | .geq=>if k=k' then some (.bool (decide (b<=a)))else none
 | .string a,.string b=>
  match op with
  | .add=>if a.size+b.size<=9223372036854775807 then some (.string (a++b))else none
  | .eql=>some (.bool (a.toList==b.toList))
  | .neq=>some (.bool (!(a.toList==b.toList)))
  | .lss=>some (.bool (Op.bytesLess a.toList b.toList))
  | .leq=>some (.bool (Op.bytesLess a.toList b.toList||a.toList==b.toList))
  | .gtr=>some (.bool (!(Op.bytesLess a.toList b.toList||a.toList==b.toList)))
  | .geq=>some (.bool (!(Op.bytesLess a.toList b.toList)))
  | _=>none
 | .bool a,.bool b=>
  match op,P.underlying t with
  | .eql,some .bool=>some (.bool (a==b))
  | .neq,some .bool=>some (.bool (!(a==b)))
  | _,_=>none
 | _,_=>none
theorem Ua {P:Program} {t:TypeId} (h:P.underlying t=some .bool) (a b:Bool) (w:World):(Op.equal t (.bool a) (.bool b)).run P w = .ok (a==b) w:=by
 unfold Op.equal;rw[show Op.maxDepth=9999+1 from rfl];generalize 9999=d;simp[Op.equalIn,run_underlying h]
theorem jD {P:Program} {t:TypeId} {op:BinOp} {x y v:Value} (h:MD P t op x y=some v) (xo yo:Operand) (w:World) :
  (do eqGuard op t xo yo x y;binOp op t x y:Sem Value).run P w = .ok v w:=by
 unfold MD at h;split at h
 .rename_i k a k' b;rw[eqGuard_at_int];cases op<;>simp only at h
  case shl=>
   split at h
   .cases h
   rename_i hb;injection h with h;subst h;simp[binOp,Op.shift,hb]
  case shr=>
   split at h
   .cases h
   rename_i hb;injection h with h;subst h;simp[binOp,Op.shift,hb]
  case quo=>
   split at h<;>try cases h
   split at h<;>try cases h
   rename_i hk hb;subst hk;simp[binOp,Op.intDiv,hb]
  case rem=>
   split at h<;>try cases h
   split at h<;>try cases h
   rename_i hk hb;subst hk;simp[binOp,Op.intDiv,hb]
  all_goals (split at h<;>try cases h)
  all_goals (rename_i hk;subst hk;simp[binOp,Op.intArith,Op.intBits,Op.intCmp])
 .rename_i a b;rw[eqGuard_at_string]
  cases op<;>simp only at h<;>try cases h
  case add=>
   split at h
   .rename_i hs;injection h with h;subst h;simp only[binOp,Op.stringOp];rw[zz (by simp[IntKind.max_i64];omega)];simp
   .cases h
  all_goals (simp[binOp,Op.stringOp])
 .rename_i a b;rw[eqGuard_at_bool];split at h
  .rename_i hu;injection h with h;subst h;simp[binOp,Ua hu]
  .rename_i hu;injection h with h;subst h;simp[binOp,Ua hu]
  .cases h
 .cases h
@[simp] def unV (op:UnOp) (x:Value):Option Value:=
 match op,x with
 | .not,.bool b=>some (.bool (!b))
 | .neg,.int k n=>some (.int k (k.wrap (0-n)))
 | _,_=>none
theorem jE {P:Program} {op:UnOp} {x v:Value} (h:unV op x=some v) (w:World):(Op.unary op x).run P w = .ok v w:=by
 unfold unV at h;split at h
 .injection h with h;subst h;simp[Op.unary]
 .injection h with h;subst h;simp[Op.unary,Op.intArith]
 .cases h
def Lk (P:Program) (src dst:TypeId) (x:Value):Option Value:=
 match x,P.underlying src,P.underlying dst with
 | .int _ n,some _,some (.int k)=>some (.int k (k.wrap n))
 | .string s,some _,some .string=>some (.string s)
 | _,_,_=>none
theorem jH {P:Program} {src dst:TypeId} {x v:Value} (h:Lk P src dst x=some v) (w:World):(convert src dst x).run P w = .ok v w:=by
 unfold Lk at h;split at h
 .rename_i hs hd;injection h with h;subst h;simp[convert,run_underlying hs,run_underlying hd,Conv.intToInt]
 .rename_i hs hd;injection h with h;subst h;simp[convert,run_underlying hs,run_underlying hd]
 .cases h
def Gt (P:Program) (t:TypeId):Option (Bool×Nat):=
 match P.underlying t,P.info? t with
 | some (.struct _),some i=>some (true,i.size)
 | some (.array _ _),some i=>some (true,i.size)
 | some _,some i=>some (false,i.size)
 | _,_=>none
theorem IQ {P:Program} {t:TypeId} {b:Bool} {n:Nat} (h:Gt P t=some (b,n)) (w:World):(isAgg t).run P w = .ok b w/\(sizeOf t).run P w = .ok n w:=by
 unfold Gt at h;split at h
 .rename_i hu hi;injection h with h;injection h with h1 h2;subst h1;subst h2;simp[isAgg,run_underlying hu,sizeOf,typeInfo,hi]
 .rename_i hu hi;injection h with h;injection h with h1 h2;subst h1;subst h2;simp[isAgg,run_underlying hu,sizeOf,typeInfo,hi]
 .rename_i d i h1 h2 hu hi;injection h with h;injection h with e1 e2;subst e1;subst e2;refine⟨?_,by simp[sizeOf,typeInfo,hi]⟩
  cases d<;>first | exact absurd rfl (h1 _) | exact absurd rfl (h2 _ _) | simp[isAgg,run_underlying hu]
 .cases h
def FA (P:Program) (t:TypeId):Option (TypeId×Nat):=
 match P.underlying t with
 | some (.slice e)=>(P.info? e).map λi=>(e,i.size)
 | _=>none
theorem O0 {P:Program} {t e:TypeId} {n:Nat} (h:FA P t=some (e,n)) (w:World):P.underlying t=some (.slice e)/\(sizeOf e).run P w = .ok n w:=by
 unfold FA at h;split at h
 .rename_i e' hu
  cases hi:P.info? e' with
  | none=>rw[hi]at h;cases h
  | some i=>
   rw[hi]at h;injection h with h;injection h with h1 h2;subst h1;subst h2;exact⟨hu,by simp[sizeOf,typeInfo,hi]⟩
 .cases h
def Ll (P:Program) (t:TypeId):Option (Nat×Nat):=
 match P.underlying t with
 | some (.array n e)=>(P.info? e).map λi=>(n,i.size)
 | _=>none
@[simp] def Ee:List PV->Option (List T)
 | []=>some []
 | .t x::r=>(Ee r).map (x::·)
 | _=>none
theorem Gu:∀{ps:List PV} {ts:List T},Ee ps=some ts->ps=ts.map .t
 | [],ts,h=>by simp only[Ee,Xd.injEq]at h;simp[<-h]
 | p::r,ts,h=>by
  cases p<;>simp only[Ee]at h<;>try cases h
  rename_i x
  cases hr:Ee r with
  | none=>rw[hr]at h;cases h
  | some us=>rw[hr]at h;injection h with h;subst h;simp[Gu hr]
def AN (ps:List PV):PV:=
 match Ee ps with
 | some ts=>.t (.ag ts)
 | none=>.ag ps
theorem Q8 {P:Program} {L:Loc} {w:World} {ps:List PV} {us:Array Value} (h1:∀x∈us.toList,x.oneCell'=true) (h:A3 P L w ps us.toList):Ae P L w (AN ps) (.agg us):=by
 unfold AN
 cases ha:Ee ps with
 | none=>simp only[Ae];exact⟨us,rfl,h1,h⟩
 | some ts=>
  have:=Gu ha;subst this;simp only[Ae,An];exact⟨us,rfl,h1,A3.toT h⟩
def JM (P:Program) (H:Ab) (t:TypeId) (p:PV):Option PV:=
 match Gt P t,p with
 | some (true,n),.t (.pt cs)=>if n<=cs.length then some (.t (.ag (cs.take n)))else none
 | some (false,_),.t (.pt cs)=>(cs.head?).map .t
 | some (true,n),.ptr b o=>match Aa H b with
  | some (.cells _ cs)=>if o+n<=cs.length then some (AN ((cs.drop o).take n))else none
  | _=>none
 | some (false,_),.ptr b o=>match Aa H b with
  | some (.cells _ cs)=>cs[o]?
  | _=>none
 | _,_=>none
theorem Q9 {P:Program} (w:World) (b o:Nat):∀(n i:Nat) (acc:Array Value) (xs:List Value),xs.length=n->(∀(j:Nat) x,xs[j]?=some x->w.cell? ⟨b,o+(i+j),none⟩=some x) ->
  (loadCellsFrom ⟨b,o,none⟩ i n acc).run P w = .ok (acc++xs.toArray) w
 | 0,i,acc,xs,hl,_=>by
  have:xs=[]:=List.eq_nil_of_length_eq_zero hl;subst this;simp[loadCellsFrom]
 | n+1,i,acc,[],hl,_=>by simp at hl
 | n+1,i,acc,x::xs,hl,h=>by
  have h0:=h 0 x (by simp)
  have:=Q9 (P:=P) w b o n (i+1) (acc.push x) xs (by simpa using hl) (λj y hy=>by
   have:=h (j+1) y (by simpa using hy)
   rwa[show i+1+j=i+(j+1)by omega])
  simp only[Nat.add_zero]at h0;simp only[loadCellsFrom,Addr.add_lit,Sem.run_bind,run_load,h0,Xb,this];simp
theorem Bq.values {I:Nat->Prop} {w:World}:∀{cs:List T} {b o:Nat},Bq I w cs b o->∃xs:List Value,xs.length=cs.length/\(∀(j:Nat) x,xs[j]?=some x->w.cell? ⟨b,o+j,none⟩=some x)/\(∀x∈xs,x.oneCell'=true)/\Ba I w cs xs
 | [],b,o,_=>⟨[],rfl,by simp,by simp,by simp only[Ba]⟩
 | c::cs,b,o,h=>by
  simp only[Bq]at h;obtain⟨⟨x,hx,h1,hc⟩,hcs⟩:=h;obtain⟨xs,hl,hcell,h1s,hrep⟩:=Bq.values hcs;refine⟨x::xs,by simp[hl],λj y hy=>?_,by simpa using ⟨h1,h1s⟩,by simp only[Ba];exact⟨x,xs,rfl,hc,hrep⟩⟩
  cases j with
  | zero=>simp at hy;subst hy;simpa using hx
  | succ j=>have:=hcell j y (by simpa using hy);rwa[show o+1+j=o+(j+1)by omega]at this
theorem ME {P:Program} {L:Loc} {w:World} {g:Nat} {ty:TypeId} {cs:List PV} (h:C9 P L w g (.cells ty cs)) :
  ∃xs:List Value,xs.length=cs.length/\(∀(j:Nat) x,xs[j]?=some x->w.cell? ⟨g,j,none⟩=some x)/\(∀x∈xs,x.oneCell'=true)/\A3 P L w cs xs:=by
 obtain⟨arr,ha,hl,hc⟩:=h;refine⟨arr.toList.take cs.length,by simp;omega,λj x hx=>?_,λx hx=>?_,?_⟩
 .rw[cell_of_row w g j arr ty (0,0) ha];rw[Xc]at hx;split at hx
  .simpa using hx
  .cases hx
 .obtain⟨j,hj⟩:=List.getElem?_of_mem hx;rw[Xc]at hj;split at hj
  .rename_i hjl;obtain⟨y,hy,h1,_⟩:=hc j cs[j] (List.getElem?_eq_getElem hjl)
   have h2:arr.toList[j]?=some y:=by simpa using hy
   rw[h2]at hj;injection hj with hj;subst hj;exact h1
  .cases hj
 .refine A3.mk (by simp;omega) λk c x hk hx=>?_;obtain⟨y,hy,_,hr⟩:=hc k c hk;have hk':k<cs.length:=(List.getElem?_eq_some_iff.1 hk).1;rw[Xc,zy hk']at hx
  have:y=x:=by
   have h2:arr.toList[k]?=some y:=by simpa using hy
   rw[h2]at hx;exact Xd.inj hx
  subst this;exact hr
theorem A3.drop_take {P:Program} {L:Loc} {w:World} {cs:List PV} {xs:List Value} (h:A3 P L w cs xs) (o n:Nat):A3 P L w ((cs.drop o).take n) ((xs.drop o).take n):=by
 refine A3.mk (by simp[h.length]) λk c x hk hx=>?_;rw[Xc]at hk hx;split at hk
 .rename_i hn;rw[zy hn]at hx;rw[Xe]at hk hx;obtain⟨y,hy,hr⟩:=h.at_ _ hk;rw[hy]at hx;injection hx with hx;subst hx;exact hr
 .cases hk
theorem Ub {P:Program} {G:Ay} {L:Loc} {H:Ab} {w:World} {t:TypeId} {p r:PV} {u:Value} (hok:Bx P G L H w) (h:JM P H t p=some r) (hp:Ae P L w p u) :
  ∃v,(Instr.loadAt t u).run P w = .ok v w/\Ae P L w r v:=by
 unfold JM at h;split at h
 .rename_i n cs hs;split at h
  .rename_i hn;injection h with h;subst h;simp only[Ae,An]at hp ⊢;obtain⟨b,o,rfl,hb,hc⟩:=hp;obtain⟨xs,hl,hcell,h1s,hrep⟩:=Bq.values (Bq.take n hc);have h1:=IQ hs w;have h2:=Q9 (P:=P) w b o n 0 #[] xs (by rw[hl];simp;omega) (λj x hx=>by simpa using hcell j x hx);refine⟨.agg xs.toArray,?_,xs.toArray,rfl,by simpa using h1s,by simpa using hrep⟩;simp only[Instr.loadAt,Instr.sureAddr,loadVar,loadCells,Sem.run_bind,Sem.run_pure,Xb,h1.1,h1.2,h2,if_true];simp
  .cases h
 .rename_i k cs hs
  cases cs with
  | nil=>simp at h
  | cons c cs=>
   simp only[List.head?_cons,Option.map_some,Xd.injEq]at h;subst h;simp only[Ae,An,Bq]at hp ⊢;obtain⟨b,o,rfl,hb,⟨x,hx,_,hr⟩,_⟩:=hp;have h1:=IQ hs w;refine⟨x,?_,hr⟩;simp only[Instr.loadAt,Instr.sureAddr,loadVar,Sem.run_bind,Sem.run_pure,Xb,h1.1];simp[hx]
 .rename_i n b o hs;split at h
  .rename_i ty cs hlook;split at h
   .rename_i hn;injection h with h;subst h;simp only[Ae]at hp;obtain⟨hb,rfl⟩:=hp;obtain⟨xs,hl,hcell,h1s,hrep⟩:=ME (hok.rep b _ hlook);have h1:=IQ hs w;have hd:=hrep.drop_take o n
    have h2:=Q9 (P:=P) w (L.μ b) o n 0 #[] ((xs.drop o).take n) (by simp;omega) (λj x hx=>by
     rw[Xc]at hx;split at hx
     .rw[Xe]at hx;simpa using hcell _ x hx
     .cases hx)
    refine⟨.agg ((xs.drop o).take n).toArray,?_,Q8 (by simpa using λx hx=>h1s x (Xf (Xg hx))) (by simpa using hd)⟩;simp only[Instr.loadAt,Instr.sureAddr,loadVar,loadCells,Sem.run_bind,Sem.run_pure,Xb,h1.1,h1.2,h2,if_true];simp
   .cases h
  .cases h
 .rename_i k b o hs;split at h
  .rename_i ty cs hlook;simp only[Ae]at hp;obtain⟨hb,rfl⟩:=hp;obtain⟨xs,hl,hcell,h1s,hrep⟩:=ME (hok.rep b _ hlook);obtain⟨x,hx,hr⟩:=hrep.at_ o h;have h1:=IQ hs w;refine⟨x,?_,hr⟩;simp only[Instr.loadAt,Instr.sureAddr,loadVar,Sem.run_bind,Sem.run_pure,Xb,h1.1];simp[hcell o x hx]
  .cases h
 .cases h
def HH (P:Program) (t:TypeId) (x i:PV):Option PV:=
 match x,i with
 | .t (.sl n cs),.t (.v (.int _ i))=>match FA P t with
  | some (_,z)=>if 0<=i/\i<n then some (.t (.pt (cs.drop (i.toNat*z))))else none
  | none=>none
 | .row b o n _,.t (.v (.int _ i))=>match FA P t with
  | some (_,z)=>if 0<=i/\i<n then some (.ptr b (o+i.toNat*z))else none
  | none=>none
 | .t (.pt cs),.t (.v (.int _ i))=>match Ll P t with
  | some (n,z)=>if 0<=i/\i<n then some (.t (.pt (cs.drop (i.toNat*z))))else none
  | none=>none
 | .ptr b o,.t (.v (.int _ i))=>match Ll P t with
  | some (n,z)=>if 0<=i/\i<n then some (.ptr b (o+i.toNat*z))else none
  | none=>none
 | _,_=>none
theorem Uc {P:Program} {t e:TypeId} {z:Nat} (h:FA P t=some (e,z)) (w:World) (b o n c:Nat) (k:IntKind) (i:Int) (hi:0<=i/\i<n) :
  (Instr.indexAt t (.slice (some ⟨b,o,none⟩) n c) (.int k i)).run P w = .ok (.pointer (some ⟨b,o+i.toNat*z,none⟩)) w:=by
 obtain⟨hu,hz⟩:=O0 h w;simp[Instr.indexAt,run_underlying hu,asIntOf,hi,hz,Addr.add_lit]
theorem Ud {P:Program} {t:TypeId} {n z:Nat} (h:Ll P t=some (n,z)) (w:World) (b o:Nat) (k:IntKind) (i:Int) (hi:0<=i/\i<n) :
  (Instr.indexAt t (.pointer (some ⟨b,o,none⟩)) (.int k i)).run P w = .ok (.pointer (some ⟨b,o+i.toNat*z,none⟩)) w:=by
 unfold Ll at h;split at h
 .rename_i n' e hu
  cases hinf:P.info? e with
  | none=>rw[hinf]at h;cases h
  | some inf=>
   rw[hinf]at h;injection h with h;injection h with h1 h2;subst h1;subst h2;simp[Instr.indexAt,run_underlying hu,asIntOf,Instr.sureAddr,hi,sizeOf,typeInfo,hinf,Addr.add_lit]
 .cases h
theorem jJ {P:Program} {L:Loc} {w:World} {t:TypeId} {x i r:PV} {u j:Value} (h:HH P t x i=some r) (hx:Ae P L w x u) (hj:Ae P L w i j) :
  ∃v,(Instr.indexAt t u j).run P w = .ok v w/\Ae P L w r v:=by
 unfold HH at h;split at h
 .split at h
  .rename_i n cs k i' _ e z he;split at h
   .rename_i hi;injection h with h;subst h;simp only[Ae,An]at hx hj;subst hj;obtain⟨⟨b,o,sp⟩,c,rfl,hc,hb⟩:=hx;rcases hb with⟨rfl,_⟩ | ⟨hsp,hb,hr⟩
    .omega
    .simp only at hsp hb hr;subst hsp;refine⟨_,Uc he w b o n c k i' hi,?_⟩;simp only[Ae,An];exact⟨b,_,rfl,hb,hr.drop _⟩
   .cases h
  .cases h
 .split at h
  .rename_i b o n _ k i' _ e z he;split at h
   .rename_i hi;injection h with h;subst h;simp only[Ae,An]at hx hj;subst hj;obtain⟨hb,hm,c,rfl,hc,_⟩:=hx;refine⟨_,Uc he w (L.μ b) o n c k i' hi,?_⟩;simp only[Ae];exact⟨hb,trivial⟩
   .cases h
  .cases h
 .split at h
  .rename_i cs k i' _ n z he;split at h
   .rename_i hi;injection h with h;subst h;simp only[Ae,An]at hx hj;subst hj;obtain⟨b,o,rfl,hb,hr⟩:=hx;refine⟨_,Ud he w b o k i' hi,?_⟩;simp only[Ae,An];exact⟨b,_,rfl,hb,hr.drop _⟩
   .cases h
  .cases h
 .split at h
  .rename_i b o k i' _ n z he;split at h
   .rename_i hi;injection h with h;subst h;simp only[Ae,An]at hx hj;subst hj;obtain⟨hb,rfl⟩:=hx;refine⟨_,Ud he w (L.μ b) o k i' hi,?_⟩;simp only[Ae];exact⟨hb,trivial⟩
   .cases h
  .cases h
 .cases h
def Gv (P:Program) (t:TypeId) (f:Nat):Option (Nat×Bool×Nat):=
 match P.underlying t with
 | some (.struct fs)=>match fs[f]? with
  | some fd=>match Gt P fd.type with
   | some (b,n)=>if n=0 then none else some (fd.offset,b,n)
   | none=>none
  | none=>none
 | _=>none
def MF (P:Program) (t:TypeId) (x:PV) (f:Nat):Option PV:=
 match Gv P t f,x with
 | some (off,_,_),.t (.pt cs)=>some (.t (.pt (cs.drop off)))
 | some (off,_,_),.ptr b o=>some (.ptr b (o+off))
 | _,_=>none
theorem QA {P:Program} {t:TypeId} {f off n:Nat} {b:Bool} (h:Gv P t f=some (off,b,n)) :
  ∃fs fd,P.underlying t=some (.struct fs)/\fs[f]?=some fd/\fd.offset=off/\Gt P fd.type=some (b,n)/\n≠0:=by
 unfold Gv at h;split at h
 .rename_i fs hu;split at h
  .rename_i fd hf;split at h
   .rename_i b' n' hs;split at h
    .cases h
    .rename_i hn;injection h with h;injection h with h1 h2;injection h2 with h2 h3;subst h1;subst h2;subst h3;exact⟨fs,fd,hu,hf,rfl,hs,hn⟩
   .cases h
  .cases h
 .cases h
theorem jK {P:Program} {L:Loc} {w:World} {t:TypeId} {x r:PV} {f:Nat} {u:Value} (h:MF P t x f=some r) (hx:Ae P L w x u) :
  ∃v,(Instr.fieldAt t u f).run P w = .ok v w/\Ae P L w r v:=by
 have key:∀b o off bb n,Gv P t f=some (off,bb,n)->(Instr.fieldAt t (.pointer (some ⟨b,o,none⟩)) f).run P w = .ok (.pointer (some ⟨b,o+off,none⟩)) w:=by
  intro b o off bb n hf;obtain⟨fs,fd,hu,hfd,rfl,hs,hn⟩:=QA hf;have:=(IQ hs w).2;simp[Instr.fieldAt,run_underlying hu,hfd,Instr.sureAddr,fieldPlace,this,hn,Addr.add_lit]
 unfold MF at h;split at h
 .rename_i off bb n cs hf;injection h with h;subst h;simp only[Ae,An]at hx ⊢;obtain⟨b,o,rfl,hb,hc⟩:=hx;exact⟨_,key b o off bb n hf,b,_,rfl,hb,hc.drop _⟩
 .rename_i off bb n b o hf;injection h with h;subst h;simp only[Ae]at hx ⊢;obtain⟨hb,rfl⟩:=hx;exact⟨_,key _ o off bb n hf,hb,rfl⟩
 .cases h
def MG (P:Program) (t:TypeId) (x:PV) (f:Nat):Option PV:=
 match Gv P t f,x with
 | some (off,true,n),.t (.ag cs)=>if off+n<=cs.length then some (.t (.ag ((cs.drop off).take n)))else none
 | some (off,false,_),.t (.ag cs)=>(cs[off]?).map .t
 | some (off,true,n),.ag cs=>if off+n<=cs.length then some (AN ((cs.drop off).take n))else none
 | some (off,false,_),.ag cs=>cs[off]?
 | _,_=>none
theorem jP {P:Program} {L:Loc} {w:World} {t:TypeId} {x r:PV} {f:Nat} {u:Value} (h:MG P t x f=some r) (hx:Ae P L w x u) :
  ∃v,(Instr.field t u f).run P w = .ok v w/\Ae P L w r v:=by
 have toV:∀cs:List T,Ae P L w (.t (.ag cs)) u->Ae P L w (.ag (cs.map .t)) u:=by
  intro cs hc;simp only[Ae,An]at hc ⊢;obtain⟨us,e,h1,hl⟩:=hc;exact⟨us,e,h1,A3.ofT hl⟩
 have big:∀(cs:List PV) off n,Gv P t f=some (off,true,n)->off+n<=cs.length->Ae P L w (.ag cs) u ->
   ∃us:Array Value,(Instr.field t u f).run P w = .ok (.agg us) w/\(∀x∈us.toList,x.oneCell'=true)/\A3 P L w ((cs.drop off).take n) us.toList:=by
  intro cs off n hf hn hc;obtain⟨fs,fd,hu,hfd,rfl,hs,_⟩:=QA hf;have h1:=IQ hs w;simp only[Ae]at hc;obtain⟨us,rfl,h1s,hl⟩:=hc;refine⟨us.extract fd.offset (fd.offset+n),?_,?_,?_⟩
  .simp[Instr.field,run_underlying hu,hfd,asAgg,part,h1.1,h1.2]
  .intro x hx;refine h1s x ?_;simp only[Array.toList_extract,Xh]at hx;exact Xf (Xg hx)
  .have:=hl.drop_take fd.offset n;simpa[Xh]using this
 have small:∀(cs:List PV) off n c,Gv P t f=some (off,false,n)->cs[off]?=some c->Ae P L w (.ag cs) u ->
   ∃v,(Instr.field t u f).run P w = .ok v w/\Ae P L w c v:=by
  intro cs off n c hf hk hc;obtain⟨fs,fd,hu,hfd,rfl,hs,_⟩:=QA hf;have h1:=IQ hs w;simp only[Ae]at hc;obtain⟨us,rfl,_,hl⟩:=hc;obtain⟨v,hv,hr⟩:=hl.at_ _ hk;refine⟨v,?_,hr⟩
  have hv':us[fd.offset]?=some v:=by simpa using hv
  simp[Instr.field,run_underlying hu,hfd,asAgg,part,h1.1,hv']
 unfold MG at h;split at h
 .rename_i off n cs hf;split at h
  .rename_i hn;injection h with h;subst h;obtain⟨us,hrun,h1s,hl⟩:=big (cs.map .t) off n hf (by simpa using hn) (toV cs hx);refine⟨_,hrun,?_⟩;simp only[Ae,An];refine⟨us,rfl,h1s,?_⟩;rw[<-List.map_drop,<-List.map_take]at hl;exact hl.toT
  .cases h
 .rename_i off n cs hf
  cases hk:cs[off]? with
  | none=>rw[hk]at h;cases h
  | some c=>
   rw[hk]at h;injection h with h;subst h;exact small (cs.map .t) off n (.t c) hf (by simp[hk]) (toV cs hx)
 .rename_i off n cs hf;split at h
  .rename_i hn;injection h with h;subst h;obtain⟨us,hrun,h1s,hl⟩:=big cs off n hf hn hx;exact⟨_,hrun,Q8 h1s hl⟩
  .cases h
 .rename_i off n cs hf;exact small cs off n r hf h hx
 .cases h
def MH (P:Program) (t:TypeId) (x i:PV):Option PV:=
 match x,i,P.underlying t with
 | .t (.v (.string s)),.t (.v (.int _ i)),some .string=>if 0<=i then(s[i.toNat]?).map λb=>.t (.v (.int .u8 b.toNat))else none
 | _,_,_=>none
theorem jQ {P:Program} {L:Loc} {w:World} {t:TypeId} {x i r:PV} {u j:Value} (h:MH P t x i=some r) (hx:Ae P L w x u) (hj:Ae P L w i j) :
  ∃v,(Instr.index t u j).run P w = .ok v w/\Ae P L w r v:=by
 unfold MH at h;split at h
 .rename_i s k i' hu;simp only[Ae,An]at hx hj;subst hx;subst hj;split at h
  .rename_i hi
   cases hb:s[i'.toNat]? with
   | none=>rw[hb]at h;cases h
   | some b=>
    rw[hb]at h;injection h with h;subst h;refine⟨.int .u8 b.toNat,?_,by simp only[Ae,An]⟩;simp[Instr.index,run_underlying hu,asIntOf,hi,hb]
  .cases h
 .cases h
def JN (P:Program) (t:TypeId) (x:PV):Option PV:=
 match x,P.underlying t with
 | .t (.v (.string s)),some .string=>some (.t (.v (.int .i64 s.size)))
 | .t (.v (.slice _ n _)),some (.slice _)=>some (.t (.v (.int .i64 n)))
 | .t (.sl n _),some (.slice _)=>some (.t (.v (.int .i64 n)))
 | .row _ _ n _,some (.slice _)=>some (.t (.v (.int .i64 n)))
 | _,_=>none
theorem jR {P:Program} {L:Loc} {w:World} {t ty:TypeId} {x r:PV} {u:Value} (h:JN P t x=some r) (hx:Ae P L w x u) :
  ∃v,(Builtin.len_ #[t] ty #[u]).run P w = .ok v w/\Ae P L w r v:=by
 unfold JN at h;split at h
 .rename_i s hu;injection h with h;subst h;simp only[Ae,An]at hx;subst hx;exact⟨.int .i64 s.size,by simp[Builtin.len_,run_underlying hu,goInt],by simp only[Ae,An]⟩
 .rename_i n _ _ hu;injection h with h;subst h;simp only[Ae,An]at hx;subst hx;exact⟨.int .i64 n,by simp[Builtin.len_,run_underlying hu,goInt],by simp only[Ae,An]⟩
 .rename_i n cs e hu;injection h with h;subst h;simp only[Ae,An]at hx;obtain⟨a,c,rfl,_⟩:=hx;exact⟨.int .i64 n,by simp[Builtin.len_,run_underlying hu,goInt],by simp only[Ae,An]⟩
 .rename_i b o n _ e hu;injection h with h;subst h;simp only[Ae]at hx;obtain⟨_,_,c,rfl,_⟩:=hx;exact⟨.int .i64 n,by simp[Builtin.len_,run_underlying hu,goInt],by simp only[Ae,An]⟩
 .cases h
@[simp] def Bv (x:PV) (i:Nat):Option PV:=
 match x with
 | .t (.tu cs)=>(cs[i]?).map .t
 | .tu cs=>cs[i]?
 | _=>none
theorem jS {P:Program} {L:Loc} {w:World} {x r:PV} {i:Nat} {u:Value} (h:Bv x i=some r) (hx:Ae P L w x u) :
  ∃v,(Instr.extract u i).run P w = .ok v w/\Ae P L w r v:=by
 have key:∀(cs:List PV) c,cs[i]?=some c->Ae P L w (.tu cs) u->∃v,(Instr.extract u i).run P w = .ok v w/\Ae P L w c v:=by
  intro cs c hk hc;simp only[Ae]at hc;obtain⟨us,rfl,hl⟩:=hc;obtain⟨v,hv,hr⟩:=hl.at_ _ hk
  have hv':us[i]?=some v:=by simpa using hv
  exact⟨v,by simp[Instr.extract,hv'],hr⟩
 unfold Bv at h;split at h
 .rename_i cs
  cases hk:cs[i]? with
  | none=>rw[hk]at h;cases h
  | some c=>
   rw[hk]at h;injection h with h;subst h;refine key (cs.map .t) (.t c) (by simp[hk]) ?_;simp only[Ae,An]at hx ⊢;obtain⟨us,e,hl⟩:=hx;exact⟨us,e,A3.ofT hl⟩
 .rename_i cs;exact key cs r h hx
 .cases h
end Go.Abs
