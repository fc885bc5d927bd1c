/-
 Auxiliary facts. No statement of the program stands here.
-/
import Derived.Test.YtmplckgbeaifkaaGreatDoorVBQ09
namespace Go.Abs
set_option linter.unusedSimpArgs false
set_option linter.unusedVariables false
open Go
inductive A0i where
 | skip
 | ops (l:List Mini)
 | draw (l:List Mini)
 | drawG (k:Nat) (l:List GI)
 | seq (a b:A0i)
 | cond (c:Opd) (a b:A0i)
 | block (id:Nat) (b:A0i)
 | loop (b:A0i)
 | exit (id:Nat)
 | ret
 | scope (b:A0i)
def E9h (A:List Nat) (l:List Mini):List Nat:=
 let idx:=List.range l.length
 let hs:=idx.filter fun i=>!((l[i]?).map fun m=>A0l m.k).getD true
 let qs:=idx.filter fun i=>((l[i]?).map fun m=>A0l m.k).getD true
 (List.range (hs.length+1)).flatMap fun g=>(qs.filter fun i=>(hs.filter fun h=>(A.getD i 0).testBit h).length==g)++(hs[g]?).toList
def D1v (ops:Array Oper) (q:List (Nat×Mini)):Bool:=
 let A:=ancs ops.toList []
 q.zipIdx.all fun x=>match x.1.2.k with
  | .hcall _=>(q.drop (x.2+1)).all fun y=>(A.getD y.1 0).testBit x.1.1
  | _=>true
theorem D8d {ops:Array Oper} {q:List (Nat×Mini)} (h:D1v ops q=true) {p:Nat} {x:Nat×Mini} {f:Nat} (hx:q[p]?=some x) (hk:x.2.k = .hcall f) :
  ∀(p':Nat) y,p<p'->q[p']?=some y->((ancs ops.toList []).getD y.1 0).testBit x.1=true:=by
 intro p' y hlt hy;unfold D1v at h;have:=List.all_eq_true.1 h (x,p) (by rw[List.mem_zipIdx_iff_getElem?];exact hx);simp only[hk]at this;refine List.all_eq_true.1 this y ?_;refine List.mem_of_getElem? (i:=p'-(p+1)) ?_;rw[List.getElem?_drop,show p+1+(p'-(p+1))=p' by omega];exact hy
def F3s (ops:Array Oper) (l:List Mini) (π:List Nat):Option A0i:=
 let q:=A1x l π
 let pk:=F3q q
 let R:=F3r (ancs ops.toList []) q
 let is:=D1p pk.1 pk.2 R q
 if(C4u ops l π pk.1 pk.2 R&&B9h pk.1 pk.2 R is)&&D1v ops q then some (.drawG pk.2 is)else none
theorem D8e (pa k:Nat) (R:List (Nat×Nat)) (q:List (Nat×Mini)):(D1p pa k R q).map GI.mini=q.map Prod.snd:=by
 unfold D1p;rw[List.map_map]
 have:∀(q:List (Nat×Mini)) (n:Nat),(q.zipIdx n).map (GI.mini∘fun x=>if pa<=x.2/\x.2<pa+k then .g (x.2-pa) x.1.2 else .o x.1.2 (R.any fun r=>r.1==x.2) ((R.filter fun r=>r.2==x.2).map Prod.fst))=q.map Prod.snd:=by
  intro q
  induction q with
  | nil=>intro n;rfl
  | cons a q ih=>
   intro n;simp only[List.zipIdx_cons,List.map_cons,ih];congr 1;simp only[Function.comp];split<;>rfl
 exact this q 0
theorem D8f {ops:Array Oper} {l:List Mini} {π:List Nat} {M:A0i} (h:F3s ops l π=some M) :
  ∃pa k R is,M = .drawG k is/\C4u ops l π pa k R=true/\B9h pa k R is=true/\is.map GI.mini=(A1x l π).map Prod.snd/\D1v ops (A1x l π)=true:=by
 unfold F3s at h;simp only at h;split at h
 ·rename_i hc;rw[Bool.and_eq_true,Bool.and_eq_true]at hc;injection h with h;exact⟨_,_,_,_,h.symm,hc.1.1,hc.1.2,D8e _ _ _ _,hc.2⟩
 ·cases h
def comp (P:Program) (G:A0u) (N:Nat):Code->Option A0i
 | .skip=>some .skip
 | .label _=>some .skip
 | .region _ ops draw=>match ops.toList.mapM (A3y P G N draw ops)with
  | some l=>if draw then
    (if C4u ops l (E9h (ancs ops.toList []) l) 0 0 []&&D1v ops (A1x l (E9h (ancs ops.toList []) l))then some (.draw ((A1x l (E9h (ancs ops.toList []) l)).map Prod.snd))
    else F3s ops l (E9h (ancs ops.toList []) l))
   else some (.ops l)
  | none=>none
 | .seq a b=>match comp P G N a,comp P G N b with
  | some x,some y=>some (.seq x y)
  | _,_=>none
 | .cond c a b=>match comp P G N a,comp P G N b with
  | some x,some y=>some (.cond (A0j G c) x y)
  | _,_=>none
 | .block id b=>match comp P G N b with
  | some x=>some (.block id x)
  | none=>none
 | .loop b=>match comp P G N b with
  | some x=>some (.loop x)
  | none=>none
 | .exit id=>some (.exit id)
 | .ret=>some .ret
 | .scope b=>match comp P G N b with
  | some x=>some (.scope x)
  | none=>none
 | _=>none
def MC (P:Program) (G:A0u) (B N:Nat) (M:A0i) (Q:Exit->A0b->Prop) (s:A0b):Prop:=
 ∀c,comp P G N c=some M->s.n=N->A5g P G B c Q s
structure Ctx (P:Program) (G:A0u) (Φ:A0v):Prop where
 mix:P.follows .mixedOrders=true
 sound:Φ.Sound P G
section
variable {P : Program} {G : A0u} {B N : Nat} {Φ : A0v} {Q Q' : Exit -> A0b -> Prop} {s s' : A0b}
theorem A1r {c:Code} {M:A0i} (h:comp P G N c=some M) :
  match M with
  | .skip=>c = .skip\/∃l,c = .label l
  | .ops l=>∃id ops,c = .region id ops false/\ops.toList.mapM (A3y P G N false ops)=some l
  | .draw l=>∃id ops lt π,c = .region id ops true/\ops.toList.mapM (A3y P G N true ops)=some lt/\C4u ops lt π 0 0 []=true/\l=(A1x lt π).map Prod.snd/\D1v ops (A1x lt π)=true
  | .drawG k is=>∃id ops lt π pa R,c = .region id ops true/\ops.toList.mapM (A3y P G N true ops)=some lt/\C4u ops lt π pa k R=true/\B9h pa k R is=true/\is.map GI.mini=(A1x lt π).map Prod.snd/\D1v ops (A1x lt π)=true
  | .seq x y=>∃a b,c = .seq a b/\comp P G N a=some x/\comp P G N b=some y
  | .cond k x y=>∃k0 a b,c = .cond k0 a b/\k=A0j G k0/\comp P G N a=some x/\comp P G N b=some y
  | .block id x=>∃b,c = .block id b/\comp P G N b=some x
  | .loop x=>∃b,c = .loop b/\comp P G N b=some x
  | .exit id=>c = .exit id
  | .ret=>c = .ret
  | .scope x=>∃b,c = .scope b/\comp P G N b=some x:=by
 cases c<;>simp only[comp]at h
 case skip=>injection h with h;subst h;exact .inl rfl
 case label l=>injection h with h;subst h;exact .inr ⟨l,rfl⟩
 case region id ops draw=>
  split at h
  ·rename_i l hl
   cases draw with
   | false=>simp only[Bool.false_eq_true,if_false]at h;injection h with h;subst h;exact⟨id,ops,rfl,hl⟩
   | true=>
    simp only[if_true]at h;split at h
    ·rename_i hd;rw[Bool.and_eq_true]at hd;injection h with h;subst h;exact⟨id,ops,l,_,rfl,hl,hd.1,rfl,hd.2⟩
    ·obtain⟨pa,k,R,is,rfl,h1,h2,h3⟩:=D8f h;exact⟨id,ops,l,_,pa,R,rfl,hl,h1,h2,h3⟩
  ·cases h
 case seq a b=>
  split at h
  ·rename_i x y hx hy;injection h with h;subst h;exact⟨a,b,rfl,hx,hy⟩
  ·cases h
 case cond k a b=>
  split at h
  ·rename_i x y hx hy;injection h with h;subst h;exact⟨k,a,b,rfl,rfl,hx,hy⟩
  ·cases h
 case block id b=>
  split at h
  ·rename_i x hx;injection h with h;subst h;exact⟨b,rfl,hx⟩
  ·cases h
 case loop b=>
  split at h
  ·rename_i x hx;injection h with h;subst h;exact⟨b,rfl,hx⟩
  ·cases h
 case exit id=>injection h with h;subst h;rfl
 case ret=>injection h with h;subst h;rfl
 case scope b=>
  split at h
  ·rename_i x hx;injection h with h;subst h;exact⟨b,rfl,hx⟩
  ·cases h
 all_goals cases h
theorem MC.sub {M:A0i} (hs:Sub P G B s s') (hn:s'.n=s.n) (h:MC P G B N M Q s'):MC P G B N M Q s:=
 fun c hc hN=>(h c hc (hn.trans hN)).sub hs
theorem MC.mono {M:A0i} (h:MC P G B N M Q s) (hq:∀e s1,Q e s1->Q' e s1):MC P G B N M Q' s:=fun c hc hN=>(h c hc hN).mono hq
def B0k (P:Program) (G:A0u) (B N:Nat) (y:A0i) (Q:Exit->A0b->Prop):Exit->A0b->Prop
 | .normal,s=>s.n=N/\MC P G B N y Q s
 | e,s=>Q e s
theorem A3m {x y:A0i} (h:MC P G B N x (B0k P G B N y Q) s):MC P G B N (.seq x y) Q s:=by
 intro c hc hn;obtain⟨a,b,rfl,ha,hb⟩:=A1r hc;refine C7e ((h a ha hn).mono fun e s1 q=>?_)
 cases e<;>first | exact q.2 b hb q.1 | exact q
theorem B2r {k:Opd} {x y:A0i} {t:Bool} (hk:k.ev s.env = .t (.v (.bool t))) (h:MC P G B N (if t then x else y) Q s):MC P G B N (.cond k x y) Q s:=by
 intro c hc hn;obtain⟨k0,a,b,rfl,rfl,ha,hb⟩:=A1r hc;rw[A5l]at hk;refine D7h hk ?_;cases t
 ·exact h b hb hn
 ·exact h a ha hn
theorem A0f {id:Nat} {x:A0i} (h:MC P G B N x (A6d id Q) s):MC P G B N (.block id x) Q s:=by
 intro c hc hn;obtain⟨b,rfl,hb⟩:=A1r hc;exact D1g (h b hb hn)
def B3z (Q:Exit->A0b->Prop):Exit->A0b->Prop
 | .goto _,_=>False
 | e,s=>Q e s
theorem B8f {x:A0i} (h:MC P G B N x (B3z Q) s):MC P G B N (.scope x) Q s:=by
 intro c hc hn;obtain⟨b,rfl,hb⟩:=A1r hc;intro L a w hi;refine wp_scope_straight (wp_mono (h b hb hn L a w hi) ?_);rintro e a' w' ⟨s1,L1,q,rest⟩
 cases e with
 | goto l=>exact q.elim
 | normal=>exact⟨s1,L1,q,rest⟩
 | exit i=>exact⟨s1,L1,q,rest⟩
 | ret=>exact⟨s1,L1,q,rest⟩
 | panic ch=>exact⟨s1,L1,q,rest⟩
 | outgrown=>exact⟨s1,L1,q,rest⟩
theorem D1w {x:A0i} (Inv:Nat->A0b->Prop) (n:Nat) (h0:Inv n s) (hN:∀n s,Inv n s->s.n=N) (round:∀n s,Inv n s->MC P G B N x (F6j P G B Inv n Q) s):MC P G B N (.loop x) Q s:=by
 intro c hc _;obtain⟨b,rfl,hb⟩:=A1r hc;exact D7i Inv n h0 fun n s hi=>round n s hi b hb (hN n s hi)
noncomputable def runM (Φ:A0v):A0i->A0b->Option (Exit×A0b)
 | .skip,s=>some (.normal,s)
 | .ops l,s=>match runL Φ l s with
  | some s1=>some (.normal,s1)
  | none=>none
 | .draw l,s=>match runD Φ l s with
  | some s1=>some (.normal,s1)
  | none=>none
 | .drawG k l,s=>match runG Φ k 0 0 [] l s with
  | some s1=>some (.normal,s1)
  | none=>none
 | .seq a b,s=>match runM Φ a s with
  | some (.normal,s1)=>runM Φ b s1
  | r=>r
 | .cond c a b,s=>match c.ev s.env with
  | .t (.v (.bool t))=>bif t then runM Φ a s else runM Φ b s
  | _=>none
 | .block id b,s=>match runM Φ b s with
  | some (.exit i,s1)=>if i=id then some (.normal,s1)else some (.exit i,s1)
  | r=>r
 | .loop _,_=>none
 | .exit id,s=>some (.exit id,s)
 | .ret,s=>some (.ret,s)
 | .scope b,s=>match runM Φ b s with
  | some (.goto _,_)=>none
  | r=>r
theorem E2n {m:Mini} (h:C1t Φ s m=some s'):s'.n=s.n:=by
 unfold C1t at h;split at h
 ·split at h
  ·injection h with h;subst h;rw[B2m]
  ·cases h
 ·injection h with h;subst h;rw[B2m]
 ·cases h
theorem F2c:∀{l:List Mini} {s s':A0b},runL Φ l s=some s'->s'.n=s.n
 | [],s,s',h=>by simp only[runL,Option.some.injEq]at h;rw[h]
 | m::l,s,s',h=>by
  simp only[runL]at h;split at h
  ·rename_i s1 h1;rw[F2c h,E2n h1]
  ·cases h
theorem E2o:∀{l:List Mini} {s s':A0b},runD Φ l s=some s'->s'.n=s.n
 | [],s,s',h=>by simp only[runD,Option.some.injEq]at h;rw[h]
 | m::l,s,s',h=>by
  simp only[runD]at h;split at h
  ·rename_i s1 h1;rw[E2o h];obtain⟨v,hv⟩:=C8b h1;exact(C4v hv).2
  ·cases h
theorem D5c {k:Nat}:∀(l:List GI) {n b:Nat} {pd:Pend} {s s':A0b},runG Φ k n b pd l s=some s'->s'.n=s.n
 | [],n,b,pd,s,s',h=>by simp only[runG,Option.some.injEq]at h;rw[h]
 | .o m kp ag::r,n,b,pd,s,s',h=>by
  simp only[runG]at h;split at h
  ·split at h
   ·rw[D5c r h,B2m]
   ·cases h
  ·cases h
 | .g j m::r,n,b,pd,s,s',h=>by
  simp only[runG]at h;split at h
  ·rw[D5c r h,B2m]
  ·cases h
theorem A8f:∀(M:A0i) {s:A0b} {e:Exit} {s':A0b},runM Φ M s=some (e,s')->s'.n=s.n
 | .skip,s,e,s',h=>by simp only[runM,Option.some.injEq,Prod.mk.injEq]at h;rw[h.2]
 | .ops l,s,e,s',h=>by
  simp only[runM]at h;split at h
  ·rename_i s1 h1;simp only[Option.some.injEq,Prod.mk.injEq]at h;rw[<-h.2,F2c h1]
  ·cases h
 | .draw l,s,e,s',h=>by
  simp only[runM]at h;split at h
  ·rename_i s1 h1;simp only[Option.some.injEq,Prod.mk.injEq]at h;rw[<-h.2,E2o h1]
  ·cases h
 | .drawG k l,s,e,s',h=>by
  simp only[runM]at h;split at h
  ·rename_i s1 h1;simp only[Option.some.injEq,Prod.mk.injEq]at h;rw[<-h.2,D5c l h1]
  ·cases h
 | .seq a b,s,e,s',h=>by
  simp only[runM]at h;split at h
  ·rename_i s1 h1;rw[A8f b h,A8f a h1]
  ·exact A8f a h
 | .cond c a b,s,e,s',h=>by
  simp only[runM]at h;split at h
  ·rename_i t ht;cases t
   ·exact A8f b h
   ·exact A8f a h
  ·cases h
 | .block id b,s,e,s',h=>by
  simp only[runM]at h;split at h
  ·rename_i i s1 h1;split at h
   ·simp only[Option.some.injEq,Prod.mk.injEq]at h;rw[<-h.2,A8f b h1]
   ·simp only[Option.some.injEq,Prod.mk.injEq]at h;rw[<-h.2,A8f b h1]
  ·exact A8f b h
 | .loop _,s,e,s',h=>by simp[runM]at h
 | .exit id,s,e,s',h=>by simp only[runM,Option.some.injEq,Prod.mk.injEq]at h;rw[h.2]
 | .ret,s,e,s',h=>by simp only[runM,Option.some.injEq,Prod.mk.injEq]at h;rw[h.2]
 | .scope b,s,e,s',h=>by
  simp only[runM]at h;split at h
  ·cases h
  ·exact A8f b h
theorem A5y (hΦ:Ctx P G Φ):∀(M:A0i) {Q:Exit->A0b->Prop} {s:A0b} {e:Exit} {s':A0b},runM Φ M s=some (e,s')->Q e s'->MC P G B N M Q s
 | .skip,Q,s,e,s',h,hq=>by
  simp only[runM,Option.some.injEq,Prod.mk.injEq]at h;obtain⟨rfl,rfl⟩:=h;intro c hc hn;rcases A1r hc with rfl | ⟨l,rfl⟩
  ·exact C2g hq
  ·exact B8w hq
 | .ops l,Q,s,e,s',h,hq=>by
  simp only[runM]at h;split at h
  ·rename_i s1 h1;simp only[Option.some.injEq,Prod.mk.injEq]at h;obtain⟨rfl,rfl⟩:=h;intro c hc hn;obtain⟨id,ops,rfl,hl⟩:=A1r hc;exact B6k (B5j hΦ.sound _ (A3z hl) hn h1 hq)
  ·cases h
 | .draw l,Q,s,e,s',h,hq=>by
  simp only[runM]at h;split at h
  ·rename_i s1 h1;simp only[Option.some.injEq,Prod.mk.injEq]at h;obtain⟨rfl,rfl⟩:=h;intro c hc hn;obtain⟨id,ops,lt,π,rfl,hl,hd,rfl,_⟩:=A1r hc;obtain⟨st,vals,ht⟩:=D1u h1;exact C2u hΦ.mix hΦ.sound hl hd hn ht hq
  ·cases h
 | .drawG k l,Q,s,e,s',h,hq=>by
  simp only[runM]at h;split at h
  ·rename_i s1 h1;simp only[Option.some.injEq,Prod.mk.injEq]at h;obtain⟨rfl,rfl⟩:=h;intro c hc hn;obtain⟨id,ops,lt,π,pa,R,rfl,hl,hd,hsh,he,_⟩:=A1r hc;obtain⟨st,vals,ht⟩:=C2w h1 hsh;rw[he]at ht;exact C2u hΦ.mix hΦ.sound hl hd hn ht hq
  ·cases h
 | .seq a b,Q,s,e,s',h,hq=>by
  intro c hc hn;refine A3m ?_ c hc hn;simp only[runM]at h;split at h
  ·rename_i s1 h1;exact A5y hΦ a h1 ⟨(A8f a h1).trans hn,A5y hΦ b h hq⟩
  ·rename_i hne;refine A5y hΦ a h ?_;cases e
   case normal=>exact absurd h (hne s')
   all_goals exact hq
 | .cond k a b,Q,s,e,s',h,hq=>by
  simp only[runM]at h;split at h
  ·rename_i t ht;refine B2r ht ?_;cases t
   ·exact A5y hΦ b h hq
   ·exact A5y hΦ a h hq
  ·cases h
 | .block id b,Q,s,e,s',h,hq=>by
  refine A0f ?_;simp only[runM]at h;split at h
  ·rename_i i s1 h1;refine A5y hΦ b h1 ?_;simp only[A6d];split at h
   ·rename_i hid;rw[if_pos hid];simp only[Option.some.injEq,Prod.mk.injEq]at h;obtain⟨rfl,rfl⟩:=h;exact hq
   ·rename_i hid;rw[if_neg hid];simp only[Option.some.injEq,Prod.mk.injEq]at h;obtain⟨rfl,rfl⟩:=h;exact hq
  ·rename_i hne;refine A5y hΦ b h ?_;cases e
   case exit i=>exact absurd h (hne i s')
   all_goals exact hq
 | .loop _,Q,s,e,s',h,hq=>by simp[runM]at h
 | .exit id,Q,s,e,s',h,hq=>by
  simp only[runM,Option.some.injEq,Prod.mk.injEq]at h;obtain⟨rfl,rfl⟩:=h;intro c hc hn;have:=A1r hc;simp only at this;subst this;exact C2h hq
 | .ret,Q,s,e,s',h,hq=>by
  simp only[runM,Option.some.injEq,Prod.mk.injEq]at h;obtain⟨rfl,rfl⟩:=h;intro c hc hn;have:=A1r hc;simp only at this;subst this;exact C7f hq
 | .scope b,Q,s,e,s',h,hq=>by
  refine B8f ?_;simp only[runM]at h;split at h
  ·cases h
  ·rename_i hne;refine A5y hΦ b h ?_;cases e
   case goto l=>exact absurd h (hne l s')
   all_goals exact hq
theorem A0n {α:Type}:∀{l:List (Nat×α)} {k:Nat} {x:α},look l k=some x->(k,x)∈l
 | [],k,x,h=>by simp[look]at h
 | (j,y)::l,k,x,h=>by
  simp only[look]at h;by_cases e:j=k
  ·rw[if_pos e]at h;injection h with h;subst h;subst e;simp
  ·rw[if_neg e]at h;exact List.mem_cons_of_mem _ (A0n h)
theorem A0s (hn:s'.n=s.n) (hx:s'.nx=s.nx) (he:∀q∈s'.env,look s.env q.1=some q.2) (hH:∀q∈s'.H,look s.H q.1=some q.2):Sub P G B s s':=by
 intro L a w hi;have back:∀b r,look s'.H b=some r->look s.H b=some r:=fun b r h=>hH _ (A0n h)
 refine⟨L,⟨⟨hi.heap.lt,fun b r h=>hi.heap.rep b r (back b r h),fun b r h=>hi.heap.apart b r (back b r h),fun b b' r r' h h'=>hi.heap.inj b b' r r' (back b r h) (back b' r' h'),fun b r h=>hi.heap.nx b r (back b r h),hi.heap.glob⟩,
  by rw[hx];exact hi.nx,hi.base,by rw[hn];exact hi.size,hi.defers,fun k p h=>hi.env k p (he _ (A0n h))⟩,?_,fun _ _=>rfl⟩
 exact⟨Nat.le_refl _,fun _ _ _=>rfl,fun _ h=>h,fun _ h=>.inl h,fun g ⟨b,r,h,e⟩=>.inr ⟨b,r,back b r h,e⟩,A2d.refl w,A1v.refl w⟩
mutual
def ren (σ:Nat->Nat):PV->PV
 | .t x=>.t x
 | .row b o n z=>.row (σ b) o n z
 | .ptr b o=>.ptr (σ b) o
 | .ag cs=>.ag (renL σ cs)
 | .tu cs=>.tu (renL σ cs)
 | .fn f a c=>.fn f (renL σ a) (renL σ c)
 | .ic t x=>.ic t (ren σ x)
 | .mp b=>.mp (σ b)
 | .dead=>.dead
def renL (σ:Nat->Nat):List PV->List PV
 | []=>[]
 | p::ps=>ren σ p::renL σ ps
end
mutual
def under (n:Nat):PV->Bool
 | .row b _ _ _=>decide (b<n)
 | .ptr b _=>decide (b<n)
 | .ag cs=>A1w n cs
 | .tu cs=>A1w n cs
 | .fn _ a c=>A1w n a&&A1w n c
 | .ic _ x=>under n x
 | .mp b=>decide (b<n)
 | _=>true
def A1w (n:Nat):List PV->Bool
 | []=>true
 | p::ps=>under n p&&A1w n ps
end
def A3j (σ:Nat->Nat):Row->Row
 | .cells ty cs=>.cells ty (renL σ cs)
 | .iter t pos=>.iter t pos
 | .map kk es=>.map kk es
 | .lp l x k p=>.lp l x k (ren σ p)
def A1y (n:Nat):Row->Bool
 | .cells _ cs=>A1w n cs
 | .iter _ _=>true
 | .map _ _=>true
 | .lp _ _ _ p=>under n p
mutual
theorem B2s {L:Loc} {w:World} {σ:Nat->Nat} {nx:Nat}:∀(p:PV) {u:Value},under nx p=true->RepV P L w (ren σ p) u->RepV P ⟨L.I,fun b=>L.μ (σ b),nx⟩ w p u
 | .t x,u,_,h=>by simpa only[ren,RepV]using h
 | .row b o n z,u,hu,h=>by
  simp only[ren,RepV,under,decide_eq_true_eq]at h hu ⊢;exact⟨hu,h.2⟩
 | .ptr b o,u,hu,h=>by
  simp only[ren,RepV,under,decide_eq_true_eq]at h hu ⊢;exact⟨hu,h.2⟩
 | .ag cs,u,hu,h=>by
  simp only[ren,RepV,under]at h hu ⊢;obtain⟨us,e,h1,hl⟩:=h;exact⟨us,e,h1,B1t cs hu hl⟩
 | .tu cs,u,hu,h=>by
  simp only[ren,RepV,under]at h hu ⊢;obtain⟨us,e,hl⟩:=h;exact⟨us,e,B1t cs hu hl⟩
 | .fn f a c,u,hu,h=>by
  simp only[ren,RepV,under,Bool.and_eq_true]at h hu ⊢;obtain⟨us,vs,e,h1,h2⟩:=h;exact⟨us,vs,e,B1t a hu.1 h1,B1t c hu.2 h2⟩
 | .ic t x,u,hu,h=>by
  simp only[ren,RepV,under]at h hu ⊢;obtain⟨y,e,hy⟩:=h;exact⟨y,e,B2s x hu hy⟩
 | .mp b,u,hu,h=>by
  simp only[ren,RepV,under,decide_eq_true_eq]at h hu ⊢;exact⟨hu,h.2⟩
 | .dead,u,_,_=>by simp only[RepV]
theorem B1t {L:Loc} {w:World} {σ:Nat->Nat} {nx:Nat}:∀(ps:List PV) {us:List Value},A1w nx ps=true->A0r P L w (renL σ ps) us->A0r P ⟨L.I,fun b=>L.μ (σ b),nx⟩ w ps us
 | [],us,_,h=>by simpa only[renL,A0r]using h
 | p::ps,us,hu,h=>by
  simp only[renL,A0r,A1w,Bool.and_eq_true]at h hu ⊢;obtain⟨x,xs,e,hx,hxs⟩:=h;exact⟨x,xs,e,B2s p hu.1 hx,B1t ps hu.2 hxs⟩
end
theorem A7l (σ:Nat->Nat):∀(ps:List PV) (j:Nat),(renL σ ps)[j]?=(ps[j]?).map (ren σ)
 | [],j=>by simp[renL]
 | p::ps,0=>by simp[renL]
 | p::ps,j+1=>by simp[renL,A7l σ ps j]
theorem A5t {n:Nat}:∀{ps:List PV} {j:Nat} {p:PV},A1w n ps=true->ps[j]?=some p->under n p=true
 | [],j,p,_,h=>by simp at h
 | q::ps,0,p,hu,h=>by simp only[A1w,Bool.and_eq_true]at hu;simp at h;subst h;exact hu.1
 | q::ps,j+1,p,hu,h=>by simp only[A1w,Bool.and_eq_true]at hu;exact A5t hu.2 (by simpa using h)
theorem A9c (σ:Nat->Nat):∀(ps:List PV),(renL σ ps).length=ps.length
 | []=>rfl
 | p::ps=>by simp[renL,A9c σ ps]
theorem B0l (σ:Nat->Nat) (hn:s'.n=s.n) (hB:B<=s'.nx) (hσ:∀b,b<B->σ b=b) (he:∀q∈s'.env,look s.env q.1=some (ren σ q.2)/\under s'.nx q.2=true)
  (hH:∀q∈s'.H,look s.H (σ q.1)=some (A3j σ q.2)/\q.1<s'.nx/\A1y s'.nx q.2=true) (hinj:∀q∈s'.H,∀q'∈s'.H,σ q.1=σ q'.1->q.1=q'.1):Sub P G B s s':=by
 intro L a w hi;refine⟨⟨L.I,fun b=>L.μ (σ b),s'.nx⟩,⟨⟨hi.heap.lt,fun b r h=>?_,fun b r h=>?_,fun b b' r r' h h' e=>?_,fun b r h=>(hH _ (A0n h)).2.1,hi.heap.glob⟩,rfl,hB,by rw[hn];exact hi.size,hi.defers,fun k p h=>?_⟩,?_,fun b hb=>by show L.μ (σ b)=L.μ b;rw[hσ b hb]⟩
 ·obtain⟨h1,h2,h3⟩:=hH _ (A0n h);have:=hi.heap.rep _ _ h1
  cases r with
  | cells ty cs=>
   obtain⟨arr,ha,hl,hc⟩:=this;refine⟨arr,ha,by rw[A9c]at hl;exact hl,fun j c hj=>?_⟩;obtain⟨x,hx,h1x,hr⟩:=hc j (ren σ c) (by rw[A7l,hj];rfl);exact⟨x,hx,h1x,B2s c (A5t h3 hj) hr⟩
  | iter t pos=>exact this
  | map kk es=>exact this
  | lp l x k p=>exact⟨this.1,this.2.1,B2s p h3 this.2.2⟩
 ·exact hi.heap.apart _ _ (hH _ (A0n h)).1
 ·exact hinj _ (A0n h) _ (A0n h') (hi.heap.inj _ _ _ _ (hH _ (A0n h)).1 (hH _ (A0n h')).1 e)
 ·obtain⟨h1,h2⟩:=he _ (A0n h);exact B2s p h2 (hi.env k _ h1)
 ·exact⟨Nat.le_refl _,fun _ _ _=>rfl,fun _ h=>h,fun _ h=>.inl h,fun g ⟨b,r,h,e⟩=>.inr ⟨σ b,_,(hH _ (A0n h)).1,e⟩,A2d.refl w,A1v.refl w⟩
def frzP (H:Heap) (F:List Nat) (p:PV):PV:=
 match toT H p with
 | some (x,F')=>if F'.all (F.contains ·)then .t x else p
 | none=>p
theorem D5d {L:Loc} {H:Heap} {w:World} (hok:A1l P G L H w) (F:List Nat) {p:PV} {u:Value} (h:RepV P L w p u):RepV P { L with I:=fun g=>L.I g\/Lent L H F g } w (frzP H F p) u:=by
 have hm:Mono L w { L with I:=fun g=>L.I g\/Lent L H F g } w:=⟨fun g hg=>⟨.inl hg,rfl⟩,Nat.le_refl _,fun _ _=>rfl,Nat.le_refl _,A2d.refl w⟩
 unfold frzP;split
 ·rename_i x F' hx;split
  ·rename_i hF;simp only[RepV];exact D1j hok p hx h F (fun b hb=>by simpa using List.all_eq_true.1 hF b hb)
  ·exact RepV.keep hm p h
 ·exact RepV.keep hm p h
def B6q (H:Heap) (F:List Nat):Row->Row
 | .cells ty cs=>.cells ty (cs.map (frzP H F))
 | r=>r
def A0b.frz (s:A0b) (F:List Nat):A0b:=
 { s with env:=s.env.map (fun q=>(q.1,frzP s.H F q.2)),H:=(remAll s.H F).map (fun q=>(q.1,B6q s.H F q.2)) }
theorem A6q {α β:Type} (f:α->β):∀(l:List (Nat×α)) (k:Nat),look (l.map fun q=>(q.1,f q.2)) k=(look l k).map f
 | [],k=>by simp[look]
 | (j,x)::l,k=>by
  simp only[List.map_cons,look,A6q f l k];split<;>rfl
theorem B9i (F:List Nat):Sub P G B s (s.frz F):=by
 intro L a w hi
 have hm:Mono L w { L with I:=fun g=>L.I g\/Lent L s.H F g } w:=⟨fun g hg=>⟨.inl hg,rfl⟩,Nat.le_refl _,fun _ _=>rfl,Nat.le_refl _,A2d.refl w⟩
 have back:∀b r,look (s.frz F).H b=some r->∃r0,look s.H b=some r0/\b∉F/\r=B6q s.H F r0:=by
  intro b r h;simp only[A0b.frz]at h;rw[A6q]at h;obtain⟨r0,h0,rfl⟩:=A0m h;exact⟨r0,(A1q F s.H b r0 h0).1,(A1q F s.H b r0 h0).2,rfl⟩
 refine⟨{ L with I:=fun g=>L.I g\/Lent L s.H F g },⟨⟨?_,fun b r h=>?_,fun b r h hI=>?_,fun b b' r r' h h' e=>?_,fun b r h=>?_,?_⟩,hi.nx,hi.base,hi.size,hi.defers,fun k p h=>?_⟩,?_,fun _ _=>rfl⟩
 ·rintro b (h | ⟨k,_,⟨r,hr⟩,rfl⟩)
  ·exact hi.heap.lt b h
  ·exact(hi.heap.rep k r hr).lt
 ·obtain⟨r0,h0,_,rfl⟩:=back b r h;have:=hi.heap.rep b r0 h0
  cases r0 with
  | cells ty cs=>
   obtain⟨arr,ha,hl,hc⟩:=this;refine⟨arr,ha,by simpa using hl,fun j c hj=>?_⟩;simp only[List.getElem?_map]at hj;obtain⟨c0,hc0,rfl⟩:=A0m hj;obtain⟨x,hx,h1x,hr⟩:=hc j c0 hc0;exact⟨x,hx,h1x,D5d hi.heap F hr⟩
  | iter t pos=>exact this
  | map kk es=>exact this
  | lp l x k p=>exact⟨this.1,this.2.1,RepV.keep hm p this.2.2⟩
 ·obtain⟨r0,h0,hF,_⟩:=back b r h;rcases hI with hI | ⟨k,hk,⟨r1,h1⟩,e⟩
  ·exact hi.heap.apart b r0 h0 hI
  ·exact hF ((hi.heap.inj k b r1 r0 h1 h0 e)▸hk)
 ·obtain⟨r0,h0,_,_⟩:=back b r h;obtain⟨r1,h1,_,_⟩:=back b' r' h';exact hi.heap.inj b b' r0 r1 h0 h1 e
 ·obtain⟨r0,h0,_,_⟩:=back b r h;exact hi.heap.nx b r0 h0
 ·exact A2o hi.heap hm.keeps
 ·simp only[A0b.frz]at h;rw[A6q]at h;obtain⟨p0,h0,rfl⟩:=A0m h;exact D5d hi.heap F (hi.env k p0 h0)
 ·refine⟨Nat.le_refl _,fun _ _ _=>rfl,fun g h=>.inl h,fun g h=>?_,fun g ⟨b,r,h,e⟩=>?_,A2d.refl w,A1v.refl w⟩
  ·rcases h with h | ⟨k,_,⟨r,hr⟩,e⟩
   ·exact .inl h
   ·exact .inr (.inr ⟨k,r,hr,e⟩)
  ·obtain⟨r0,h0,_,_⟩:=back b r h;exact .inr ⟨b,r0,h0,e⟩
inductive RV where
 | tmp (t:Nat)
 | cell (t:Nat) (agg:Bool) (n:Nat)
def B6r (P:Program):ResultVar->Option RV
 | .tmp t=>some (.tmp t)
 | .cell a t=>(A4w P t).map fun q=>.cell a q.1 q.2
@[simp] def resM (s:A0b):List RV->Option (List PV)
 | []=>some []
 | .tmp t::r=>match look s.env t,resM s r with
  | some p,some ps=>some (p::ps)
  | _,_=>none
 | .cell a agg n::r=>match look s.env a,resM s r with
  | some (.ptr b o),some ps=>match A0g agg n s.H (.ptr b o)with
   | some q=>some (q::ps)
   | none=>none
  | _,_=>none
theorem C4x:∀{rs:List ResultVar} {vs:List RV} {ps:List PV},rs.mapM (B6r P)=some vs->resM s vs=some ps->A4i P s rs=some ps
 | [],vs,ps,h,hr=>by
  simp at h;subst h;simpa only[resM,A4i]using hr
 | r::rs,vs,ps,h,hr=>by
  simp only[List.mapM_cons,Option.bind_eq_bind,Option.pure_def]at h
  cases h1:B6r P r with
  | none=>rw[h1]at h;cases h
  | some v=>
   rw[h1]at h
   cases h2:rs.mapM (B6r P)with
   | none=>rw[h2]at h;cases h
   | some vs'=>
    rw[h2]at h;simp only[Option.bind_some,Option.some.injEq]at h;subst h
    cases r with
    | tmp t=>
     simp only[B6r,Option.some.injEq]at h1;subst h1;simp only[resM]at hr;split at hr
     ·rename_i p ps' hp hps;simp only[A4i,hp,C4x h2 hps];exact hr
     ·cases hr
    | cell a t=>
     simp only[B6r]at h1;obtain⟨⟨agg,n⟩,hs,rfl⟩:=A0m h1;simp only[resM]at hr;split at hr
     ·rename_i b o ps' hp hps;split at hr
      ·rename_i q hq;simp only[A4i,hp,C4x h2 hps,D4v hs,hq,Option.map_some];exact hr
      ·cases hr
     ·cases hr
@[simp] def oneOf:List PV->PV
 | [p]=>p
 | ps=>match allT ps with
  | some ts=>.t (.tu ts)
  | none=>.tu ps
def E2p (vs:List RV) (R:T->Prop) (e:Exit) (s:A0b):Prop:=
 (e = .normal\/e = .ret)/\∃ps r F,resM s vs=some ps/\toT s.H (oneOf ps)=some (r,F)/\R r
@[simp] def starts:Nat->List T->List (Nat×PV)
 | _,[]=>[]
 | k,x::xs=>(k,.t x)::starts (k+1) xs
theorem C8e:∀(xs:List T) (k:Nat),starts k xs=((xs.map PV.t).zipIdx k).map fun p=>(p.2,p.1)
 | [],k=>rfl
 | x::xs,k=>by simp[starts,C8e xs (k+1)]
@[simp] def startM (N:Nat) (args:List T):A0b:={ env:=starts 0 args,H:=[],nx:=0,n:=N }
theorem callM {f:FuncId} {fn:Func} {c:Code} {M:A0i} {vs:List RV} {args:List T} {R:T->Prop} (hf:P.funcs[f]?=some fn) (hb:fn.body=some c) (hname:(fn.name == "runtime.NumGoroutine")=false)
  (hc:comp P G N c=some M) (hrs:fn.results.toList.mapM (B6r P)=some vs) (hN:args.length+(fn.ntmps-args.length)=N) (h:MC P G 0 N M (E2p vs R) (startM N args)):A0w P G f args R:=by
 refine⟨⟨fn,c,hf,hb,hname⟩,fun I w us hlt hglob hargs=>calls_of_wp hf hb ?_⟩
 have hlen:us.size=args.length:=by simpa using hargs.length
 let L:Loc:=⟨I,fun _=>0,0⟩
 have hok:A1l P G L [] w:=⟨hlt,fun b r h=>by simp[look]at h,fun b r h=>by simp[look]at h,fun b b' r r' h=>by simp[look]at h,fun b r h=>by simp[look]at h,hglob⟩
 have hi:Interp P G 0 L (startM N args) { tmps:=us++Array.replicate (fn.ntmps-us.size) undef,defers:=[] } w:=by
  refine⟨hok,rfl,Nat.zero_le _,by simp[startM,hlen,hN],rfl,fun k p hl=>?_⟩;simp only[startM,C8e]at hl;obtain⟨_,hk⟩:=A8x _ k 0 p hl;simp only[Nat.sub_zero]at hk;have hrep:=A0r.ofT (P:=P) (L:=L) hargs;obtain⟨x,hx,hr⟩:=hrep.at_ k hk
  have hx':us[k]?=some x:=by simpa using hx
  have hk':k<us.size:=(Array.getElem?_eq_some_iff.1 hx').1;rw[Array.getD_eq_getD_getElem?,Array.getElem?_append_left hk',hx'];exact hr
 refine wp_mono (h c hc rfl L _ w hi) fun e a' w' ⟨s1,L1,q,hi1,hx,_⟩=>?_;obtain⟨he,ps,r,F,hres,hT,hR⟩:=q
 have hrv:B5i P fn s1=some (oneOf ps):=by
  unfold B5i;rw[C4x hrs hres];rcases ps with _ | ⟨x,_ | ⟨y,r⟩⟩<;>rfl
 obtain⟨v,hrun,hv⟩:=B8z hi1 hrv;have hrt:=D1j hi1.heap (oneOf ps) hT hv F (fun _ h=>h)
 have nomine:∀g,¬Mine L [] g:=fun g ⟨b,r,h,_⟩=>by simp[look]at h
 have hfin:a'.defers=[]/\∃v,(results fn a'.tmps).run P w' = .ok v w' /\
   ∃v' r I',Ending.returned v = .returned v'/\R r/\RepT I' w' r v'/\A1v w w'/\w.heap.size<=w'.heap.size/\(∀g,g<w.heap.size->w'.heap[g]?=w.heap[g]?) /\
   (∀g,I g->I' g)/\(∀g,I' g->I g\/w.heap.size<=g)/\(∀g,I' g->g<w'.heap.size):=by
  refine⟨hi1.defers,v,hrun,v,r,_,rfl,hR,hrt,hx.outer,hx.size,fun g hg=>hx.same g hg (nomine g),fun g hg=>.inl (hx.more g hg),fun g hg=>?_,fun g hg=>?_⟩
  ·rcases hg with hg | ⟨b,_,⟨r0,h0⟩,e0⟩
   ·rcases hx.new g hg with h | h | h
    ·exact .inl h
    ·exact .inr h
    ·exact absurd h (nomine g)
   ·rcases hx.mine g ⟨b,r0,h0,e0⟩with h | h
    ·exact .inr h
    ·exact absurd h (nomine g)
  ·rcases hg with hg | ⟨b,_,⟨r0,h0⟩,rfl⟩
   ·exact hi1.heap.lt g hg
   ·exact(hi1.heap.rep b r0 h0).lt
 rcases he with rfl | rfl
 ·exact hfin
 ·exact hfin
def E9i (P:Program) (G:A0u) (B:Nat) (vs:List RV) (R:PV->Heap->Nat->Prop) (e:Exit) (s:A0b):Prop:=
 (e = .normal\/e = .ret)/\∃s2 ps,Sub P G B s s2/\resM s2 vs=some ps/\R (oneOf ps) s2.H s2.nx
@[simp] def startsP:Nat->List PV->List (Nat×PV)
 | _,[]=>[]
 | k,x::xs=>(k,x)::startsP (k+1) xs
theorem B5n:∀(xs:List PV) (k:Nat),startsP k xs=(xs.zipIdx k).map fun p=>(p.2,p.1)
 | [],k=>rfl
 | x::xs,k=>by simp[startsP,B5n xs (k+1)]
theorem F6p {f:FuncId} {fn:Func} {c:Code} {M:A0i} {vs:List RV} {ps:List PV} {H H':Heap} {nx nx':Nat} {r:PV} (hf:P.funcs[f]?=some fn) (hb:fn.body=some c) (hname:(fn.name == "runtime.NumGoroutine")=false)
  (hc:comp P G N c=some M) (hrs:fn.results.toList.mapM (B6r P)=some vs) (hN:ps.length+(fn.ntmps-ps.length)=N)
  (h:MC P G nx N M (E9i P G nx vs fun r0 H0 nx0=>r0=r/\H0=H'/\nx0=nx') ⟨startsP 0 ps,H,nx,N⟩):A2g P G f ps H nx r H' nx':=by
 refine⟨⟨fn,c,hf,hb,hname⟩,fun L w us hok hnx hargs=>calls_of_wp hf hb ?_⟩
 have hlen:us.size=ps.length:=by simpa using hargs.length
 have hi:Interp P G nx L ⟨startsP 0 ps,H,nx,N⟩ { tmps:=us++Array.replicate (fn.ntmps-us.size) undef,defers:=[] } w:=by
  refine⟨hok,hnx,by rw[hnx];exact Nat.le_refl _,by simp[hlen,hN],rfl,fun k p hl=>?_⟩;simp only[B5n]at hl;obtain⟨_,hk⟩:=A8x _ k 0 p hl;simp only[Nat.sub_zero]at hk;obtain⟨x,hx,hr⟩:=hargs.at_ k hk
  have hx':us[k]?=some x:=by simpa using hx
  have hk':k<us.size:=(Array.getElem?_eq_some_iff.1 hx').1;rw[Array.getD_eq_getD_getElem?,Array.getElem?_append_left hk',hx'];exact hr
 refine wp_mono (h c hc rfl L _ w hi) fun e a' w' ⟨s1,L1,q,hi1,hx,hμ⟩=>?_;obtain⟨he,s2,rs,hsub,hres,hr,hH,hnx2⟩:=q;obtain⟨L2,hi2,hx2,hμ2⟩:=hsub L1 a' w' hi1
 have hrv:B5i P fn s2=some (oneOf rs):=by
  unfold B5i;rw[C4x hrs hres];rcases rs with _ | ⟨x,_ | ⟨y,r⟩⟩<;>rfl
 obtain⟨v,hrun,hv⟩:=B8z hi2 hrv;have hxx:=hx.trans hx2
 have hm:Mono L w L2 w':=⟨hxx.keeps hok,by rw[hnx];exact hi2.base,fun b hb=>(hμ2 b (by omega)).trans (hμ b (by omega)),hxx.size,hxx.shape⟩
 have hfin:a'.defers=[]/\∃v,(results fn a'.tmps).run P w' = .ok v w' /\
   ∃v' L',Ending.returned v = .returned v'/\RepV P L' w' r v'/\A1l P G L' H' w'/\L'.nx=nx'/\Mono L w L' w'/\Ext L H w L' H' w':=
  ⟨hi2.defers,v,hrun,v,L2,rfl,hr▸hv,hH▸hi2.heap,hi2.nx.trans hnx2,hm,hH▸hxx⟩
 rcases he with rfl | rfl
 ·exact hfin
 ·exact hfin
end
end Go.Abs
