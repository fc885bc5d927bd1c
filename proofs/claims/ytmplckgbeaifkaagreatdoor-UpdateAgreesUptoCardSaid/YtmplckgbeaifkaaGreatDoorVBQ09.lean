/-
 Auxiliary facts. No statement of the program stands here.
-/
import Derived.Test.YtmplckgbeaifkaaGreatDoorVBQ08
namespace Go.Abs
set_option linter.unusedSimpArgs false
set_option linter.unusedVariables false
open Go
section
variable {P : Program} {G : A0u} {B N : Nat} {Φ : A0v} {ops : Array Oper}
theorem B5k {S:Array Bool} {i:Nat} (h:i∈Region.ready .any ops S):i<ops.size/\S.getD i true=false/\∃o,ops[i]?=some o/\∀e∈o.after.toList,Region.binds .any e=true->S.getD e.on false=true:=by
 unfold Region.ready at h;obtain⟨h1,h2⟩:=List.mem_filter.1 h;simp only[List.mem_range]at h1;simp only[Bool.and_eq_true,Bool.not_eq_true']at h2;refine⟨h1,h2.1,ops[i],Array.getElem?_eq_getElem h1,fun e he hb=>?_⟩;have:=h2.2;rw[Array.getElem?_eq_getElem h1]at this;simp only[Option.map_some,Option.getD_some]at this;rw[Array.all_eq_true']at this;have:=this e (Array.mem_def.2 he);simpa[hb]using this
theorem D4z {S:Array Bool} {i:Nat} {o:Oper} (ho:ops[i]?=some o) (h2:S.getD i true=false) (h3:∀e∈o.after.toList,Region.binds .any e=true->S.getD e.on false=true):i∈Region.ready .any ops S:=by
 unfold Region.ready;refine List.mem_filter.2 ⟨by simpa using (Array.getElem?_eq_some_iff.1 ho).1,?_⟩;simp only[h2,ho,Option.map_some,Option.getD_some,Bool.not_false,Bool.true_and];rw[Array.all_eq_true'];intro e he
 cases hb:Region.binds .any e with
 | false=>simp
 | true=>simp[h3 e (Array.mem_def.1 he) hb]
theorem B0j {S:Array Bool} {i:Nat} (h:i<S.size):S.getD i true=S.getD i false:=by
 simp[Array.getD_eq_getD_getElem?,h]
theorem A2r (S:Array Bool) (i j:Nat) (h:i<S.size):(S.setIfInBounds i true).getD j false=if i=j then true else S.getD j false:=by
 simp only[Array.getD_eq_getD_getElem?];by_cases e:i=j
 ·subst e;simp[h]
 ·simp[e,Array.getElem?_setIfInBounds_ne e]
def cnt (S:Array Bool):Nat:=S.toList.count true
theorem E2j {S:Array Bool} {i:Nat} (h:i<S.size) (hf:S.getD i false=false):cnt (S.setIfInBounds i true)=cnt S+1:=by
 unfold cnt;rw[Array.toList_setIfInBounds,List.count_set (by simpa using h)]
 have:S.toList[i]'(by simpa using h)=false:=by
  simp only[Array.getD_eq_getD_getElem?]at hf;rw[Array.getElem?_eq_getElem h]at hf;simpa using hf
 rw[this];simp
theorem D5a {S:Array Bool} (h:S.size<=cnt S):∀i,i<S.size->S.getD i false=true:=by
 intro i hi
 have hle:cnt S<=S.size:=by unfold cnt;have:=List.count_le_length (a:=true) (l:=S.toList);simpa using this
 have he:S.toList.count true=S.toList.length:=by
  unfold cnt at h hle
  have:S.toList.length=S.size:=by simp
  omega
 have:=List.count_eq_length.1 he S.toList[i] (by simp);simp only[Array.getD_eq_getD_getElem?,Array.getElem?_eq_getElem hi,Option.getD_some];simpa using this.symm
def Did (Φ:A0v) (s:A0b) (m:Mini) (v:PV) (s':A0b):Prop:=
 (A0l m.k=true/\valQ Φ s m=some v/\s'=s.put m.dst v) \/
 (A0l m.k=false/\m.wants s.env=some false/\v = .t (.v undef)/\s'=s.put m.dst v) \/
 (A0l m.k=false/\m.wants s.env=some true/\∃H' nx',A0e Φ s.H s.nx m.k (m.xs.map (·.ev s.env))=some (v,H',nx')/\s'=({ s with H:=H',nx:=nx' }:A0b).put m.dst v)
theorem C8b {s s':A0b} {m:Mini} (h:E2i Φ s m=some s'):∃v,Did Φ s m v s':=by
 unfold E2i at h;split at h
 ·rename_i hq;split at h
  ·rename_i v hv;injection h with h;exact⟨v,.inl ⟨hq,hv,h.symm⟩⟩
  ·cases h
 ·rename_i hq
  have hq:A0l m.k=false:=by simpa using hq
  unfold C1t at h;split at h
  ·rename_i hw;split at h
   ·rename_i r H' nx' he;injection h with h;exact⟨r,.inr (.inr ⟨hq,hw,H',nx',he,h.symm⟩)⟩
   ·cases h
  ·rename_i hw;injection h with h;exact⟨_,.inr (.inl ⟨hq,hw,rfl,h.symm⟩)⟩
  ·cases h
theorem C2s:∀(l:List Mini) {s s':A0b},runD Φ l s=some s'->∃(st:Nat->A0b) (vals:Nat->PV),st 0=s/\st l.length=s'/\∀(p:Nat) m,l[p]?=some m->Did Φ (st p) m (vals p) (st (p+1))
 | [],s,s',h=>by
  simp only[runD,Option.some.injEq]at h;exact⟨fun _=>s,fun _=>.dead,rfl,h,by simp⟩
 | q::r,s,s',h=>by
  simp only[runD]at h;split at h
  ·rename_i s1 h1;obtain⟨v,hd⟩:=C8b h1;obtain⟨st,vals,h0,hl,hall⟩:=C2s r h;refine⟨fun p=>match p with | 0=>s | p+1=>st p,fun p=>match p with | 0=>v | p+1=>vals p,rfl,by simpa using hl,fun p m hp=>?_⟩
   cases p with
   | zero=>simp only[List.getElem?_cons_zero,Option.some.injEq]at hp;subst hp;simp only;rw[h0];exact hd
   | succ p=>simpa using hall p m (by simpa using hp)
  ·cases h
theorem C4v {s s':A0b} {m:Mini} {v:PV} (h:Did Φ s m v s'):s'.env=(s.put m.dst v).env/\s'.n=s.n:=by
 rcases h with⟨_,_,rfl⟩ | ⟨_,_,_,rfl⟩ | ⟨_,_,H',nx',_,rfl⟩
 ·exact⟨rfl,B2m⟩
 ·exact⟨rfl,B2m⟩
 ·refine⟨?_,by rw[B2m]⟩;cases m.dst<;>rfl
theorem B3w {s s':A0b} {m:Mini} {v:PV} (h:Did Φ s m v s') (hq:A0l m.k=true):s'.H=s.H/\s'.nx=s.nx:=by
 rcases h with⟨_,_,rfl⟩ | ⟨hf,_⟩ | ⟨hf,_⟩
 ·exact⟨B0b,A9m⟩
 ·rw[hq]at hf;cases hf
 ·rw[hq]at hf;cases hf
def C8c (s:A0b):Prop:=∀b r,look s.H b=some r->b<s.nx
theorem B1r {H:Heap} {nx:Nat} {r:Row} (h:∀b r,look H b=some r->b<nx):∀b r',look ((nx,r)::H) b=some r'->b<nx+1:=by
 intro b r' hb;simp only[look]at hb;by_cases e:nx=b
 ·omega
 ·rw[if_neg e]at hb;have:=h b r' hb;omega
theorem E2k {k:HK} {H H':Heap} {nx nx':Nat} {ps:List PV} {v:PV} (h:hxM k H nx ps=some (v,H',nx')) (hf:∀b r,look H b=some r->b<nx):∀b r,look H' b=some r->b<nx':=by
 unfold hxM at h;split at h
 ·injection h with h;injection h with e1 e2;injection e2 with e2 e3;subst e2;subst e3;exact B1r hf
 ·split at h
  ·rename_i hl;split at h
   ·injection h with h;injection h with e1 e2;injection e2 with e2 e3;subst e2;subst e3;intro j r hj;rw[A1h]at hj;split at hj
    ·rename_i e;subst e;exact hf _ _ hl
    ·exact hf j r hj
   ·injection h with h;injection h with e1 e2;injection e2 with e2 e3;subst e2;subst e3;exact hf
  ·cases h
 ·split at h
  ·obtain⟨l,_,e⟩:=A0m h;injection e with e1 e2;injection e2 with e2 e3;subst e2;subst e3;exact hf
  ·cases h
 ·injection h with h;injection h with e1 e2;injection e2 with e2 e3;subst e2;subst e3;exact B1r hf
 ·split at h
  ·split at h
   ·injection h with h;injection h with e1 e2;injection e2 with e2 e3;subst e2;subst e3;exact hf
   ·cases h
  ·cases h
 ·split at h
  ·rename_i hl _;split at h
   ·injection h with h;injection h with e1 e2;injection e2 with e2 e3;subst e2;subst e3;intro j r hj;rw[A1h]at hj;split at hj
    ·rename_i e;subst e;exact hf _ _ hl
    ·exact hf j r hj
   ·cases h
  ·cases h
 ·split at h
  ·rename_i hl;split at h
   ·injection h with h;injection h with e1 e2;injection e2 with e2 e3;subst e2;subst e3;intro j r hj;rw[A1h]at hj;split at hj
    ·rename_i e;subst e;exact hf _ _ hl
    ·exact hf j r hj
   ·cases h
  ·cases h
 ·cases h
theorem D1q (hΦ:Φ.Sound P G) {H H':Heap} {nx nx':Nat} {k:MK} {ps:List PV} {v:PV} (hq:A0l k=false) (h:A0e Φ H nx k ps=some (v,H',nx')) (hf:∀b r,look H b=some r->b<nx) :
  (∀b r,look H' b=some r->b<nx')/\(B0i k=true->∀b r,look H b=some r->look H' b=some r):=by
 have new:∀{row:Row},(∀b r,look ((nx,row)::H) b=some r->b<nx+1)/\(∀b r,look H b=some r->look ((nx,row)::H) b=some r):=by
  intro row;refine⟨B1r hf,fun b r hb=>?_⟩;have:=hf b r hb;simp only[look];rw[if_neg (by omega)];exact hb
 cases k<;>simp only[A0l]at hq<;>try (cases hq;done)
 case store n=>
  refine⟨?_,fun ha=>by simp[B0i]at ha⟩
  rcases ps with _ | ⟨p,_ | ⟨x,_ | ⟨y,r⟩⟩⟩<;>simp only[A0e]at h<;>try (cases h;done)
  obtain⟨H1,hs,e⟩:=A0m h;injection e with e1 e2;injection e2 with e2 e3;subst e2;subst e3;unfold A0t at hs;split at hs
  ·rename_i b o;split at hs
   ·split at hs
    ·rename_i ty cs hl;split at hs
     ·injection hs with hs;subst hs;intro j r hj;rw[A1h]at hj;split at hj
      ·rename_i e;subst e;exact hf _ _ hl
      ·exact hf j r hj
     ·cases hs
    ·cases hs
   ·cases hs
  ·cases hs
 case make e n by' zc=>
  rcases ps with _ | ⟨p,_ | ⟨x,_ | ⟨y,r⟩⟩⟩<;>simp only[A0e]at h<;>try (cases h;done)
  obtain⟨q,hs,e⟩:=A0m h;injection e with e1 e2;injection e2 with e2 e3;subst e2;subst e3;exact⟨new.1,fun _=>new.2⟩
 case bslice e n zc len idx=>
  simp only[A0e]at h;obtain⟨q,hs,e⟩:=A0m h;injection e with e1 e2;injection e2 with e2 e3;subst e2;subst e3;exact⟨new.1,fun _=>new.2⟩
 case box t=>
  rcases ps with _ | ⟨p,_ | ⟨x,r⟩⟩<;>simp only[A0e]at h<;>try (cases h;done)
  obtain⟨q,hs,e⟩:=A0m h;injection e with e1 e2;injection e2 with e2 e3;subst e2;subst e3;exact⟨new.1,fun _=>new.2⟩
 case alloc t zc=>
  rcases ps with _ | ⟨p,r⟩<;>simp only[A0e]at h<;>try (cases h;done)
  injection h with e;injection e with e1 e2;injection e2 with e2 e3;subst e2;subst e3;exact⟨new.1,fun _=>new.2⟩
 case app e z by'=>
  refine⟨?_,fun ha=>by simp[B0i]at ha⟩
  rcases ps with _ | ⟨d,_ | ⟨x,_ | ⟨y,r⟩⟩⟩<;>simp only[A0e]at h<;>try (cases h;done)
  unfold appM at h;split at h
  ·split at h
   ·split at h
    ·split at h
     ·injection h with h;injection h with e1 e2;injection e2 with e2 e3;subst e2;subst e3;exact hf
     ·split at h
      ·injection h with h;injection h with e1 e2;injection e2 with e2 e3;subst e2;subst e3;exact new.1
      ·cases h
    ·cases h
   ·split at h
    ·split at h
     ·injection h with h;injection h with e1 e2;injection e2 with e2 e3;subst e2;subst e3;refine B1r fun b r hb=>?_;rw[A2i]at hb;split at hb
      ·cases hb
      ·exact hf b r hb
     ·cases h
    ·cases h
   ·cases h
  ·cases h
 case hx hk=>
  refine⟨?_,fun ha=>by simp[B0i]at ha⟩;simp only[A0e]at h;exact E2k h hf
 case hcall f=>
  refine⟨?_,fun ha=>by simp[B0i]at ha⟩;simp only[A0e]at h;exact hΦ.fresh _ _ _ _ _ _ _ h hf
 case callv=>
  refine⟨?_,fun ha=>by simp[B0i]at ha⟩;rcases ps with _ | ⟨fv,ps⟩
  ·simp[A0e]at h
  ·simp only[A0e]at h;unfold D4m at h;split at h
   ·exact hΦ.fresh _ _ _ _ _ _ _ h hf
   ·exact hΦ.fresh _ _ _ _ _ _ _ h hf
   ·cases h
theorem B3x (hΦ:Φ.Sound P G) {s s':A0b} {m:Mini} {v:PV} (h:Did Φ s m v s') (hf:C8c s):C8c s'/\(B0i m.k=true\/A0l m.k=true->∀b r,look s.H b=some r->look s'.H b=some r):=by
 rcases h with⟨hq,_,rfl⟩ | ⟨hq,_,_,rfl⟩ | ⟨hq,_,H',nx',he,rfl⟩
 ·unfold C8c;rw[B0b,A9m];exact⟨hf,fun _ b r hb=>hb⟩
 ·unfold C8c;rw[B0b,A9m];exact⟨hf,fun _ b r hb=>hb⟩
 ·have:=D1q hΦ hq he hf;unfold C8c;rw[B0b,A9m];refine⟨this.1,fun ha=>?_⟩;rcases ha with ha | ha
  ·exact this.2 ha
  ·rw[hq]at ha;cases ha
mutual
theorem E9f {H H':Heap} (hh:∀b r,look H b=some r->look H' b=some r):∀(p:PV) {q:T×List Nat},toT H p=some q->toT H' p=some q
 | .t x,q,h=>by simpa only[toT]using h
 | .row b o n z,q,h=>by
  simp only[toT]at h ⊢;split at h
  ·rename_i ty cs hl;rw[hh b _ hl];exact h
  ·cases h
 | .ag cs,q,h=>by
  simp only[toT]at h ⊢;obtain⟨a,ha,rfl⟩:=A0m h;rw[B3y hh cs ha];rfl
 | .tu cs,q,h=>by
  simp only[toT]at h ⊢;obtain⟨a,ha,rfl⟩:=A0m h;rw[B3y hh cs ha];rfl
 | .ptr _ _,q,h=>by simp[toT]at h
 | .fn _ _ _,q,h=>by simp[toT]at h
 | .ic _ _,q,h=>by simp[toT]at h
 | .mp _,q,h=>by simp[toT]at h
 | .dead,q,h=>by simp[toT]at h
theorem B3y {H H':Heap} (hh:∀b r,look H b=some r->look H' b=some r):∀(ps:List PV) {q:List T×List Nat},toTs H ps=some q->toTs H' ps=some q
 | [],q,h=>by simpa only[toTs]using h
 | p::ps,q,h=>by
  simp only[toTs]at h ⊢;split at h
  ·rename_i x F xs F' h1 h2;rw[E9f hh p h1,B3y hh ps h2];exact h
  ·cases h
end
theorem D1r {H H':Heap} {nx nx':Nat} {k:MK} {ps:List PV} {q:PV×Heap×Nat} (hk:B3u k=true) (h:A0e Φ H nx k ps=some q):A0e Φ H' nx' k ps=some (q.1,H',nx'):=by
 cases k<;>(first | (simp only[B3u,A0l,Bool.false_eq_true]at hk;done) | skip)
 case slstr lo hi=>
  cases lo<;>cases hi<;>rcases ps with _ | ⟨a,_ | ⟨b,_ | ⟨c,_ | ⟨d,r⟩⟩⟩⟩<;>simp only[A0e]at h ⊢ <;>(first | (cases h;done) | (obtain⟨x,hx,rfl⟩:=A0m h;rw[hx];rfl))
 case slice z lo hi=>
  cases lo<;>cases hi<;>rcases ps with _ | ⟨a,_ | ⟨b,_ | ⟨c,_ | ⟨d,r⟩⟩⟩⟩<;>simp only[A0e]at h ⊢ <;>(first | (cases h;done) | (obtain⟨x,hx,rfl⟩:=A0m h;rw[hx];rfl))
 case bin isB op nk=>
  rcases ps with _ | ⟨a,_ | ⟨b,_ | ⟨c,r⟩⟩⟩<;>simp only[A0e]at h ⊢ <;>(first | (cases h;done) | skip);split at h
  ·split at h
   ·rename_i hb;injection h with h;subst h;simp only[hb]
   ·rename_i hb;obtain⟨x,hx,rfl⟩:=A0m h;simp only[hb,hx,Option.map_some]
  ·rename_i hne;obtain⟨x,hx,rfl⟩:=A0m h;rw[hx];rfl
 case pick=>
  rcases ps with _ | ⟨a,_ | ⟨b,_ | ⟨c,_ | ⟨d,r⟩⟩⟩⟩<;>simp only[A0e]at h ⊢ <;>(first | (cases h;done) | skip);split at h
  ·injection h with h;subst h;rfl
  ·cases h
 case un op=>
  rcases ps with _ | ⟨a,_ | ⟨b,r⟩⟩<;>simp only[A0e]at h ⊢ <;>(first | (cases h;done) | skip);split at h
  ·obtain⟨x,hx,rfl⟩:=A0m h;rw[hx];rfl
  ·cases h
 case tslice e n zc len idx=>simp only[A0e]at h ⊢;obtain⟨x,hx,rfl⟩:=A0m h;rw[hx];rfl
 case build places zc idx=>simp only[A0e]at h ⊢;obtain⟨x,hx,rfl⟩:=A0m h;rw[hx];rfl
 case barr n zc idx=>simp only[A0e]at h ⊢;obtain⟨x,hx,rfl⟩:=A0m h;rw[hx];rfl
 case ex e=>simp only[A0e]at h ⊢;obtain⟨x,hx,rfl⟩:=A0m h;rw[hx];rfl
 case mv=>
  rcases ps with _ | ⟨a,_ | ⟨b,r⟩⟩<;>simp only[A0e]at h ⊢ <;>(first | (cases h;done) | (injection h with h;subst h;rfl))
 all_goals
  rcases ps with _ | ⟨a,_ | ⟨b,_ | ⟨c,r⟩⟩⟩<;>simp only[A0e]at h ⊢ <;>(first | (cases h;done) | (obtain⟨x,hx,rfl⟩:=A0m h;rw[hx];rfl))
theorem B2p {H H':Heap} {nx nx':Nat} {k:MK} {ps:List PV} {v:PV} (hk:B3u k=true) (h:A1z Φ H nx k ps=some v):A1z Φ H' nx' k ps=some v:=by
 unfold A1z at h ⊢;split at h
 ·rename_i hq;rw[if_pos hq];split at h
  ·simp[B3u]at hk
  ·obtain⟨q,hq',rfl⟩:=A0m h;rw[D1r hk hq'];rfl
 ·cases h
theorem B1s {H H':Heap} {nx nx':Nat} {k:MK} {ps:List PV} {v:PV} (hh:∀b r,look H b=some r->look H' b=some r) (h:A1z Φ H nx k ps=some v):A1z Φ H' nx' k ps=some v:=by
 by_cases hk:B3u k=true
 ·exact B2p hk h
 ·cases k<;>(first | (exact absurd rfl hk) | skip)
  case load agg n=>
   unfold A1z at h ⊢;simp only[A0l,if_true]at h ⊢;obtain⟨q,hq,rfl⟩:=A0m h
   rcases ps with _ | ⟨p,_ | ⟨x,r⟩⟩<;>simp only[A0e]at hq ⊢ <;> try (cases hq;done)
   obtain⟨a,ha,rfl⟩:=A0m hq
   have:A0g agg n H' p=some a:=by
    unfold A0g at ha ⊢;split at ha
    ·exact ha
    ·split at ha
     ·rename_i hl;rw[hh _ _ hl];exact ha
     ·cases ha
    ·cases ha
   rw[this];rfl
  case call f=>
   unfold A1z at h ⊢;simp only[A0l,if_true]at h ⊢;split at h
   ·rename_i targs F hT;rw[B3y hh ps hT];exact h
   ·cases h
  all_goals (unfold A1z at h;simp[A0l]at h)
variable {l : List Mini} {π : List Nat} {pa k : Nat} {R : List (Nat × Nat)}
structure F6n (ops:Array Oper) (q:List (Nat×Mini)) (pa k:Nat) (R:List (Nat×Nat)):Prop where
 back:∀(i:Nat) o,ops[i]?=some o->∀e∈o.after.toList,Region.binds .any e=true->e.on<i
 pair:∀(p p':Nat) x y,p<p'->q[p]?=some x->q[p']?=some y->A4k (ancs ops.toList []) pa k R p p' x y=true
 all:∀i,i<ops.size->∃(p:Nat) (m:Mini),q[p]?=some (i,m)
 fits:pa+k<=q.length
 grp:∀(p:Nat) x,q[p]?=some x->pa<=p->p<pa+k->C2r x.2.k=true/\x.2.g=none
theorem B2f {A:List Nat}:∀{q:List (Nat×Mini)} {n:Nat},B3v A pa k R n q=true->∀(p p':Nat) x y,p<p'->q[p]?=some x->q[p']?=some y->A4k A pa k R (n+p) (n+p') x y=true
 | [],_,_,p,p',x,y,_,h,_=>by simp at h
 | a::q,n,hq,p,p',x,y,hlt,h,h'=>by
  simp only[B3v,Bool.and_eq_true]at hq
  cases p' with
  | zero=>omega
  | succ p'=>
   simp only[List.getElem?_cons_succ]at h'
   cases p with
   | zero=>
    simp only[List.getElem?_cons_zero,Option.some.injEq]at h;subst h
    have:=List.all_eq_true.1 hq.1 (y,n+1+p') (by
     rw[List.mem_zipIdx_iff_le_and_getElem?_sub]
     exact⟨by omega,by rw[show n+1+p'-(n+1)=p' by omega];exact h'⟩)
    rw[show n+(p'+1)=n+1+p' by omega];simpa using this
   | succ p=>
    have:=B2f hq.2 p p' x y (by omega) (by simpa using h) h';rwa[show n+1+p=n+(p+1)by omega,show n+1+p'=n+(p'+1)by omega]at this
theorem B6p (l:List Mini):∀(π:List Nat) (p:Nat) x,(A1x l π)[p]?=some x->l[x.1]?=some x.2:=by
 intro π p x h;have:=List.mem_of_getElem? h;unfold A1x at this;obtain⟨i,_,hi⟩:=List.mem_filterMap.1 this;obtain⟨m,hm,rfl⟩:=A0m hi;exact hm
theorem C2t (hl:ops.size=l.length) (h:C4u ops l π pa k R=true):F6n ops (A1x l π) pa k R/\(A1x l π).length=l.length/\((A1x l π).map Prod.fst).Nodup:=by
 unfold C4u at h;simp only[Bool.and_eq_true,decide_eq_true_eq,beq_iff_eq]at h;obtain⟨⟨⟨⟨⟨⟨h1,h2⟩,h3⟩,h4⟩,h5⟩,h6⟩,h7⟩:=h;refine⟨⟨fun i o ho e he hb=>?_,fun p p' x y hlt hx hy=>?_,fun i hi=>?_,by omega,fun p x hx hp hp'=>?_⟩,h2,?_⟩
 ·have hq:(o,i)∈ops.toList.zipIdx:=by
   rw[List.mem_zipIdx_iff_getElem?];simpa using ho
  have:=List.all_eq_true.1 (List.all_eq_true.1 h1 _ hq) e he;simpa[hb]using this
 ·have:=B2f h5 p p' x y hlt hx hy;simpa using this
 ·have hc:=List.all_eq_true.1 h3 i (by simp;omega)
  have hmem:i∈π:=by simpa using hc
  have hil:i<l.length:=by omega
  have:(i,l[i])∈A1x l π:=List.mem_filterMap.2 ⟨i,hmem,by rw[List.getElem?_eq_getElem hil];rfl⟩;obtain⟨p,hp⟩:=List.getElem?_of_mem this;exact⟨p,_,hp⟩
 ·have hm:(((A1x l π).drop pa).take k)[p-pa]?=some x:=by
   rw[List.getElem?_take,if_pos (by omega),List.getElem?_drop,show pa+(p-pa)=p by omega];exact hx
  have:=List.all_eq_true.1 h7 x (List.mem_of_getElem? hm);simp only[Bool.and_eq_true,Option.isNone_iff_eq_none]at this;exact this
 ·have:(A1x l π).map Prod.fst=π.filter (fun i=>(l[i]?).isSome):=by
   unfold A1x;clear h1 h2 h3 h4 h5 h6 h7
   induction π with
   | nil=>rfl
   | cons i π ih=>
    simp only[List.filterMap_cons,List.filter_cons]
    cases hi:l[i]? with
    | none=>simpa using ih
    | some m=>simpa using ih
  rw[this];exact h4.filter _
theorem D1s {L L1:Loc} {H H1:Heap} {w:World} (src:Nat->Nat) (hok:A1l P G L H w) (hI:L1.I=L.I) (hnx:L.nx<=L1.nx) (hμ:∀b,b<L.nx->L1.μ b=L.μ b)
  (h1:∀b r,look H1 b=some r->b<L1.nx/\look H (src b)=some r/\L1.μ b=L.μ (src b)) (hinj:∀b b' r r',look H1 b=some r->look H1 b'=some r'->src b=src b'->b=b') :
  A1l P G L1 H1 w/\Mono L w L1 w/\Ext L H w L1 H1 w:=by
 have hm:Mono L w L1 w:=⟨fun g hg=>⟨by rw[hI];exact hg,rfl⟩,hnx,hμ,Nat.le_refl _,A2d.refl w⟩
 refine⟨⟨fun b hb=>hok.lt b (by rw[<-hI];exact hb),fun b r hb=>?_,fun b r hb=>?_,fun b b' r r' hb hb' he=>?_,fun b r hb=>(h1 b r hb).1,A2o hok hm.keeps⟩,hm,?_⟩
 ·obtain⟨_,h2,h3⟩:=h1 b r hb;rw[h3];exact(hok.rep _ r h2).keep hm rfl
 ·obtain⟨_,h2,h3⟩:=h1 b r hb;rw[h3,hI];exact hok.apart _ r h2
 ·obtain⟨_,h2,h3⟩:=h1 b r hb;obtain⟨_,h2',h3'⟩:=h1 b' r' hb';rw[h3,h3']at he;exact hinj b b' r r' hb hb' (hok.inj _ _ r r' h2 h2' he)
 ·exact⟨Nat.le_refl _,fun _ _ _=>rfl,fun g hg=>by rw[hI];exact hg,fun g hg=>.inl (by rw[hI]at hg;exact hg),fun g ⟨b,r,hb,e⟩=>.inr ⟨_,r,(h1 b r hb).2.1,(h1 b r hb).2.2.symm.trans e⟩,A2d.refl w,A1v.refl w⟩
def gH (row:Nat->Row) (nx:Nat):List Nat->Heap->Heap
 | [],H=>H
 | d::D,H=>(nx+D.length,row d)::gH row nx D H
def gpos:List Nat->Nat->Nat
 | [],_=>0
 | d::D,p=>if d=p then D.length else gpos D p
theorem B5l:∀{D:List Nat} {p:Nat},p∈D->gpos D p<D.length
 | d::D,p,h=>by
  simp only[gpos,List.length_cons];split
  ·omega
  ·rename_i e;have:=B5l (D:=D) (p:=p) (by simpa[Ne.symm e]using h);omega
theorem D5b:∀{D:List Nat} {p p':Nat},p∈D->p'∈D->gpos D p=gpos D p'->p=p'
 | d::D,p,p',h,h',he=>by
  simp only[gpos]at he;by_cases e:d=p
  ·by_cases e':d=p'
   ·exact e.symm.trans e'
   ·rw[if_pos e,if_neg e']at he;have:=B5l (D:=D) (p:=p') (by simpa[Ne.symm e']using h');omega
  ·by_cases e':d=p'
   ·rw[if_neg e,if_pos e']at he;have:=B5l (D:=D) (p:=p) (by simpa[Ne.symm e]using h);omega
   ·rw[if_neg e,if_neg e']at he;exact D5b (by simpa[Ne.symm e]using h) (by simpa[Ne.symm e']using h') he
theorem B2q {row:Nat->Row} {nx:Nat} {H:Heap}:∀(D:List Nat) {b:Nat},b<nx->look (gH row nx D H) b=look H b
 | [],_,_=>rfl
 | d::D,b,h=>by
  simp only[gH,look];rw[if_neg (by omega)];exact B2q D h
theorem E2l {row:Nat->Row} {nx:Nat} {H:Heap}:∀{D:List Nat} {p:Nat},p∈D->look (gH row nx D H) (nx+gpos D p)=some (row p)
 | d::D,p,h=>by
  simp only[gH,look,gpos];by_cases e:d=p
  ·subst e;simp
  ·have hp:p∈D:=by simpa[Ne.symm e]using h
   rw[if_neg e,if_neg (by have:=B5l hp;omega)];exact E2l hp
theorem C8d {row:Nat->Row} {nx:Nat} {H:Heap} (hf:∀b r,look H b=some r->b<nx) (D:List Nat):∀b r,look H b=some r->look (gH row nx D H) b=some r:=fun b r h=>by
 rw[B2q D (hf b r h)];exact h
theorem C4w:∀(k:Nat) {D:List Nat} {pa:Nat},D.Nodup->(∀p∈D,pa<=p/\p<pa+k)->D.length<=k
 | 0,D,pa,_,h=>by
  cases D with
  | nil=>simp
  | cons d D=>have:=h d (by simp);omega
 | k+1,D,pa,hn,h=>by
  by_cases hm:pa+k∈D
  ·have h1:(D.erase (pa+k)).length<=k:=C4w k (pa:=pa) (hn.erase _) fun p hp=>by
    have hp':=(hn.mem_erase_iff).1 hp;have:=h p hp'.2;have:=hp'.1;omega
   rw[List.length_erase_of_mem hm]at h1;omega
  ·have:=C4w k (pa:=pa) hn (fun p hp=>by
    have h1:=h p hp;have:p≠pa+k:=fun e=>hm (e▸hp)
    exact⟨h1.1,by omega⟩)
   omega
theorem D1t {H H':Heap} {n n':Nat} {κ:MK} {ps:List PV} {v:PV} (hk:C2r κ=true) (h:A0e Φ H n κ ps=some (v,H',n')) :
  ∃(row:Row) (gv:Nat->PV),v=gv n/\H'=(n,row)::H/\n'=n+1/\(∀H n,A0e Φ H n κ ps=some (gv n,(n,row)::H,n+1)) /\
   ∀(L:Loc) (w:World) (u:Value) (a b:Nat),b<L.nx->L.μ b=L.μ a->RepV P L w (gv a) u->RepV P L w (gv b) u:=by
 cases κ<;>simp only[C2r]at hk<;>try (cases hk;done)
 case make e n0 by' zc=>
  rcases ps with _ | ⟨p,_ | ⟨x,_ | ⟨y,r⟩⟩⟩<;>simp only[A0e]at h<;>try (cases h;done)
  obtain⟨q,hs,e⟩:=A0m h;injection e with e1 e2;injection e2 with e2 e3;subst e1;subst e2;subst e3;unfold C7z at hs;split at hs
  ·split at hs
   ·rename_i hb;injection hs with hs;subst hs;refine⟨_,fun n=>.row n 0 _ _,rfl,rfl,rfl,fun H n=>?_,fun L w u a b hb hab hr=>?_⟩
    ·simp only[A0e,C7z,if_pos hb,Option.map_some]
    ·simp only[RepV]at hr ⊢;rw[hab];exact⟨hb,hr.2⟩
   ·cases hs
  ·cases hs
 case alloc t zc=>
  rcases ps with _ | ⟨p,r⟩<;>simp only[A0e]at h<;>try (cases h;done)
  injection h with e;injection e with e1 e2;injection e2 with e2 e3;subst e1;subst e2;subst e3;refine⟨_,fun n=>.ptr n 0,rfl,rfl,rfl,fun H n=>by simp only[A0e],fun L w u a b hb hab hr=>?_⟩;simp only[RepV]at hr ⊢;rw[hab];exact⟨hb,hr.2⟩
theorem B5m {ms:List Mini} {st:Nat->A0b} {vals:Nat->PV} {s:A0b} (h0:st 0=s) (hall:∀(p:Nat) m,ms[p]?=some m->(st (p+1)).env=((st p).put m.dst (vals p)).env):∀(p:Nat),p<=ms.length->∀k q,look (st p).env k=some q ->
  (∃j m,j<p/\ms[j]?=some m/\m.dst=some k/\q=vals j)\/((∀j m,j<p->ms[j]?=some m->m.dst≠some k)/\look s.env k=some q)
 | 0,_,k,q,h=>.inr ⟨fun j m hj=>by omega,by rw[h0]at h;exact h⟩
 | p+1,hp,k,q,h=>by
  obtain⟨m,hm⟩:∃m,ms[p]?=some m:=⟨_,List.getElem?_eq_getElem (by omega)⟩
  rw[hall p m hm]at h;rcases C4n h with⟨e,rfl⟩ | ⟨e,h'⟩
  ·exact .inl ⟨p,m,by omega,hm,e,rfl⟩
  ·rcases B5m h0 hall p (by omega) k q h' with⟨j,mj,hj,hmj,hd,hq⟩ | ⟨hno,hs⟩
   ·exact .inl ⟨j,mj,by omega,hmj,hd,hq⟩
   ·refine .inr ⟨fun j mj hj hmj=>?_,hs⟩;by_cases ej:j=p
    ·subst ej;rw[hm]at hmj;injection hmj with hmj;subst hmj;exact e
    ·exact hno j mj (by omega) hmj
structure E2m (Φ:A0v) (ms:List Mini) (pa k:Nat) (R:List (Nat×Nat)) (s s2:A0b) (st:Nat->A0b) (vals:Nat->PV):Prop where
 start:st 0=s
 stop:st ms.length=s2
 norm:∀(p:Nat) m,ms[p]?=some m->(p<pa\/pa+k<=p)->Did Φ (st p) m (vals p) (st (p+1))
 grp:∀(p:Nat) m,ms[p]?=some m->pa<=p->p<pa+k->∃H' n',A0e Φ (st p).H ((st pa).nx+k+(p-pa)) m.k (m.xs.map (·.ev (st p).env))=some (vals p,H',n') /\
  st (p+1)=({ st p with H:=H',nx:=(st pa).nx+2*k }:A0b).put m.dst (vals p)
 again:∀(p p':Nat) m,(p,p')∈R->ms[p]?=some m->A1z Φ (st (p'+1)).H (st (p'+1)).nx m.k (m.xs.map (·.ev (st p).env))=some (vals p)
theorem E2m.env {ms:List Mini} {s s2:A0b} {st:Nat->A0b} {vals:Nat->PV} (h:E2m Φ ms pa k R s s2 st vals) {p:Nat} {m:Mini} (hm:ms[p]?=some m) :
  (st (p+1)).env=((st p).put m.dst (vals p)).env/\(st (p+1)).n=(st p).n:=by
 by_cases hp:p<pa\/pa+k<=p
 ·exact C4v (h.norm p m hm hp)
 ·obtain⟨H',n',_,e⟩:=h.grp p m hm (by omega) (by omega);rw[e];refine⟨?_,by rw[B2m]⟩;cases m.dst<;>rfl
structure InvD (P:Program) (G:A0u) (B:Nat) (q:List (Nat×Mini)) (pa k:Nat) (row:Nat->Row) (gv:Nat->Nat->PV) (st:Nat->A0b) (vals:Nat->PV) (s:A0b) (L0:Loc) (w0:World) (S:Array Bool) (p0:Nat) (D:List Nat) (L:Loc) (a:Act) (w:World):Prop where
 le:p0<=q.length
 part:D≠[]->p0=pa/\∃p,pa<=p/\p<pa+k/\p∉D
 grp:∀p∈D,pa<=p/\p<pa+k
 nodup:D.Nodup
 out:p0<=pa\/pa+k<=p0
 done:∀(p:Nat) x,q[p]?=some x->A0l x.2.k=false->(S.getD x.1 false=true ↔ p<p0\/p∈D)
 heap:A1l P G L (gH row (st p0).nx D (st p0).H) w
 nx:L.nx=(st p0).nx+D.length
 base:B<=L.nx
 size:a.tmps.size=s.n
 defers:a.defers=[]
 vals:∀(p:Nat) x,q[p]?=some x->S.getD x.1 false=true->p∉D->∀k,x.2.dst=some k->RepV P L w (vals p) (a.tmps.getD k undef)
 gvals:∀(p:Nat) x,q[p]?=some x->p∈D->∀k,x.2.dst=some k->RepV P L w (gv p ((st p0).nx+gpos D p)) (a.tmps.getD k undef)
 old:∀k u,(∀(p:Nat) x,q[p]?=some x->S.getD x.1 false=true->x.2.dst≠some k)->look s.env k=some u->RepV P L w u (a.tmps.getD k undef)
 ext:Ext L0 s.H w0 L (gH row (st p0).nx D (st p0).H) w
 μ:∀b,b<B->L.μ b=L0.μ b
theorem C2u (hmix:P.follows .mixedOrders=true) (hΦ:Φ.Sound P G) {Q:Exit->A0b->Prop} {s s2:A0b} {st:Nat->A0b} {vals:Nat->PV} {id:Nat} (ha0:ops.toList.mapM (A3y P G N true ops)=some l) (hd0:C4u ops l π pa k R=true)
  (hn:s.n=N) (hrun:E2m Φ ((A1x l π).map Prod.snd) pa k R s s2 st vals) (hq:Q .normal s2):A5g P G B (.region id ops true) Q s:=by
 intro L0 a0 w0 hi0;have ha:=A3z ha0
 have hlen:ops.size=l.length:=by have:=(ha.at_ 0).2;simpa using this
 obtain⟨hd,hql,hnodup⟩:=C2t hlen hd0;have h0:=hrun.start;have hlast:=hrun.stop;simp only[List.length_map]at hlast;generalize hq':A1x l π=q at *
 have hmem:∀(p:Nat) x,q[p]?=some x->l[x.1]?=some x.2:=by intro p x hx;rw[<-hq']at hx;exact B6p l π p x hx
 have hms:∀(p:Nat) x,q[p]?=some x->(q.map Prod.snd)[p]?=some x.2:=by intro p x hx;simp[hx]
 have hall:∀(p:Nat) m,(q.map Prod.snd)[p]?=some m->(st (p+1)).env=((st p).put m.dst (vals p)).env:=fun p m hm=>(hrun.env hm).1;have step:∀(p:Nat) x,q[p]?=some x->(p<pa\/pa+k<=p)->Did Φ (st p) x.2 (vals p) (st (p+1)):=fun p x hx=>hrun.norm p x.2 (hms p x hx)
 have gkind:∀(p:Nat) x,q[p]?=some x->pa<=p->p<pa+k->A0l x.2.k=false/\B0i x.2.k=true:=by
  intro p x hx h1 h2;have:=(hd.grp p x hx h1 h2).1;revert this;cases x.2.k<;>simp[C2r,A0l,B0i]
 have grp0:∀p,∃(row:Row) (gv:Nat->PV),∀x,q[p]?=some x->pa<=p->p<pa+k->vals p=gv ((st pa).nx+k+(p-pa)) /\
   st (p+1)=({ st p with H:=((st pa).nx+k+(p-pa),row)::(st p).H,nx:=(st pa).nx+2*k }:A0b).put x.2.dst (vals p) /\
   (∀H n,A0e Φ H n x.2.k (x.2.xs.map (·.ev (st p).env))=some (gv n,(n,row)::H,n+1)) /\
   ∀(L:Loc) (w:World) (u:Value) (a b:Nat),b<L.nx->L.μ b=L.μ a->RepV P L w (gv a) u->RepV P L w (gv b) u:=by
  intro p;by_cases hp:∃x,q[p]?=some x/\pa<=p/\p<pa+k
  ·obtain⟨x,hx,h1,h2⟩:=hp;obtain⟨H',n',he,hst⟩:=hrun.grp p x.2 (hms p x hx) h1 h2;obtain⟨row,gv,e1,e2,e3,e4,e5⟩:=D1t (P:=P) (hd.grp p x hx h1 h2).1 he;refine⟨row,gv,fun y hy _ _=>?_⟩;rw[hx]at hy;injection hy with hy;subst hy;exact⟨e1,by rw[hst,e2],e4,e5⟩
  ·exact⟨default,fun _=>.dead,fun x hx h1 h2=>absurd ⟨x,hx,h1,h2⟩ hp⟩
 have ⟨row,grp1⟩:=Classical.axiomOfChoice grp0;have ⟨gv,grp⟩:=Classical.axiomOfChoice grp1
 have uniq:∀(p p':Nat) x y,q[p]?=some x->q[p']?=some y->x.1=y.1->p=p':=by
  intro p p' x y hx hy e
  have h1:(q.map Prod.fst)[p]?=some x.1:=by simp[hx]
  have h2:(q.map Prod.fst)[p']?=some x.1:=by simp[hy,e]
  have hp:=(List.getElem?_eq_some_iff.1 h1).1;exact(List.getElem?_inj hp hnodup).1 (h1.trans h2.symm)
 have hfit:=hd.fits
 have gnx:∀j,pa+j+1<=pa+k->(st (pa+j+1)).nx=(st pa).nx+2*k:=by
  intro j hj;have hx:q[pa+j]?=some q[pa+j]:=List.getElem?_eq_getElem (by omega);rw[(grp (pa+j) _ hx (by omega) (by omega)).2.1,A9m]
 have fresh:∀p,p<=q.length->C8c (st p):=by
  intro p
  induction p with
  | zero=>intro _;rw[h0];exact fun b r hb=>by have:=hi0.heap.nx b r hb;rw[hi0.nx]at this;exact this
  | succ p ih=>
   intro hp;have hx:q[p]?=some q[p]:=List.getElem?_eq_getElem (by omega);by_cases hg:p<pa\/pa+k<=p
   ·exact(B3x hΦ (step p _ hx hg) (ih (by omega))).1
   ·rw[(grp p _ hx (by omega) (by omega)).2.1];unfold C8c;rw[B0b,A9m];intro b r hb;simp only[look]at hb;show b<(st pa).nx+2*k;split at hb
    ·omega
    ·have h1:=ih (by omega) b r hb;by_cases e:p=pa
     ·subst e;omega
     ·have:=gnx (p-1-pa) (by omega);rw[show pa+(p-1-pa)+1=p by omega]at this;omega
 have flat:∀(a b:Nat),a<=b->b<=q.length->(∀(p:Nat) x,a<=p->p<b->q[p]?=some x->A0l x.2.k=true)->(st b).H=(st a).H/\(st b).nx=(st a).nx:=by
  intro a b hab
  induction b with
  | zero=>
   intro _ _
   have:a=0:=by omega
   subst this;exact⟨rfl,rfl⟩
  | succ b ih=>
   intro hb hno;by_cases e:a=b+1
   ·subst e;exact⟨rfl,rfl⟩
   ·have hx:q[b]?=some q[b]:=List.getElem?_eq_getElem (by omega);have hqb:=hno b _ (by omega) (by omega) hx
    have h1:=B3w (step b _ hx (by
     rcases Nat.lt_or_ge b pa with h | h
     ·exact .inl h
     ·rcases Nat.lt_or_ge b (pa+k)with h' | h'
      ·have:=(gkind b _ hx h h').1;rw[hqb]at this;cases this
      ·exact .inr h')) hqb
    have h2:=ih (by omega) (by omega) (fun p x h1 h2 h3=>hno p x h1 (by omega) h3);exact⟨h1.1.trans h2.1,h1.2.trans h2.2⟩
 have nconst:∀p,p<=q.length->(st p).n=s.n:=by
  intro p
  induction p with
  | zero=>intro _;rw[h0]
  | succ p ih=>
   intro hp;have hx:q[p]?=some q[p]:=List.getElem?_eq_getElem (by omega);rw[(hrun.env (hms p _ hx)).2,ih (by omega)]
 have gafter:∀j,j<=k->∀b r,look (st (pa+j)).H b=some r->(b<(st pa).nx/\look (st pa).H b=some r)\/∃i,i<j/\b=(st pa).nx+k+i/\r=row (pa+i):=by
  intro j
  induction j with
  | zero=>intro _ b r hb;exact .inl ⟨fresh pa (by have:=hd.fits;omega) b r hb,hb⟩
  | succ j ih=>
   intro hj b r hb;have hx:q[pa+j]?=some q[pa+j]:=List.getElem?_eq_getElem (by omega);rw[show pa+(j+1)=pa+j+1 by omega,(grp (pa+j) _ hx (by omega) (by omega)).2.1,B0b]at hb;simp only[look]at hb;split at hb
   ·rename_i e;injection hb with hb;exact .inr ⟨j,by omega,by omega,hb.symm⟩
   ·rcases ih (by omega) b r hb with h | ⟨i,hi,e1,e2⟩
    ·exact .inl h
    ·exact .inr ⟨i,by omega,e1,e2⟩
 refine wp_region_any hmix ?_
 have main:∀(fuel:Nat) (S:Array Bool) (p0:Nat) (D:List Nat) (L:Loc) (a:Act) (w:World),S.size=ops.size->C2n ops S->ops.size<=cnt S+fuel ->
   InvD P G B q pa k row gv st vals s L0 w0 S p0 D L a w->wpAny P .any ops (Post P G B Q L0 s.H w0) fuel S a w:=by
  have full:∀(S:Array Bool) (p0:Nat) (D:List Nat) (L:Loc) (a:Act) (w:World),(∀i,i<ops.size->S.getD i false=true)->InvD P G B q pa k row gv st vals s L0 w0 S p0 D L a w->Post P G B Q L0 s.H w0 .normal a w:=by
   intro S p0 D L a w hS inv;have hxi:∀(p:Nat) x,q[p]?=some x->S.getD x.1 false=true:=fun p x hx=>hS _ (by have:=(List.getElem?_eq_some_iff.1 (hmem p x hx)).1;omega)
   have hD:D=[]:=by
    cases D with
    | nil=>rfl
    | cons d D=>
     obtain⟨e,p,h1,h2,h3⟩:=inv.part (by simp);have hx:q[p]?=some q[p]:=List.getElem?_eq_getElem (by omega);rcases (inv.done p _ hx (gkind p _ hx h1 h2).1).1 (hxi p _ hx)with h | h
     ·omega
     ·exact absurd h h3
   subst hD;have hheap:=inv.heap;have hnx:=inv.nx;have hext:=inv.ext;simp only[gH,List.length_nil,Nat.add_zero]at hheap hnx hext
   have hf:=flat p0 q.length inv.le (Nat.le_refl _) (fun p x h1 h2 h3=>by
    cases hk:A0l x.2.k with
    | true=>rfl
    | false=>
     rcases (inv.done p x h3 hk).1 (hxi p x h3)with h | h
     ·omega
     ·simp at h)
   refine⟨s2,L,hq,⟨?_,?_,inv.base,?_,inv.defers,fun k u hl=>?_⟩,?_,inv.μ⟩
   ·rw[<-hlast,hf.1];exact hheap
   ·rw[<-hlast,hf.2];exact hnx
   ·rw[<-hlast,nconst _ (Nat.le_refl _)];exact inv.size
   ·rw[<-hlast]at hl;rcases B5m h0 hall q.length (by simp) k u hl with⟨j,m,hj,hmj,hdst,rfl⟩ | ⟨hno,hs⟩
    ·have hx:q[j]?=some q[j]:=List.getElem?_eq_getElem hj
     have e:m=q[j].2:=by rw[hms j _ hx]at hmj;injection hmj with hmj;exact hmj.symm
     subst e;exact inv.vals j _ hx (hxi j _ hx) (by simp) k hdst
    ·refine inv.old k u (fun p x hx _=>hno p x.2 ?_ (hms p x hx)) hs;exact(List.getElem?_eq_some_iff.1 hx).1
   ·rw[<-hlast,hf.1];exact hext
  intro fuel
  induction fuel with
  | zero=>
   intro S p0 D L a w hs hS hc inv;have hall':=D5a (S:=S) (by omega);refine⟨?_,full S p0 D L a w (fun i hi=>hall' i (by omega)) inv⟩;rw[List.eq_nil_iff_forall_not_mem];intro i hi;obtain⟨h1,h2,_⟩:=B5k hi;rw[B0j (by omega),hall' i (by omega)]at h2;cases h2
  | succ fuel ih=>
   intro S p0 D L a w hs hS hc inv;refine⟨fun hr=>?_,fun i hi=>?_⟩
   ·refine full S p0 D L a w (fun i=>?_) inv
    induction i using Nat.strongRecOn with
    | _ i ihi=>
     intro hi
     cases hS':S.getD i false with
     | true=>rfl
     | false=>
      exfalso
      have:i∈Region.ready .any ops S:=D4z (o:=ops[i]) (Array.getElem?_eq_getElem hi) (by rw[B0j (by omega)];exact hS')
       (fun e he hb=>by
        have:=hd.back i _ (Array.getElem?_eq_getElem hi) e he hb
        exact ihi _ this (by omega))
      rw[hr]at this;cases this
   ·obtain⟨hi1,hun,o,ho,hp⟩:=B5k hi;rw[B0j (by omega)]at hun;obtain⟨p,mi,hx⟩:=hd.all i hi1;have hpl:p<q.length:=(List.getElem?_eq_some_iff.1 hx).1;obtain⟨mi',hmi',hcomp⟩:=(ha.at_ i).1 o (by simpa using ho)
    have emi:mi'=mi:=by have:=hmem p _ hx;simp only at this;rw[this]at hmi';injection hmi' with h;exact h.symm
    subst emi;obtain⟨hcop,hdst,hdlt,hwants⟩:=A4z hcomp;have bef:∀j,((ancs ops.toList []).getD i 0).testBit j=true->S.getD j false=true:=fun j hb=>A6p hS ho hb hp
    have aft:∀j,j<ops.size->((ancs ops.toList []).getD j 0).testBit i=true->S.getD j false=false:=by
     intro j hj hb
     cases hSj:S.getD j false with
     | false=>rfl
     | true=>
      have hjo:ops[j]?=some ops[j]:=Array.getElem?_eq_getElem hj;have:=A6p hS hjo hb (hS j _ hjo hSj);rw[this]at hun;cases hun
    have idx:∀(p':Nat) y,q[p']?=some y->y.1<ops.size:=fun p' y hy=>by have:=(List.getElem?_eq_some_iff.1 (hmem p' y hy)).1;omega
    have pD:p∉D:=fun h=>by
     have hg:=inv.grp p h;have:=(inv.done p _ hx (gkind p _ hx hg.1 hg.2).1).2 (.inr h);simp only at this;rw[this]at hun;cases hun
    have hbefore:∀(p':Nat) y,p'<p->q[p']?=some y->A0l y.2.k=false->¬(pa<=p'/\p<pa+k)->S.getD y.1 false=true:=by
     intro p' y hlt hy hyk hng;refine bef _ ?_;have hok:=hd.pair p' p _ _ hlt hy hx;unfold A4k at hok;simp only[Bool.and_eq_true]at hok;have h1:=hok.1.1.1;rw[hyk]at h1;simp only[Bool.false_and,Bool.false_or,Bool.or_eq_true,Bool.and_eq_true,decide_eq_true_eq]at h1;rcases h1 with h1 | h1
     ·exact h1
     ·exact absurd h1 hng
    have nogrp:D≠[]->p<pa+k:=fun hD=>by
     rcases Nat.lt_or_ge p (pa+k)with h | h
     ·exact h
     ·obtain⟨e,p',h1,h2,h3⟩:=inv.part hD;have hy:q[p']?=some q[p']:=List.getElem?_eq_getElem (by omega);have hyk:=(gkind p' _ hy h1 h2).1;rcases (inv.done p' _ hy hyk).1 (hbefore p' _ (by omega) hy hyk (by omega))with h | h
      ·omega
      ·exact absurd h h3
    have eye:∀k u,k∈mi'.eyes->look (st p).env k=some u->RepV P L w u (a.tmps.getD k undef):=by
     intro k' u hke hl;rcases B5m h0 hall p (by simp;omega) k' u hl with⟨j,m,hj,hmj,hdj,rfl⟩ | ⟨hno,hs'⟩
     ·have hy:q[j]?=some q[j]:=List.getElem?_eq_getElem (by omega)
      have e:m=q[j].2:=by rw[hms j _ hy]at hmj;injection hmj with hmj;exact hmj.symm
      subst e;have hok:=hd.pair j p _ _ hj hy hx;unfold A4k at hok;simp only[Bool.and_eq_true]at hok;have h2:=hok.1.1.2;rw[hdj]at h2;simp only[Bool.or_eq_true,Bool.not_eq_true',Bool.and_eq_true]at h2;rcases h2 with h2 | ⟨h2,h3⟩
      ·exact absurd hke (by simpa using h2)
      ·refine inv.vals j _ hy (bef _ h2) (fun hjD=>?_) k' hdj;have h4:=(inv.grp j hjD).1;have h5:=nogrp (List.ne_nil_of_mem hjD);simp[h4,h5]at h3
     ·refine inv.old k' u (fun p' y hy hSy hdy=>?_) hs';rcases Nat.lt_trichotomy p' p with hlt | heq | hgt
      ·exact hno p' y.2 hlt (hms p' y hy) hdy
      ·subst heq;rw[hx]at hy;injection hy with hy;subst hy;simp only at hSy;rw[hSy]at hun;cases hun
      ·have hok:=hd.pair p p' _ _ hgt hx hy;unfold A4k at hok;simp only[Bool.and_eq_true]at hok;have h3:=hok.1.2;rw[hdy]at h3;simp only[Bool.or_eq_true,Bool.not_eq_true']at h3;rcases h3 with h3 | h3
       ·exact absurd hke (by simpa using h3)
       ·have:=aft y.1 (idx p' y hy) h3;rw[this]at hSy;cases hSy
    have hS':C2n ops (S.setIfInBounds i true):=by
     intro j oj hoj hj e he hb;rw[A2r S i _ (by omega)]at hj ⊢;split
     ·rfl
     ·split at hj
      ·rename_i e1;subst e1;rw[ho]at hoj;injection hoj with hoj;subst hoj;exact hp e he hb
      ·exact hS j oj hoj hj e he hb
    have hc':ops.size<=cnt (S.setIfInBounds i true)+fuel:=by rw[E2j (by omega) hun];omega
    have dsts:∀(p':Nat) y k',q[p']?=some y->i≠y.1->y.2.dst=some k'->o.dst≠some k':=by
     intro p' y k' hy e hk;rw[<-hdst];intro hcon
     have epn:p≠p':=fun ep=>by subst ep;rw[hx]at hy;injection hy with hy;subst hy;exact e rfl
     rcases Nat.lt_or_gt_of_ne epn with hlt | hgt
     ·have hok:=hd.pair p p' _ _ hlt hx hy;unfold A4k at hok;simp only[Bool.and_eq_true]at hok;have h4:=hok.2;rw[hcon]at h4;simp only[bne_iff_ne]at h4;exact h4 hk
     ·have hok:=hd.pair p' p _ _ hgt hy hx;unfold A4k at hok;simp only[Bool.and_eq_true]at hok;have h4:=hok.2;rw[hk]at h4;simp only[bne_iff_ne]at h4;exact h4 hcon
    have next:∀(p1:Nat) (L':Loc) (w':World) (u:Value),p1<=q.length->(D≠[]->p1=p0)->(p1<=pa\/pa+k<=p1)->(st p1).nx=(st p1).nx ->
      (∀(p':Nat) y,q[p']?=some y->A0l y.2.k=false->((S.setIfInBounds i true).getD y.1 false=true ↔ p'<p1\/p'∈D)) ->
      RepV P L' w' (vals p) u->A1l P G L' (gH row (st p1).nx D (st p1).H) w'->L'.nx=(st p1).nx+D.length->Mono L w L' w'->Ext L (gH row (st p0).nx D (st p0).H) w L' (gH row (st p1).nx D (st p1).H) w' ->
      wpAny P .any ops (Post P G B Q L0 s.H w0) fuel (S.setIfInBounds i true) (a.put o.dst u) w':=by
     intro p1 L' w' u hp1 hDp hout _ hdone hru hok' hnx' hm' hx';refine ih _ p1 D L' _ w' (by simpa using hs) hS' hc' ⟨hp1,fun hD=>?_,inv.grp,inv.nodup,hout,hdone,hok',hnx',Nat.le_trans inv.base hm'.nx,?_,?_,?_,?_,?_,inv.ext.trans hx',fun b hb=>(hm'.μ b (Nat.lt_of_lt_of_le hb inv.base)).trans (inv.μ b hb)⟩
     ·rw[hDp hD];exact inv.part hD
     ·rw[<-inv.size];cases o.dst<;>simp[Act.put]
     ·cases o.dst<;>simp[Act.put,inv.defers]
     ·intro p' y hy hSy hpD k' hk;rw[A6m];by_cases e:i=y.1
      ·have ep:=uniq p p' _ _ hx hy e;subst ep;rw[hx]at hy;injection hy with hy;subst hy;rw[if_pos ⟨by rw[<-hdst];exact hk,by rw[inv.size,hn];exact hdlt k' (by rw[<-hdst];exact hk)⟩];exact hru
      ·rw[A2r S i _ (by omega),if_neg e]at hSy;rw[if_neg (fun h=>dsts p' y k' hy e hk h.1)];exact RepV.keep hm' _ (inv.vals p' y hy hSy hpD k' hk)
     ·intro p' y hy hpD k' hk;rw[A6m]
      have e:i≠y.1:=fun e=>by
       have ep:=uniq p p' _ _ hx hy e;subst ep;exact pD hpD
      rw[if_neg (fun h=>dsts p' y k' hy e hk h.1),hDp (List.ne_nil_of_mem hpD)];exact RepV.keep hm' _ (inv.gvals p' y hy hpD k' hk)
     ·intro k' u' hno h0';rw[A6m];have hk:=hno p _ hx (by rw[A2r S i _ (by omega),if_pos rfl]);rw[if_neg (fun h=>hk (by rw[hdst];exact h.1))];refine RepV.keep hm' u' (inv.old k' u' (fun p' y hy hSy=>hno p' y hy ?_) h0');rw[A2r S i _ (by omega)];split
      ·rfl
      ·exact hSy
    have keepdone:A0l mi'.k=true->∀(p':Nat) y,q[p']?=some y->A0l y.2.k=false->((S.setIfInBounds i true).getD y.1 false=true ↔ p'<p0\/p'∈D):=by
     intro hquiet p' y hy hyk;rw[A2r S i _ (by omega)];by_cases e:i=y.1
     ·have ep:=uniq p p' _ _ hx hy e;subst ep;rw[hx]at hy;injection hy with hy;subst hy;rw[hquiet]at hyk;cases hyk
     ·rw[if_neg e];exact inv.done p' y hy hyk
    have hi':Interp P G B L ({ ((st p).only mi'.eyes)with H:=gH row (st p0).nx D (st p0).H,nx:=(st p0).nx+D.length }:A0b) a w:=by
     refine⟨inv.heap,inv.nx,inv.base,by show a.tmps.size=(st p).n;rw[nconst p (by omega)];exact inv.size,inv.defers,fun k u hl=>?_⟩;have hl':look ((st p).only mi'.eyes).env k=some u:=hl;rw[B0h]at hl';split at hl'
     ·rename_i hke;exact eye k u hke hl'
     ·cases hl'
    have hww:({ ((st p).only mi'.eyes)with H:=gH row (st p0).nx D (st p0).H,nx:=(st p0).nx+D.length }:A0b).wants ops o=mi'.wants (st p).env:=by
     rw[hwants];exact C2q (st p) mi' mi'.eyes (fun _ h=>h)
    have hev:mi'.xs.map (·.ev ({ ((st p).only mi'.eyes)with H:=gH row (st p0).nx D (st p0).H,nx:=(st p0).nx+D.length }:A0b).env)=mi'.xs.map (·.ev (st p).env):=E2h (st p) mi' mi'.eyes (fun _ h=>h);unfold wpOp;rw[ho];simp only;by_cases hgp:pa<=p/\p<pa+k
    ·
     have hk:=gkind p _ hx hgp.1 hgp.2;simp only at hk;obtain⟨gval,gst,gev,grep⟩:=grp p _ hx hgp.1 hgp.2;simp only at gval gst gev grep
     have hp0:p0<=pa:=by
      rcases inv.out with h | h
      ·exact h
      ·have:=(inv.done p _ hx hk.1).2 (.inl (by omega));simp only at this;rw[this]at hun;cases hun
     have hpa:=hd.fits
     have hf:=flat p0 pa hp0 (by omega) (fun p' y h1 h2 h3=>by
      cases hyk:A0l y.2.k with
      | true=>rfl
      | false=>
       rcases (inv.done p' y h3 hyk).1 (hbefore p' y (by omega) h3 hyk (by omega))with h | h
       ·omega
       ·have:=inv.grp p' h;omega)
     have hwt:mi'.wants (st p).env=some true:=by
      have:=(hd.grp p _ hx hgp.1 hgp.2).2;simp only at this;simp[Mini.wants,this]
     rw[if_pos (hi'.wants (hww.trans hwt))];have hek':=gev (gH row (st p0).nx D (st p0).H) ((st p0).nx+D.length);rw[<-hev]at hek';have haop:=B0g (B:=B) hΦ hcop hek' L a w hi';refine .inl (A1s ?_ (fun _ _ _ h=>h.elim) haop);rintro a' w' ⟨u,L',rfl,hru,hok',hnx',hm',hx'⟩;have hnodup':(p::D).Nodup:=List.nodup_cons.2 ⟨pD,inv.nodup⟩
     have hgrp':∀p'∈p::D,pa<=p'/\p'<pa+k:=by
      intro p' h;rcases List.mem_cons.1 h with rfl | h
      ·exact hgp
      ·exact inv.grp p' h
     have hdone':∀(p':Nat) y,q[p']?=some y->A0l y.2.k=false->((S.setIfInBounds i true).getD y.1 false=true ↔ p'<p0\/p'∈p::D):=by
      intro p' y hy hyk;rw[A2r S i _ (by omega)];by_cases e:i=y.1
      ·have ep:=uniq p p' _ _ hx hy e;subst ep;simp[e]
      ·rw[if_neg e,inv.done p' y hy hyk,List.mem_cons]
       have:p'≠p:=fun ep=>by subst ep;rw[hx]at hy;injection hy with hy;subst hy;exact e rfl
       simp[this]
     have hvals':∀(p':Nat) y,q[p']?=some y->(S.setIfInBounds i true).getD y.1 false=true->p'∉p::D->∀k',y.2.dst=some k'->RepV P L' w' (vals p') ((a.put o.dst u).tmps.getD k' undef):=by
      intro p' y hy hSy hpD k' hk;rw[A6m]
      have e:i≠y.1:=fun e=>by
       have ep:=uniq p p' _ _ hx hy e;subst ep;exact hpD (by simp)
      rw[A2r S i _ (by omega),if_neg e]at hSy;rw[if_neg (fun h=>dsts p' y k' hy e hk h.1)];exact RepV.keep hm' _ (inv.vals p' y hy hSy (fun h=>hpD (by simp[h])) k' hk)
     have hgvals':∀(p':Nat) y,q[p']?=some y->p'∈p::D->∀k',y.2.dst=some k'->RepV P L' w' (gv p' ((st p0).nx+gpos (p::D) p')) ((a.put o.dst u).tmps.getD k' undef):=by
      intro p' y hy hpD k' hk;rw[A6m];by_cases ep:p=p'
      ·subst ep;rw[hx]at hy;injection hy with hy;subst hy;rw[if_pos ⟨by rw[<-hdst];exact hk,by rw[inv.size,hn];exact hdlt k' (by rw[<-hdst];exact hk)⟩];simpa[gpos]using hru
      ·have e:i≠y.1:=fun e=>ep (uniq p p' _ _ hx hy e)
       have hpD':p'∈D:=by simpa[Ne.symm ep]using hpD
       rw[if_neg (fun h=>dsts p' y k' hy e hk h.1)];simp only[gpos,if_neg ep];exact RepV.keep hm' _ (inv.gvals p' y hy hpD' k' hk)
     have hold':∀k' u',(∀(p':Nat) y,q[p']?=some y->(S.setIfInBounds i true).getD y.1 false=true->y.2.dst≠some k')->look s.env k'=some u'->RepV P L' w' u' ((a.put o.dst u).tmps.getD k' undef):=by
      intro k' u' hno h0';rw[A6m];have hk:=hno p _ hx (by rw[A2r S i _ (by omega),if_pos rfl]);rw[if_neg (fun h=>hk (by rw[hdst];exact h.1))];refine RepV.keep hm' u' (inv.old k' u' (fun p' y hy hSy=>hno p' y hy ?_) h0');rw[A2r S i _ (by omega)];split
      ·rfl
      ·exact hSy
     have hsz:(a.put o.dst u).tmps.size=s.n:=by rw[<-inv.size];cases o.dst<;>simp[Act.put]
     have hdf:(a.put o.dst u).defers=[]:=by cases o.dst<;>simp[Act.put,inv.defers]
     have hxt:=inv.ext.trans hx';have hμ':∀b,b<B->L'.μ b=L0.μ b:=fun b hb=>(hm'.μ b (Nat.lt_of_lt_of_le hb inv.base)).trans (inv.μ b hb);have hDk:(p::D).length<=k:=C4w k hnodup' hgrp';simp only[List.length_cons]at hDk;by_cases hmiss:∃p',pa<=p'/\p'<pa+k/\p'∉p::D
     ·
      refine ih _ pa (p::D) L' _ w' (by simpa using hs) hS' hc' ⟨by omega,fun _=>⟨rfl,hmiss⟩,hgrp',hnodup',.inl (Nat.le_refl _),?_,?_,?_,Nat.le_trans inv.base hm'.nx,hsz,hdf,hvals',?_,hold',?_,hμ'⟩
      ·intro p' y hy hyk;rw[hdone' p' y hy hyk];constructor
       ·rintro(h | h)
        ·exact .inl (by omega)
        ·exact .inr h
       ·rintro(h | h)
        ·refine(inv.done p' y hy hyk).1 (hbefore p' y (by omega) hy hyk (by omega)) |>.imp (fun h=>h) (fun h'=>by simp[h'])
        ·exact .inr h
      ·rw[hf.1,hf.2];exact hok'
      ·rw[hf.2,List.length_cons];omega
      ·rw[hf.2];exact hgvals'
      ·rw[hf.1,hf.2];exact hxt
     ·
      have hmem':∀j,j<k->pa+j∈p::D:=fun j hj=>Classical.byContradiction fun h=>hmiss ⟨pa+j,by omega,by omega,h⟩;have nx0:(st p0).nx=(st pa).nx:=hf.2.symm
      have hkpos:0<k:=by omega
      have hend:=gnx (k-1) (by omega);rw[show pa+(k-1)+1=pa+k by omega]at hend
      have hgk:∀j,j<k->gpos (p::D) (pa+j)<k:=fun j hj=>by have:=B5l (hmem' j hj);simp only[List.length_cons]at this;omega
      obtain⟨hok1,hm1,hx1⟩:=D1s (L1:={ I:=L'.I,μ:=fun b=>if(st pa).nx+k<=b then L'.μ ((st pa).nx+gpos (p::D) (pa+(b-((st pa).nx+k))))else L'.μ b,nx:=(st pa).nx+2*k }) (H1:=(st (pa+k)).H)
       (fun b=>if(st pa).nx+k<=b then(st pa).nx+gpos (p::D) (pa+(b-((st pa).nx+k)))else b) hok' rfl (by rw[hnx',nx0];simp only;omega) (fun b hb=>by
        rw[hnx',nx0]at hb;simp only
        rw[if_neg (by omega)]) (fun b r hb=>by
        rcases gafter k (Nat.le_refl _) b r hb with⟨h1,h2⟩ | ⟨j,hj,rfl,rfl⟩
        ·refine⟨by simp only;omega,?_,?_⟩
         ·rw[if_neg (by omega)];have:=B2q (row:=row) (nx:=(st p0).nx) (H:=(st p0).H) (p::D) (b:=b) (by omega);simp only[gH]at this;rw[this,<-hf.1];exact h2
         ·simp only;rw[if_neg (by omega),if_neg (by omega)]
        ·refine⟨by simp only;omega,?_,?_⟩
         ·rw[if_pos (by omega),show(st pa).nx+k+j-((st pa).nx+k)=j by omega];have:=E2l (row:=row) (nx:=(st p0).nx) (H:=(st p0).H) (hmem' j hj);simp only[gH]at this;rw[nx0]at this;rw[nx0];exact this
         ·simp only;rw[if_pos (by omega),if_pos (by omega)]) (fun b b' r r' hb hb' he=>by
        rcases gafter k (Nat.le_refl _) b r hb with⟨h1,h2⟩ | ⟨j,hj,rfl,rfl⟩<;>rcases gafter k (Nat.le_refl _) b' r' hb' with⟨h1',h2'⟩ | ⟨j',hj',rfl,rfl⟩
        ·rw[if_neg (by omega),if_neg (by omega)]at he;exact he
        ·rw[if_neg (by omega),if_pos (by omega)]at he;omega
        ·rw[if_pos (by omega),if_neg (by omega)]at he;omega
        ·rw[if_pos (by omega),if_pos (by omega),show(st pa).nx+k+j-((st pa).nx+k)=j by omega,show(st pa).nx+k+j'-((st pa).nx+k)=j' by omega]at he;have:=D5b (hmem' j hj) (hmem' j' hj') (by omega)
         omega)
      refine ih _ (pa+k) [] _ _ w' (by simpa using hs) hS' hc' ⟨by omega,fun h=>absurd rfl h,by simp,List.nodup_nil,.inr (Nat.le_refl _),?_,by simp only[gH];exact hok1,by simp only[List.length_nil,Nat.add_zero];exact hend.symm,Nat.le_trans inv.base (Nat.le_trans hm'.nx hm1.nx),hsz,hdf,?_,by simp,fun k' u' h1 h2=>RepV.keep hm1 _ (hold' k' u' h1 h2),by simp only[gH];exact hxt.trans hx1,fun b hb=>(hm1.μ b (Nat.lt_of_lt_of_le hb (Nat.le_trans inv.base hm'.nx))).trans (hμ' b hb)⟩
      ·intro p' y hy hyk;rw[hdone' p' y hy hyk];constructor
       ·rintro(h | h)
        ·exact .inl (by omega)
        ·exact .inl (hgrp' p' h).2
       ·rintro(h | h)
        ·rcases Nat.lt_or_ge p' pa with h1 | h1
         ·refine(inv.done p' y hy hyk).1 (hbefore p' y (by omega) hy hyk (by omega)) |>.imp (fun h=>h) (fun h'=>by simp[h'])
         ·have:=hmem' (p'-pa) (by omega);rw[show pa+(p'-pa)=p' by omega]at this;exact .inr this
        ·simp at h
      ·intro p' y hy hSy _ k' hk';by_cases hpD:p'∈p::D
       ·have hg:=hgrp' p' hpD;have h1:=RepV.keep hm1 _ (hgvals' p' y hy hpD k' hk');obtain⟨e1,_,_,e4⟩:=grp p' y hy hg.1 hg.2;rw[e1];refine e4 _ _ _ _ _ (by simp only;omega) ?_ h1;simp only;have:=B5l hpD;simp only[List.length_cons]at this;rw[if_pos (by omega),show(st pa).nx+k+(p'-pa)-((st pa).nx+k)=p'-pa by omega,show pa+(p'-pa)=p' by omega,nx0,if_neg (by omega)]
       ·exact RepV.keep hm1 _ (hvals' p' y hy hSy hpD k' hk')
    ·have hng:p<pa\/pa+k<=p:=by omega
     have hbefore':∀(p':Nat) y,p'<p->q[p']?=some y->A0l y.2.k=false->p'<p0:=by
      intro p' y hlt hy hyk;rcases (inv.done p' y hy hyk).1 (hbefore p' y hlt hy hyk (by omega))with h | h
      ·exact h
      ·have h1:=inv.grp p' h;have h2:=nogrp (List.ne_nil_of_mem h);omega
     have hdid:=step p _ hx hng;simp only at hdid;rcases hdid with⟨hquiet,hval,hst⟩ | ⟨hheavy,hwf,hv,hst⟩ | ⟨hheavy,hwt,H',nx',hek,hst⟩
     ·unfold valQ at hval;split at hval
      ·rename_i hwt;rw[if_pos (hi'.wants (hww.trans hwt))]
       have hval0:A1z Φ (st p0).H (st p0).nx mi'.k (mi'.xs.map (·.ev (st p).env))=some (vals p):=by
        by_cases hpp:p0<=p
        ·have hf:=flat p0 p hpp (by omega) (fun p' y h1 h2 h3=>by
          cases hyk:A0l y.2.k with
          | true=>rfl
          | false=>have:=hbefore' p' y h2 h3 hyk;omega)
         rw[<-hf.1,<-hf.2];exact hval
        ·have walk:∀p1,p<=p1->p1<=p0->A1z Φ (st p1).H (st p1).nx mi'.k (mi'.xs.map (·.ev (st p).env))=some (vals p):=by
          intro p1
          induction p1 with
          | zero=>
           intro h _
           have:p=0:=by omega
           subst this;exact hval
          | succ p1 ihp=>
           intro h1 h2;by_cases e:p=p1+1
           ·subst e;exact hval
           ·have hv1:=ihp (by omega) (by omega);have hle:=inv.le;have hy:q[p1]?=some q[p1]:=List.getElem?_eq_getElem (by have:=inv.le;omega);by_cases hgy:pa<=p1/\p1<pa+k
            ·refine B1s (fun b r hb=>?_) hv1;rw[(grp p1 _ hy hgy.1 hgy.2).2.1,B0b];simp only[look];have hfr:=fresh p1 (by have:=inv.le;omega) b r hb;by_cases e1:p1=pa
             ·subst e1;rw[if_neg (by omega)];exact hb
             ·rcases gafter (p1-pa) (by omega) b r (by rw[show pa+(p1-pa)=p1 by omega];exact hb)with⟨h3,_⟩ | ⟨i3,h3,h4,_⟩
              ·rw[if_neg (by omega)];exact hb
              ·rw[if_neg (by omega)];exact hb
            ·have hdy:=step p1 _ hy (by omega)
             cases hyk:A0l (q[p1]).2.k with
             | true=>
              have:=B3w hdy hyk;rw[this.1,this.2];exact hv1
             | false=>
              by_cases hind:B3u mi'.k=true
              ·exact B2p hind hv1
              ·have hlt:p<p1:=by
                rcases Nat.lt_or_ge p p1 with h | h
                ·exact h
                ·have:p1=p:=by omega
                 subst this;rw[hx]at hy;injection hy with hy;rw[<-hy]at hyk;simp only at hyk;rw[hquiet]at hyk;cases hyk
               have hSy:=(inv.done p1 _ hy hyk).2 (.inl (by omega));have hok:=hd.pair p p1 _ _ hlt hx hy;unfold A4k at hok;simp only[Bool.and_eq_true]at hok;have h1':=hok.1.1.1;simp only[hquiet,hyk,Bool.true_and,Bool.false_or,Bool.or_eq_true,Bool.and_eq_true,decide_eq_true_eq]at h1';rcases h1' with(((h | h) | h) | h) | h
               ·exact absurd h hind
               ·exact B1s ((B3x hΦ hdy (fresh p1 (by have:=inv.le;omega))).2 (.inl h)) hv1
               ·exact hrun.again p p1 mi' (by simpa using h) (hms p _ hx)
               ·have:=aft _ (idx p1 _ hy) h;rw[this]at hSy;cases hSy
               ·omega
         exact walk p0 (by omega) (Nat.le_refl _)
       have hval':A1z Φ (gH row (st p0).nx D (st p0).H) ((st p0).nx+D.length) mi'.k (mi'.xs.map (·.ev (st p).env))=some (vals p):=
        B1s (C8d (fresh p0 inv.le) D) hval0
       have hek':A0e Φ ({ ((st p).only mi'.eyes)with H:=gH row (st p0).nx D (st p0).H,nx:=(st p0).nx+D.length }:A0b).H ({ ((st p).only mi'.eyes)with H:=gH row (st p0).nx D (st p0).H,nx:=(st p0).nx+D.length }:A0b).nx mi'.k (mi'.xs.map (·.ev ({ ((st p).only mi'.eyes)with H:=gH row (st p0).nx D (st p0).H,nx:=(st p0).nx+D.length }:A0b).env))=some (vals p,gH row (st p0).nx D (st p0).H,(st p0).nx+D.length):=by
        rw[hev];exact B9g hval'
       have haop:=B0g (B:=B) hΦ hcop hek' L a w hi';refine .inl (A1s ?_ (fun _ _ _ h=>h.elim) haop);rintro a' w' ⟨u,L',rfl,hru,hok',hnx',hm',hx'⟩
       exact next p0 L' w' u inv.le (fun _=>rfl) inv.out rfl (keepdone hquiet) hru hok' hnx' hm' hx'
      ·rename_i hwf;rw[if_neg (by rw[hi'.wants (hww.trans hwf)];simp)];injection hval with hval
       exact next p0 L w undef inv.le (fun _=>rfl) inv.out rfl (keepdone hquiet) (by rw[<-hval];simp only[RepV,RepT]) inv.heap inv.nx (Mono.refl _ _) (Ext.refl _ _ _)
      ·cases hval
     all_goals
      have hp0p:p0<=p:=by
       rcases Nat.lt_or_ge p p0 with h | h
       ·have:=(inv.done p _ hx hheavy).2 (.inl h);simp only at this;rw[this]at hun;cases hun
       ·exact h
      have hD:D=[]:=by
       cases hD:D with
       | nil=>rfl
       | cons d D'=>
        exfalso
        have hne:D≠[]:=by rw[hD];simp
        have h1:=nogrp hne;have h2:=(inv.part hne).1;omega
      subst hD
      have hf:=flat p0 p hp0p (by omega) (fun p' y h1 h2 h3=>by
       cases hyk:A0l y.2.k with
       | true=>rfl
       | false=>have:=hbefore' p' y h2 h3 hyk;omega)
      have hdone':∀(p':Nat) y,q[p']?=some y->A0l y.2.k=false->((S.setIfInBounds i true).getD y.1 false=true ↔ p'<p+1\/p'∈([]:List Nat)):=by
       intro p' y hy hyk;rw[A2r S i _ (by omega)];by_cases e:i=y.1
       ·have ep:=uniq p p' _ _ hx hy e;subst ep;simp[e]
       ·rw[if_neg e,inv.done p' y hy hyk];simp only[List.not_mem_nil,or_false];constructor
        ·intro h;omega
        ·intro h
         have:p'≠p:=fun ep=>by subst ep;rw[hx]at hy;injection hy with hy;subst hy;exact e rfl
         exact hbefore' p' y (by omega) hy hyk
      have hout:p+1<=pa\/pa+k<=p+1:=by omega
     ·rw[if_neg (by rw[hi'.wants (hww.trans hwf)];simp)]
      have e1:(st (p+1)).H=(st p0).H:=by rw[hst,B0b,hf.1]
      have e2:(st (p+1)).nx=(st p0).nx:=by rw[hst,A9m,hf.2]
      refine next (p+1) L w undef (by omega) (fun h=>absurd rfl h) hout rfl hdone' (by rw[hv];simp only[RepV,RepT]) (by rw[e1];exact inv.heap) (by rw[e2];exact inv.nx) (Mono.refl _ _) (by rw[e1];exact Ext.refl _ _ _)
     ·rw[if_pos (hi'.wants (hww.trans hwt))]
      have hek':A0e Φ ({ ((st p).only mi'.eyes)with H:=gH row (st p0).nx [] (st p0).H,nx:=(st p0).nx+([]:List Nat).length }:A0b).H ({ ((st p).only mi'.eyes)with H:=gH row (st p0).nx [] (st p0).H,nx:=(st p0).nx+([]:List Nat).length }:A0b).nx mi'.k (mi'.xs.map (·.ev ({ ((st p).only mi'.eyes)with H:=gH row (st p0).nx [] (st p0).H,nx:=(st p0).nx+([]:List Nat).length }:A0b).env))=some (vals p,H',nx'):=by
       rw[hev];show A0e Φ (st p0).H (st p0).nx mi'.k _=_;rw[<-hf.1,<-hf.2];exact hek
      have haop:=B0g (B:=B) hΦ hcop hek' L a w hi';refine .inl (A1s ?_ (fun _ _ _ h=>h.elim) haop);rintro a' w' ⟨u,L',rfl,hru,hok',hnx',hm',hx'⟩
      have e1:(st (p+1)).H=H':=by rw[hst,B0b]
      have e2:(st (p+1)).nx=nx':=by rw[hst,A9m]
      exact next (p+1) L' w' u (by omega) (fun h=>absurd rfl h) hout rfl hdone' hru (by simp only[gH];rw[e1];exact hok') (by rw[e2];exact hnx') hm' (by simp only[gH];rw[e1];exact hx')
 obtain⟨hok,hm,hx⟩:=hi0.heap.of_heap (w':={ w0 with drawn:=w0.drawn+1 }) ⟨rfl,rfl,rfl⟩ rfl
 have hfalse:∀i,(Array.replicate ops.size false).getD i false=false:=by
  intro i;simp only[Array.getD_eq_getD_getElem?,Array.getElem?_replicate];split<;>rfl
 refine main ops.size _ 0 [] L0 a0 _ (by simp) ?_ (by omega) ⟨Nat.zero_le _,fun h=>absurd rfl h,by simp,List.nodup_nil,.inl (Nat.zero_le _),?_,by simp only[gH];rw[h0];exact hok,by rw[h0];exact hi0.nx,hi0.base,hi0.size,hi0.defers,?_,by simp,?_,by simp only[gH];rw[h0];exact hx,fun _ _=>rfl⟩
 ·intro i o _ h;rw[hfalse]at h;cases h
 ·intro p x _ _;rw[hfalse];simp
 ·intro p x _ h;rw[hfalse]at h;cases h
 ·intro k u _ hu;exact RepV.keep hm u (hi0.env k u hu)
theorem E9g {s:A0b} {m:Mini} {v:PV} {H':Heap} {nx':Nat} (h:valD Φ s m=some (v,H',nx')):Did Φ s m v (({ s with H:=H',nx:=nx' }:A0b).put m.dst v):=by
 unfold valD at h;split at h
 ·rename_i hq;obtain⟨u,hu,e⟩:=A0m h;injection e with e1 e2;injection e2 with e2 e3;subst e1;subst e2;subst e3;exact .inl ⟨hq,hu,rfl⟩
 ·rename_i hq
  have hq:A0l m.k=false:=by simpa using hq
  split at h
  ·rename_i hw;exact .inr (.inr ⟨hq,hw,H',nx',h,rfl⟩)
  ·rename_i hw;injection h with e;injection e with e1 e2;injection e2 with e2 e3;subst e1;subst e2;subst e3;exact .inr (.inl ⟨hq,hw,rfl,rfl⟩)
  ·cases h
def F6o (Φ:A0v) (k n:Nat):GI->A0b->Nat->Pend->PV->A0b->Nat->Pend->Prop
 | .o m kp ag,s,b,pd,v,s',b',pd'=>Did Φ s m v s'/\b'=b/\pd'=B2o kp n m s v pd/\agnP Φ pd s'.H s'.nx ag
 | .g j m,s,b,pd,v,s',b',pd'=>b'=(if j=0 then s.nx else b)/\pd'=pd/\∃H' n',A0e Φ s.H (b'+k+j) m.k (m.xs.map (·.ev s.env))=some (v,H',n')/\s'=({ s with H:=H',nx:=b'+2*k }:A0b).put m.dst v
theorem C2v:∀(l:List GI) {n b:Nat} {pd:Pend} {s s':A0b},runG Φ k n b pd l s=some s'->∃(st:Nat->A0b) (vals:Nat->PV) (bs:Nat->Nat) (pds:Nat->Pend),st 0=s/\bs 0=b/\pds 0=pd/\st l.length=s' /\
  ∀(p:Nat) x,l[p]?=some x->F6o Φ k (n+p) x (st p) (bs p) (pds p) (vals p) (st (p+1)) (bs (p+1)) (pds (p+1))
 | [],n,b,pd,s,s',h=>by
  simp only[runG,Option.some.injEq]at h;exact⟨fun _=>s,fun _=>.dead,fun _=>b,fun _=>pd,rfl,rfl,rfl,h,by simp⟩
 | y::r,n,b,pd,s,s',h=>by
  have key:∃v s1 b1 pd1,F6o Φ k n y s b pd v s1 b1 pd1/\runG Φ k (n+1) b1 pd1 r s1=some s':=by
   cases y with
   | o m kp ag=>
    simp only[runG]at h;split at h
    ·rename_i v H' nx' hv;split at h
     ·rename_i hag;refine⟨v,_,b,_,⟨E9g hv,rfl,rfl,?_⟩,h⟩;rw[B0b,A9m];exact hag
     ·cases h
    ·cases h
   | g j m=>
    simp only[runG]at h;split at h
    ·rename_i v H' n' hv;exact⟨v,_,_,pd,⟨rfl,rfl,H',n',hv,rfl⟩,h⟩
    ·cases h
  obtain⟨v,s1,b1,pd1,hstep,hr⟩:=key;obtain⟨st,vals,bs,pds,e1,e2,e3,e4,hall⟩:=C2v r hr;refine⟨fun p=>match p with | 0=>s | p+1=>st p,fun p=>match p with | 0=>v | p+1=>vals p,fun p=>match p with | 0=>b | p+1=>bs p,fun p=>match p with | 0=>pd | p+1=>pds p,rfl,rfl,rfl,by simpa using e4,fun p x hp=>?_⟩
  cases p with
  | zero=>
   simp only[List.getElem?_cons_zero,Option.some.injEq]at hp;subst hp;simp only[Nat.add_zero];rw[e1,e2,e3];exact hstep
  | succ p=>
   have:=hall p x (by simpa using hp);rw[show n+1+p=n+(p+1)by omega]at this;exact this
theorem C2w {l:List GI} {s s2:A0b} (h:runG Φ k 0 0 [] l s=some s2) (hsh:B9h pa k R l=true):∃st vals,E2m Φ (l.map GI.mini) pa k R s s2 st vals:=by
 obtain⟨st,vals,bs,pds,e1,e2,e3,e4,hall⟩:=C2v l h;simp only[Nat.zero_add]at hall;unfold B9h at hsh;simp only[Bool.and_eq_true]at hsh
 have shape:∀(p:Nat) x,l[p]?=some x->match x with
   | .o _ _ _=>p<pa\/pa+k<=p
   | .g j _=>pa<=p/\p<pa+k/\p=pa+j:=by
  intro p x hx;have:=List.all_eq_true.1 hsh.1 (x,p) (by rw[List.mem_zipIdx_iff_getElem?];exact hx)
  cases x with
  | o m kp ag=>simpa using this
  | g j m=>simpa[and_assoc]using this
 have item:∀(p:Nat) m,(l.map GI.mini)[p]?=some m->∃x,l[p]?=some x/\x.mini=m:=by
  intro p m hm;rw[List.getElem?_map]at hm;obtain⟨x,hx,e⟩:=A0m hm;exact⟨x,hx,e⟩
 have base:∀j,pa+j+1<=l.length->j<k->bs (pa+j+1)=(st pa).nx:=by
  intro j
  induction j with
  | zero=>
   intro hl hk;have hx:l[pa]?=some l[pa]:=List.getElem?_eq_getElem (by omega);have hs:=shape pa _ hx;have hst:=hall pa _ hx
   cases hy:l[pa]with
   | o m kp ag=>rw[hy]at hs;simp only at hs;omega
   | g j m=>
    rw[hy]at hs hst;simp only at hs
    have:j=0:=by omega
    subst this;exact hst.1
  | succ j ih=>
   intro hl hk;have hx:l[pa+(j+1)]?=some l[pa+(j+1)]:=List.getElem?_eq_getElem (by omega);have hs:=shape _ _ hx;have hst:=hall _ _ hx
   cases hy:l[pa+(j+1)]with
   | o m kp ag=>rw[hy]at hs;simp only at hs;omega
   | g i m=>
    rw[hy]at hs hst;simp only at hs
    have:i=j+1:=by omega
    subst this;have h1:=hst.1;simp only[Nat.add_eq_zero_iff,Nat.succ_ne_self,and_false,if_false]at h1;rw[h1];exact ih (by omega) (by omega)
 have kept:∀(p:Nat),p<=l.length->∀i x,look (pds p) i=some x->∃y:GI,l[i]?=some y/\x=(y.mini.k,y.mini.xs.map (·.ev (st i).env),vals i):=by
  intro p
  induction p with
  | zero=>intro _ i x hx;rw[e3]at hx;simp[look]at hx
  | succ p ih=>
   intro hp i x hx;have hy:l[p]?=some l[p]:=List.getElem?_eq_getElem (by omega);have hst:=hall p _ hy
   cases hg:l[p]with
   | o m kp ag=>
    rw[hg]at hst;rw[hst.2.2.1]at hx;unfold B2o at hx;split at hx
    ·simp only[look]at hx;split at hx
     ·rename_i e;subst e;injection hx with hx;exact⟨_,hy,by rw[hg,<-hx];rfl⟩
     ·exact ih (by omega) i x hx
    ·exact ih (by omega) i x hx
   | g j m=>
    rw[hg]at hst;rw[hst.2.1]at hx;exact ih (by omega) i x hx
 refine⟨st,vals,e1,by simpa using e4,fun p m hm hp=>?_,fun p m hm h1 h2=>?_,fun p p' m hR hm=>?_⟩
 ·obtain⟨x,hx,rfl⟩:=item p m hm;have hs:=shape p x hx;have hst:=hall p x hx
  cases x with
  | o m kp ag=>exact hst.1
  | g j m=>simp only at hs;omega
 ·obtain⟨x,hx,rfl⟩:=item p m hm;have hs:=shape p x hx;have hst:=hall p x hx
  cases x with
  | o m kp ag=>simp only at hs;omega
  | g j m=>
   simp only at hs;obtain⟨hb,_,H',n',he,hst'⟩:=hst
   have hbp:bs (p+1)=(st pa).nx:=by
    have:=base (p-pa) (by have:=(List.getElem?_eq_some_iff.1 hx).1;omega) (by omega);rwa[show pa+(p-pa)+1=p+1 by omega]at this
   rw[hbp]at he hst';rw[show p-pa=j by omega];exact⟨H',n',he,hst'⟩
 ·have:=List.all_eq_true.1 hsh.2 (p,p') hR;simp only at this;split at this
  ·rename_i m' kp ag hx';have hst:=hall p' _ hx';obtain⟨x,hx,he⟩:=hst.2.2.2 p (by simpa using this);obtain⟨y,hy,rfl⟩:=kept p' (by have:=(List.getElem?_eq_some_iff.1 hx').1;omega) p x hx;obtain⟨x2,hx2,rfl⟩:=item p m hm;rw[hy]at hx2;injection hx2 with hx2;subst hx2;exact he
  ·cases this
theorem D1u {l:List Mini} {s s2:A0b} (h:runD Φ l s=some s2):∃st vals,E2m Φ l 0 0 [] s s2 st vals:=by
 obtain⟨st,vals,e1,e2,hall⟩:=C2s l h;exact⟨st,vals,e1,e2,fun p m hm _=>hall p m hm,fun p m _ _ h2=>by omega,fun p p' m hR=>by simp at hR⟩
end
end Go.Abs
