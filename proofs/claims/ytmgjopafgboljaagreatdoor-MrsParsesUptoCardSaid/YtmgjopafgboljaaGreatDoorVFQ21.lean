/- Auxiliary facts. -/
import Derived.Test.YtmgjopafgboljaaGreatDoorVFQ19
set_option linter.unusedSimpArgs false
set_option linter.unusedVariables false
open Go.Result renaming andThen_ok->Xc
open Array renaming getElem?_setIfInBounds_ne->Xd
open Option renaming map_eq_some_iff->Xe
namespace Go.Abs
open Go
section
variable {P : Program} {G : AM} {B N : Nat} {Φ : AP} {Q : Exit -> Am -> Prop} {s : Am}
structure bK (kk:KK) (es:List (Key×Value)) (arr:Array MapEntry) (c:Nat):Prop where
 eq:arr.toList.map (λe=>(e.key,e.val))=es.map (λe=>(e.1.val kk,e.2))
 ok:∀e∈es,e.1.ok kk=true
 nodup:(es.map (·.1)).Nodup
 born:(arr.toList.map (·.born)).Nodup
 lt:∀e∈arr.toList,e.born<c
theorem zL {b:Nat} {kk:KK} {es:List (Key×Value)} {code:Code} (hl:Aj s.H b=some (.map kk es))
  (h:∀l arr c,bK kk es arr c->Cm P G B code Q { s with H:=upd s.H b (.blk (some l) (.map arr c)) }):Cm P G B code Q s:=λL a w hi=>by
 obtain⟨arr,c,hh,h1,h2,h3,h4,h5⟩:=hi.heap.rep b _ hl;obtain⟨k1,k2,k3⟩:=HO (w':=w) (r:=.blk (some (L.μ b)) (.map arr c)) hi.heap (BR.refl w) hl rfl (λ_ _=>rfl) (BH.refl w) (λ_=>⟨λx hx=>(Option.some.inj hx),hh⟩);exact wp_mono (h (L.μ b) arr c ⟨h1,h2,h3,h4,h5⟩ L a w ⟨k1,hi.nx,hi.base,hi.size,hi.defers,hi.env⟩) λ_ _ _ hp=>B8.later k3 (λ_ _=>rfl) hp
theorem zM {b:Nat} {kk:KK} {es:List (Key×Value)} {M:AE} (hl:Aj s.H b=some (.map kk es))
  (h:∀l arr c,bK kk es arr c->MC P G B N M Q { s with H:=upd s.H b (.blk (some l) (.map arr c)) }):MC P G B N M Q s:=
 λc hc hn=>zL hl λl arr k hm=>h l arr k hm c hc hn
theorem zN {ops:Array Oper} {Q:Am->Prop} {o:Oper} {rest:List Oper} {R:PV->Ak->Nat->Prop} (hw:s.wants ops o=some true) (hd:∀k,o.dst=some k->k<s.n)
  (ho:∀L a w,Interp P G B L s a w->o.wp P a w (λa' w'=>∃r H' v L',R r H' L'.nx/\a'=a.put o.dst v/\Aq P L' w' r v/\B1 P G L' H' w'/\Bh L w L' w'/\Ext L s.H w L' H' w') (λ_ _ _=>False))
  (h:∀r H' nx',R r H' nx'->Gn P G B ops rest Q (({ s with H:=H',nx:=nx' }:Am).put o.dst r)):Gn P G B ops (o::rest) Q s:=λL a w hi=>by
 unfold wpList;rw[zu (hi.wants hw)];refine .inl (Gm ?_ (λ_ _ _ h=>h.elim) (ho L a w hi));rintro a' w' ⟨r,H',v,L',hR,rfl,hr,hok,hm,hx⟩;have hp:=h r H' _ hR L' _ w' (OD hi hd hr hok hm);rw[DV]at hp
 have:∀(l:List Oper) (a:Act) (w2:World),wpList P ops (B8 P G B (λe s'=>e = .normal/\Q s') L' H' w') l a w2->wpList P ops (B8 P G B (λe s'=>e = .normal/\Q s') L s.H w) l a w2:=by
  have hq:∀e a w2,B8 P G B (λe s'=>e = .normal/\Q s') L' H' w' e a w2->B8 P G B (λe s'=>e = .normal/\Q s') L s.H w e a w2:=by
   rintro e a w2 ⟨s2,L2,q,hi2,hx2,hb2⟩;exact⟨s2,L2,q,hi2,hx.trans hx2,λb hb=>(hb2 b hb).trans (hm.μ b (Nat.lt_of_lt_of_le hb hi.base))⟩
  intro l
  induction l with
  | nil=>intro a w2 h;exact hq _ _ _ h
  | cons o l ih=>
   intro a w2 h;unfold wpList at h ⊢;split
   .rename_i hw;rw[zu hw]at h;rcases h with h | ⟨h1,a0,w0,h2⟩
    .exact .inl (Gm ih hq h)
    .exact .inr ⟨h1,a0,w0,hq _ _ _ h2⟩
   .rename_i hw;rw[zw hw]at h;exact ih _ _ h
 exact this _ _ _ hp
theorem zO {o:Oper} {x:Operand} {i b l since last c:Nat} {seen:Array Nat} {arr:Array MapEntry} (ho:o.op = .next x false) (hx:s.ev G x = .ptr i 0) (hl:Aj s.H i=some (.blk none (.mapIter (some l) since seen last)))
  (hm:Aj s.H b=some (.blk (some l) (.map arr c))) (hold:∀e∈arr.toList,e.born<since) (hsc:since<=last) :
  ∀L a w,Interp P G B L s a w->o.wp P a w (λa' w'=>∃r H' v L',(((∀e∈arr.toList,e.born∈seen.toList)/\r = .t (.tu [.v (.bool false)])/\H'=s.H/\L'.nx=s.nx) \/
   (∃e∈arr.toList,e.born∉seen.toList/\r = .t (.tu [.v (.bool true),.v e.key,.v e.val])/\H'=upd s.H i (.blk none (.mapIter (some l) since (seen.push e.born) c))/\L'.nx=s.nx)) /\
   a'=a.put o.dst v/\Aq P L' w' r v/\B1 P G L' H' w'/\Bh L w L' w'/\Ext L s.H w L' H' w') (λ_ _ _=>False):=λL a w hi=>by
 have h:=hi.ev x;rw[hx]at h;simp only[Aq]at h;obtain⟨hb,h⟩:=h;obtain⟨_,hr⟩:=hi.heap.rep i _ hl;obtain⟨h1,hmr⟩:=hi.heap.rep b _ hm;rw[h1 l rfl]at hmr;have hlt:=(Array.getElem?_eq_some_iff.1 hr).1
 have hmem:∀e,e∈(leftOf arr seen).toList ↔ e∈arr.toList/\e.born∉seen.toList:=λe=>by
  unfold leftOf;simp
 unfold Oper.wp;rcases run_next_at (P:=P) w o.type (L.μ i) l since last seen arr c hr hmr hold hsc with⟨h0,hrun⟩ | ⟨e,he,w1,hw1,hrun⟩
 .have hrun':(execOp a.eval o).run P w = .ok (.value (.tuple #[.bool false])) w:=by
   simp only[execOp,ho,h,Sem.run_bind,hrun,Xc];rfl
  rw[hrun',Oper.upon_value];refine⟨_,_,_,L,.inl ⟨λe he=>?_,rfl,rfl,hi.nx⟩,rfl,by simp[Aq,AA,AX],hi.heap,Bh.refl L w,Ext.refl _ _ _⟩;apply Classical.byContradiction;intro hn;have:=(hmem e).2 ⟨he,hn⟩;have h0':leftOf arr seen = #[]:=Array.eq_empty_of_size_eq_zero h0;rw[h0']at this;cases this
 .have hrun':(execOp a.eval o).run P w = .ok (.value (.tuple #[.bool true,e.key,e.val])) (ChangeMaps.setBlock w1 (L.μ i) (.mapIter (some l) since (seen.push e.born) c)):=by
   simp only[execOp,ho,h,Sem.run_bind,hrun,Xc];rfl
  rw[hrun',Oper.upon_value]
  have hwh:w1.heap=w.heap:=by rcases hw1 with rfl | rfl<;>rfl
  have hwo:BR w w1:=by rcases hw1 with rfl | rfl<;>exact⟨rfl,rfl,rfl⟩
  have hsb:(ChangeMaps.setBlock w1 (L.μ i) (.mapIter (some l) since (seen.push e.born) c)).heap=w.heap.setIfInBounds (L.μ i) (.mapIter (some l) since (seen.push e.born) c):=by
   simp only[ChangeMaps.setBlock,hwh]
  obtain⟨k1,k2,k3⟩:=HO (w':=ChangeMaps.setBlock w1 (L.μ i) (.mapIter (some l) since (seen.push e.born) c)) (r:=.blk none (.mapIter (some l) since (seen.push e.born) c)) hi.heap
   (hwo.trans ⟨rfl,rfl,rfl⟩) hl (by rw[hsb];simp)
   (λg hg=>by rw[hsb];simp[Xd (Ne.symm hg)]) (λg hg arr' ty fz he=>by
    rw[hsb]at he;by_cases e':g=L.μ i
    .subst e';simp[hlt]at he
    .simp[Xd (Ne.symm e')]at he;exact⟨arr',fz,he,rfl⟩)
   (λ_=>⟨(λx hx=>by cases hx),(by rw[hsb];simp[hlt])⟩)
  obtain⟨e1,e2⟩:=(hmem e).1 he;exact⟨_,_,_,L,.inr ⟨e,e1,e2,rfl,rfl,hi.nx⟩,rfl,by simp[Aq,AA,AX],k1,k2,k3⟩
theorem zP {o:Oper} {x:Operand} {i b l since c:Nat} {seen:Array Nat} {arr:Array MapEntry} {e:MapEntry} (ho:o.op = .entry x) (hx:s.ev G x = .ptr i 0) (hl:Aj s.H i=some (.blk none (.mapIter (some l) since (seen.push e.born) c)))
  (hm:Aj s.H b=some (.blk (some l) (.map arr c))) (he:e∈arr.toList) (hn:(arr.toList.map (·.born)).Nodup):AOp P G B o s (.t (.tu [.v e.key,.v e.val])) s.H s.nx:=by
 refine Fm λL a w hi=>?_;have h:=hi.ev x;rw[hx]at h;simp only[Aq]at h;obtain⟨hb,h⟩:=h;obtain⟨_,hr⟩:=hi.heap.rep i _ hl;obtain⟨h1,hmr⟩:=hi.heap.rep b _ hm;rw[h1 l rfl]at hmr;refine⟨.tuple #[e.key,e.val],?_,by simp[Aq,AA,AX]⟩;simp only[execOp,ho,h,Sem.run_bind,run_entry_at w (L.μ i) l since seen arr c e hr hmr he hn,Xc];rfl
end
section
variable {P : Program} {G : AM} {B N : Nat} {Φ : AP} {Q : Exit -> Am -> Prop} {s : Am}
def zQ:MK->Bool
 | .hx .mnext | .hx .ment=>true
 | _=>false
theorem bL {d:Bool} {o:Op} {k:MK} {xs:List Opd} (hk:zQ k=true) (hc:opK P G d o=(k,xs)) :
  (∃x,o = .next x false/\k = .hx .mnext/\xs=[AU G x])\/(∃x,o = .entry x/\k = .hx .ment/\xs=[AU G x]):=by
 unfold opK at hc;split at hc
 .rename_i q hq;subst hc;unfold J8 at hq;split at hq
  all_goals repeat' (first
   | (cases hq;done)
   | (injection hq with hq;injection hq with e1 e2;subst e1;subst e2;exact .inl ⟨_,rfl,rfl,rfl⟩)
   | (injection hq with hq;injection hq with e1 e2;subst e1;subst e2;exact .inr ⟨_,rfl,rfl,rfl⟩)
   | (injection hq with hq;injection hq with e1 e2;subst e1;cases hk;done)
   | (obtain⟨ks,_,e⟩:=Xe.1 hq;injection e with e1 e2;subst e1;cases hk;done)
   | split at hq)
 .split at hc
  .split at hc
   .injection hc with e1 e2;subst e1;cases hk
   .injection hc with e1 e2;subst e1;cases hk
  .split at hc
   .rename_i q hq;subst hc;unfold KX at hq;split at hq
    all_goals repeat' (first
     | (cases hq;done)
     | (injection hq with hq;injection hq with e1 e2;subst e1;cases hk;done)
     | (obtain⟨ks,_,e⟩:=Xe.1 hq;injection e with e1 e2;subst e1;cases hk;done)
     | split at hq)
   .injection hc with e1 e2;subst e1;cases hk
theorem zR (hΦ:Ctx P G Φ) {d x:Nat} {rest:List AF} {b:AE} {i c0 l since last c:Nat} {seen:Array Nat} {arr:Array MapEntry} (hx:(Opd.tmp x).ev s.env = .ptr i 0)
  (hl:Aj s.H i=some (.blk none (.mapIter (some l) since seen last))) (hm:Aj s.H c0=some (.blk (some l) (.map arr c))) (hold:∀e∈arr.toList,e.born<since) (hsc:since<=last)
  (h0:(∀e∈arr.toList,e.born∈seen.toList)->Dg Φ rest (s.set (some d) (.t (.tu [.v (.bool false)]),s.H,s.nx)) (λs1=>MC P G B N b Q s1))
  (h1:∀e∈arr.toList,e.born∉seen.toList->Dg Φ rest (s.set (some d) (.t (.tu [.v (.bool true),.v e.key,.v e.val]),upd s.H i (.blk none (.mapIter (some l) since (seen.push e.born) c)),s.nx)) (λs1=>MC P G B N b Q s1)) :
  MC P G B N (.seq (.ops (⟨some d,.hx .mnext,[.tmp x],none⟩::rest)) b) Q s:=by
 refine JG λcc hcc hn=>?_;obtain⟨id,ops,rfl,hmm⟩:=E4 hcc;have ha:=JA hmm;refine OE ?_
 cases hos:ops.toList with
 | nil=>rw[hos]at ha;simp only[DZ]at ha;cases ha
 | cons o os=>
  rw[hos]at ha;simp only[DZ]at ha;obtain⟨m,l',e,hmi,hr⟩:=ha;injection e with e1 e2;subst e1;subst e2;obtain⟨hc,hdst,hd,hw⟩:=KY hmi;rcases bL rfl hc with⟨x0,ho,_,hx0⟩ | ⟨_,_,h,_⟩
  rotate_left
  .injection h with h;cases h
  have hx1:s.ev G x0 = .ptr i 0:=by
   have e2:Opd.tmp x=AU G x0:=by simpa using hx0
   rw[<-IC,<-e2];exact hx
  have fin:∀s2:Am,s2.n=N->Dg Φ rest s2 (λs1=>MC P G B N b Q s1)->Gn P G B ops os (Tt P G B N b Q .normal) s2:=by
   intro s2 hn2 h;obtain⟨s3,h3,h4⟩:=Ng h;exact KZ hΦ.sound os hr hn2 h3 ⟨(Nb h3).trans hn2,h4⟩
  refine zN (R:=λr H' nx'=>((∀e∈arr.toList,e.born∈seen.toList)/\r = .t (.tu [.v (.bool false)])/\H'=s.H/\nx'=s.nx) \/
   (∃e∈arr.toList,e.born∉seen.toList/\r = .t (.tu [.v (.bool true),.v e.key,.v e.val])/\H'=upd s.H i (.blk none (.mapIter (some l) since (seen.push e.born) c))/\nx'=s.nx)) (by rw[hw s];rfl) (λk hk=>by rw[hn];exact hd k hk) (zO ho hx1 hl hm hold hsc) ?_
  rintro r H' nx' (⟨g0,rfl,rfl,rfl⟩ | ⟨e,he,hne,rfl,rfl,rfl⟩)
  .rw[<-hdst,<-Hi];exact fin _ hn (h0 g0)
  .rw[<-hdst,<-Hi];exact fin _ hn (h1 e he hne)
theorem zS (hΦ:Ctx P G Φ) {d x:Nat} {rest:List AF} {b:AE} {i c0 l since c:Nat} {seen:Array Nat} {arr:Array MapEntry} {e:MapEntry} (hx:(Opd.tmp x).ev s.env = .ptr i 0)
  (hl:Aj s.H i=some (.blk none (.mapIter (some l) since (seen.push e.born) c))) (hm:Aj s.H c0=some (.blk (some l) (.map arr c))) (he:e∈arr.toList) (hnd:(arr.toList.map (·.born)).Nodup)
  (h1:Dg Φ rest (s.set (some d) (.t (.tu [.v e.key,.v e.val]),s.H,s.nx)) (λs1=>MC P G B N b Q s1)) :
  MC P G B N (.seq (.ops (⟨some d,.hx .ment,[.tmp x],none⟩::rest)) b) Q s:=by
 refine JG λcc hcc hn=>?_;obtain⟨id,ops,rfl,hmm⟩:=E4 hcc;have ha:=JA hmm;refine OE ?_
 cases hos:ops.toList with
 | nil=>rw[hos]at ha;simp only[DZ]at ha;cases ha
 | cons o os=>
  rw[hos]at ha;simp only[DZ]at ha;obtain⟨m,l',e0,hmi,hr⟩:=ha;injection e0 with e1 e2;subst e1;subst e2;obtain⟨hc,hdst,hd,hw⟩:=KY hmi;rcases bL rfl hc with⟨_,_,h,_⟩ | ⟨x0,ho,_,hx0⟩
  .injection h with h;cases h
  have hx1:s.ev G x0 = .ptr i 0:=by
   have e2:Opd.tmp x=AU G x0:=by simpa using hx0
   rw[<-IC,<-e2];exact hx
  refine RE (by rw[hw s];rfl) (λk hk=>by rw[hn];exact hd k hk) (zP ho hx1 hl hm he hnd) ?_;rw[<-hdst,<-Hi];obtain⟨s3,h3,h4⟩:=Ng h1;exact KZ hΦ.sound os hr hn h3 ⟨(Nb h3).trans hn,h4⟩
end
end Go.Abs
