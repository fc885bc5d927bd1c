/- Auxiliary facts. -/
import Derived.Test.YtobnacghaamfoaaGreatDoorVHQ14
set_option linter.unusedSimpArgs false
set_option linter.unusedVariables false
open Array renaming getElem?_eq_getElem->Xa
namespace Go.Abs
open Go
section
variable {P : Program} {G : Ay} {B N : Nat} {Φ : AC}
theorem A1k (hmix:P.follows .mixedOrders=true) (hΦ:Φ.Sound P G) {Q:Exit->Ac->Prop} {s:Ac} {id:Nat} {ops:Array Oper} {l:List Av} (ha0:ops.toList.mapM (DX P G N true ops)=some l)
  (can:(Nat->Bool)->Ac) (Ok:(Nat->Bool)->Prop) (hn:∀b,(can b).n=N)
  (back:∀(i:Nat) o,ops[i]?=some o->∀e∈o.after.toList,Region.binds .any e=true->e.on<i)
  (h0:Sub P G B s (can λ_=>false)) (ok0:Ok λ_=>false)
  (step:∀b,Ok b->∀(i:Nat) o m,ops[i]?=some o->l[i]?=some m->b i=false->(∀e∈o.after.toList,Region.binds .any e=true->b e.on=true) ->
   m.g=none/\∃r H' nx',Ah Φ (can b).H (can b).nx m.k (m.xs.map (·.ev (can b).env))=some (r,H',nx')/\Ok (λj=>if i=j then true else b j) /\
    Sub P G B (({ can b with H:=H',nx:=nx' }:Ac).put m.dst r) (can λj=>if i=j then true else b j))
  (stop:∀b,Ok b->(∀i,i<ops.size->b i=true)->Q .normal (can b)):Cd P G B (.region id ops true) Q s:=by
 intro L0 a0 w0 hi0;have ha:=JU ha0;refine wp_region_any hmix ?_
 have main:∀(fuel:Nat) (S:Array Bool) (L:Loc) (a:Act) (w:World),S.size=ops.size->ops.size<=cnt S+fuel->Ok (λi=>S.getD i false)->Interp P G B L (can λi=>S.getD i false) a w ->
   Ext L0 s.H w0 L (can λi=>S.getD i false).H w->(∀b,b<B->L.μ b=L0.μ b)->wpAny P .any ops (BO P G B Q L0 s.H w0) fuel S a w:=by
  intro fuel
  induction fuel with
  | zero=>
   intro S L a w hs hc hok hi hx hμ;have hall:=OK (S:=S) (by omega);refine⟨?_,_,L,stop _ hok (λi hi=>hall i (by omega)),hi,hx,hμ⟩;rw[List.eq_nil_iff_forall_not_mem];intro i hi;obtain⟨h1,h2,_⟩:=JW hi;rw[Gz (by omega),hall i (by omega)]at h2;cases h2
  | succ fuel ih=>
   intro S L a w hs hc hok hi hx hμ;refine⟨λhr=>⟨_,L,stop _ hok (λi=>?_),hi,hx,hμ⟩,λi hir=>?_⟩
   .induction i using Nat.strongRecOn with
    | _ i ihi=>
     intro hil
     cases hS':S.getD i false with
     | true=>rfl
     | false=>
      exfalso
      have:i∈Region.ready .any ops S:=OI (o:=ops[i]) (Xa hil) (by rw[Gz (by omega)];exact hS')
       (λe he hb=>by
        have:=back i _ (Xa hil) e he hb
        exact ihi _ this (by omega))
      rw[hr]at this;cases this
   .obtain⟨hi1,hun,o,ho,hp⟩:=JW hir;rw[Gz (by omega)]at hun;obtain⟨m,hm,hcomp⟩:=(ha.at_ i).1 o (by simpa using ho);obtain⟨hk,hdst,hd,hw⟩:=JT hcomp;obtain⟨hg,r,H',nx',he,hok',hsub⟩:=step _ hok i o m ho hm hun hp
    have hww:(can λi=>S.getD i false).wants ops o=some true:=by rw[hw];simp[Av.wants,hg]
    have hd':∀k,o.dst=some k->k<(can λi=>S.getD i false).n:=λk hk=>by rw[hn];exact hd k hk
    have hset:(λj=>(S.setIfInBounds i true).getD j false)=λj=>if i=j then true else S.getD j false:=by
     funext j;exact Do S i j (by omega)
    have hc':ops.size<=cnt (S.setIfInBounds i true)+fuel:=by rw[OJ (by omega) hun];omega
    unfold wpOp;rw[ho];simp only;rw[zy (hi.wants hww)];refine .inl (EO ?_ (λ_ _ _ h=>h.elim) (GQ hΦ hk he L a w hi));rintro a' w' ⟨v,L',rfl,hr,hheap,rfl,hmo,hxx⟩;have hi':=MA hi hd' hr hheap hmo;rw[<-hdst]at hi';obtain⟨L2,hi2,hx2,hμ2⟩:=hsub L' _ w' hi';rw[D9]at hx2;rw[hdst]at hi2;refine ih _ L2 _ w' (by simpa using hs) hc' (by rw[hset];exact hok') (by rw[hset];exact hi2) (by rw[hset];exact(hx.trans hxx).trans hx2) (λb hb=>?_);rw[hμ2 b hb,hmo.μ b (Nat.lt_of_lt_of_le hb hi.base),hμ b hb]
 obtain⟨hok,hm,hx⟩:=hi0.heap.of_heap (w':={ w0 with drawn:=w0.drawn+1 }) ⟨rfl,rfl,rfl⟩ rfl
 have hi0':Interp P G B L0 s a0 { w0 with drawn:=w0.drawn+1 }:=⟨hok,hi0.nx,hi0.base,hi0.size,hi0.defers,λk u hu=>Ae.keep hm u (hi0.env k u hu)⟩
 obtain⟨L1,hi1,hx1,hμ1⟩:=h0 L0 a0 _ hi0'
 have hfalse:(λi=>(Array.replicate ops.size false).getD i false)=λ_:Nat=>false:=by
  funext i;simp only[Array.getD_eq_getD_getElem?,Array.getElem?_replicate];split<;>rfl
 refine main ops.size _ L1 a0 _ (by simp) (by omega) (by rw[hfalse];exact ok0) (by rw[hfalse];exact hi1) (by rw[hfalse];exact hx.trans hx1) hμ1
end
end Go.Abs
