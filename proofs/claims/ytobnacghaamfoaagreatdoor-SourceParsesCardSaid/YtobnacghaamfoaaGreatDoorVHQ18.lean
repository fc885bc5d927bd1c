/- Auxiliary facts. -/
import Derived.Test.YtobnacghaamfoaaGreatDoorVHQ17
import Derived.RangeFuncRecord
import Derived.TacticsIn
import Derived.OrdersIn
set_option linter.unusedSimpArgs false
set_option linter.unusedVariables false
open List renaming mem_cons->Xa,map_cons->Xb,mem_map->Xc,mem_of_getElem?->Xd,cons_append->Xe,getElem?_map->Xf
namespace Go.Abs
open Go
section
variable {P : Program} {G : Ay} {B : Nat} {s : Ac} {o : Oper} {n : Nat}
theorem look_remAll':∀(F:List Nat) (H:Ab) (k:Nat),k∉F->Aa (Dl H F) k=Aa H k
 | [],H,k,_=>rfl
 | b::F,H,k,h=>by
  rw[Xa,not_or]at h;show Aa (Dl (rem H b) F) k=_;rw[look_remAll' F _ k h.2,Cr,zz h.1]
def Dk:List (Nat×PV×PV)->Nat->(Nat->Bool)->List (Nat×PV)
 | [],_,_=>[]
 | (k,v,d)::r,j,b=>(k,if b j then v else d)::Dk r (j+1) b
theorem Qf {b:Nat->Bool}:∀{T:List (Nat×PV×PV)} {j:Nat} {q:Nat×PV},q∈Dk T j b->∃i x,T[i]?=some x/\q=(x.1,if b (j+i)then x.2.1 else x.2.2)
 | [],_,_,h=>by cases h
 | (k,v,d)::r,j,q,h=>by
  rcases Xa.1 h with rfl | h
  .exact⟨0,_,rfl,rfl⟩
  .obtain⟨i,x,h1,h2⟩:=Qf h;exact⟨i+1,x,by simpa using h1,by rw[h2,show j+1+i=j+(i+1)by omega]⟩
theorem Tf {b:Nat->Bool} {E:List (Nat×PV)}:∀{T:List (Nat×PV×PV)} {j i:Nat} {x:Nat×PV×PV},(T.map (·.1)).Nodup->T[i]?=some x->Aa (Dk T j b++E) x.1=some (if b (j+i)then x.2.1 else x.2.2)
 | [],_,_,_,_,h=>by simp at h
 | (k,v,d)::r,j,0,x,_,h=>by
  simp only[List.getElem?_cons_zero,Option.some.injEq]at h;subst h;simp[Dk,Aa]
 | (k,v,d)::r,j,i+1,x,hn,h=>by
  simp only[List.getElem?_cons_succ]at h;rw[Xb,List.nodup_cons]at hn;have hne:k≠x.1:=λe=>hn.1 (e▸Xc.2 ⟨x,Xd h,rfl⟩);simp only[Dk,Xe,Aa,zz hne];rw[Tf (j:=j+1) hn.2 h,show j+1+i=j+(i+1)by omega]
theorem Tg {b:Nat->Bool} {E:List (Nat×PV)} {k:Nat}:∀{T:List (Nat×PV×PV)} {j:Nat},k∉T.map (·.1)->Aa (Dk T j b++E) k=Aa E k
 | [],_,_=>rfl
 | (k',v,d)::r,j,h=>by
  rw[Xb,Xa,not_or]at h;simp only[Dk,Xe,Aa,zz (Ne.symm h.1)];exact Tg h.2
theorem A1l {nx N:Nat} {env env':List (Nat×PV)} {H:Ab} (he:∀q∈env',Aa env q.1=some q.2):Sub P G B ⟨env,H,nx,N⟩ ⟨env',H,nx,N⟩:=by
 intro L a w hi;refine⟨L,⟨hi.heap,hi.nx,hi.base,hi.size,hi.defers,λk p h=>hi.env k p (he _ (BF h))⟩,?_,λ_ _=>rfl⟩;exact⟨Nat.le_refl _,λ_ _ _=>rfl,λ_ h=>h,λ_ h=>.inl h,λg ⟨b,r,h,e⟩=>.inr ⟨b,r,h,e⟩,BT.refl w,BL.refl w⟩
theorem dF {nx N:Nat} {env env':List (Nat×PV)} {H:Ab} (he:∀q∈env',q.2 = .dead\/Aa env q.1=some q.2):Sub P G B ⟨env,H,nx,N⟩ ⟨env',H,nx,N⟩:=λL a w hi=>
 ⟨L,⟨hi.heap,hi.nx,hi.base,hi.size,hi.defers,λk p hl=>by
  rcases he (k,p) (BF hl)with h | h
  .have h:p = .dead:=h;rw[h];simp only[Ae]
  .exact hi.env k p h⟩,Ext.refl _ _ _,λ_ _=>rfl⟩
theorem A1m {T:List (Nat×PV×PV)} {E:List (Nat×PV)} {H:Ab} {nx N i:Nat} {x:Nat×PV×PV} {b:Nat->Bool} (hT:(T.map (·.1)).Nodup) (hE:∀q∈E,q.1∉T.map (·.1)/\Aa E q.1=some q.2) (hx:T[i]?=some x) :
  Sub P G B ⟨(x.1,x.2.1)::(Dk T 0 b++E),H,nx,N⟩ ⟨Dk T 0 (λj=>if i=j then true else b j)++E,H,nx,N⟩:=by
 refine A1l λq hq=>?_;rcases List.mem_append.1 hq with hq | hq
 .obtain⟨j,y,h1,rfl⟩:=Qf hq;simp only[Nat.zero_add,Aa];by_cases e:i=j
  .subst e;rw[hx]at h1;injection h1 with h1;subst h1;simp
  .have hne:x.1≠y.1:=λh=>e (by
    have h2:(T.map (·.1))[i]?=(T.map (·.1))[j]?:=by rw[Xf,Xf,hx,h1];simp[h]
    exact(List.getElem?_inj (by simpa using (List.getElem?_eq_some_iff.1 hx).1) hT).1 h2)
   rw[zz hne,zz e,Tf hT h1,Nat.zero_add]
 .obtain⟨h1,h2⟩:=hE q hq;have hne:x.1≠q.1:=λh=>h1 (h▸Xc.2 ⟨x,Xd hx,rfl⟩);simp only[Aa,zz hne];rw[Tg h1];exact h2
def AK (P:Program) (G:Ay) (B N:Nat) (c:Code) (Q:Exit->Ac->Prop) (s:Ac):Prop:=s.n=N->Cd P G B c Q s
variable {N : Nat} {Φ : AC} {Q : Exit -> Ac -> Prop} {c d : Code} {x : Ak}
theorem A1n (hΦ:Ctx P G Φ) (hc:comp P G N c=some x) (h:Ca Φ x s Q):AK P G B N c Q s:=Aw hΦ h c hc
theorem dG (hΦ:Ctx P G Φ) (hc:comp P G N c=some x) (h:Ca Φ x s (Gb (λs1=>AK P G B N d Q s1) Q)):AK P G B N (.seq c d) Q s:=by
 obtain⟨e,s',h1,h2⟩:=Fq x h;intro hn;refine Oz (Eh hΦ x h1 ?_ c hc hn);cases e
 case normal=>exact h2 ((Ey x h1).trans hn)
 all_goals exact h2
theorem A1o {α:Type} (S:α->Ac) (Ok:α->Prop) (hN:∀a,(S a).n=N) (h1:AK P G B N c (Kg P G B S Ok Q) s) (h2:∀a,Ok a->AK P G B N d Q (S a)):AK P G B N (.seq c d) Q s:=by
 intro hn;refine Oz (Cd.post (h1 hn) λe s1 q=>?_);cases e
 case normal=>
  obtain⟨a,ha,hs⟩:=q;exact⟨S a,hs,h2 a ha (hN a)⟩
 all_goals exact⟨s1,Sub.refl s1,q⟩
theorem dH {s':Ac} (h:Sub P G B s s') (hn:s'.n=s.n) (hc:AK P G B N c Q s'):AK P G B N c Q s:=λe=>Cd.sub h (hc (hn.trans e))
theorem A1p {f:FuncId} {fn:Func} {vs:List RV} {ps:List PV} {H H':Ab} {nx nx':Nat} {r:PV} (hf:P.funcs[f]?=some fn) (hb:fn.body=some c) (hname:(fn.name == "runtime.NumGoroutine")=false)
  (hrs:fn.results.toList.mapM (GV P)=some vs) (hN:ps.length+(fn.ntmps-ps.length)=N)
  (h:AK P G nx N c (EA P G nx vs λr0 H0 nx0=>r0=r/\H0=H'/\nx0=nx') ⟨FD 0 ps,H,nx,N⟩):AB P G f ps H nx r H' nx':=by
 refine⟨⟨fn,c,hf,hb,hname⟩,λL w us hok hnx hargs=>calls_of_wp hf hb ?_⟩
 have hlen:us.size=ps.length:=by simpa using hargs.length
 have hi:Interp P G nx L ⟨FD 0 ps,H,nx,N⟩ { tmps:=us++Array.replicate (fn.ntmps-us.size) undef,defers:=[] } w:=by
  refine⟨hok,hnx,by rw[hnx];exact Nat.le_refl _,by simp[hlen,hN],rfl,λk p hl=>?_⟩;simp only[OS]at hl;obtain⟨_,hk⟩:=MS _ k 0 p hl;simp only[Nat.sub_zero]at hk;obtain⟨x,hx,hr⟩:=hargs.at_ k hk
  have hx':us[k]?=some x:=by simpa using hx
  have hk':k<us.size:=(Array.getElem?_eq_some_iff.1 hx').1;rw[Array.getD_eq_getD_getElem?,Array.getElem?_append_left hk',hx'];exact hr
 refine wp_mono (h rfl L _ w hi) λe a' w' ⟨s1,L1,q,hi1,hx,hμ⟩=>?_;obtain⟨he,s2,rs,hsub,hres,hr,hH,hnx2⟩:=q;obtain⟨L2,hi2,hx2,hμ2⟩:=hsub L1 a' w' hi1
 have hrv:IU P fn s2=some (CF rs):=by
  unfold IU;rw[Nb hrs hres];rcases rs with _ | ⟨x,_ | ⟨y,r⟩⟩<;>rfl
 obtain⟨v,hrun,hv⟩:=QK hi2 hrv;have hxx:=hx.trans hx2
 have hm:AO L w L2 w':=⟨hxx.keeps hok,by rw[hnx];exact hi2.base,λb hb=>(hμ2 b (by omega)).trans (hμ b (by omega)),hxx.size,hxx.shape⟩
 have hfin:a'.defers=[]/\∃v,(results fn a'.tmps).run P w' = .ok v w' /\
   ∃v' L',Ending.returned v = .returned v'/\Ae P L' w' r v'/\Bx P G L' H' w'/\L'.nx=nx'/\AO L w L' w'/\Ext L H w L' H' w':=
  ⟨hi2.defers,v,hrun,v,L2,rfl,hr▸hv,hH▸hi2.heap,hi2.nx.trans hnx2,hm,hH▸hxx⟩
 rcases he with rfl | rfl
 .exact hfin
 .exact hfin
end
end Go.Abs
