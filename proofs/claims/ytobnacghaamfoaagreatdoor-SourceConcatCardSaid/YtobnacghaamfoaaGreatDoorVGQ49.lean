/- Auxiliary facts. -/
import Derived.Test.YtobnacghaamfoaaGreatDoorVGQ48
import Derived.Test.YtobnacghaamfoaaGreatDoorVGQ38
import Derived.Test.YtobnacghaamfoaaGreatDoorVGQ44
import Derived.Test.YtobnacghaamfoaaGreatDoorVGQ50
import Derived.Test.YtobnacghaamfoaaGreatDoorVGQ51
set_option linter.unusedSimpArgs false
set_option maxRecDepth 100000
set_option maxHeartbeats 0
set_option linter.unusedVariables false
open List renaming length_map->Xa,length_append->Xb,length_singleton->Xc,length_cons->Xd,flatMap_map->Xe,getElem?_eq_some_iff->Xg,map_append->Xh,map_map->Xi,mem_map->Xj,nil_append->Xk
open Nat renaming zero_le->Xf
namespace Go.Abs
open Go
theorem B5p {e z by' nx b n m:Nat} {H:Ab} {cs ps:List PV} {x:PV} (h:Aa H b=some (.cells e cs)) (hs:Ew H z x=some (m,ps)) (hl:cs.length=n*z) (h1:(n+m)*by'<=140737488355328) (h2:n+m<=1000000000) :
  Cc e z by' H nx (.row b 0 n z) x=some (.row nx 0 (n+m) z,(nx,.cells e (cs++ps))::Abs.rem H b,nx+1):=by
 unfold Cc;rw[hs];simp only[h];rw[zy ⟨trivial,trivial,trivial,hl,h1,by omega⟩]
theorem mX {e z by' nx b n m:Nat} {H:Ab} {cs ps:List PV} {x:PV} (h:Aa H b=some (.cells e cs)) (hs:Ew H z x=some (m,ps)) (hl:cs.length=n*z) (h1:(n+m)*by'<=140737488355328) (h2:n+m<=1000000000) (hb:b<nx) :
  ∃H',Cc e z by' H nx (.row b 0 n z) x=some (.row nx 0 (n+m) z,H',nx+1)/\Aa H' nx=some (.cells e (cs++ps))/\(∀c,c<nx->c≠b->Aa H' c=Aa H c)/\(Frs H nx->Frs H' (nx+1)):=
 ⟨_,B5p h hs hl h1 h2,by rw[Az,zy rfl],λc c1 c2=>by rw[Az,zz (by omega),CJ,zz c2],λh=>h.rem.cons (Nat.lt_succ_self _) (Nat.le_succ _)⟩
end Go.Abs
namespace Go.Proofs.YtobnacghaamfoaaGreatDoor
open Go Go.Abs
variable {q : Gl}
theorem bsE (n:Nat):EE B5 10 [.string ⟨#[]⟩,.slice none 0 0,.slice none 0 0,.slice none 0 0,.slice none 0 0,.slice none 0 0,.slice none 0 0,.slice none 0 0,.slice none 0 0,.slice none 0 0] 0 [] n=some (.row n 0 0 10,.cells B5 []):=rfl
theorem B5q {s:List UInt8} (hs:s.length<=65536):∃(t:T) (a:Nat) (e:Int),HQ (Cd s) = .tu [t,iv (a:Int),iv e]/\G5 [t,t]=some (bv true):=by
 cases h:Cd s with
 | error x=>exact⟨Ah,x.1,x.2,rfl,OS IsL.nil IsL.nil (by simp) λm hm=>by cases hm⟩
 | ok L=>
  have hg:=LR h hs;exact⟨Cb L,0,0,rfl,nF (λm hm=>(hg.1 m hm).1) (by omega) hg.2⟩
theorem mY {l:List KT}:∀(f p:Nat) (s s':Sta),CR l f p s = .ok s'->(s.cur=none->s.fin=[])->s.all.length<=s'.all.length
 | 0,p,s,s',h,_=>by cases h
 | f+1,p,s,s',h,h0=>by
  rw[CR]at h;split at h
  .injection h with h;subst h;exact Nat.le_refl _
  .split at h
   .cases h
   .rename_i a p1 h1;have ih:=mY f p1 _ _ h
    cases a with
    | md n=>
     have:=ih (λh=>by cases h);have e:(s.add (.md n)).all=s.all++[(⟨n,[]⟩:Md)]:=rfl;rw[e,Xb,Xc]at this;omega
    | el x=>
     obtain⟨F,cur⟩:=s
     cases cur with
     | none=>
      have:=h0 rfl;simp only at this;subst this;exact Xf _
     | some m=>
      have:=ih (λh=>by cases h);have e:((⟨F,some m⟩:Sta).add (.el x)).all=F++[(⟨m.name,m.els++[x]⟩:Md)]:=rfl;have e2:(⟨F,some m⟩:Sta).all=F++[m]:=rfl;rw[e,Xb,Xc]at this;rw[e2,Xb,Xc];exact this
theorem mZ {l M:List KT} (hM:∀i,i<l.length->M[i]?=l[i]?):∀(f f' p:Nat) (s s':Sta),CR l f p s = .ok s'->p<=l.length->l.length<f'+p->∃f'',f''+l.length=f'+p+(f''+l.length-(f'+p))/\f'+p<=f''+l.length/\CR M f' p s=CR M f'' l.length s'
 | 0,f',p,s,s',h,_,_=>by cases h
 | f+1,f',p,s,s',h,hp,hf=>by
  rw[CR]at h;split at h
  .rename_i hn;injection h with h;subst h
   have:l.length<=p:=by
    by_cases hlt:p<l.length
    .rw[List.getElem?_eq_getElem hlt]at hn;cases hn
    .omega
   have hpe:p=l.length:=by omega
   subst hpe;exact⟨f',by omega,by omega,rfl⟩
  .rename_i t ht;split at h
   .cases h
   .rename_i a p1 h1
    obtain⟨f',rfl⟩:∃g,f'=g+1:=⟨f'-1,by omega⟩
    have hlt:=(Xg.1 ht).1;rw[GB]at h1;split at h1
    .cases h1
    .rename_i hm;have hf1:=R8 t p a p1 h1;obtain⟨f'',e0,e1,e2⟩:=mZ hM f f' p1 _ s' h hf1.2 (by omega);refine⟨f'',by omega,by omega,?_⟩;rw[CR,hM p hlt,ht];simp only;have h2:clA M t p = .ok (a,p1):=iA (d:=0) t h1 λi _ hi=>hM i (by omega);rw[GB,zz hm,h2];exact e2
inductive Rlt (A:List Md):Sta->Sta->Prop where
 | start (τ:Sta):τ.all=A->Rlt A ⟨[],none⟩ τ
 | on (F:List Md) (m:Md):Rlt A ⟨F,some m⟩ ⟨A++F,some m⟩
theorem Rlt.all {A:List Md} {σ τ:Sta} (h:Rlt A σ τ):τ.all=A++σ.all:=by
 cases h with
 | start τ h=>rw[h];exact(List.append_nil A).symm
 | on F m=>exact List.append_assoc A F [m]
theorem nB {r M:List KT} {d:Nat} {A:List Md} (hM:∀i,M[i+d]?=r[i]?):∀(f f' p:Nat) (σ τ s':Sta),CR r f p σ = .ok s'->Rlt A σ τ->A.length+s'.all.length<=256->p<=r.length->r.length<f'+p->∃t',CR M f' (p+d) τ = .ok t'/\t'.all=A++s'.all
 | 0,f',p,σ,τ,s',h,_,_,_,_=>by cases h
 | f+1,f',p,σ,τ,s',h,hr,hn,hp,hf=>by
  rw[CR]at h
  obtain⟨f',rfl⟩:∃g,f'=g+1:=⟨f'-1,by omega⟩
  split at h
  .rename_i hn0;injection h with h;subst h;refine⟨τ,?_,hr.all⟩;rw[CR,hM p,hn0]
  .rename_i t ht;split at h
   .cases h
   .rename_i a p1 h1;have hlt:=(Xg.1 ht).1
    have hmo:=mY f p1 _ _ h (by
     cases a with
     | md n=>exact λh=>by cases h
     | el x=>
      cases hr with
      | start τ h=>
       rw[GB]at h1;split at h1
       .cases h1
       .rename_i hm;have hm:=Decidable.of_not_not hm;exfalso;unfold CQ at hm;split at hm
        .cases hm
        .split at hm
         .rename_i hk;unfold clA Bs at h1;rw[zy hk]at h1;split at h1
          .cases h1
          .rename_i y p2 h3;split at h3
           .cases h3
           .injection h3 with h3;injection h3 with h3 _;subst h3;split at h1
            .cases h1
            .injection h1 with h1;injection h1 with h1 _;cases h1
         .cases hm
      | on F m=>exact λh=>by cases h)
    rw[GB]at h1;split at h1
    .cases h1
    .rename_i hm;have hm:=Decidable.of_not_not hm;have hf1:=R8 t p a p1 h1;have h2:clA M t (p+d) = .ok (a,p1+d):=iA t h1 λi _ _=>hM i
     have step:CQ τ (D1 t)=0/\Rlt A (σ.add a) (τ.add a):=by
      by_cases hk0:D1 t=0
      .rw[CQ,zy hk0]at hm;cases hm
      by_cases hk1:D1 t=1
      .have ha:∃n,a = .md n:=by
        unfold clA Bs at h1;rw[zy hk1]at h1;split at h1
        .cases h1
        .rename_i y p2 h3;split at h3
         .cases h3
         .rename_i n p3 _;injection h3 with h3;injection h3 with h3 _;subst h3;split at h1
          .cases h1
          .injection h1 with h1;injection h1 with h1 _;exact⟨n,h1.symm⟩
       obtain⟨n,rfl⟩:=ha;have e:(σ.add (.md n)).all.length=σ.all.length+1:=Xb;have e2:=congrArg List.length hr.all;rw[Xb]at e2;refine⟨?_,?_⟩
       .rw[CQ,zz hk0,zy hk1,zz (by omega)]
       .show Rlt A ⟨σ.all,some ⟨n,[]⟩⟩ ⟨τ.all,some ⟨n,[]⟩⟩;rw[hr.all];exact .on _ _
      .have ha:∃x,a = .el x:=by
        unfold clA Bs at h1;rw[zz hk1]at h1;split at h1
        .cases h1
        .rename_i y p2 h3;split at h3
         .cases h3
         .rename_i x p3 _;injection h3 with h3;injection h3 with h3 _;subst h3;split at h1
          .cases h1
          .injection h1 with h1;injection h1 with h1 _;exact⟨x,h1.symm⟩
       obtain⟨x,rfl⟩:=ha
       cases hr with
       | start τ h=>
        rw[CQ,zz hk0,zz hk1]at hm;cases hm
       | on F m=>
        rw[CQ,zz hk0,zz hk1]at hm;refine⟨?_,.on _ _⟩;rw[CQ,zz hk0,zz hk1];exact hm
     obtain⟨t',e1,e2⟩:=nB hM f f' p1 _ _ s' h step.2 hn hf1.2 (by omega);refine⟨t',?_,e2⟩;rw[CR,hM p,ht];simp only;rw[GB,zz (by rw[step.1];decide),h2];exact e1
theorem B5r {s t:List UInt8} {A B:List Md} (hA:Cd s = .ok A) (hB:Cd t = .ok B) (hn:A.length+B.length<=256) (hl:(s++10::t).length<=65536):Cd (s++10::t) = .ok (A++B):=by
 have hsl:s.length<=65536/\t.length<=65536:=by
  rw[Xb,Xd]at hl;omega
 unfold Cd at hA hB;rw[zz (by omega)]at hA hB;split at hA
 .cases hA
 .rename_i ts hts;split at hB
  .cases hB
  .rename_i us hus;split at hA
   .cases hA
   .rename_i sA hpA;injection hA with hA;split at hB
    .cases hB
    .rename_i sB hpB;injection hB with hB;subst hA;subst hB;have hsc:=A5x s t ts us hts hus
     obtain⟨vs,hvs⟩:∃vs,vs=ts++us.map λt=>(⟨t.k,t.t,t.l+(nl s+1)⟩:Tok):=⟨_,rfl⟩
     rw[<-hvs]at hsc
     have hk:vs.map kt=ts.map kt++us.map kt:=by
      rw[hvs,Xh,Xi];rfl
     have hvl:vs.length=ts.length+us.length:=by rw[hvs,Xb,Xa]
     obtain⟨f'',_,e1,e2⟩:=mZ (l:=ts.map kt) (M:=vs.map kt) (λi hi=>by rw[hk,List.getElem?_append_left hi]) _ (vs.length+1) 0 _ _ hpA (Xf _) (by rw[Xa];omega);rw[Xa]at e1 e2
     obtain⟨t',e3,e4⟩:=nB (r:=us.map kt) (M:=vs.map kt) (d:=ts.length) (A:=sA.all) (λi=>by
      rw[hk,List.getElem?_append_right (by rw[Xa];omega),Xa,Nat.add_sub_cancel]) _ f'' 0 _ sA _ hpB (.start sA rfl) hn (Xf _) (by rw[Xa];omega)
     rw[Nat.zero_add]at e3;unfold Cd;rw[zz (by omega),hsc];simp only;rw[e2,e3];simp only;rw[e4]
theorem nC {s:ByteArray} {x:Nat×Int} (h:Cd s.data.toList = .error x) (hs:s.size<=65536):x.2≠0:=(mW h hs).1
theorem nD (H:Ab) (L:List Md):Ew H 10 (.t (Cb L))=some (L.length,(L.flatMap Md.cs).map .t):=by
 have h:=Ql (H:=H) (IsS.tree eMd (L.map Md.rw));rw[Xa,Xe]at h;exact h
theorem B5s {H:Ab} {b:Nat} {L:List Md} (h:Aa H b=some (.cells GK ((L.flatMap Md.cs).map .t))):BQ H [.t (Cb L),.row b 0 L.length 10]=some ([Cb L,.sl L.length (L.flatMap Md.cs)],[b]):=by
 have h1:=vI (e:=eMd) (ty:=GK) (b:=b) (H:=H) (l:=L.map Md.rw) (by rw[h];simp only[rowOf,Xe];rfl);rw[Xa]at h1;have h2:toT H (.row b 0 L.length 10)=some (slT eMd (L.map Md.rw),[b]):=h1
 have h3:slT eMd (L.map Md.rw) = .sl L.length (L.flatMap Md.cs):=by
  unfold slT;rw[Xa,Xe];rfl
 rw[h3]at h2;simp only[BQ,h2];rfl
theorem B5t (H:Ab):BQ H []=some ([],[]):=rfl
theorem DD.row (L:List Md):DD (.sl L.length (L.flatMap Md.cs)) (L.map Md.ml):=⟨L.map λm=>(m.ml,m.rw),by simp,by
 right;unfold slT;simp only[Xa,Xe,Xi]
 rfl,λp hp=>by
 obtain⟨x,hx,rfl⟩:=Xj.1 hp
 exact Cn.md x⟩
theorem B5u (s t:ByteArray):A1 Tryz.prog (G q) 7 [sv s,sv t] (· = bv true):=by
 have C:Ctx Tryz.prog (G q) (orc [(9,gEx),(14,gPs),(16,G5)]):=(As.cons hEx (.cons hPs (.cons Ub .nil))).ctx mixed;refine vH.call rfl ?_;have hl:s.data.toList.length=s.size:=rfl;have hl2:t.data.toList.length=t.size:=rfl;by_cases hs:2000<s.size
 .have hs':(2000:Int)<(s.size:Int):=by omega
  refine Ap C ?_
  (conv in Li=>cbv);simp -implicitDefEqProofs [hs,hs',ge0]
 have hs':¬(2000:Int)<(s.size:Int):=by omega
 by_cases ht:2000<t.size
 .have ht':(2000:Int)<(t.size:Int):=by omega
  refine Ap C ?_
  (conv in Li=>cbv);simp -implicitDefEqProofs [hs,hs',ht,ht',ge0]
 have ht':¬(2000:Int)<(t.size:Int):=by omega
 have g1:=Hp (s:=s) (by omega);have g2:=Hp (s:=t) (by omega)
 cases hA:Cd s.data.toList with
 | error x=>
  have hx:x.2≠0:=nC hA (by omega)
  have hb:(x.2 != 0)=true:=by rw[bne_iff_ne];exact hx
  rw[hA]at g1;have g1:gPs [sv s]=some (.tu [Ah,iv (x.1:Int),iv x.2]):=g1;obtain⟨u,a,e,hu,_⟩:=B5q (s:=t.data.toList) (by omega);rw[hu]at g2;refine Ap C ?_
  (conv in Li=>cbv);simp -implicitDefEqProofs [hs,hs',ht,ht',g1,g2,hb,hx,ge0]
 | ok A=>
 rw[hA]at g1;have g1:gPs [sv s]=some (.tu [Cb A,iv 0,iv 0]):=g1
 cases hB:Cd t.data.toList with
 | error x=>
  have hx:x.2≠0:=nC hB (by omega)
  have hb:(x.2 != 0)=true:=by rw[bne_iff_ne];exact hx
  rw[hB]at g2;have g2:gPs [sv t]=some (.tu [Ah,iv (x.1:Int),iv x.2]):=g2;generalize Cb A=ta at g1;refine Ap C ?_
  (conv in Li=>cbv);simp -implicitDefEqProofs [hs,hs',ht,ht',g1,g2,hb,hx,ge0]
 | ok B=>
 rw[hB]at g2;have g2:gPs [sv t]=some (.tu [Cb B,iv 0,iv 0]):=g2;have gA:=LR hA (B:=4001) (by omega);have gB:=LR hB (B:=4001) (by omega)
 have lA:AO (.t (Cb A))=some (.t (iv (A.length:Int))):=by rw[(DD.mds A).len,Xa]
 have lB:AO (.t (Cb B))=some (.t (iv (B.length:Int))):=by rw[(DD.mds B).len,Xa]
 have ew:IntKind.i64.wrap ((A.length:Int)+(B.length:Int))=(A.length:Int)+(B.length:Int):=AP (n:=A.length+B.length) (by omega) (by omega);by_cases hn:256<A.length+B.length
 .have hn':(256:Int)<(A.length:Int)+(B.length:Int):=by omega
  generalize Cb A=ta at g1 lA;generalize Cb B=tb at g2 lB;refine Ap C ?_
  (conv in Li=>cbv);simp -implicitDefEqProofs [hs,hs',ht,ht',g1,g2,lA,lB,ew,hn,hn',ge0]
 have hn':¬(256:Int)<(A.length:Int)+(B.length:Int):=by omega
 have hlen:(s.data.toList++10::t.data.toList).length<=4001:=by rw[Xb,Xd];omega
 have hC:=B5r hA hB (by omega) (by omega);have gC:=LR hC (B:=4001) hlen;have g3:=Hp (s:=bs (s.data.toList++10::t.data.toList)) (by show(s.data.toList++10::t.data.toList).toArray.size<=_;rw[List.size_toArray];omega);have e2:(bs (s.data.toList++10::t.data.toList)).data.toList=s.data.toList++10::t.data.toList:=rfl;rw[e2,hC]at g3;have g3:gPs [sv (bs (s.data.toList++10::t.data.toList))]=some (.tu [Cb (A++B),iv 0,iv 0]):=g3;have b1:∀(Φ:A7) (H:Ab) (nx:Nat),Ai Φ H nx (.bin false .add none) [.t (sv s),.t (sv ⟨#[10]⟩)]=some (.t (sv (bs (s.data.toList++[10]))),H,nx):=Ce (a:=s.data.toList) (b:=[10]) (En s).symm rfl (by simp only[Xd,List.length_nil];omega)
 have b2:∀(Φ:A7) (H:Ab) (nx:Nat),Ai Φ H nx (.bin false .add none) [.t (sv (bs (s.data.toList++[10]))),.t (sv t)]=some (.t (sv (bs (s.data.toList++10::t.data.toList))),H,nx):=λΦ H nx=>by
  rw[Ce (a:=s.data.toList++[10]) (b:=t.data.toList) rfl (En t).symm (by rw[Xb,Xc];omega) Φ H nx];simp
 generalize bs (s.data.toList++[10])=s1 at b1 b2;generalize bs (s.data.toList++10::t.data.toList)=s2 at b2 g3;obtain⟨H1,ap1,p1,_,_⟩:=mX (e:=GK) (z:=10) (by':=232) (nx:=1) (b:=0) (n:=0) (m:=A.length) (H:=[(0,.cells GK [])]) (cs:=[]) (ps:=(A.flatMap Md.cs).map .t) (x:=.t (Cb A)) (by rw[Az,zy rfl]) (nD _ A) rfl (by omega) (by omega) (by omega);rw[Nat.zero_add]at ap1
 have flen:∀L:List Md,(L.flatMap Md.cs).length=L.length*10:=by
  intro L
  induction L with
  | nil=>rfl
  | cons m r ih=>
   rw[List.flatMap_cons,Xb,ih,Xd,Nat.succ_mul];show 10+_=_;omega
 obtain⟨H2,ap2,p2,_,_⟩:=mX (e:=GK) (z:=10) (by':=232) (nx:=2) (b:=1) (n:=A.length) (m:=B.length) (H:=H1) (cs:=[]++(A.flatMap Md.cs).map .t) (ps:=(B.flatMap Md.cs).map .t) (x:=.t (Cb B)) p1 (nD _ B) (by rw[Xk,Xa,flen]) (by omega) (by omega) (by omega);rw[Xk,<-Xh,<-List.flatMap_append]at p2;have hTT:=B5s (L:=A++B) p2;rw[Xb]at hTT
 have hsm:G5 [Cb (A++B),.sl (A.length+B.length) ((A++B).flatMap Md.cs)]=some (bv true):=by
  have h1:=DD.row (A++B);rw[Xb]at h1
  exact OS (DD.mds (A++B)) h1 (by rw[Xa];omega) λm hm=>by
   obtain⟨x,hx,rfl⟩:=Xj.1 hm;exact(gC.1 x hx).1.ok (by omega)
 have be:=bsE;generalize Cb (A++B)=tc at g3 hTT hsm;generalize Cb A=ta at g1 lA ap1;generalize Cb B=tb at g2 lB ap2;generalize (A++B).flatMap Md.cs=cc at hTT hsm;(conv in Li=>cbv);refine Av AL ?_;simp -implicitDefEqProofs;refine Av C ?_;simp -implicitDefEqProofs [hs,hs',ht,ht'];refine Av C ?_;simp -implicitDefEqProofs [g1];refine Av C ?_;simp -implicitDefEqProofs [g2];refine Av C ?_;simp -implicitDefEqProofs [lA,lB,ew,hn,hn'];refine Av C ?_;simp -implicitDefEqProofs [b1,b2,g3];refine Ap C ?_;simp -implicitDefEqProofs [be,ap1,ap2,hTT,B5t,-BQ,hsm,ge0]
end Go.Proofs.YtobnacghaamfoaaGreatDoor
