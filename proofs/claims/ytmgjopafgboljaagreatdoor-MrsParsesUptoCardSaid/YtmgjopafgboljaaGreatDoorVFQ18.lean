/- Auxiliary facts. -/
import Derived.Test.YtmgjopafgboljaaGreatDoorVFQ17
import Derived.Sort.Walk0
import Derived.Test.YtmgjopafgboljaaGreatDoorVFQ12
set_option linter.unusedSimpArgs false
set_option maxRecDepth 100000
set_option maxHeartbeats 0
set_option linter.unusedVariables false
open Nat renaming le_refl->Xc,le_trans->Xe,le_succ->Xr,lt_of_lt_of_le->Xv,lt_succ_self->Xw,zero_le->X9
open List renaming mem_cons->Xd,length_cons->Xf,length_append->Xg,getElem?_eq_some_iff->Xi,length_map->Xk,cons_append->Xl,getElem?_map->Xm,mem_singleton->Xn,pairwise_cons->Xp,mem_append->Xq,getElem?_eq_getElem->Xt,map_map->Xu,take_append_drop->Xx,drop_eq_getElem_cons->Xy,flatMap_cons->Xz,nil_append->X0,take_length->X1,map_nil->X2,lt_irrefl->X3,not_lt->X4,mem_map->X5,take_add_one->X6,flatMap_append->X7,map_cons->X8,length_take->Yb,getElem?_take->Yc,drop_succ_cons->Yg,takeWhile_cons->Yh,lt_trans->Yi,le_antisymm->Yj,mem_mergeSort->Yk,length_nil->Yn,append_assoc->Yo,length_pos_iff->Yp,not_mem_nil->Ys
open Go.Proofs.Tryz renaming prog->Xh
open Go.Abs renaming upd->Xj
open Array renaming ext'->Xo,getElem?_eq_some_iff->Yd,getElem?_setIfInBounds->Yf,getElem?_modify->Yq
open Option renaming map_some->Xs,map_eq_some_iff->Yl
open Go.IntKind renaming i64->Ya
open Bool renaming false_eq_true->Ym,and_eq_true->Yr
namespace Go.Proofs.YtmgjopafgboljaaGreatDoor
open Go Go.Abs
def Asc (l:List ByteArray):Prop:=l.Pairwise λa b=>lb a<lb b
theorem sG {a b:ByteArray} (h:lb a=lb b):a=b:=by
 cases a;cases b;congr 1;exact Xo h
theorem WU:∀{l m:List ByteArray},Asc l->Asc m->(∀x,x∈l ↔ x∈m)->l=m
 | [],[],_,_,_=>rfl
 | [],b::m,_,_,h=>absurd ((h b).2 (by simp)) (by simp)
 | a::l,[],_,_,h=>absurd ((h a).1 (by simp)) (by simp)
 | a::l,b::m,hl,hm,h=>by
  obtain⟨h1,h2⟩:=Xp.1 hl;obtain⟨h3,h4⟩:=Xp.1 hm
  have e:a=b:=by
   rcases Xd.1 ((h a).1 (by simp))with e | e
   .exact e
   .rcases Xd.1 ((h b).2 (by simp))with e2 | e2
    .exact e2.symm
    .exact absurd (Yi (h1 b e2) (h3 a e)) (X3 _)
  subst e;rw[WU h2 h4 λx=>?_];constructor
  .intro hx;rcases Xd.1 ((h x).1 (by simp[hx]))with e | e
   .subst e;exact absurd (h1 _ hx) (X3 _)
   .exact e
  .intro hx;rcases Xd.1 ((h x).2 (by simp[hx]))with e | e
   .subst e;exact absurd (h3 _ hx) (X3 _)
   .exact e
theorem Q4 (d:Array (List UInt8)) (y:List UInt8):∀m,y∈Lib.compactUpTo d m ↔ ∃j,j<m/\d[j]! = y
 | 0=>by simp[Lib.compactUpTo]
 | m+1=>by
  rw[Lib.compactUpTo_succ,Xq,Q4 d y m];constructor
  .rintro(⟨j,h1,h2⟩ | h)
   .exact⟨j,by omega,h2⟩
   .split at h
    .exact⟨m,by omega,(Xn.1 h).symm⟩
    .cases h
  .rintro⟨j,h1,h2⟩;by_cases hj:j<m
   .exact .inl ⟨j,hj,h2⟩
   .have:j=m:=by omega
    subst this
    cases hk:Lib.keeps d j with
    | true=>exact .inr (by simp[h2])
    | false=>
     have hk':¬(j=0\/d[j]! ≠ d[j-1]!):=by simpa[Lib.keeps]using hk
     refine .inl ⟨j-1,by omega,?_⟩;rw[<-h2];exact(Decidable.not_not.1 λh=>hk' (.inr h)).symm
theorem WV (d:Array (List UInt8)) (hd:∀i j,i<=j->j<d.size->d[i]! <= d[j]!):∀m,m<=d.size->(Lib.compactUpTo d m).Pairwise (· < ·)
 | 0,_=>by simp[Lib.compactUpTo]
 | m+1,hm=>by
  rw[Lib.compactUpTo_succ,List.pairwise_append];refine⟨WV d hd m (by omega),by split<;>simp,λx hx y hy=>?_⟩;split at hy
  .rename_i hk;rw[Xn.1 hy];obtain⟨j,hj,rfl⟩:=(Q4 d x m).1 hx
   have hk':m=0\/d[m]! ≠ d[m-1]!:=by simpa[Lib.keeps]using hk
   have hne:=hk'.resolve_left (by omega);have h1:=hd j (m-1) (by omega) (by omega);have h2:=hd (m-1) m (by omega) (by omega);refine List.lt_of_le_of_lt h1 ?_;rcases Decidable.em (d[m-1]! < d[m]!)with h3 | h3
   .exact h3
   .exact absurd (Yj (X4.1 h3) h2) hne
  .cases hy
theorem sH (l:List ByteArray):Asc (E9 (Bg l))/\∀y,y∈E9 (Bg l) ↔ y∈l:=by
 have em:(Bg l).map lb=(l.map lb).mergeSort λx y=>decide (x<=y):=by
  unfold Bg;rw[Xu,show lb∘bs=id from rfl,List.map_id]
 obtain⟨zs,hzs⟩:∃zs,zs=(l.map lb).mergeSort λx y=>decide (x<=y):=⟨_,rfl⟩
 have hp:zs.Pairwise λa b=>a<=b:=by
  rw[hzs];refine List.Pairwise.imp (λh=>of_decide_eq_true h) (List.pairwise_mergeSort (le:=λx y:List UInt8=>decide (x<=y)) ?_ ?_ (l.map lb))
  .intro a b c h1 h2;exact zq (List.le_trans (of_decide_eq_true h1) (of_decide_eq_true h2))
  .intro a b;rcases List.le_total a b with h | h<;>simp[h]
 unfold E9;rw[em,<-hzs]
 have hmem:∀y,y∈Lib.compact zs ↔ y∈zs:=λy=>by
  unfold Lib.compact;rw[Q4];constructor
  .rintro⟨j,h1,rfl⟩
   have:zs.toArray[j]! = zs[j]:=by simp[h1]
   rw[this];exact List.getElem_mem _
  .intro h;obtain⟨j,h1,rfl⟩:=List.getElem_of_mem h;exact⟨j,h1,by simp[h1]⟩
 have hasc:(Lib.compact zs).Pairwise (· < ·):=by
  refine WV _ (λi j hij hj=>?_) _ (by simp)
  have hj':j<zs.length:=by simpa using hj
  have hi':i<zs.length:=by omega
  rw[show zs.toArray[i]! = zs[i]by simp[hi'],show zs.toArray[j]! = zs[j]by simp[hj']];by_cases e:i=j
  .subst e;exact List.le_refl _
  .exact List.pairwise_iff_getElem.1 hp i j hi' hj' (by omega)
 refine⟨?_,λy=>?_⟩
 .unfold Asc;rw[List.pairwise_map];exact hasc.imp λh=>h
 .rw[X5];constructor
  .rintro⟨s,hs,rfl⟩;rw[hmem,hzs,Yk,X5]at hs;obtain⟨x,hx,rfl⟩:=hs;exact hx
  .intro h;exact⟨lb y,by rw[hmem,hzs,Yk,X5];exact⟨y,h,rfl⟩,rfl⟩
def It (x:ByteArray):List ByteArray->List ByteArray
 | []=>[x]
 | s::r=>if lb s<lb x then s::It x r else if s=x then s::r else x::s::r
theorem Q5 (x y:ByteArray):∀l:List ByteArray,y∈It x l ↔ y=x\/y∈l
 | []=>by simp[It]
 | s::r=>by
  rw[It];split
  .rw[Xd,Q5 x y r,Xd];constructor
   .rintro(h | h | h)
    .exact .inr (.inl h)
    .exact .inl h
    .exact .inr (.inr h)
   .rintro(h | h | h)
    .exact .inr (.inl h)
    .exact .inl h
    .exact .inr (.inr h)
  .split
   .rename_i h;subst h;rw[Xd];constructor
    .exact .inr
    .rintro(h | h)
     .exact .inl h
     .exact h
   .rw[Xd]
theorem WW (x:ByteArray):∀{l:List ByteArray},Asc l->Asc (It x l)
 | [],_=>by simp[It,Asc]
 | s::r,h=>by
  obtain⟨h1,h2⟩:=Xp.1 h;rw[It];split
  .rename_i hl;refine Xp.2 ⟨λy hy=>?_,WW x h2⟩;rcases (Q5 x y r).1 hy with rfl | hy
   .exact hl
   .exact h1 y hy
  .rename_i hl;split
   .exact h
   .rename_i hne;refine Xp.2 ⟨λy hy=>?_,h⟩
    have hxs:lb x<lb s:=by
     rcases Decidable.em (lb x<lb s)with h3 | h3
     .exact h3
     .exact absurd (sG (Yj (X4.1 h3) (X4.1 hl))) hne
    rcases Xd.1 hy with rfl | hy
    .exact hxs
    .exact Yi hxs (h1 y hy)
def Kn:List ByteArray->List ByteArray->List ByteArray
 | acc,[]=>acc
 | acc,x::r=>Kn (It x acc) r
theorem WX:∀(l:List ByteArray) {acc:List ByteArray},Asc acc->Asc (Kn acc l)/\∀y,y∈Kn acc l ↔ y∈acc\/y∈l
 | [],acc,h=>⟨h,λy=>by simp[Kn]⟩
 | x::r,acc,h=>by
  obtain⟨h1,h2⟩:=WX r (WW x h);refine⟨h1,λy=>?_⟩;rw[Kn,h2,Q5,Xd];constructor
  .rintro((h | h) | h)
   .exact .inr (.inl h)
   .exact .inl h
   .exact .inr (.inr h)
  .rintro(h | h | h)
   .exact .inl (.inr h)
   .exact .inl (.inl h)
   .exact .inr h
theorem sI (l:List ByteArray):E9 (Bg l)=Kn [] l:=by
 obtain⟨h1,h2⟩:=sH l;obtain⟨h3,h4⟩:=WX l (acc:=[]) List.Pairwise.nil
 exact WU h1 h3 λx=>by rw[h2,h4];simp
end Go.Proofs.YtmgjopafgboljaaGreatDoor
namespace Go.Abs
open Go
theorem Ob {P:Program} {G:AM} {B:Nat} {vs:List RV} {R:PV->Ak->Nat->Prop} {s:Am} (h:B6 (EG s vs) λps=>R (Df ps) s.H s.nx):II P G B vs R .ret s:=by
 obtain⟨ps,h1,h2⟩:=GZ h;exact⟨.inr rfl,s,ps,Sub.refl s,h1,h2⟩
theorem sJ {P:Program} {G:AM} {B:Nat} {vs:List RV} {R:PV->Ak->Nat->Prop} {s:Am} (h:B6 (EG s vs) λps=>R (Df ps) s.H s.nx):II P G B vs R .normal s:=by
 obtain⟨ps,h1,h2⟩:=GZ h;exact⟨.inl rfl,s,ps,Sub.refl s,h1,h2⟩
def Frs (H:Ak) (nx:Nat):Prop:=∀b x,Aj H b=some x->b<nx
theorem Frs.cons {H:Ak} {nx k m:Nat} {r:Row} (h:Frs H nx) (hk:k<m) (hm:nx<=m):Frs ((k,r)::H) m:=λb x hb=>by
 rw[A9]at hb;split at hb
 .omega
 .exact Xv (h b x hb) hm
theorem Frs.upd {H:Ak} {nx k:Nat} {r:Row} (h:Frs H nx):Frs (Xj H k r) nx:=λb x hb=>by
 rw[A7]at hb;split at hb
 .rename_i e;obtain⟨y,hy,_⟩:=Yl.1 hb;subst e;exact h _ _ hy
 .exact h b x hb
theorem Frs.rem {H:Ak} {nx k:Nat} (h:Frs H nx):Frs (rem H k) nx:=λb x hb=>by
 rw[BZ]at hb;split at hb
 .cases hb
 .exact h b x hb
theorem Frs.mono {H:Ak} {nx m:Nat} (h:Frs H nx) (hm:nx<=m):Frs H m:=λb x hb=>Xv (h b x hb) hm
theorem hAt {P:Program} {G:AM} {f:FuncId} {ps:List PV} {H:Ak} {nx:Nat} {r:PV} {H':Ak} {nx':Nat} (h:B3 P G f ps H nx r H' nx') (hf:Frs H nx->Frs H' nx') :
 ∃t:List PV->Ak->Nat->Option (PV×Ak×Nat),t ps H nx=some (r,H',nx')/\HOK P G f t:=⟨_,L8 _ _ _ _,L9 h hf⟩
section
variable {α : Type} {e : Enc α} {ty b : Nat} {H : Ak} {l : List α}
theorem LS {by' nx:Nat} (x:α) (z:Nat) (hz:e.z=z) (cs:List PV) (hcs:cs=(e.enc x).map .t) (n:Nat) (hn:n=l.length) (h:Aj H b=some (A5 e ty l)) (hb:b<nx)
  (hl:(l.length+1)*by'<=140737488355328) (hl2:l.length<=1000000000000) :
  ∃H',Dp ty z by' ((nx,.cells ty cs)::H) (nx+1) (.row b 0 n z) (.row nx 0 1 z)=some (.row (nx+1) 0 (n+1) z,H',nx+2)/\Aj H' (nx+1)=some (A5 e ty (l++[x])) /\
   (∀c,c<nx->c≠b->Aj H' c=Aj H c)/\(Frs H nx->Frs H' (nx+2)):=
 ⟨_,UB x z hz cs hcs n (nx+1) (nx+2) hn rfl rfl h hb hl hl2,by rw[A9,zu rfl],λc h1 h2=>by
  rw[A9,zw (by omega),BZ,zw h2,A9,zw (by omega)],λh=>((h.cons (Xw _) (Xr _)).rem).cons (by omega) (by omega)⟩
theorem Frs.appH {nx:Nat} {m:List α} (h:Frs H nx):Frs (Abs.appH e ty H nx b l m) (nx+1):=by
 unfold Abs.appH;split
 .exact h.mono (Xr _)
 .split
  .exact h.cons (Xw _) (Xr _)
  .exact h.rem.cons (Xw _) (Xr _)
theorem EM {by' nx:Nat} (x:α) (z:Nat) (hz:e.z=z) (cs:List T) (hcs:cs=e.enc x) (h:AK e ty H b l) (hb:b<nx)
  (hl:(l.length+1)*by'<=140737488355328) (hl2:l.length<=1000000000000) :
  ∃H',Dp ty z by' H nx (Ax e b l) (.t (.sl 1 cs))=some (Ax e nx (l++[x]),H',nx+1)/\AK e ty H' nx (l++[x])/\(∀c,c<nx->c≠b->Aj H' c=Aj H c)/\(Frs H nx->Frs H' (nx+1)):=by
 subst hz;subst hcs
 have hs:CM H e.z (.t (.sl 1 (e.enc x)))=some ([x].length,([x].flatMap e.enc).map .t):=by
  have:T.sl 1 (e.enc x)=slT e [x]:=by simp[slT]
  rw[this];exact JL (.inr rfl)
 have ap:=Nm (nx:=nx) (by':=by') (m:=[x]) h hs (by simpa using hl) (by simp;omega)
 have hn:EH nx l [x]=nx+1:=by unfold EH;simp
 rw[hn]at ap;exact⟨_,ap,AK.app,λc h1 h2=>Pw (by omega) h2,λh=>h.appH⟩
theorem LU {by' nx:Nat} (x:α) (z:Nat) (hz:e.z=z) (cs:List PV) (hcs:cs=(e.enc x).map .t) (h:AK e ty H b l) (hb:b<nx)
  (hl:(l.length+1)*by'<=140737488355328) (hl2:l.length<=1000000000000) :
  ∃H',Dp ty z by' ((nx,.cells ty cs)::H) (nx+1) (Ax e b l) (.row nx 0 1 z)=some (Ax e (nx+1) (l++[x]),H',nx+2)/\AK e ty H' (nx+1) (l++[x]) /\
   (∀c,c<nx->c≠b->Aj H' c=Aj H c)/\(Frs H nx->Frs H' (nx+2)):=by
 subst hz;subst hcs;have hs:=TG (e:=e) (H:=(nx,.cells ty ((e.enc x).map .t))::H) (b:=nx) (ty:=ty) x (by rw[A9,zu rfl]);have ap:=Nm (nx:=nx+1) (by':=by') (m:=[x]) (h.cons (k:=nx) (r:=.cells ty ((e.enc x).map .t)) (by omega)) hs (by simpa using hl) (by simp;omega)
 have hn:EH (nx+1) l [x]=nx+2:=by unfold EH;simp
 rw[hn]at ap;exact⟨_,ap,AK.app,λc h1 h2=>by rw[Pw (by omega) h2,A9,zw (by omega)],λh=>(h.cons (Xw _) (Xr _)).appH⟩
theorem F3 (e:Enc α) (b:Nat) (l:List α) (h:l≠[]):Ax e b l = .row b 0 l.length e.z:=by
 cases l with
 | nil=>exact absurd rfl h
 | cons x r=>rfl
theorem GD {i:Nat} {x:α} {c:T} (h:Aj H b=some (A5 e ty l)) (hx:l[i]?=some x) (he:e.enc x=[c]) (hz:e.z=1):AD false 1 H (.ptr b i)=some (.t c):=by
 have h1:=Nl e l i x hx;rw[hz,he,Nat.mul_one]at h1
 have h2:(l.flatMap e.enc)[i]?=some c:=by
  have:=congrArg (λz=>z[0]?) h1;simpa using this
 simp only[AD,h,A5,Ym,if_false,Xm,h2,Xs]
theorem Oc {i n:Nat} {x:α} (h:Aj H b=some (A5 e ty l)) (hx:l[i]?=some x) (hn:n=e.z):AD true n H (.ptr b (i*n))=some (.t (.ag (e.enc x))):=by
 subst hn;have h1:=Nl e l i x hx;have hi:i<l.length:=(Xi.1 hx).1
 have hle:i*e.z+e.z<=l.length*e.z:=by rw[<-Nat.succ_mul];exact Nat.mul_le_mul_right _ hi
 have h2:(((l.flatMap e.enc).map PV.t).drop (i*e.z)).take e.z=(e.enc x).map PV.t:=by
  rw[<-List.map_drop,h1,<-List.map_take,List.take_left' (e.len x)]
 simp only[AD,h,A5,if_true,Xk,G4,hle,h2,BI,Lv]
theorem WY {i:Nat} {x:α} (hx:l[i]?=some x) (hz:e.z=1):BN 1 (.row b 0 l.length 1) (.t (iv (i:Int)))=some (.ptr b i):=by
 have:=NM (e:=e) (b:=b) hx;rw[hz,Nat.mul_one]at this;exact this
theorem BF {b o n:Nat} {t:PV} {ty:Nat} {cs ns:List PV} (h:Aj H b=some (.cells ty cs)) (hn:Bq t=some ns) (hl:ns.length=n) (ho:o+n<=cs.length):AO n H (.ptr b o) t=some (Xj H b (.cells ty (Cj cs o ns))):=by
 simp only[AO,h,hn,hl,ho,and_self,if_true]
end
def Cg (H:Ak) (F:List Nat):Ak:=(Ez H F).map λq=>(q.1,E5 H F q.2)
theorem Od:∀(F:List Nat) (H:Ak) (k:Nat),k∉F->Aj (Ez H F) k=Aj H k
 | [],H,k,_=>rfl
 | b::F,H,k,h=>by
  rw[Xd,not_or]at h;show Aj (Ez (rem H b) F) k=_;rw[Od F _ k h.2,BZ,zw h.1]
theorem BQ {H:Ak} {F:List Nat} {c:Nat} {r:Row} (hc:c∉F) (h:Aj H c=some r):Aj (Cg H F) c=some (E5 H F r):=by
 unfold Cg;rw[JH,Od _ _ _ hc,h];rfl
theorem F8 {P:Program} {G:AM} {B nx n:Nat} {env env':List (Nat×PV)} {H:Ak} (F:List Nat) (he:∀q∈env',∃p0,Aj env q.1=some p0/\BO H F p0=q.2):Sub P G B ⟨env,H,nx,n⟩ ⟨env',Cg H F,nx,n⟩:=by
 refine(iZ F).trans ?_;unfold Am.frz;refine Aw λq hq=>?_;obtain⟨p0,h1,h2⟩:=he q hq;rw[JH,h1,<-h2];rfl
theorem EN {P:Program} {G:AM} {B nx nx' n:Nat} {env:List (Nat×PV)} {H:Ak} (h:nx<=nx'):Sub P G B ⟨env,H,nx,n⟩ ⟨env,H,nx',n⟩:=by
 intro L a w hi;have hnx:L.nx=nx:=hi.nx
 have hm:Bh L w { L with nx:=nx' } w:=⟨λb hb=>⟨hb,rfl⟩,by show L.nx<=nx';omega,λ_ _=>rfl,Xc _,BH.refl w⟩
 refine⟨{ L with nx:=nx' },⟨⟨hi.heap.lt,λb r hb=>(hi.heap.rep b r hb).keep hm rfl,hi.heap.apart,hi.heap.inj,λb r hb=>?_,hi.heap.glob⟩,rfl,?_,hi.size,hi.defers,λk p hk=>Aq.keep hm p (hi.env k p hk)⟩,?_,λ_ _=>rfl⟩
 .have:=hi.heap.nx b r hb;show b<nx';omega
 .have:=hi.base;show B<=nx';omega
 .exact⟨Xc _,λ_ _ _=>rfl,λ_ h=>h,λ_ h=>.inl h,λg ⟨b,r,h,e⟩=>.inr ⟨b,r,h,e⟩,BH.refl w,BR.refl w⟩
theorem EA (H:Ak) (F:List Nat) (x:T):BO H F (.t x) = .t x:=rfl
theorem FA (H:Ak) (F:List Nat) (b o:Nat):BO H F (.ptr b o) = .ptr b o:=rfl
theorem WZ (H:Ak) (F:List Nat) (f:Fn) (a c:List PV):BO H F (.fn f a c) = .fn f a c:=rfl
theorem Fh {α:Type} {e:Enc α} {ty b:Nat} {H:Ak} {l:List α} {F:List Nat} (h:AK e ty H b l) (hb:b∈F):BO H F (Ax e b l) = .t (Ba e l):=by
 unfold BO;rw[h.toT]
 cases l with
 | nil=>rfl
 | cons x r=>simp[FU,hb]
theorem Gb {α:Type} {e:Enc α} {ty b:Nat} {H:Ak} {l:List α} {F:List Nat} (h:AK e ty H b l) (hb:b∉F):BO H F (Ax e b l)=Ax e b l:=by
 unfold BO;rw[h.toT]
 cases l with
 | nil=>rfl
 | cons x r=>simp[FU,hb]
theorem Q6 {α:Type} {e:Enc α} {ty:Nat} {H:Ak} {F:List Nat} (l:List α):E5 H F (A5 e ty l)=A5 e ty l:=by
 simp only[E5,A5,Xu];congr 1
theorem Oe {ty:Nat} {H:Ak} {F:List Nat} (cs:List T):E5 H F (.cells ty (cs.map .t)) = .cells ty (cs.map .t):=by
 simp only[E5,Xu];congr 1
theorem AK.frz {α:Type} {e:Enc α} {ty b:Nat} {H:Ak} {l:List α} {F:List Nat} (h:AK e ty H b l) (hb:b∉F):AK e ty (Cg H F) b l:=
 h.imp id λh=>by rw[BQ hb h,Q6]
end Go.Abs
namespace Go.Proofs.YtmgjopafgboljaaGreatDoor
open Go Go.Abs
variable {q : Gl}
theorem sK (m:Nat):BB tyS 1 [.string ⟨#[]⟩] 0 [] m=some (.row m 0 0 1,.cells tyS []):=rfl
end Go.Proofs.YtmgjopafgboljaaGreatDoor
namespace Go.Abs
open Go
abbrev D3 (l:List Int):List Int:=Bo [] l
theorem Q7:∀(a b acc:List Int),Bo acc (a++b)=Bo (Bo acc a) b
 | [],b,acc=>rfl
 | y::r,b,acc=>by rw[Xl,Bo,Bo,Q7 r b]
theorem XA (l:List Int) (v:Int):D3 (l++[v])=if v∈D3 l then D3 l else D3 l++[v]:=by
 unfold D3;rw[Q7];rfl
theorem XB {x:Int}:∀{l r:List Int} {i:Nat},x∈l->plc x i (l++r)=plc x i l
 | [],_,_,h=>by cases h
 | y::l,r,i,h=>by
  rw[Xl,plc,plc];split
  .rfl
  .rename_i hne;exact XB ((Xd.1 h).resolve_left λe=>hne e.symm)
theorem sL {m:Mr} {l r:List Int} {v:Int} (h:occ m=l++r) (hv:v∈l):plc v 0 (D3 l)=rho m v:=by
 unfold rho BM;rw[h,Q7];obtain⟨s,hs⟩:=P6 (l:=r) (acc:=Bo [] l);rw[hs,XB (IQ.2 (.inr hv))]
theorem XC {x:Int}:∀{l:List Int} {i:Nat},x∉l->plc x i (l++[x])=((i+l.length:Nat):Int)
 | [],i,_=>by simp[plc]
 | y::l,i,h=>by
  rw[Xl,plc,zw (λe=>h (by simp[e])),XC (λk=>h (by simp[k]))];simp only[Xf];congr 1;omega
def mpK (i:Nat):List Int->List (Key×Value)
 | []=>[]
 | x::r=>(Key.n [x],.int .i64 (i:Int))::mpK (i+1) r
theorem XD:∀(l:List Int) (i:Nat),(mpK i l).length=l.length
 | [],_=>rfl
 | x::r,i=>by rw[mpK,Xf,XD r,Xf]
theorem XE {v:Int}:∀{l:List Int} {i:Nat},E0 (mpK i l) (.n [v])=if v∈l then some (.int .i64 (plc v i l))else none
 | [],i=>by simp[mpK,E0]
 | x::r,i=>by
  rw[mpK,E0,plc];by_cases h:x=v
  .subst h;simp
  .have h2:¬(Key.n [x]=Key.n [v]):=λe=>by injection e with e;injection e with e;exact h e
   rw[zw h2,zw h,XE]
   have:(v∈x::r) ↔ v∈r:=by
    rw[Xd];exact⟨λk=>k.resolve_left λe=>h e.symm,.inr⟩
   simp only[this]
theorem XF {v:Int}:∀{l:List Int} {i:Nat},v∉l->Cq (mpK i l) (.n [v]) (.int .i64 ((i+l.length:Nat):Int))=mpK i (l++[v])
 | [],i,_=>by simp[mpK,Cq]
 | x::r,i,h=>by
  have h2:¬(Key.n [x]=Key.n [v]):=λe=>by injection e with e;injection e with e;exact h (by simp[e])
  rw[mpK,Cq,zw h2,Xl,mpK];have:=XF (l:=r) (i:=i+1) (v:=v) (λk=>h (by simp[k]));rw[<-this,Xf];congr 4;omega
theorem Q8 (l:List Int):(D3 l).length<=l.length:=by
 have:∀(l acc:List Int),(Bo acc l).length<=acc.length+l.length:=λl=>by
  induction l with
  | nil=>intro acc;simp[Bo]
  | cons x r ih=>
   intro acc;rw[Bo];have h:=ih (if x∈acc then acc else acc++[x]);split at h
   .rename_i h1;rw[zu h1];simp only[Xf];omega
   .rename_i h1;rw[zw h1];simp only[Xg,Xf,Yn]at h ⊢;omega
 have:=this l [];simpa using this
end Go.Abs
namespace Go.Proofs.YtmgjopafgboljaaGreatDoor
open Go Go.Abs
variable {q : Gl}
theorem XG:AQ Xh (G q) 40 4 32 NP [(.tmp 5)]:=by
 obtain⟨fn,h1,h2,h3,h4,h5⟩:=oE (q:=q);exact⟨fn,h1,h2,h3,h4,by omega⟩
structure Q9 (vars:List ByteArray) (X:Row) (H:Ak) (nx:Nat) (acc:List Int) (bv:Nat) (t i pr pc:PV):Prop where
 x:Aj H 0=some X
 mp:Aj H 2=some (.map (.int .i64) (mpK 0 acc))
 bx:∃ty,Aj H 3=some (.cells ty [.mp 2])
 ob:Aj H 4=some (.cells 26 [t,i,Ax Ar bv (acc.map (vS vars)),pr,pc])
 vr:AK Ar tyS H bv (acc.map (vS vars))
 b4:4<bv
 bl:bv<nx
def XH (H H':Ak) (nx nx' bv bv':Nat):Prop:=(∀c,c<nx->c≠2->c≠4->c≠bv->Aj H' c=Aj H c)/\nx<=nx'/\(Frs H nx->Frs H' nx')/\(bv'=bv\/nx<=bv')
theorem GE {l:List ByteArray} {k:Nat} (h:k<l.length):l[k]?=some (vS l (k:Int)):=by
 unfold vS;rw[Int.toNat_natCast,List.getD_eq_getElem?_getD,Xt h];rfl
theorem Ko {ty:Nat} {H:Ak} {b:Nat} {p0 p1 p2 p3 p4:PV} (h:Aj H b=some (.cells ty [p0,p1,p2,p3,p4])) :
  AD false 1 H (.ptr b 0)=some p0/\AD false 1 H (.ptr b 1)=some p1/\AD false 1 H (.ptr b 2)=some p2/\AD false 1 H (.ptr b 3)=some p3/\AD false 1 H (.ptr b 4)=some p4:=by
 simp[AD,h]
theorem Gc {α:Type} (e:Enc α) (b:Nat) (l:List α):Bq (Ax e b l)=some [Ax e b l]:=by cases l<;>rfl
theorem XI (x:Int):Bq (.t (iv x))=some [.t (iv x)]:=rfl
theorem sN {tv tr tc:T} {top index:Int} {vars:List ByteArray} {X:Row} (hX:X=Br [iv top,iv index,tv,tr,tc]) (hv:IsS Ar tv vars) {H:Ak} {nx:Nat} {acc:List Int} {bv:Nat} {t i pr pc:PV} (h:Q9 vars X H nx acc bv t i pr pc)
  {v:Int} (hr:inR vars.length v) (hl:acc.length<=400000000) :
  ∃H' nx' bv',B3 Xh (G q) 40 [.t (iv v),.ptr 3 0,.ptr 4 0,.ptr 0 0] H nx (.t (iv (plc v 0 (if v∈acc then acc else acc++[v])))) H' nx' /\
   Q9 vars X H' nx' (if v∈acc then acc else acc++[v]) bv' t i pr pc/\XH H H' nx nx' bv bv':=by
 obtain⟨ty3,hbx⟩:=h.bx
 have lb:AD false 1 H (.ptr 3 0)=some (.mp 2):=by simp[AD,hbx]
 have hk:El (.int .i64) (.t (iv v))=some (.n [v]):=rfl;have hg:=XE (v:=v) (l:=acc) (i:=0)
 obtain⟨R,hR⟩:∃R,R=plc v 0 (if v∈acc then acc else acc++[v]):=⟨_,rfl⟩
 rw[<-hR];by_cases hm:v∈acc
 .rw[zu hm]at hg hR ⊢;refine⟨H,nx,bv,?_,h,λ_ _ _ _ _=>rfl,Xc _,λh=>h,.inl rfl⟩;refine XG.callP rfl ?_;(conv in NP=>cbv);refine Ao An ?_;simp -implicitDefEqProofs;refine A8 An ?_;simp -implicitDefEqProofs [lb,h.mp,hk,hg];exact Ob (by simp -implicitDefEqProofs [hR])
 .rw[zw hm]at hg hR ⊢;rw[XC hm,Nat.zero_add]at hR;have hst:=XF (v:=v) (l:=acc) (i:=0) hm;rw[Nat.zero_add]at hst
  obtain⟨k,rfl⟩:∃k:Nat,v=(k:Int):=⟨v.toNat,by have:=hr.1;omega⟩
  have hkl:k<vars.length:=by have:=hr.2;omega
  have hs:=GE hkl;have i1:=hv.iaddr hs .i64;have hz:Ar.z=1:=rfl;rw[hz,show Ar.enc (vS vars (k:Int))=[sv (vS vars (k:Int))]from rfl]at i1
  obtain⟨H1,hH1⟩:∃H1,H1=Xj H 2 (.map (.int .i64) (mpK 0 (acc++[(k:Int)]))):=⟨_,rfl⟩
  have k1:∀c,c≠2->Aj H1 c=Aj H c:=λc hc=>by rw[hH1,A7,zw hc]
  have x1:Aj H1 0=some X:=by rw[k1 0 (by omega)];exact h.x
  have o1:=k1 4 (by omega);rw[h.ob]at o1;obtain⟨la,lb1,lc,ld,le⟩:=Ko o1;have zx:=ldM (H:=H1) (k:=0) (by rw[x1,hX]);have hb4:=h.b4;have hbl:=h.bl
  have vr1:AK Ar tyS H1 bv (acc.map (vS vars)):=h.vr.imp id λe=>by rw[k1 bv (by omega)];exact e
  obtain⟨H2,a2,b2,c2,f2⟩:=EM (by':=16) (nx:=nx) (vS vars (k:Int)) 1 rfl [sv (vS vars (k:Int))] rfl vr1 hbl (by rw[Xk];omega) (by rw[Xk];omega)
  have o2:Aj H2 4=some (.cells 26 [t,i,Ax Ar bv (acc.map (vS vars)),pr,pc]):=by rw[c2 4 (by omega) (by omega)];exact o1
  have st:=BF (o:=2) (n:=1) o2 (Gc Ar nx (acc.map (vS vars)++[vS vars (k:Int)])) rfl (by simp)
  have em:(acc++[(k:Int)]).map (vS vars)=acc.map (vS vars)++[vS vars (k:Int)]:=by simp
  obtain⟨H3,hH3⟩:∃H3,H3=Xj H2 4 (.cells 26 [t,i,Ax Ar nx ((acc++[(k:Int)]).map (vS vars)),pr,pc]):=⟨_,rfl⟩
  have st:AO 1 H2 (.ptr 4 2) (Ax Ar nx (acc.map (vS vars)++[vS vars (k:Int)]))=some H3:=by rw[st,hH3,em];rfl
  have k3:∀c,c≠4->Aj H3 c=Aj H2 c:=λc hc=>by rw[hH3,A7,zw hc]
  have tsl:EZ tyS 1 [.string ⟨#[]⟩] 1 [(0,.t (sv (vS vars (k:Int))))]=some (.t (.sl 1 [sv (vS vars (k:Int))])):=rfl;refine⟨H3,nx+1,nx,?_,⟨?_,?_,⟨ty3,?_⟩,?_,?_,by omega,by omega⟩,?_,by omega,?_,.inr (Xc _)⟩
  .refine XG.callP rfl ?_;(conv in NP=>cbv);refine Ao An ?_;simp -implicitDefEqProofs;refine Ao An ?_;simp -implicitDefEqProofs [lb,h.mp,hk,hg]
   have lb':AD false 1 H1 (.ptr 3 0)=some (.mp 2):=by simp[AD,k1 3 (by omega),hbx]
   refine A8 An ?_
   have e1:hxM .mlen H nx [.mp 2]=some (.t (.v (.int .i64 (acc.length:Int))),H,nx):=by rw[T9 h.mp,XD]
   have e2:hxM (.mset (.int .i64)) H nx [.mp 2,.t (iv (k:Int)),.t (.v (.int .i64 (acc.length:Int)))]=some (.t (.v undef),H1,nx):=by rw[j8 h.mp hk,hst,hH1]
   simp -implicitDefEqProofs [lb,e1,e2,lc,zx.l2,i1,lp,tsl,a2,st];exact Ob (by simp -implicitDefEqProofs [hR])
  .rw[k3 0 (by omega),c2 0 (by omega) (by omega)];exact x1
  .rw[k3 2 (by omega),c2 2 (by omega) (by omega),hH1,A7,zu rfl,h.mp];rfl
  .rw[k3 3 (by omega),c2 3 (by omega) (by omega),k1 3 (by omega)];exact hbx
  .rw[hH3,A7,zu rfl,o2];rfl
  .rw[em]
   exact b2.imp id λe=>by rw[k3 nx (by omega)];exact e
  .exact λc hc h2 h4 hbv=>by rw[k3 c h4,c2 c hc hbv,k1 c h2]
  .exact λhf=>by rw[hH3];exact(f2 (by rw[hH1];exact hf.upd)).upd
abbrev tyE:Nat:=47
abbrev tyA:Nat:=50
abbrev tyQ:Nat:=52
abbrev zMr:Row:=.cells 26 [.t (iv 0),.t (iv 0),.t Au,.t Au,.t Au]
structure NuR (m:Mr) (X:Row) (l:List Int) (RL:List EC) (CL:List Qq) (H:Ak) (nx bv br bc:Nat) (t i:PV):Prop where
 s:Q9 m.vars X H nx (D3 l) bv t i (Ax eEC br RL) (Ax eQq bc CL)
 z:Aj H 1=some zMr
 rr:AK eEC tyE H br RL
 rc:AK eQq tyQ H bc CL
 r4:4<br
 rl:br<nx
 c4:4<bc
 cl:bc<nx
 vr:bv≠br
 vc:bv≠bc
 rc':br≠bc
theorem NuR.move {m:Mr} {X:Row} {l:List Int} {RL RL':List EC} {CL CL':List Qq} {H H':Ak} {nx nx' bv br bc br' bc':Nat} {t i t' i':PV} (h:NuR m X l RL CL H nx bv br bc t i) (hn:nx<=nx')
  (hk:∀c,c<nx->c≠4->c≠br->c≠bc->Aj H' c=Aj H c) (ho:Aj H' 4=some (.cells 26 [t',i',Ax Ar bv ((D3 l).map (vS m.vars)),Ax eEC br' RL',Ax eQq bc' CL']))
  (hr:AK eEC tyE H' br' RL') (hc:AK eQq tyQ H' bc' CL') (r4:4<br') (rl:br'<nx') (c4:4<bc') (cl:bc'<nx') (vr:bv≠br') (vc:bv≠bc') (rc':br'≠bc'):NuR m X l RL' CL' H' nx' bv br' bc' t' i':=by
 have b4:=h.s.b4;have bl:=h.s.bl;have:=h.r4;have:=h.c4;have h1:=h.vr;have h2:=h.vc;obtain⟨ty,hbx⟩:=h.s.bx;refine⟨⟨?_,?_,⟨ty,?_⟩,ho,?_,b4,by omega⟩,?_,hr,hc,r4,rl,c4,cl,vr,vc,rc'⟩
 .rw[hk 0 (by omega) (by omega) (by omega) (by omega)];exact h.s.x
 .rw[hk 2 (by omega) (by omega) (by omega) (by omega)];exact h.s.mp
 .rw[hk 3 (by omega) (by omega) (by omega) (by omega)];exact hbx
 .exact h.s.vr.imp id λe=>by rw[hk bv bl (by omega) h1 h2];exact e
 .rw[hk 1 (by omega) (by omega) (by omega) (by omega)];exact h.z
theorem Ks {m:Mr} {tv tr tc:T} {X:Row} (hX:X=Br [iv m.top,iv m.index,tv,tr,tc]) (hv:IsS Ar tv m.vars) (hs:SmM m) (ho:okV m) {l:List Int} {RL:List EC} {CL:List Qq} {H:Ak} {nx bv br bc:Nat} {t i:PV}
  (h:NuR m X l RL CL H nx bv br bc t i) {v:Int} (hl:∃r,occ m=l++[v]++r) :
  ∃(H':Ak) (nx' bv':Nat) (f:List PV->Ak->Nat->Option (PV×Ak×Nat)),f [.t (iv v),.ptr 3 0,.ptr 4 0,.ptr 0 0] H nx=some (.t (iv (rho m v)),H',nx')/\HOK Xh (G q) 40 f /\
   NuR m X (l++[v]) RL CL H' nx' bv' br bc t i/\XH H H' nx nx' bv bv':=by
 obtain⟨r,hr⟩:=hl;have hlen:=LM hs
 have hl1:l.length<=300000000:=by
  have:=congrArg List.length hr;simp only[Xg]at this;omega
 have hal:=Q8 l;obtain⟨H',nx',bv',hc,hS,hK⟩:=sN (q:=q) hX hv h.s (v:=v) (ho v (by rw[hr];simp)) (by omega);obtain⟨f,f1,f2⟩:=hAt hc hK.2.2.1
 have e:D3 (l++[v])=if v∈D3 l then D3 l else D3 l++[v]:=XA l v
 rw[<-e]at f1 hS;rw[sL hr (by simp)]at f1;have b4:=h.s.b4;have bl:=h.s.bl;have r4:=h.r4;have rl:=h.rl;have c4:=h.c4;have cl:=h.cl;have g1:=h.vr;have g2:=h.vc;have hn:=hK.2.1;have hbv:=hK.2.2.2;refine⟨H',nx',bv',f,f1,f2,⟨hS,?_,?_,?_,r4,by omega,c4,by omega,?_,?_,h.rc'⟩,hK⟩
 .rw[hK.1 1 (by omega) (by omega) (by omega) (by omega)];exact h.z
 .exact h.rr.imp id λe=>by rw[hK.1 br rl (by omega) (by omega) g1.symm];exact e
 .exact h.rc.imp id λe=>by rw[hK.1 bc cl (by omega) (by omega) g2.symm];exact e
 .rcases hbv with e | e<;>omega
 .rcases hbv with e | e<;>omega
abbrev fnN:PV:=.fn (.func 40) [] [.ptr 3 0,.ptr 4 0,.ptr 0 0]
structure NuA where
 H:Ak
 nx:Nat
 bv:Nat
 br:Nat
 bc:Nat
 i:Nat
def Ch (m:Mr) (i:Nat):List EC:=(m.rels.take i).map λx=>EC.of (Bu (rho m) x)
theorem sO {m:Mr} {i:Nat} {x:Ep} (h:m.rels[i]?=some x):Ch m (i+1)=Ch m i++[EC.of (Bu (rho m) x)]:=by
 unfold Ch;rw[X6,h];simp
def DR (m:Mr) (i:Nat):List Qq:=(m.cons.take i).map (Bv (rho m))
theorem sP {m:Mr} {i:Nat} {c:Qq} (h:m.cons[i]?=some c):DR m (i+1)=DR m i++[Bv (rho m) c]:=by
 unfold DR;rw[X6,h];simp
def agI (m:Mr) (x:Ep) (j:Nat):List Ag:=(x.args.take j).map λa=>⟨a.role,rho m a.var⟩
theorem XJ {m:Mr} {x:Ep} {j:Nat} {a:Ag} (h:x.args[j]?=some a):agI m x (j+1)=agI m x j++[⟨a.role,rho m a.var⟩]:=by
 unfold agI;rw[X6,h];simp
abbrev Kt (m:Mr) (X:Row) (l:List Int) (RL:List EC) (CL:List Qq) (a:NuA):Prop:=NuR m X l RL CL a.H a.nx a.bv a.br a.bc (.t (iv (rho m m.top))) (.t (iv (rho m m.index)))
structure NuY (m:Mr) (X:Row) (x:Ep) (i j:Nat) (H:Ak) (nx bv br bc ky ba:Nat):Prop where
 r:NuR m X (Cs m i x j) (Ch m i) [] H nx bv br bc (.t (iv (rho m m.top))) (.t (iv (rho m m.index)))
 y:Aj H ky=some (.cells tyE [.t (sv x.pred),.t (iv (rho m x.label)),Ax eAg ba (agI m x j)])
 ra:AK eAg tyA H ba (agI m x j)
 y4:4<ky
 yl:ky<nx
 a4:4<ba
 al:ba<nx
 yv:ky≠bv
 yr:ky≠br
 yc:ky≠bc
 av:ba≠bv
 ar:ba≠br
 ac:ba≠bc
 ya:ky≠ba
structure NuB where
 H:Ak
 nx:Nat
 bv:Nat
 br:Nat
 bc:Nat
 ky:Nat
 ba:Nat
 j:Nat
theorem sQ (a b d:T) (k:Nat):BB tyE 3 [.string ⟨#[]⟩,.int .i64 0,.slice none 0 0] 1 [(0,.t (.ag [a,b,d]))] k=some (.row k 0 1 3,.cells tyE [.t a,.t b,.t d]):=rfl
theorem XK (a b:T):EZ tyA 2 [.string ⟨#[]⟩,.int .i64 0] 1 [(0,.t (.ag [a,b]))]=some (.t (.sl 1 [a,b])):=rfl
theorem XL (a b:T):EZ tyQ 2 [.int .i64 0,.int .i64 0] 1 [(0,.t (.ag [a,b]))]=some (.t (.sl 1 [a,b])):=rfl
theorem Eg {ty:Nat} {H:Ak} {b:Nat} {p0 p1:PV} (h:Aj H b=some (.cells ty [p0,p1])):AD false 1 H (.ptr b 0)=some p0/\AD false 1 H (.ptr b 1)=some p1:=by
 simp[AD,h]
theorem LV {ty:Nat} {H:Ak} {b:Nat} {p0 p1 p2:PV} (h:Aj H b=some (.cells ty [p0,p1,p2])) :
  AD false 1 H (.ptr b 0)=some p0/\AD false 1 H (.ptr b 1)=some p1/\AD false 1 H (.ptr b 2)=some p2:=by
 simp[AD,h]
theorem XM {m:Mr} {i:Nat} {x:Ep} (h:m.rels[i]?=some x):∃r,occ m=BC m i++[x.label]++r:=by
 have hi:i<m.rels.length:=(Xi.1 h).1;refine⟨x.args.map (·.var)++(m.rels.drop (i+1)).flatMap B7++m.cons.flatMap BE,?_⟩
 have e:m.rels=m.rels.take i++x::m.rels.drop (i+1):=by
  have:=Xx i m.rels;rw[Xy hi,(Xi.1 h).2]at this;exact this.symm
 unfold occ BC
 conv=>lhs;rw[e]
 simp[B7,X7]
theorem sR {m:Mr} {i j:Nat} {x:Ep} {a:Ag} (h:m.rels[i]?=some x) (ha:x.args[j]?=some a):∃r,occ m=Cs m i x j++[a.var]++r:=by
 obtain⟨r,hr⟩:=XM h;have hj:j<x.args.length:=(Xi.1 ha).1
 have e:x.args=x.args.take j++a::x.args.drop (j+1):=by
  have:=Xx j x.args;rw[Xy hj,(Xi.1 ha).2]at this;exact this.symm
 have hi:i<m.rels.length:=(Xi.1 h).1
 have e2:m.rels=m.rels.take i++x::m.rels.drop (i+1):=by
  have:=Xx i m.rels;rw[Xy hi,(Xi.1 h).2]at this;exact this.symm
 refine⟨(x.args.drop (j+1)).map (·.var)++(m.rels.drop (i+1)).flatMap B7++m.cons.flatMap BE,?_⟩
 have e3:x.args.map (·.var)=(x.args.take j).map (·.var)++a.var::(x.args.drop (j+1)).map (·.var):=by
  conv=>lhs;rw[e]
  simp
 unfold occ Cs BC
 conv=>lhs;rw[e2]
 simp only[B7,X7,Xz,e3,Yo,Xl,X0]
theorem XN {m:Mr} {i:Nat} {c:Qq} (h:m.cons[i]?=some c):(∃r,occ m=BL m i++[c.high]++r)/\∃r,occ m=BL m i++[c.high]++[c.low]++r:=by
 have hi:i<m.cons.length:=(Xi.1 h).1
 have e:m.cons=m.cons.take i++c::m.cons.drop (i+1):=by
  have:=Xx i m.cons;rw[Xy hi,(Xi.1 h).2]at this;exact this.symm
 have key:occ m=BL m i++[c.high]++[c.low]++(m.cons.drop (i+1)).flatMap BE:=by
  rw[<-JW m];unfold BL;rw[X1]
  conv=>lhs;rw[e]
  simp[BE,X7]
 exact⟨⟨c.low::(m.cons.drop (i+1)).flatMap BE,by rw[key];simp⟩,⟨_,key⟩⟩
def SNr (tr:T) (n:Nat) (a:NuA):Am:=⟨[(29,.t (iv (a.i:Int))),(28,.t (iv (n:Int))),(27,.t tr),(5,fnN),(4,.ptr 4 0),(2,.ptr 1 0),(1,.ptr 0 0)],a.H,a.nx,91⟩
def SNc (tc:T) (n:Nat) (a:NuA):Am:=⟨[(70,.t (iv (a.i:Int))),(69,.t (iv (n:Int))),(68,.t tc),(5,fnN),(4,.ptr 4 0),(2,.ptr 1 0),(1,.ptr 0 0)],a.H,a.nx,91⟩
def SNy (tr ta:T) (n k i:Nat) (a:NuB):Am:=⟨[(43,.t (iv (a.j:Int))),(42,.t (iv (k:Int))),(41,.t ta),(8,.ptr a.ky 0),(29,.t (iv (i:Int))),(28,.t (iv (n:Int))),(27,.t tr),(5,fnN),(4,.ptr 4 0),(2,.ptr 1 0),(1,.ptr 0 0)],a.H,a.nx,91⟩
abbrev XO (m:Mr) (X:Row) (x:Ep) (i:Nat) (a:NuB):Prop:=NuY m X x i a.j a.H a.nx a.bv a.br a.bc a.ky a.ba
theorem NuR.frz {m:Mr} {X:Row} {cs:List T} (hX:X=Br cs) {l:List Int} {RL:List EC} {CL:List Qq} {H:Ak} {nx bv br bc:Nat} {t i:T} (h:NuR m X l RL CL H nx bv br bc (.t t) (.t i)) {F:List Nat} (hF:∀c∈F,4<c/\c≠bv/\c≠br/\c≠bc) :
  NuR m X l RL CL (Cg H F) nx bv br bc (.t t) (.t i):=by
 have n:∀c,c<=4->c∉F:=λc hc hm=>by have:=(hF c hm).1;omega
 have nv:bv∉F:=λhm=>(hF _ hm).2.1 rfl;have nr:br∉F:=λhm=>(hF _ hm).2.2.1 rfl;have nc:bc∉F:=λhm=>(hF _ hm).2.2.2 rfl;obtain⟨ty,hbx⟩:=h.s.bx;refine⟨⟨?_,?_,⟨ty,?_⟩,?_,h.s.vr.frz nv,h.s.b4,h.s.bl⟩,?_,h.rr.frz nr,h.rc.frz nc,h.r4,h.rl,h.c4,h.cl,h.vr,h.vc,h.rc'⟩
 .rw[BQ (n 0 (by omega)) h.s.x,hX,Oe]
 .rw[BQ (n 2 (by omega)) h.s.mp];rfl
 .rw[BQ (n 3 (by omega)) hbx];rfl
 .rw[BQ (n 4 (by omega)) h.s.ob];simp only[E5,X8,X2,EA,Gb h.s.vr nv,Gb h.rr nr,Gb h.rc nc]
 .rw[BQ (n 1 (by omega)) h.z];rfl
theorem XP (H:Ak) (nx:Nat) (Φ:AP) (p:ByteArray) (l:Int):A0 Φ H nx (.build [(0,1),(1,1),(2,1)] [.string ⟨#[]⟩,.int .i64 0,.slice none 0 0] [0,1]) [.t (sv p),.t (iv l)]=some (.t (.ag [sv p,iv l,Au]),H,nx):=rfl
theorem QA (H:Ak) (nx:Nat) (Φ:AP) (p:ByteArray) (l:Int):A0 Φ H nx (.build [(0,1),(1,1)] [.string ⟨#[]⟩,.int .i64 0] [0,1]) [.t (sv p),.t (iv l)]=some (.t (.ag [sv p,iv l]),H,nx):=rfl
theorem QB (H:Ak) (nx:Nat) (Φ:AP) (p l:Int):A0 Φ H nx (.build [(0,1),(1,1)] [.int .i64 0,.int .i64 0] [0,1]) [.t (iv p),.t (iv l)]=some (.t (.ag [iv p,iv l]),H,nx):=rfl
theorem Of {α:Type} (e:Enc α) (l:List α):IsS e (Ba e l) l:=IsS.tree _ _
theorem mkN (f:Fn):exM (.mkf f 0) [.ptr 3 0,.ptr 4 0,.ptr 0 0]=some (.fn f [] [.ptr 3 0,.ptr 4 0,.ptr 0 0]):=rfl
theorem sS (ty:TypeId) (p:PV) (k b:Nat) (H:Ak):AO 1 ((k,.cells ty [p])::H) (.ptr k 0) (.mp b)=some ((k,.cells ty [.mp b])::H):=by
 have:Bq (.mp b)=some [.mp b]:=rfl;simp[AO,this,upd,Cj]
theorem sU {m:Mr} {cs:List T} (hm:BJ m cs) (hs:SmM m) (ho:okV m):Bc Xh (G q) 18 [.ag cs] (· = .ag (Bm (DA m))):=by
 obtain⟨tv,tr,tc,rl,rfl,hv,hr,hrm,hc⟩:=hm
 obtain⟨X,hX⟩:∃X,X=Br [iv m.top,iv m.index,tv,tr,tc]:=⟨_,rfl⟩
 have ld:∀{H:Ak},Aj H 0=some X->LdM (iv m.top) (iv m.index) tv tr tc H 0:=λh=>ldM (by rw[h,hX]);have lr:=hr.len;have lc:=hc.len
 have hrl:rl.length=m.rels.length:=by rw[<-hrm,Xk]
 have hsr:=hs.rels;have hsc:=hs.cons;have cd:=cd5 (iv m.top) (iv m.index) tv tr tc
 obtain⟨R,hR⟩:∃R,R=T.ag (Bm (DA m)):=⟨_,rfl⟩
 rw[<-hR];refine oD.call rfl ?_;unfold UJ;refine Ao An ?_;simp -implicitDefEqProofs [cd];rw[show Row.cells 26 [.t (iv m.top),.t (iv m.index),.t tv,.t tr,.t tc]=X from hX.symm];refine Ao An ?_;simp -implicitDefEqProofs [sS];refine Ao An ?_;simp -implicitDefEqProofs;refine Ao An ?_;simp -implicitDefEqProofs [mkN];refine MC.sub (EN (nx':=8) (by omega)) rfl ?_
 obtain⟨H0,hH0⟩:∃H0:Ak,H0=[(4,.cells 26 [.t (iv 0),.t (iv 0),.t Au,.t Au,.t Au]),(3,.cells 56 [.mp 2]),(2,.map (.int .i64) []),(1,zMr),(0,X)]:=⟨_,rfl⟩
 have N0:NuR m X [] [] [] H0 8 5 6 7 (.t (iv 0)) (.t (iv 0)):=by
  rw[hH0];exact⟨⟨rfl,rfl,⟨_,rfl⟩,rfl,.inl rfl,by omega,by omega⟩,rfl,.inl rfl,.inl rfl,by omega,by omega,by omega,by omega,by omega,by omega,by omega⟩
 obtain⟨H1,n1,v1,f1,e1,ok1,N1,K1⟩:=Ks (q:=q) hX hv hs ho N0 (v:=m.top) ⟨_,rfl⟩;have z0:=ld N0.s.x;have s1:=BF (o:=0) (n:=1) N1.s.ob (XI (rho m m.top)) rfl (by simp)
 obtain⟨H1',hH1'⟩:∃H',H'=Xj H1 4 (.cells 26 [.t (iv (rho m m.top)),.t (iv 0),Ax Ar v1 ((D3 ([]++[m.top])).map (vS m.vars)),Ax eEC 6 [],Ax eQq 7 []]):=⟨_,rfl⟩
 have s1:AO 1 H1 (.ptr 4 0) (.t (iv (rho m m.top)))=some H1':=by rw[s1,hH1'];rfl
 have N1':NuR m X ([]++[m.top]) [] [] H1' n1 v1 6 7 (.t (iv (rho m m.top))) (.t (iv 0)):=
  N1.move (Xc _) (λc _ h4 _ _=>by rw[hH1',A7,zw h4]) (by rw[hH1',A7,zu rfl,N1.s.ob];rfl) (.inl rfl) (.inl rfl) N1.r4 N1.rl N1.c4 N1.cl N1.vr N1.vc N1.rc'
 refine Ao (AB.nil.ctxH (AG.cons ok1 .nil) mixed) ?_;rw[<-hH0];simp -implicitDefEqProofs [z0.l0,e1,s1];obtain⟨H2,n2,v2,f2,e2,ok2,N2,K2⟩:=Ks (q:=q) hX hv hs ho N1' (v:=m.index) ⟨_,rfl⟩;have z1:=ld N1'.s.x;have s2:=BF (o:=1) (n:=1) N2.s.ob (XI (rho m m.index)) rfl (by simp)
 obtain⟨H2',hH2'⟩:∃H',H'=Xj H2 4 (.cells 26 [.t (iv (rho m m.top)),.t (iv (rho m m.index)),Ax Ar v2 ((D3 ([]++[m.top]++[m.index])).map (vS m.vars)),Ax eEC 6 [],Ax eQq 7 []]):=⟨_,rfl⟩
 have s2:AO 1 H2 (.ptr 4 1) (.t (iv (rho m m.index)))=some H2':=by rw[s2,hH2'];rfl
 have N2':NuR m X (BC m 0) (Ch m 0) [] H2' n2 v2 6 7 (.t (iv (rho m m.top))) (.t (iv (rho m m.index))):=
  N2.move (Xc _) (λc _ h4 _ _=>by rw[hH2',A7,zw h4]) (by rw[hH2',A7,zu rfl,N2.s.ob];rfl) (.inl rfl) (.inl rfl) N2.r4 N2.rl N2.c4 N2.cl N2.vr N2.vc N2.rc'
 refine Ao (AB.nil.ctxH (AG.cons ok2 .nil) mixed) ?_;simp -implicitDefEqProofs [z1.l1,e2,s2];have z2:=ld N2'.s.x;refine AZ (λa:NuA=>⟨[(5,fnN),(4,.ptr 4 0),(2,.ptr 1 0),(1,.ptr 0 0)],a.H,a.nx,91⟩) (λa=>Kt m X (BC m m.rels.length) (Ch m m.rels.length) [] a) (λ_=>rfl) ?_ ?_
 .refine Ao An ?_;simp -implicitDefEqProofs [z2.l3,lr];refine AY ?_;refine Bj (SNr tr rl.length) (λa=>m.rels.length-a.i) (λa=>Kt m X (BC m a.i) (Ch m a.i) [] a/\a.i<=m.rels.length) ⟨H2',n2,v2,6,7,0⟩ (λ_=>rfl) ⟨N2',X9 _⟩ ?_ rfl ?_
  .exact Aw (by simp -implicitDefEqProofs [SNr])
  rintro⟨H,nx,bv,br,bc,i⟩ ⟨hN,hi⟩;have hN:NuR m X (BC m i) (Ch m i) [] H nx bv br bc (.t (iv (rho m m.top))) (.t (iv (rho m m.index))):=hN;have hi:i<=m.rels.length:=hi;by_cases hlt:i<rl.length
  .obtain⟨c,hc1⟩:∃c,rl[i]?=some c:=⟨_,Xt (by omega)⟩
   have hx:m.rels[i]?=some c.x:=by rw[<-hrm,Xm,hc1];rfl
   have hxm:=List.mem_of_getElem? hx;obtain⟨ta,hcs,hta⟩:=c.ok;have la:=hta.len;have hal:=hs.args c.x hxm;have i1:=hr.iaddr hc1 .i64;have hz:eEC.z=3:=rfl;rw[hz,show eEC.enc c=c.cs from rfl,hcs]at i1
   obtain⟨x,hxe⟩:∃x,x=c.x:=⟨_,rfl⟩
   rw[<-hxe]at hx hxm hta la hal i1;have w1:Ya.wrap ((i:Int)+1)=((i+1:Nat):Int):=Bb (by omega) (by omega);have s3:∀a b d,AO 3 ((nx,.cells tyE [a,b,d])::H) (.ptr nx 0) (.t (.ag [sv x.pred,iv x.label,ta]))=some ((nx,Ca x.pred x.label ta)::H):=λa b d=>st3 nx a b d (sv x.pred) (iv x.label) ta tyE H (cd3 _ _ _)
   obtain⟨H1,hH1⟩:∃H1,H1=(nx,Ca x.pred x.label ta)::H:=⟨_,rfl⟩
   rw[<-hH1]at s3
   have k1:∀c,c<nx->Aj H1 c=Aj H c:=λc h=>by rw[hH1,A9,zw (by omega)]
   have hbr:=hN.rl;have hbc:=hN.cl;have hbv:=hN.s.bl;have hb4:=hN.s.b4;have hr4:=hN.r4;have hc4:=hN.c4
   have M1:NuR m X (BC m i) (Ch m i) [] H1 (nx+1) bv br bc (.t (iv (rho m m.top))) (.t (iv (rho m m.index))):=
    hN.move (by omega) (λc h _ _ _=>k1 c h) (by rw[k1 4 (by omega)];exact hN.s.ob) (hN.rr.imp id λe=>by rw[k1 br (by omega)];exact e) (hN.rc.imp id λe=>by rw[k1 bc (by omega)];exact e) hr4 (by omega) hc4 (by omega) hN.vr hN.vc hN.rc'
   have ze1:=ldE (H:=H1) (k:=nx) (by rw[hH1,A9,zu rfl]);obtain⟨H3,n3,v3,f3,e3,ok3,M3,K3⟩:=Ks (q:=q) hX hv hs ho M1 (v:=x.label) (XM hx);have ze3:=ldE (p:=x.pred) (l:=x.label) (ta:=ta) (H:=H3) (k:=nx) (by rw[K3.1 nx (by omega) (by omega) (by omega) (by omega),hH1,A9,zu rfl]);have hn3:=K3.2.1;have s4:∀a b d,AO 3 ((n3,.cells tyE [a,b,d])::H3) (.ptr n3 0) (.t (.ag [sv x.pred,iv (rho m x.label),Au]))=some ((n3,Ca x.pred (rho m x.label) Au)::H3):=λa b d=>st3 n3 a b d (sv x.pred) (iv (rho m x.label)) Au tyE H3 (cd3 _ _ _)
   obtain⟨H4,hH4⟩:∃H4,H4=(n3,Ca x.pred (rho m x.label) Au)::H3:=⟨_,rfl⟩
   rw[<-hH4]at s4
   have k4:∀c,c<n3->Aj H4 c=Aj H3 c:=λc h=>by rw[hH4,A9,zw (by omega)]
   have hbr3:=M3.rl;have hbc3:=M3.cl;have hbv3:=M3.s.bl;have hb43:=M3.s.b4
   have M4:NuR m X (Cs m i x 0) (Ch m i) [] H4 (n3+2) v3 br bc (.t (iv (rho m m.top))) (.t (iv (rho m m.index))):=by
    rw[PU];exact M3.move (by omega) (λc h _ _ _=>k4 c h) (by rw[k4 4 (by omega)];exact M3.s.ob) (M3.rr.imp id λe=>by rw[k4 br (by omega)];exact e) (M3.rc.imp id λe=>by rw[k4 bc (by omega)];exact e) hr4 (by omega) hc4 (by omega) M3.vr M3.vc M3.rc'
   have Y4:NuY m X x i 0 H4 (n3+2) v3 br bc n3 (n3+1):=
    ⟨M4,by rw[hH4,A9,zu rfl];rfl,.inl rfl,by omega,by omega,by omega,by omega,by omega,by omega,by omega,by omega,by omega,by omega,by omega⟩
   refine Ao An ?_;simp -implicitDefEqProofs [SNr,hlt];refine Ao An ?_;simp -implicitDefEqProofs;refine AZ (λa:NuA=>⟨[(29,.t (iv (i:Int))),(28,.t (iv (rl.length:Int))),(27,.t tr),(5,fnN),(4,.ptr 4 0),(2,.ptr 1 0),(1,.ptr 0 0)],a.H,a.nx,91⟩) (λa=>Kt m X (BC m (i+1)) (Ch m (i+1)) [] a) (λ_=>rfl) ?_ ?_
   .refine AY ?_;refine Ao An ?_;simp -implicitDefEqProofs [i1,Fz,s3];refine Ao (AB.nil.ctxH (AG.cons ok3 .nil) mixed) ?_;simp -implicitDefEqProofs [ze1.l0,ze1.l1,e3,ze3.l0,XP,s4,-BU];have ze4:=ldE (p:=x.pred) (l:=x.label) (ta:=ta) (H:=H4) (k:=nx) (by rw[k4 nx (by omega),K3.1 nx (by omega) (by omega) (by omega) (by omega),hH1,A9,zu rfl]);refine MC.sub (EN (nx':=n3+2) (by omega)) rfl ?_;refine AZ (λa:NuB=>⟨[(8,.ptr a.ky 0),(29,.t (iv (i:Int))),(28,.t (iv (rl.length:Int))),(27,.t tr),(5,fnN),(4,.ptr 4 0),(2,.ptr 1 0),(1,.ptr 0 0)],a.H,a.nx,91⟩) (λa=>XO m X x i a/\a.j=x.args.length) (λ_=>rfl) ?_ ?_
    .refine Ao An ?_;simp -implicitDefEqProofs [ze4.l2,la];refine AY ?_;refine Bj (SNy tr ta rl.length x.args.length i) (λa=>x.args.length-a.j) (λa=>XO m X x i a/\a.j<=x.args.length) ⟨H4,n3+2,v3,br,bc,n3,n3+1,0⟩ (λ_=>rfl) ⟨Y4,X9 _⟩ ?_ rfl ?_
     .exact Aw (by simp -implicitDefEqProofs [SNy])
     rintro⟨Ha,na,va,ra,ca,ky,ba,j⟩ ⟨hY,hj⟩;have hY:NuY m X x i j Ha na va ra ca ky ba:=hY;have hj:j<=x.args.length:=hj;by_cases hjl:j<x.args.length
     .obtain⟨g,hg⟩:∃g,x.args[j]?=some g:=⟨_,Xt hjl⟩
      have i2:=hta.iaddr hg .i64;have hz2:eAg.z=2:=rfl;rw[hz2,show eAg.enc g=[sv g.role,iv g.var]from rfl]at i2;have w2:Ya.wrap ((j:Int)+1)=((j+1:Nat):Int):=Bb (by omega) (by omega);have t1:∀a b,AO 2 ((na,.cells tyA [a,b])::Ha) (.ptr na 0) (.t (.ag [sv g.role,iv g.var]))=some ((na,.cells tyA [.t (sv g.role),.t (iv g.var)])::Ha):=λa b=>st2 na a b _ _ tyA Ha
      obtain⟨Hb,hHb⟩:∃Hb,Hb=(na,Row.cells tyA [.t (sv g.role),.t (iv g.var)])::Ha:=⟨_,rfl⟩
      rw[<-hHb]at t1
      have kb:∀c,c<na->Aj Hb c=Aj Ha c:=λc h=>by rw[hHb,A9,zw (by omega)]
      have hyl:=hY.yl;have hal2:=hY.al;have hy4:=hY.y4;have ha4:=hY.a4;have qr:=hY.r.rl;have qc:=hY.r.cl;have qv:=hY.r.s.bl;have q4:=hY.r.s.b4;have qr4:=hY.r.r4;have qc4:=hY.r.c4;have yv:=hY.yv;have yr:=hY.yr;have yc:=hY.yc;have av:=hY.av;have ar:=hY.ar;have ac:=hY.ac;have ya:=hY.ya
      have Mb:NuR m X (Cs m i x j) (Ch m i) [] Hb (na+1) va ra ca (.t (iv (rho m m.top))) (.t (iv (rho m m.index))):=
       hY.r.move (by omega) (λc h _ _ _=>kb c h) (by rw[kb 4 (by omega)];exact hY.r.s.ob) (hY.r.rr.imp id λe=>by rw[kb ra (by omega)];exact e) (hY.r.rc.imp id λe=>by rw[kb ca (by omega)];exact e) qr4 (by omega) qc4 (by omega) hY.r.vr hY.r.vc hY.r.rc'
      have yb:=hY.y;rw[<-kb ky hyl]at yb;have lb:=Eg (H:=Hb) (b:=na) (ty:=tyA) (p0:=.t (sv g.role)) (p1:=.t (iv g.var)) (by rw[hHb,A9,zu rfl]);have lyb:=LV yb;obtain⟨Hc,nc,vc,fc,ec,okc,Mc,Kc⟩:=Ks (q:=q) hX hv hs ho Mb (v:=g.var) (sR hx hg);have hnc:=Kc.2.1;have hvc:=Kc.2.2.2;have kc:∀c,c<na+1->c≠2->c≠4->c≠va->Aj Hc c=Aj Hb c:=Kc.1
      have yc':Aj Hc ky=some (.cells tyE [.t (sv x.pred),.t (iv (rho m x.label)),Ax eAg ba (agI m x j)]):=by rw[kc ky (by omega) (by omega) (by omega) yv];exact yb
      have lyc:=LV yc';have lc':=Eg (H:=Hc) (b:=na) (ty:=tyA) (p0:=.t (sv g.role)) (p1:=.t (iv g.var)) (by rw[kc na (by omega) (by omega) (by omega) (by omega),hHb,A9,zu rfl])
      have rac:AK eAg tyA Hc ba (agI m x j):=hY.ra.imp id λe=>by rw[kc ba (by omega) (by omega) (by omega) av,kb ba hal2];exact e
      have gl:(agI m x j).length<=1000:=by unfold agI;rw[Xk,Yb];omega
      obtain⟨Hd,ad,bd,cdd,fd⟩:=EM (by':=24) (nx:=nc) (⟨g.role,rho m g.var⟩:Ag) 2 rfl [sv g.role,iv (rho m g.var)] rfl rac (by omega) (by omega) (by omega)
      have yd:Aj Hd ky=some (.cells tyE [.t (sv x.pred),.t (iv (rho m x.label)),Ax eAg ba (agI m x j)]):=by rw[cdd ky (by omega) ya];exact yc'
      have sd:=BF (o:=2) (n:=1) yd (Gc eAg nc (agI m x j++[⟨g.role,rho m g.var⟩])) rfl (by simp)
      obtain⟨He,hHe⟩:∃He,He=Xj Hd ky (.cells tyE [.t (sv x.pred),.t (iv (rho m x.label)),Ax eAg nc (agI m x j++[⟨g.role,rho m g.var⟩])]):=⟨_,rfl⟩
      have sd:AO 1 Hd (.ptr ky 2) (Ax eAg nc (agI m x j++[⟨g.role,rho m g.var⟩]))=some He:=by rw[sd,hHe];rfl
      have ke:∀c,c≠ky->Aj He c=Aj Hd c:=λc h=>by rw[hHe,A7,zw h]
      have hcr:=Mc.rl;have hcc:=Mc.cl;have hcv:=Mc.s.bl
      have Me:NuR m X (Cs m i x (j+1)) (Ch m i) [] He (nc+1) vc ra ca (.t (iv (rho m m.top))) (.t (iv (rho m m.index))):=by
       rw[PW hg]
       have kk:∀c,c<nc->c≠ky->c≠ba->Aj He c=Aj Hc c:=λc h1 h2 h3=>by rw[ke c h2,cdd c h1 h3]
       obtain⟨ty3,hbx⟩:=Mc.s.bx;have hc4:=Mc.s.b4
       have ev:vc≠ky:=by rcases hvc with e | e<;>omega
       have eb:vc≠ba:=by rcases hvc with e | e<;>omega
       refine⟨⟨?_,?_,⟨ty3,?_⟩,?_,?_,hc4,by omega⟩,?_,?_,?_,qr4,by omega,qc4,by omega,Mc.vr,Mc.vc,Mc.rc'⟩
       .rw[kk 0 (by omega) (by omega) (by omega)];exact Mc.s.x
       .rw[kk 2 (by omega) (by omega) (by omega)];exact Mc.s.mp
       .rw[kk 3 (by omega) (by omega) (by omega)];exact hbx
       .rw[kk 4 (by omega) (by omega) (by omega)];exact Mc.s.ob
       .exact Mc.s.vr.imp id λe=>by rw[kk vc (by omega) ev eb];exact e
       .rw[kk 1 (by omega) (by omega) (by omega)];exact Mc.z
       .exact Mc.rr.imp id λe=>by rw[kk ra (by omega) (by omega) (by omega)];exact e
       .exact Mc.rc.imp id λe=>by rw[kk ca (by omega) (by omega) (by omega)];exact e
      have Ye:NuY m X x i (j+1) He (nc+1) vc ra ca ky nc:=by
       have ev:ky≠vc:=by rcases hvc with e | e<;>omega
       refine⟨Me,?_,?_,hy4,by omega,by omega,by omega,ev,yr,yc,by omega,by omega,by omega,by omega⟩
       .rw[hHe,A7,zu rfl,yd,XJ hg];rfl
       .rw[XJ hg]
        exact bd.imp id λe=>by rw[ke nc (by omega)];exact e
      refine A8 (AB.nil.ctxH (AG.cons okc .nil) mixed) ?_;simp -implicitDefEqProofs [SNy,hjl,i2,D2,t1,lyb.2.2,lb.1,lb.2,ec,lyc.2.2,lc'.1,QA,XK,ad,sd,w2,-BU];exact A4.mk ⟨He,nc+1,vc,ra,ca,ky,nc,j+1⟩ ⟨⟨Ye,hjl⟩,by show x.args.length-(j+1)<x.args.length-j;omega⟩ (Aw (by simp -implicitDefEqProofs [SNy]))
     .refine A8 An ?_;simp -implicitDefEqProofs [SNy,hjl];exact A4.mk ⟨Ha,na,va,ra,ca,ky,ba,j⟩ ⟨hY,by show j=_;omega⟩ (Aw (by simp -implicitDefEqProofs))
    .rintro⟨Ha,na,va,ra,ca,ky,ba,j⟩ ⟨hY,hj⟩;have hj:j=x.args.length:=hj;have hY:NuY m X x i j Ha na va ra ca ky ba:=hY;subst hj;have hyl:=hY.yl;have hal2:=hY.al;have hy4:=hY.y4;have ha4:=hY.a4;have yv:=hY.yv;have yr:=hY.yr;have yc:=hY.yc;have av:=hY.av;have ar:=hY.ar;have ac:=hY.ac;have ya:=hY.ya;have Mf:=hY.r.frz hX (F:=[ba]) (λc hc=>by rw[Xn.1 hc];exact⟨ha4,av,ar,ac⟩)
     obtain⟨Hf,hHf⟩:∃Hf,Hf=Cg Ha [ba]:=⟨_,rfl⟩
     have yf:Aj Hf ky=some (.cells tyE ((Fb (Bu (rho m) x)).map .t)):=by
      rw[hHf,BQ (by simp;omega) hY.y];simp only[E5,X8,X2,EA,Fh hY.ra List.mem_cons_self];unfold Fb Bu agI;rw[X1];rfl
     rw[<-hHf]at Mf
     have lyf:AD true 3 Hf (.ptr ky 0)=some (.t (.ag (Fb (Bu (rho m) x)))):=by
      simp only[AD,yf];rfl
     refine MC.sub (s':=⟨[(8,.ptr ky 0),(29,.t (iv (i:Int))),(28,.t (iv (rl.length:Int))),(27,.t tr),(5,fnN),(4,.ptr 4 0),(2,.ptr 1 0),(1,.ptr 0 0)],Hf,na,91⟩) (by rw[hHf];exact F8 [ba] (by simp -implicitDefEqProofs [EA,FA,WZ])) rfl ?_;have qr:=Mf.rl;have qc:=Mf.cl;have qv:=Mf.s.bl;have q4:=Mf.s.b4;have qr4:=Mf.r4;have qc4:=Mf.c4
     have rlen:(Ch m i).length<=1000:=by unfold Ch;rw[Xk,Yb];omega
     obtain⟨Hg,ag,bg,cg,fg⟩:=LU (by':=48) (nx:=na) (ty:=tyE) (EC.of (Bu (rho m) x)) 3 rfl ((Fb (Bu (rho m) x)).map .t) rfl Mf.rr (by omega) (by omega) (by omega)
     have og:Aj Hg 4=some (.cells 26 [.t (iv (rho m m.top)),.t (iv (rho m m.index)),Ax Ar va ((D3 (Cs m i x x.args.length)).map (vS m.vars)),Ax eEC ra (Ch m i),Ax eQq ca []]):=by rw[cg 4 (by omega) (by omega)];exact Mf.s.ob
     have sg:=BF (o:=3) (n:=1) og (Gc eEC (na+1) (Ch m i++[EC.of (Bu (rho m) x)])) rfl (by simp)
     obtain⟨Hh,hHh⟩:∃Hh,Hh=Xj Hg 4 (.cells 26 [.t (iv (rho m m.top)),.t (iv (rho m m.index)),Ax Ar va ((D3 (Cs m i x x.args.length)).map (vS m.vars)),Ax eEC (na+1) (Ch m i++[EC.of (Bu (rho m) x)]),Ax eQq ca []]):=⟨_,rfl⟩
     have sg:AO 1 Hg (.ptr 4 3) (Ax eEC (na+1) (Ch m i++[EC.of (Bu (rho m) x)]))=some Hh:=by rw[sg,hHh];rfl
     have kh:∀c,c≠4->Aj Hh c=Aj Hg c:=λc h=>by rw[hHh,A7,zw h]
     have Mh:NuR m X (BC m (i+1)) (Ch m (i+1)) [] Hh (na+2) va (na+1) ca (.t (iv (rho m m.top))) (.t (iv (rho m m.index))):=by
      rw[NR hx,sO hx]
      exact Mf.move (by omega) (λc h1 h4 h5 _=>by rw[kh c h4,cg c h1 h5]) (by rw[hHh,A7,zu rfl,og];rfl) (bg.imp id λe=>by rw[kh (na+1) (by omega)];exact e)
       (.inl rfl) (by omega) (by omega) qc4 (by omega) (by omega) Mf.vc (by omega)
     have lof:=Ko Mf.s.ob;have bsl:∀k,BB tyE 3 [.string ⟨#[]⟩,.int .i64 0,.slice none 0 0] 1 [(0,.t (.ag (Fb (Bu (rho m) x))))] k=some (.row k 0 1 3,.cells tyE ((Fb (Bu (rho m) x)).map .t)):=λk=>rfl;refine A8 An ?_;simp -implicitDefEqProofs [lof.2.2.2.1,lyf,bsl,ag,sg];exact A4.mk ⟨Hh,na+2,va,na+1,ca,0⟩ Mh (Aw (by simp -implicitDefEqProofs))
   .rintro⟨Ha,na,va,ra,ca,_⟩ hN';refine A8 An ?_;simp -implicitDefEqProofs [w1];exact A4.mk ⟨Ha,na,va,ra,ca,i+1⟩ ⟨⟨hN',by show i+1<=_;omega⟩,by show m.rels.length-(i+1)<m.rels.length-i;omega⟩ (Aw (by simp -implicitDefEqProofs [SNr]))
  .have ei:i=m.rels.length:=by omega
   refine A8 An ?_;simp -implicitDefEqProofs [SNr,hlt];refine A4.mk ⟨H,nx,bv,br,bc,i⟩ ?_ (Aw (by simp -implicitDefEqProofs));rw[<-ei];exact hN
 rintro⟨H,nx,bv,br,bc,_⟩ hN
 have hN:NuR m X (BL m 0) (Ch m m.rels.length) (DR m 0) H nx bv br bc (.t (iv (rho m m.top))) (.t (iv (rho m m.index))):=by
  have e:BL m 0=BC m m.rels.length:=by simp[BL]
  rw[e];exact hN
 have z:=ld hN.s.x;refine AZ (λa:NuA=>⟨[(4,.ptr 4 0),(2,.ptr 1 0)],a.H,a.nx,91⟩) (λa=>Kt m X (occ m) (Ch m m.rels.length) (DR m m.cons.length) a) (λ_=>rfl) ?_ ?_
 .refine Ao An ?_;simp -implicitDefEqProofs [z.l4,lc];refine AY ?_;refine Bj (SNc tc m.cons.length) (λa=>m.cons.length-a.i) (λa=>Kt m X (BL m a.i) (Ch m m.rels.length) (DR m a.i) a/\a.i<=m.cons.length) ⟨H,nx,bv,br,bc,0⟩ (λ_=>rfl) ⟨hN,X9 _⟩ ?_ rfl ?_
  .exact Aw (by simp -implicitDefEqProofs [SNc])
  clear hN z;rintro⟨H,nx,bv,br,bc,i⟩ ⟨hN,hi⟩;have hN:NuR m X (BL m i) (Ch m m.rels.length) (DR m i) H nx bv br bc (.t (iv (rho m m.top))) (.t (iv (rho m m.index))):=hN;have hi:i<=m.cons.length:=hi;by_cases hlt:i<m.cons.length
  .obtain⟨c,hc1⟩:∃c,m.cons[i]?=some c:=⟨_,Xt (by omega)⟩
   have i1:=hc.iaddr hc1 .i64;have hz:eQq.z=2:=rfl;rw[hz,show eQq.enc c=[iv c.high,iv c.low]from rfl]at i1;have w1:Ya.wrap ((i:Int)+1)=((i+1:Nat):Int):=Bb (by omega) (by omega);have t1:∀a b,AO 2 ((nx,.cells tyQ [a,b])::H) (.ptr nx 0) (.t (.ag [iv c.high,iv c.low]))=some ((nx,.cells tyQ [.t (iv c.high),.t (iv c.low)])::H):=λa b=>st2 nx a b _ _ tyQ H
   obtain⟨H1,hH1⟩:∃H1,H1=(nx,Row.cells tyQ [.t (iv c.high),.t (iv c.low)])::H:=⟨_,rfl⟩
   rw[<-hH1]at t1
   have k1:∀c,c<nx->Aj H1 c=Aj H c:=λc h=>by rw[hH1,A9,zw (by omega)]
   have hbr:=hN.rl;have hbc:=hN.cl;have hbv:=hN.s.bl;have hb4:=hN.s.b4;have hr4:=hN.r4;have hc4:=hN.c4
   have M1:NuR m X (BL m i) (Ch m m.rels.length) (DR m i) H1 (nx+1) bv br bc (.t (iv (rho m m.top))) (.t (iv (rho m m.index))):=
    hN.move (by omega) (λc h _ _ _=>k1 c h) (by rw[k1 4 (by omega)];exact hN.s.ob) (hN.rr.imp id λe=>by rw[k1 br (by omega)];exact e) (hN.rc.imp id λe=>by rw[k1 bc (by omega)];exact e) hr4 (by omega) hc4 (by omega) hN.vr hN.vc hN.rc'
   have l1:=Eg (H:=H1) (b:=nx) (ty:=tyQ) (p0:=.t (iv c.high)) (p1:=.t (iv c.low)) (by rw[hH1,A9,zu rfl]);obtain⟨H2,n2,v2,f2,e2,ok2,M2,K2⟩:=Ks (q:=q) hX hv hs ho M1 (v:=c.high) (XN hc1).1;have hn2:=K2.2.1;have hv2:=K2.2.2.2
   have x2:Aj H2 nx=some (.cells tyQ [.t (iv c.high),.t (iv c.low)]):=by rw[K2.1 nx (by omega) (by omega) (by omega) (by omega),hH1,A9,zu rfl]
   have l2:=Eg x2;have o2:=Ko M2.s.ob;have hbv2:=M2.s.bl;obtain⟨H3,n3,v3,f3,e3,ok3,M3,K3⟩:=Ks (q:=q) hX hv hs ho M2 (v:=c.low) (XN hc1).2;have hn3:=K3.2.1;have hv3:=K3.2.2.2
   have x3:Aj H3 nx=some (.cells tyQ [.t (iv c.high),.t (iv c.low)]):=by rw[K3.1 nx (by omega) (by omega) (by omega) (by rcases hv2 with e | e<;>omega)];exact x2
   have l3:=Eg x3;have o3:=Ko M3.s.ob
   have clen:(DR m i).length<=1000:=by unfold DR;rw[Xk,Yb];omega
   have hr3:=M3.rl;have hc3:=M3.cl;have hv33:=M3.s.bl;have h43:=M3.s.b4;obtain⟨H4,a4,b4,c4,g4⟩:=EM (by':=16) (nx:=n3) (Bv (rho m) c) 2 rfl [iv (rho m c.high),iv (rho m c.low)] rfl M3.rc (by omega) (by omega) (by omega)
   have o4:Aj H4 4=some (.cells 26 [.t (iv (rho m m.top)),.t (iv (rho m m.index)),Ax Ar v3 ((D3 (BL m i++[c.high]++[c.low])).map (vS m.vars)),Ax eEC br (Ch m m.rels.length),Ax eQq bc (DR m i)]):=by rw[c4 4 (by omega) (by omega)];exact M3.s.ob
   have s4:=BF (o:=4) (n:=1) o4 (Gc eQq n3 (DR m i++[Bv (rho m) c])) rfl (by simp)
   obtain⟨H5,hH5⟩:∃H5,H5=Xj H4 4 (.cells 26 [.t (iv (rho m m.top)),.t (iv (rho m m.index)),Ax Ar v3 ((D3 (BL m i++[c.high]++[c.low])).map (vS m.vars)),Ax eEC br (Ch m m.rels.length),Ax eQq n3 (DR m i++[Bv (rho m) c])]):=⟨_,rfl⟩
   have s4:AO 1 H4 (.ptr 4 4) (Ax eQq n3 (DR m i++[Bv (rho m) c]))=some H5:=by rw[s4,hH5];rfl
   have k5:∀c,c≠4->Aj H5 c=Aj H4 c:=λc h=>by rw[hH5,A7,zw h]
   have M5:NuR m X (BL m (i+1)) (Ch m m.rels.length) (DR m (i+1)) H5 (n3+1) v3 br n3 (.t (iv (rho m m.top))) (.t (iv (rho m m.index))):=by
    rw[NS hc1,sP hc1]
    exact M3.move (by omega) (λc h1 h4 _ h5=>by rw[k5 c h4,c4 c h1 h5]) (by rw[hH5,A7,zu rfl,o4];rfl) (M3.rr.imp id λe=>by rw[k5 br (by omega),c4 br (by omega) M3.rc'];exact e)
     (b4.imp id λe=>by rw[k5 n3 (by omega)];exact e) hr4 (by omega) (by omega) (by omega) M3.vr (by omega) (by omega)
   refine Ao An ?_;simp -implicitDefEqProofs [SNc,hlt];refine Ao An ?_;simp -implicitDefEqProofs;refine AZ (λa:NuA=>⟨[(70,.t (iv (i:Int))),(69,.t (iv (m.cons.length:Int))),(68,.t tc),(5,fnN),(4,.ptr 4 0),(2,.ptr 1 0),(1,.ptr 0 0)],a.H,a.nx,91⟩) (λa=>Kt m X (BL m (i+1)) (Ch m m.rels.length) (DR m (i+1)) a) (λ_=>rfl) ?_ ?_
   .refine AY ?_;refine Ao An ?_;simp -implicitDefEqProofs [i1,D2,t1];refine Ao (AB.nil.ctxH (AG.cons ok2 .nil) mixed) ?_;simp -implicitDefEqProofs [l1.1,e2];refine A8 (AB.nil.ctxH (AG.cons ok3 .nil) mixed) ?_;simp -implicitDefEqProofs [o2.2.2.2.2,l2.2,e3,o3.2.2.2.2,QB,XL,a4,s4,-BU];exact A4.mk ⟨H5,n3+1,v3,br,n3,0⟩ M5 (Aw (by simp -implicitDefEqProofs))
   .rintro⟨Ha,na,va,ra,ca,_⟩ hN';refine A8 An ?_;simp -implicitDefEqProofs [w1];exact A4.mk ⟨Ha,na,va,ra,ca,i+1⟩ ⟨⟨hN',by show i+1<=_;omega⟩,by show m.cons.length-(i+1)<m.cons.length-i;omega⟩ (Aw (by simp -implicitDefEqProofs [SNc]))
  .have ei:i=m.cons.length:=by omega
   refine A8 An ?_;simp -implicitDefEqProofs [SNc,hlt];refine A4.mk ⟨H,nx,bv,br,bc,i⟩ ?_ (Aw (by simp -implicitDefEqProofs));rw[<-JW,<-ei];exact hN
 clear hN z;rintro⟨H,nx,bv,br,bc,_⟩ hN;have hN:NuR m X (occ m) (Ch m m.rels.length) (DR m m.cons.length) H nx bv br bc (.t (iv (rho m m.top))) (.t (iv (rho m m.index))):=hN;have h4:=hN.s.b4;have hr4:=hN.r4;have hc4:=hN.c4
 obtain⟨Hf,hHf⟩:∃Hf,Hf=Cg H [bv,br,bc]:=⟨_,rfl⟩
 have of:Aj Hf 4=some (.cells 26 ((Bm (DA m)).map .t)):=by
  rw[hHf,BQ (by simp;omega) hN.s.ob];simp only[E5,X8,X2,EA,Fh hN.s.vr (F:=[bv,br,bc]) (by simp),Fh hN.rr (F:=[bv,br,bc]) (by simp),Fh hN.rc (F:=[bv,br,bc]) (by simp)];unfold Bm DA Ch DR
  have e:m.rels.map (λx=>EC.of (Bu (rho m) x))=(m.rels.map (Bu (rho m))).map EC.of:=by rw[Xu];rfl
  rw[X1,X1,e];rfl
 have zf:Aj Hf 1=some zMr:=by rw[hHf,BQ (by simp;omega) hN.z];rfl
 refine MC.sub (s':=⟨[(4,.ptr 4 0),(2,.ptr 1 0)],Hf,nx,91⟩) (by rw[hHf];exact F8 [bv,br,bc] (by simp -implicitDefEqProofs [EA,FA,WZ])) rfl ?_
 have l4:AD true 5 Hf (.ptr 4 0)=some (.t (.ag (Bm (DA m)))):=by
  simp only[AD,of];rfl
 have st:=BF (o:=0) (n:=5) zf (show Bq (.t (.ag (Bm (DA m))))=some ((Bm (DA m)).map .t)from rfl) rfl (by simp)
 obtain⟨Hg,hHg⟩:∃Hg,Hg=Xj Hf 1 (.cells 26 ((Bm (DA m)).map .t)):=⟨_,rfl⟩
 have st:AO 5 Hf (.ptr 1 0) (.t (.ag (Bm (DA m))))=some Hg:=by rw[st,hHg];rfl
 have lg:AD true 5 Hg (.ptr 1 0)=some (.t (.ag (Bm (DA m)))):=by
  have:Aj Hg 1=some (.cells 26 ((Bm (DA m)).map .t)):=by rw[hHg,A7,zu rfl,zf];rfl
  simp only[AD,this];rfl
 refine A8 An ?_;simp -implicitDefEqProofs [l4,st,lg,hR]
open Go Go.Abs Go.RowKit
def eB:Enc UInt8:=⟨1,λb=>[.v (.int .u8 b.toNat)],λ_=>rfl,by omega,λa b h=>by
 injection h with h;injection h with h;injection h with _ h
 exact UInt8.toNat_inj.1 (by exact_mod_cast h)⟩
abbrev tyB:Nat:=114
abbrev tyU:Nat:=5
def Gd (p:PV) (g:Nat) (l:List UInt8):Row:=.cells tyB [p,Ax eB g l]
theorem Og (l:List UInt8):l.flatMap eB.enc=l.map λb=>T.v (.int .u8 b.toNat):=by
 induction l with
 | nil=>rfl
 | cons x l ih=>rw[Xz,ih];rfl
def wsH (H:Ak) (b g nx:Nat) (l m:List UInt8):Ak:=(nx,A5 eB tyU m)::upd (if l.isEmpty then H else rem H g) b (Gd (.ptr b 0) nx m)
theorem sV (s:List UInt8):Lib.strCells (bs s)=s.map λb=>Value.int .u8 b.toNat:=by
 unfold Lib.strCells;simp[bs]
theorem sW (b:Nat) (arr:Array Value) (p v:Value) (xs:List Value) (s:ByteArray) (w:World) (hp:p = .pointer none\/p = .pointer (some ⟨b,0,none⟩))
  (hb:w.heap[b]?=some (.cells arr tyB (0,0))) (ha0:arr[0]?=some p) (ha1:arr[1]?=some v)
  (hown0:Buf tyU w v xs.length xs) (hne:v.ownBlock≠some b) (hlen:xs.length+s.size<=140737488355328) :
  Calls Xh 84 #[.pointer (some ⟨b,0,none⟩),.string s] w λe w'=>e = .returned (.tuple #[.int .i64 s.size,.nilIface]) /\
   ∃v',w'.heap[b]?=some (.cells ((arr.setIfInBounds 0 (.pointer (some ⟨b,0,none⟩))).setIfInBounds 1 v') tyB (0,0))/\Buf tyU w' v' (xs.length+s.size) (xs++Lib.strCells s)/\v'.ownBlock≠some b/\LA w w' (some b) v.ownBlock v'.ownBlock:=
 k9 (ρ:=Tryz.lays156_ren) { Tryz.lays156 with } Tryz.Builder_Extra_156 kA (by kernel_rfl) b arr p v xs s w hp hb ha0 ha1 hown0 hne hlen
abbrev byV (l:List UInt8):List Value:=l.map λb=>Value.int .u8 b.toNat
theorem XQ {L:Abs.Loc} {w:World} {H:Ak} {g:Nat} {l:List UInt8} {v:Value} (hok:B1 Xh (G q) L H w) (hg:AK eB tyU H g l) (hv:Aq Xh L w (Ax eB g l) v) :
  Buf tyU w v l.length (byV l)/\(v.ownBlock=if l.isEmpty then none else some (L.μ g)):=by
 cases l with
 | nil=>
  simp only[Ax,Aq,AA]at hv;subst hv;exact⟨⟨rfl,.inl ⟨rfl,rfl⟩⟩,rfl⟩
 | cons x r=>
  rcases hg with hg | hg
  .cases hg
  .obtain⟨arr,ha,hl,hc⟩:=hok.rep g _ hg;simp only[Ax,Aq]at hv;obtain⟨_,_,c,rfl,hnc,hfit⟩:=hv;have hf:=hfit arr tyU (0,0) ha;have hz:eB.z=1:=rfl;rw[hz]at hf;rw[Og]at hl hc;refine⟨⟨by simp[byV],.inr ⟨L.μ g,c,arr,rfl,ha,hnc,by omega,?_⟩⟩,rfl⟩;apply List.ext_getElem?;intro k;rw[Yc];by_cases hk:k<(x::r).length
   .rw[zu hk]
    obtain⟨y,hy⟩:∃y,(x::r)[k]?=some y:=⟨_,Xt hk⟩
    obtain⟨z,h1,_,h2⟩:=hc k (.t (.v (.int .u8 y.toNat))) (by simp only[Xm,hy,Xs]);simp only[Aq,AA]at h2;subst h2;simp only[byV,Xm,hy,Xs];simpa using h1
   .rw[zw hk,List.getElem?_eq_none (by simpa[byV]using hk)]
theorem Ku {H:Ak} {b g nx k:Nat} {l m:List UInt8} {r:Row} (h:Aj (wsH H b g nx l m) k=some r) :
  (k=nx/\r=A5 eB tyU m)\/(k≠nx/\k=b/\r=Gd (.ptr b 0) nx m)\/(k≠nx/\k≠b/\(l=[]\/k≠g)/\Aj H k=some r):=by
 unfold wsH at h;rw[A9]at h;split at h
 .rename_i e;injection h with h;exact .inl ⟨e.symm,h.symm⟩
 .rename_i hn;rw[A7]at h;split at h
  .rename_i e;obtain⟨_,_,rfl⟩:=Bf h;exact .inr (.inl ⟨λe=>hn e.symm,e,rfl⟩)
  .rename_i hb;refine .inr (.inr ⟨λe=>hn e.symm,hb,?_⟩)
   cases l with
   | nil=>exact⟨.inl rfl,h⟩
   | cons x r=>
    simp only[List.isEmpty_cons,Ym,if_false]at h;rw[BZ]at h;split at h
    .cases h
    .exact⟨.inr (by assumption),h⟩
theorem sX {H:Ak} {b g:Nat} {p:PV} {l:List UInt8} (h:Aj H b=some (Gd p g l)) (hg:AK eB tyU H g l) (hl:l≠[]):g≠b:=by
 rintro rfl;rcases hg with hg | hg
 .exact hl hg
 .rw[hg]at h;injection h with h;injection h with h1 h2;exact absurd h1 (by decide)
theorem sY {H:Ak} {nx b g:Nat} {p:PV} {l s:List UInt8} (h:Aj H b=some (Gd p g l)) (hp:p = .t (.v (.pointer none))\/p = .ptr b 0) (hg:AK eB tyU H g l) (hs:s≠[]) (hlen:l.length+s.length<=140737488355328) :
  B3 Xh (G q) 84 [.ptr b 0,.t (sv (bs s))] H nx (.t (.tu [iv (s.length:Int),.v .nilIface])) (wsH H b g nx l (l++s)) (nx+1):=by
 refine⟨⟨_,(Tryz.f84.body).get!,Tryz.func84,by kernel_rfl,by kernel_rfl⟩,λL w us hok hnx hargs=>?_⟩
 have hus:us = #[.pointer (some ⟨L.μ b,0,none⟩),.string (bs s)]:=by
  simp only[AJ,Aq,AA]at hargs;obtain⟨x,xs,e,⟨_,rfl⟩,y,ys,rfl,rfl,rfl⟩:=hargs;exact Xo e
 subst hus;obtain⟨arr,hb,hsz,hc⟩:=hok.rep b _ h;obtain⟨x0,ha0,_,hx0⟩:=hc 0 p rfl;obtain⟨v,ha1,_,hv⟩:=hc 1 (Ax eB g l) rfl
 have hp':x0 = .pointer none\/x0 = .pointer (some ⟨L.μ b,0,none⟩):=by
  rcases hp with rfl | rfl
  .simp only[Aq,AA]at hx0;exact .inl hx0
  .simp only[Aq]at hx0;exact .inr hx0.2
 obtain⟨hbuf,hob⟩:=XQ hok hg hv;have hgl:l≠[]->Aj H g=some (A5 eB tyU l):=λhl=>hg.resolve_left hl;have hbn:b<nx:=hnx▸hok.nx b _ h
 have hne:v.ownBlock≠some (L.μ b):=by
  rw[hob]
  cases l with
  | nil=>simp
  | cons y r=>
   intro e;injection e with e;exact sX h hg (by simp) (hok.inj _ _ _ _ (hgl (by simp)) h e)
 have hl1:(byV l).length=l.length:=Xk ..;have hl2:(bs s).size=s.length:=rfl;refine(sW (L.μ b) arr x0 v (byV l) (bs s) w hp' hb ha0 ha1 (by rw[hl1];exact hbuf) hne (by rw[hl1,hl2];exact hlen)).mono ?_;rintro e w' ⟨rfl,v',hb',hbuf',hne',hW⟩;rw[hl1,hl2,sV]at hbuf';have hslen:0<s.length:=Yp.2 hs
 obtain⟨g',cap,cur,rfl,hg',hncap,hcap,htake⟩:∃g' cap cur,v' = .slice (some ⟨g',0,none⟩) (l.length+s.length) cap/\w'.heap[g']?=some (.cells cur tyU (0,0))/\l.length+s.length<=cap/\cap<=cur.size/\cur.toList.take (l.length+s.length)=byV l++byV s:=by
  rcases hbuf'.2 with⟨_,h0⟩ | h
  .omega
  .exact h
 have hmb:L.μ b<w.heap.size:=(Yd.1 hb).1;have hg'lt:g'<w'.heap.size:=(Yd.1 hg').1;have hg'b:g'≠L.μ b:=λe=>hne' (by rw[e];rfl)
 have hgn:(l≠[]/\g'=L.μ g)\/g'=w.heap.size:=by
  rcases hW.fresh with h1 | h1
  .left;rw[hob]at h1
   cases l with
   | nil=>cases h1
   | cons y r=>injection h1 with h1;exact⟨by simp,h1⟩
  .right;injection h1
 have hkeep:∀k,k<w.heap.size->k≠L.μ b->(l=[]\/k≠L.μ g)->w'.heap[k]?=w.heap[k]?:=λk hk hkb hkg=>hW.block k hk (λe=>hkb (by injection e)) (λe=>by
  rw[hob]at e
  cases l with
  | nil=>cases e
  | cons y r=>
   injection e with e;rcases hkg with h | h
   .cases h
   .exact h e)
 have hI:∀k,L.I k->k<w.heap.size/\k≠L.μ b/\(l=[]\/k≠L.μ g):=λk hk=>by
  refine⟨hok.lt k hk,λe=>hok.apart b _ h (e▸hk),?_⟩
  by_cases hl:l=[]
  .exact .inl hl
  .exact .inr λe=>hok.apart g _ (hgl hl) (e▸hk)
 have hother:∀k r,Aj H k=some r->k≠b->(l=[]\/k≠g)->w'.heap[L.μ k]?=w.heap[L.μ k]?:=λk r hk hkb hkg=>by
  refine hkeep _ (hok.rep k r hk).lt (λe=>hkb (hok.inj _ _ _ _ hk h e)) ?_;rcases hkg with hl | hkg
  .exact .inl hl
  .by_cases hl:l=[]
   .exact .inl hl
   .exact .inr λe=>hkg (hok.inj _ _ _ _ hk (hgl hl) e)
 let L':Abs.Loc:=⟨L.I,λk=>if k=nx then g' else L.μ k,nx+1⟩
 have hμ:∀k,k≠nx->L'.μ k=L.μ k:=λk hk=>zw hk;have hμn:L'.μ nx=g':=zu rfl
 have hnb:b≠nx:=by omega
 have hm:Bh L w L' w':=⟨λk hk=>⟨hk,by have:=hI k hk;exact hkeep k this.1 this.2.1 this.2.2⟩,by show L.nx<=nx+1;omega,λk hk=>hμ k (by omega),hW.size,hW.shape⟩
 have hIg:¬L.I g':=by
  rcases hgn with⟨hl,e⟩ | e
  .rw[e];exact hok.apart g _ (hgl hl)
  .rw[e];intro hh;have:=hok.lt _ hh;omega
 have hmne:l++s≠[]:=by simp[hs]
 refine⟨.tuple #[.int .i64 (bs s).size,.nilIface],L',rfl,?_,⟨λk hk=>Xv (hok.lt k hk) hW.size,λk r hk=>?_,λk r hk=>?_,λk k' r r' hk hk' e=>?_,λk r hk=>?_,DX hok hm.keeps⟩,rfl,hm,⟨hW.size,λk hk hkm=>?_,λ_ h=>h,λ_ h=>.inl h,λk hk=>?_,hW.shape,⟨hW.os,hW.tape,hW.output⟩⟩⟩
 .simp[Aq,AA,AX,hl2]
 .rcases Ku hk with⟨rfl,rfl⟩ | ⟨_,rfl,rfl⟩ | ⟨h1,h2,h3,h4⟩
  .rw[hμn];refine⟨cur,hg',?_,λj c hj=>?_⟩
   .rw[Og,Xk,Xk,Xg];omega
   .rw[Og,Xm,Xm]at hj
    cases hy:(l++s)[j]? with
    | none=>rw[hy]at hj;cases hj
    | some y=>
     rw[hy]at hj;injection hj with hj;subst hj
     have hjl:j<l.length+s.length:=by have:=(Xi.1 hy).1;rwa[Xg]at this
     refine⟨.int .u8 y.toNat,?_,rfl,by simp only[Aq,AA]⟩
     have:(cur.toList.take (l.length+s.length))[j]?=some (.int .u8 y.toNat):=by
      rw[htake,show byV l++byV s=byV (l++s)from(List.map_append ..).symm];simp only[byV,Xm,hy,Xs]
     rw[Yc,zu hjl]at this;simpa using this
  .rw[hμ _ hnb];refine⟨_,hb',by simpa using hsz,λj c hj=>?_⟩;have h2:1<arr.size:=(Yd.1 ha1).1
   match j,hj with
   | 0,hj=>
    injection hj with hj;subst hj;refine⟨.pointer (some ⟨L.μ k,0,none⟩),?_,rfl,?_⟩
    .rw[Yf,zw (by omega),Yf,zu rfl,zu (by omega)]
    .simp only[Aq];exact⟨by show k<nx+1;omega,by rw[hμ _ hnb]⟩
   | 1,hj=>
    injection hj with hj;subst hj;refine⟨.slice (some ⟨g',0,none⟩) (l.length+s.length) cap,?_,rfl,?_⟩
    .rw[Yf,zu rfl,zu (by simp;omega)]
    .obtain⟨y,r,e⟩:=List.exists_cons_of_ne_nil hmne;have hel:(l++s).length=l.length+s.length:=Xg ..;rw[e]at hel ⊢;simp only[Ax,Aq,hμn,hel];refine⟨by show nx<nx+1;omega,hg'lt,cap,rfl,hncap,λarr' ty fz he=>?_⟩;rw[hg']at he;injection he with he;injection he with he1 he2 he3;subst he1;show 0+cap*1<=_;omega
   | j+2,hj=>cases hj
  .rw[hμ _ h1];exact(hok.rep k r h4).keep hm (hother k r h4 h2 h3)
 .rcases Ku hk with⟨rfl,rfl⟩ | ⟨_,rfl,rfl⟩ | ⟨h1,h2,h3,h4⟩
  .rw[hμn];exact hIg
  .rw[hμ _ hnb];exact hok.apart k _ h
  .rw[hμ _ h1];exact hok.apart k _ h4
 .have key:∀k r,Aj (wsH H b g nx l (l++s)) k=some r->k≠nx->L.μ k≠g':=λk r hk hkn=>by
   rcases Ku hk with⟨rfl,rfl⟩ | ⟨_,rfl,rfl⟩ | ⟨h1,h2,h3,h4⟩
   .exact absurd rfl hkn
   .exact λe=>hg'b e.symm
   .rcases hgn with⟨hl,e⟩ | e
    .rw[e];intro e2;rcases h3 with h3 | h3
     .exact hl h3
     .exact h3 (hok.inj _ _ _ _ h4 (hgl hl) e2)
    .rw[e];have:=(hok.rep k r h4).lt;omega
  have old:∀k r,Aj (wsH H b g nx l (l++s)) k=some r->k≠nx->∃r0,Aj H k=some r0:=λk r hk hkn=>by
   rcases Ku hk with⟨rfl,rfl⟩ | ⟨_,rfl,rfl⟩ | ⟨h1,h2,h3,h4⟩
   .exact absurd rfl hkn
   .exact⟨_,h⟩
   .exact⟨_,h4⟩
  by_cases k1:k=nx
  .by_cases k2:k'=nx
   .rw[k1,k2]
   .rw[k1,hμn,hμ _ k2]at e;exact absurd e.symm (key k' r' hk' k2)
  .by_cases k2:k'=nx
   .rw[k2,hμn,hμ _ k1]at e;exact absurd e (key k r hk k1)
   .rw[hμ _ k1,hμ _ k2]at e;obtain⟨r0,h0⟩:=old k r hk k1;obtain⟨r1,h1⟩:=old k' r' hk' k2;exact hok.inj _ _ _ _ h0 h1 e
 .show k<nx+1;rcases Ku hk with⟨rfl,rfl⟩ | ⟨_,rfl,rfl⟩ | ⟨h1,h2,h3,h4⟩
  .omega
  .omega
  .have:=hok.nx k _ h4;omega
 .refine hkeep k hk (λe=>hkm ⟨b,_,h,e.symm⟩) ?_
  by_cases hl:l=[]
  .exact .inl hl
  .exact .inr λe=>hkm ⟨g,_,hgl hl,e.symm⟩
 .obtain⟨k0,r,h0,e⟩:=hk;rcases Ku h0 with⟨rfl,rfl⟩ | ⟨_,rfl,rfl⟩ | ⟨h1,h2,h3,h4⟩
  .rw[hμn]at e;rcases hgn with⟨hl,e2⟩ | e2
   .exact .inr ⟨g,_,hgl hl,by rw[<-e,e2]⟩
   .exact .inl (by omega)
  .rw[hμ _ hnb]at e;exact .inr ⟨_,_,h,e⟩
  .rw[hμ _ h1]at e;exact .inr ⟨_,_,h4,e⟩
open Go Go.Abs Go.Shelf Go.RowKit
section
variable {P : Program} {ρ : Ren}
theorem sZ (L:Lays.n169 P ρ) (X:Builder.Extra P ρ) (b g cap:Nat) (arr cur:Array Value) (l:List UInt8) (w:World) (hb:w.heap[b]?=some (.cells arr (ρ.t 72) (0,0)))
  (ha1:arr[1]?=some (.slice (some ⟨g,0,none⟩) l.length cap)) (hg:w.heap[g]?=some (.cells cur (ρ.t 5) (0,0))) (hnc:l.length<=cap) (hcs:cap<=cur.size) (htake:cur.toList.take l.length=byV l) (h0:l≠[]) (hlen:l.length<=140737488355328) :
  Calls P (ρ.f 169) #[.pointer (some ⟨b,0,none⟩)] w λe w'=>e = .returned (.string (bs l))/\w'=w.drew.freeze ⟨g,0,none⟩ l.length:=by
 have hl0:l.length≠0:=by simpa using h0
 have c1:w.drew.cell? ⟨b,1,none⟩=some (.slice (some ⟨g,0,none⟩) l.length cap):=by
  have:w.drew.heap[b]?=some (.cells arr (ρ.t 72) (0,0)):=hb;rw[Lib.cell_of_heap this];exact ha1
 have hg':w.drew.heap[g]?=some (.cells cur (ρ.t 5) (0,0)):=hg
 have hSD:(Builtin.unsafeSliceData_ #[(ρ.t 37)] (ρ.t 127) #[.slice (some ⟨g,0,none⟩) l.length cap]).run P w.drew = .ok (.pointer (some ⟨g,0,none⟩)) w.drew:=
  Lib.run_unsafeSliceData_row _ _ _ _ _ _ (by omega)
 have hUS:(Builtin.unsafeString_ #[(ρ.t 127),(ρ.t 3)] (ρ.t 9) #[.pointer (some ⟨g,0,none⟩),.int .i64 l.length]).run P w.drew = .ok (.string ⟨l.toArray⟩) (w.drew.freeze ⟨g,0,none⟩ l.length):=by
  refine Lib.run_unsafeString_row w.drew (ρ.t 127) (ρ.t 3) (ρ.t 9) (ρ.t 5) L.t127 X.cellsByte g cur.size (by simp[World.shape?,hg']) l h0 (by omega) (by omega) ?_;intro j x hx;have hj:j<l.length:=(Xi.1 hx).1
  have:(cur.toList.take l.length)[j]?=some (.int .u8 x.toNat):=by rw[htake];simp only[byV,Xm,hx,Xs]
  rw[Yc,zu hj]at this
  have ea:(⟨g,0,none⟩:Addr).add j=⟨g,j,none⟩:=by simp only[Addr.add];split<;>simp_all
  rw[ea,Lib.cell_of_heap hg'];simpa using this
 have mixed:=L.mixed;have t72:=L.t72;have a72:=L.a72;have z72:=L.z72;have v72:=L.v72;have u72:=run_underlying L.t72;have t70:=L.t70;have a70:=L.a70;have z70:=L.z70;have v70:=L.v70;have u70:=run_underlying L.t70;have t37:=L.t37;have a37:=L.a37;have z37:=L.z37;have v37:=L.v37;have u37:=run_underlying L.t37;have t127:=L.t127;have a127:=L.a127;have z127:=L.z127;have v127:=L.v127;have u127:=run_underlying L.t127;have t3:=L.t3;have a3:=L.a3;have z3:=L.z3;have v3:=L.v3;have u3:=run_underlying L.t3;have t9:=L.t9;have a9:=L.a9;have z9:=L.z9;have v9:=L.v9;have u9:=run_underlying L.t9;have t5:=X.t5;have a5:=X.a5;have z5:=X.z5;have v5:=X.v5;have u5:=run_underlying X.t5
 go_enter L.f169,Body.n169_ntmps ρ
 go_wp2
 go_region_o
 all_goals (go_wp2;go_ret;exact⟨rfl,rfl⟩)
end
theorem XR (w:World) (g k n:Nat) (h:k≠g):(w.drew.freeze ⟨g,0,none⟩ n).heap[k]?=w.heap[k]?:=by
 unfold World.freeze;split
 .rfl
 .simp only[Yq];rw[zw (λe=>h e.symm)];rfl
theorem QC (w:World) (g n:Nat):(w.drew.freeze ⟨g,0,none⟩ n).heap.size=w.heap.size:=by
 unfold World.freeze;split
 .rfl
 .simp only[Array.size_modify];rfl
theorem XS (w:World) (g n:Nat):BH w (w.drew.freeze ⟨g,0,none⟩ n):=λk hk arr ty fz he=>by
 by_cases hkg:k=g
 .subst hkg;unfold World.freeze at he;split at he
  .exact⟨arr,fz,he,rfl⟩
  .simp only[Yq,if_true]at he;obtain⟨ob,h1,h2⟩:=Yl.1 he
   cases ob with
   | cells c e f=>
    obtain⟨lo,hi⟩:=f;injection h2 with h3 h4 h5;subst h3;subst h4;exact⟨c,_,h1,rfl⟩
   | _=>simp at h2
 .rw[XR w g k n hkg]at he;exact⟨arr,fz,he,rfl⟩
theorem tA (w:World) (g n:Nat):BR w (w.drew.freeze ⟨g,0,none⟩ n):=by
 unfold World.freeze;split
 .exact⟨rfl,rfl,rfl⟩
 .exact⟨rfl,rfl,rfl⟩
theorem tB {H:Ak} {nx b g:Nat} {p:PV} {l:List UInt8} (h:Aj H b=some (Gd p g l)) (hg:AK eB tyU H g l) (h0:l≠[]) (hlen:l.length<=140737488355328) :
  B3 Xh (G q) 85 [.ptr b 0] H nx (.t (sv (bs l))) (rem H g) nx:=by
 refine⟨⟨_,(Tryz.f85.body).get!,Tryz.func85,by kernel_rfl,by kernel_rfl⟩,λL w us hok hnx hargs=>?_⟩
 have hus:us = #[.pointer (some ⟨L.μ b,0,none⟩)]:=by
  simp only[AJ,Aq,AA]at hargs;obtain⟨x,xs,e,⟨_,rfl⟩,rfl⟩:=hargs;exact Xo e
 subst hus;obtain⟨arr,hb,hsz,hc⟩:=hok.rep b _ h;obtain⟨v,ha1,_,hv⟩:=hc 1 (Ax eB g l) rfl;obtain⟨⟨_,hbuf⟩,hob⟩:=XQ hok hg hv;have hgl:=hg.resolve_left h0;have hpos:0<l.length:=Yp.2 h0;obtain⟨g',cap,cur,rfl,hg',hnc,hcs,htake⟩:=hbuf.resolve_left (by rintro⟨_,h⟩;omega)
 have hge:g'=L.μ g:=by
  rw[show l.isEmpty=false by cases l<;>simp_all]at hob;injection hob
 subst hge;refine(sZ (ρ:=Tryz.lays169_ren) Tryz.lays169 Tryz.Builder_Extra_169 (L.μ b) (L.μ g) cap arr cur l w hb ha1 hg' hnc hcs htake h0 hlen).mono ?_;rintro e w' ⟨rfl,rfl⟩;have hk:∀k,k≠L.μ g->(w.drew.freeze ⟨L.μ g,0,none⟩ l.length).heap[k]?=w.heap[k]?:=λk hk=>XR w _ k _ hk
 have hlook:∀k r,Aj (rem H g) k=some r->Aj H k=some r/\L.μ k≠L.μ g:=λk r hk=>by
  rw[BZ]at hk;split at hk
  .cases hk
  .rename_i hkg;exact⟨hk,λe=>hkg (hok.inj _ _ _ _ hk hgl e)⟩
 have hm:Bh L w L (w.drew.freeze ⟨L.μ g,0,none⟩ l.length):=⟨λk hI=>⟨hI,hk k (λe=>hok.apart g _ hgl (e▸hI))⟩,Xc _,λ_ _=>rfl,by rw[QC];exact Xc _,XS _ _ _⟩
 refine⟨_,L,rfl,by simp only[Aq,AA],⟨λk hI=>by rw[QC];exact hok.lt k hI,λk r hr=>?_,λk r hr=>hok.apart k r (hlook k r hr).1,λk k' r r' hr hr'=>hok.inj k k' r r' (hlook k r hr).1 (hlook k' r' hr').1,λk r hr=>hok.nx k r (hlook k r hr).1,DX hok hm.keeps⟩,hnx,hm,⟨by rw[QC];exact Xc _,λk hk2 hkm=>hk k (λe=>hkm ⟨g,_,hgl,e.symm⟩),λ_ h=>h,λ_ h=>.inl h,λk hkm=>?_,XS _ _ _,tA _ _ _⟩⟩
 .obtain⟨h1,h2⟩:=hlook k r hr;exact(hok.rep k r h1).keep hm (hk _ h2)
 .obtain⟨k0,r,h1,e⟩:=hkm;exact .inr ⟨k0,r,(hlook k0 r h1).1,e⟩
noncomputable def gJo (ts:List T):Option T:=g2 (tSl Ar) CX (λl s=>open Classical in if l.length<=1000/\(Lib.join (l.map (·.data.toList)) s.data.toList).length<=1000000000 then some (sv (bs (Lib.join (l.map (·.data.toList)) s.data.toList)))else none) ts
theorem hJo:GOK Xh (G q) 54 gJo:=Ib λa b l s r ha hb hr=>by
 have e2:b = .v (.string s):=hb;subst e2;split at hr
 .rename_i hc;injection hr with hr;subst hr;refine⟨⟨_,(Tryz.f54.body).get!,Tryz.func54,by kernel_rfl,by kernel_rfl⟩,λI w us hlt hG hargs=>?_⟩
  obtain⟨J,hJ⟩:∃J,J=Lib.join (l.map (·.data.toList)) s.data.toList:=⟨_,rfl⟩
  rw[<-hJ]at hc ⊢
  have fin:Calls Xh 54 us w (λe w'=>e = .returned (.string (bs J))/\Below w.heap.size w w')->Calls Xh 54 us w λe w'=>∃v r I',e = .returned v/\r=sv (bs J)/\AA I' w' r v/\BR w w'/\w.heap.size<=w'.heap.size/\(∀g,g<w.heap.size->w'.heap[g]?=w.heap[g]?) /\
   (∀g,I g->I' g)/\(∀g,I' g->I g\/w.heap.size<=g)/\(∀g,I' g->g<w'.heap.size):=λh=>h.mono λe w' ⟨he,hb⟩=>
   ⟨_,_,I,he,rfl,by simp only[AA],⟨hb.os,hb.tape,hb.output⟩,hb.size,hb.block,λ_ h=>h,λ_ h=>.inl h,λg hg=>Xv (hlt g hg) hb.size⟩
  refine fin ?_
  have hnone:∀(a0:Option Addr) (c:Nat),l=[]->us = #[.slice a0 0 c,.string s]->Calls Xh 54 us w (λe w'=>e = .returned (.string (bs J))/\Below w.heap.size w w'):=λa0 c hl hu=>by
   subst hl;subst hu
   have:J=[]:=by rw[hJ];rfl
   subst this
   exact(Tryz.strings_Join_none a0 c s w).mono λe w' h=>⟨h.1,ND h.2⟩
  rcases ha with⟨rfl,hl⟩ | rfl
  .simp only[AX,AA]at hargs;obtain⟨x,xs,e,rfl,y,ys,rfl,rfl,rfl⟩:=hargs;exact hnone none 0 hl (Xo e)
  .simp only[slT,AX,AA]at hargs;obtain⟨x,xs,e,⟨a0,c,rfl,hnc,hx⟩,y,ys,rfl,rfl,rfl⟩:=hargs;rcases hx with⟨hl,_⟩ | ⟨hsp,hI,hC⟩
   .have hl':=List.eq_nil_of_length_eq_zero hl;refine hnone (some a0) c hl' (Xo (by rw[e,hl]))
   .obtain⟨bk,o,sp⟩:=a0;simp only at hsp hI hC;subst hsp;have hu:us = #[.slice (some ⟨bk,o,none⟩) l.length c,.string s]:=Xo e;subst hu;rw[mE]at hC;rw[hJ]
    exact Tryz.strings_Join bk o c l s w (λj x hx=>by
     obtain⟨z,h1,_,h2⟩:=hC.at_ j (c:=.v (.string x)) (by rw[Xm,hx];rfl);simp only[AA]at h2;subst h2
     exact h1) (hlt bk hI) (by omega) hnc (by rw[<-hJ];omega)
 .cases hr
structure Vr where
 sort:ByteArray
 digits:ByteArray
structure Rs where
 rest:List UInt8
 e:Int
 seen:List Vr
def eos (l:List UInt8):Int:=if l=[]then 9 else 8
theorem tC (l:List UInt8):eos l≠0:=by unfold eos;split<;>decide
def Be (r:Rs):Rs:=if r.e=0 then⟨r.rest,eos r.rest,r.seen⟩else r
theorem DF (r:Rs):(Be r).e≠0:=by
 unfold Be;split
 .exact tC _
 .rename_i h;exact h
def AC:List UInt8->Rs->Rs
 | [],r=>r
 | c::t,r=>if r.e=0 then(match r.rest with
  | x::q=>if x=c then AC t ⟨q,r.e,r.seen⟩else Be r
  | []=>Be r)else r
def AR (c:UInt8) (r:Rs):Bool:=decide (r.e=0)&&decide (r.rest.head?=some c)
def okC (big:Bool) (c:UInt8):Bool:=if big then DL c else DM c
def Dm (big:Bool):Bool->List UInt8->List UInt8
 | first,c::q=>if okC big c||(!first&&(Bd c||decide (c=45)))then c::Dm big false q else []
 | _,[]=>[]
def Bt (big:Bool) (r:Rs):Rs×ByteArray:=
 if r.e=0 then(if Dm big true r.rest=[]then(Be r,⟨#[]⟩)else(⟨r.rest.drop (Dm big true r.rest).length,r.e,r.seen⟩,ob (Dm big true r.rest)))else(r,⟨#[]⟩)
def GF (c:UInt8):Bool:=decide (c=104)||(decide (c=101)||(decide (c=120)||decide (c=105)))
def CQ:List UInt8->List UInt8
 | c::q=>if Bd c then c::(if c=48 then []else q.takeWhile Bd)else []
 | []=>[]
def AW (r:Rs):Rs×Int:=
 if r.e=0 then(match r.rest with
  | c::q=>if GF c then(if CQ q=[]then(Be ⟨q,r.e,r.seen⟩,0)else(⟨q.drop (CQ q).length,r.e,r.seen++[⟨ob [c],ob (CQ q)⟩]⟩,(r.seen.length:Int)))else(Be r,0)
  | []=>(Be r,0))
 else(r,0)
def Db (r:Rs):Rs×Ag:=((AW (AC [32] (Bt true r).1)).1,⟨(Bt true r).2,(AW (AC [32] (Bt true r).1)).2⟩)
def Cz:Nat->Rs->List Ag->Rs×List Ag
 | 0,r,out=>(r,out)
 | n+1,r,out=>if r.e=0 then(if AR 44 (Db r).1 then Cz n (AC [44,32] (Db r).1) (out++[(Db r).2])else((Db r).1,out++[(Db r).2]))else(r,out)
def EB (r:Rs):Rs:=⟨r.rest.drop 1,r.e,r.seen⟩
def Ci (r:Rs):Rs×Int×ByteArray:=(AC [40] (Bt false (AC [58] (AW r).1)).1,(AW r).2,(Bt false (AC [58] (AW r).1)).2)
def Bl (n:Nat) (r:Rs):Rs×Ep:=
 if AR 41 (Ci r).1 then(EB (Ci r).1,⟨(Ci r).2.2,(Ci r).2.1,[]⟩)
 else(AC [41] (Cz n (Ci r).1 []).1,⟨(Ci r).2.2,(Ci r).2.1,(Cz n (Ci r).1 []).2⟩)
def Eu (r:Rs):Rs:=if AR 125 (AC [59,32] r)then Be (AC [59,32] r)else AC [59,32] r
def BW (k:Nat):Nat->Rs->List Ep->Rs×List Ep
 | 0,r,out=>(r,out)
 | n+1,r,out=>if r.e=0/\AR 125 r=false then(if AR 59 (Bl k r).1 then BW k n (Eu (Bl k r).1) (out++[(Bl k r).2])else((Bl k r).1,out++[(Bl k r).2]))else(r,out)
def Bw (r:Rs):Rs×Qq:=((AW (AC [32,113,101,113,32] (AW r).1)).1,⟨(AW r).2,(AW (AC [32,113,101,113,32] (AW r).1)).2⟩)
def C7:Nat->Rs->List Qq->Rs×List Qq
 | 0,r,out=>(r,out)
 | n+1,r,out=>if r.e=0/\AR 125 r=false then(if AR 59 (Bw r).1 then C7 n (Eu (Bw r).1) (out++[(Bw r).2])else((Bw r).1,out++[(Bw r).2]))else(r,out)
def BG (r:Rs):Rs×Int×Int:=(AC [32,123] (AW (AC [32] (AW r).1)).1,(AW r).2,(AW (AC [32] (AW r).1)).2)
def D4 (r:Rs):Rs:=if r.e=0/\r.rest≠[]then Be r else r
def Dn (n:Nat) (r:Rs):Rs×Mr:=
 let t:=BG r
 let a:=BW n n t.1 []
 let c:=C7 n (AC [125,32,123] a.1) []
 (D4 (AC [125] c.1),⟨t.2.1,t.2.2,[],a.2,c.2⟩)
def Dv (k:Nat):Nat->Rs->List Ep->Rs×List Ep
 | 0,r,out=>(r,out)
 | n+1,r,out=>if r.e=0/\¬(out=[]/\AR 125 r=true)then(if AR 59 (Bl k r).1 then Dv k n (AC [59,32] (Bl k r).1) (out++[(Bl k r).2])else((Bl k r).1,out++[(Bl k r).2]))else(r,out)
def DS:Nat->Rs->List Qq->Rs×List Qq
 | 0,r,out=>(r,out)
 | n+1,r,out=>if r.e=0/\¬(out=[]/\AR 125 r=true)then(if AR 59 (Bw r).1 then DS n (AC [59,32] (Bw r).1) (out++[(Bw r).2])else((Bw r).1,out++[(Bw r).2]))else(r,out)
def Oh (n:Nat) (r:Rs):Rs×Mr:=
 let t:=BG r
 let a:=Dv n n t.1 []
 let c:=DS n (AC [32,123] (AC [125] a.1)) []
 (D4 (AC [125] c.1),⟨t.2.1,t.2.2,[],a.2,c.2⟩)
theorem EO (r:Rs):(Be r).rest=r.rest:=by unfold Be;split<;>rfl
theorem GG (r:Rs):(Be r).seen=r.seen:=by unfold Be;split<;>rfl
theorem QD {r:Rs} (h:r.e≠0):Be r=r:=by unfold Be;rw[zw h]
theorem Ge {r:Rs} (h:r.e≠0):∀t,AC t r=r
 | []=>rfl
 | c::t=>by rw[AC,zw h]
theorem Oi {r:Rs} (h:r.e≠0) (big:Bool):Bt big r=(r,⟨#[]⟩):=by unfold Bt;rw[zw h]
theorem Oj {r:Rs} (h:r.e≠0):AW r=(r,0):=by unfold AW;rw[zw h]
theorem Kv {r:Rs} (h:r.e≠0) (c:UInt8):AR c r=false:=by unfold AR;rw[zt h];rfl
theorem tD (a b:List UInt8):∀r:Rs,AC (a++b) r=AC b (AC a r):=by
 induction a with
 | nil=>intro r;rfl
 | cons c a ih=>
  intro r;rw[Xl,AC,AC];by_cases h:r.e=0
  .rw[zu h,zu h]
   cases r.rest with
   | nil=>simp only;rw[Ge (DF r)]
   | cons x q=>
    simp only;by_cases hx:x=c
    .rw[zu hx,zu hx];exact ih _
    .rw[zw hx,zw hx,Ge (DF r)]
  .rw[zw h,zw h,Ge h]
theorem XT {r:Rs} (h:AR 125 r=true):AW r=(Be r,0):=by
 unfold AR at h;rw[Yr,decide_eq_true_iff,decide_eq_true_iff]at h;unfold AW;rw[zu h.1]
 cases hr:r.rest with
 | nil=>rfl
 | cons c q=>
  rw[hr]at h
  have hc:c=125:=by simpa using h.2
  subst hc;simp only;rw[zw (by decide)]
theorem tE {r:Rs} (h:AR 125 r=true) (k:Nat):(Bl k r).1=Be r:=by
 have hv:=XT h;have hf:=DF r
 have h1:Ci r=(Be r,0,⟨#[]⟩):=by unfold Ci;rw[hv];simp only;rw[Ge hf,Oi hf,Ge hf]
 unfold Bl;rw[h1];simp only;rw[Kv hf,zw (by decide)]
 cases k with
 | zero=>rw[Cz,Ge hf]
 | succ k=>rw[Cz,zw hf,Ge hf]
theorem tF {r:Rs} (h:AR 125 r=true):(Bw r).1=Be r:=by
 have hv:=XT h;have hf:=DF r;unfold Bw;rw[hv];simp only;rw[Ge hf,Oj hf]
theorem XU (k n:Nat) {r:Rs} (h:r.e≠0) (out:List Ep):Dv k n r out=(r,out):=by
 cases n with
 | zero=>rfl
 | succ n=>rw[Dv,zw λe=>h e.1]
theorem Ol (k n:Nat) {r:Rs} (h:r.e≠0) (out:List Ep):BW k n r out=(r,out):=by
 cases n with
 | zero=>rfl
 | succ n=>rw[BW,zw λe=>h e.1]
theorem XV (n:Nat) {r:Rs} (h:r.e≠0) (out:List Qq):DS n r out=(r,out):=by
 cases n with
 | zero=>rfl
 | succ n=>rw[DS,zw λe=>h e.1]
theorem Om (n:Nat) {r:Rs} (h:r.e≠0) (out:List Qq):C7 n r out=(r,out):=by
 cases n with
 | zero=>rfl
 | succ n=>rw[C7,zw λe=>h e.1]
theorem DG:∀(t:List UInt8) (r:Rs),(AC t r).rest.length<=r.rest.length
 | [],r=>Xc _
 | c::t,r=>by
  rw[AC];split
  .cases hr:r.rest with
   | nil=>simp only;rw[EO,hr];exact Xc _
   | cons x q=>
    simp only;split
    .have:=DG t ⟨q,r.e,r.seen⟩;simp only[Xf]at this ⊢;omega
    .rw[EO,hr];exact Xc _
  .exact Xc _
theorem Jk {c:UInt8} {r:Rs} (h:AR c r=true):r.e=0/\∃q,r.rest=c::q:=by
 unfold AR at h;rw[Yr,decide_eq_true_iff,decide_eq_true_iff]at h;refine⟨h.1,?_⟩
 cases hr:r.rest with
 | nil=>rw[hr]at h;cases h.2
 | cons x q=>
  rw[hr]at h
  have:x=c:=by simpa using h.2
  exact⟨q,by rw[this]⟩
theorem Gf {c:UInt8} {r:Rs} (h:AR c r=true) (t:List UInt8):(AC (c::t) r).rest.length<r.rest.length:=by
 obtain⟨h1,q,h2⟩:=Jk h;rw[AC,zu h1,h2];simp only[if_true];have:=DG t ⟨q,r.e,r.seen⟩;simp only[Xf]at this ⊢;omega
theorem On (big:Bool) (r:Rs):(Bt big r).1.rest.length<=r.rest.length:=by
 unfold Bt;split
 .split
  .rw[EO];exact Xc _
  .simp
 .exact Xc _
theorem Kw (r:Rs):(AW r).1.rest.length<=r.rest.length:=by
 unfold AW;split
 .cases hr:r.rest with
  | nil=>simp only;rw[EO,hr];exact Xc _
  | cons c q=>
   simp only;split
   .split
    .rw[EO];simp
    .simp;omega
   .rw[EO,hr];exact Xc _
 .exact Xc _
theorem LW (r:Rs):(Db r).1.rest.length<=r.rest.length:=by
 unfold Db;exact Xe (Kw _) (Xe (DG _ _) (On _ _))
theorem XW:∀(n:Nat) (r:Rs) (out:List Ag),(Cz n r out).1.rest.length<=r.rest.length
 | 0,r,out=>Xc _
 | n+1,r,out=>by
  rw[Cz];split
  .split
   .exact Xe (XW n _ _) (Xe (DG _ _) (LW r))
   .exact LW r
  .exact Xc _
theorem LX (r:Rs):(Ci r).1.rest.length<=r.rest.length:=by
 unfold Ci;exact Xe (DG _ _) (Xe (On _ _) (Xe (DG _ _) (Kw _)))
theorem Iu (k:Nat) (r:Rs):(Bl k r).1.rest.length<=r.rest.length:=by
 unfold Bl;split
 .unfold EB;have:=LX r;simp only[List.length_drop];omega
 .exact Xe (DG _ _) (Xe (XW _ _ _) (LX r))
theorem Oo (r:Rs):(Bw r).1.rest.length<=r.rest.length:=by
 unfold Bw;exact Xe (Kw _) (Xe (DG _ _) (Kw _))
theorem QE {k n:Nat} {r:Rs} {out:List Ep} (he:r.e=0) (h:AR 125 r=false):BW k (n+1) r out=if AR 59 (Bl k r).1 then BW k n (Eu (Bl k r).1) (out++[(Bl k r).2])else((Bl k r).1,out++[(Bl k r).2]):=by
 rw[BW,zu ⟨he,h⟩]
theorem QF {k n:Nat} {r:Rs} {out:List Ep} (h:AR 125 r=true):BW k (n+1) r out=(r,out):=by
 rw[BW,zw λe=>by rw[h]at e;cases e.2]
theorem Oq {k n:Nat} {r:Rs} {out:List Ep} (he:r.e=0) (h:out≠[]\/AR 125 r=false):Dv k (n+1) r out=if AR 59 (Bl k r).1 then Dv k n (AC [59,32] (Bl k r).1) (out++[(Bl k r).2])else((Bl k r).1,out++[(Bl k r).2]):=by
 rw[Dv,zu ⟨he,λe=>h.elim (λh=>h e.1) λh=>by rw[h]at e;cases e.2⟩]
theorem XX {k n:Nat} {r:Rs} (h:AR 125 r=true):Dv k (n+1) r []=(r,[]):=by
 rw[Dv,zw λe=>e.2 ⟨rfl,h⟩]
theorem QG {n:Nat} {r:Rs} {out:List Qq} (he:r.e=0) (h:AR 125 r=false):C7 (n+1) r out=if AR 59 (Bw r).1 then C7 n (Eu (Bw r).1) (out++[(Bw r).2])else((Bw r).1,out++[(Bw r).2]):=by
 rw[C7,zu ⟨he,h⟩]
theorem QH {n:Nat} {r:Rs} {out:List Qq} (h:AR 125 r=true):C7 (n+1) r out=(r,out):=by
 rw[C7,zw λe=>by rw[h]at e;cases e.2]
theorem Ot {n:Nat} {r:Rs} {out:List Qq} (he:r.e=0) (h:out≠[]\/AR 125 r=false):DS (n+1) r out=if AR 59 (Bw r).1 then DS n (AC [59,32] (Bw r).1) (out++[(Bw r).2])else((Bw r).1,out++[(Bw r).2]):=by
 rw[DS,zu ⟨he,λe=>h.elim (λh=>h e.1) λh=>by rw[h]at e;cases e.2⟩]
theorem XY {n:Nat} {r:Rs} (h:AR 125 r=true):DS (n+1) r []=(r,[]):=by
 rw[DS,zw λe=>e.2 ⟨rfl,h⟩]
theorem XZ (k:Nat):∀(n:Nat) (r:Rs) (out out':List Ep),r.rest.length<n->(r.e=0->out=out')->(AR 125 r=true->out'=[])->(BW k n r out).1=(Dv k n r out').1/\((BW k n r out).1.e=0->(BW k n r out).2=(Dv k n r out').2)
 | 0,r,out,out',h,_,_=>by omega
 | n+1,r,out,out',h,ho,hb=>by
  by_cases he:r.e=0
  rotate_left
  .rw[Ol k _ he,XU k _ he];exact⟨rfl,λe=>absurd e he⟩
  have ho:=ho he;subst ho
  cases h1:AR 125 r with
  | true=>
   have hb:=hb h1;subst hb;rw[QF h1,XX h1];exact⟨rfl,λ_=>rfl⟩
  | false=>
   rw[QE he h1,Oq he (.inr h1)]
   cases h2:AR 59 (Bl k r).1 with
   | false=>exact⟨rfl,λ_=>rfl⟩
   | true=>
    simp only[if_true];have hl:=Gf h2 [32];have hl2:=Iu k r;unfold Eu
    cases h3:AR 125 (AC [59,32] (Bl k r).1)with
    | true=>
     rw[zu rfl,Ol k n (DF _)]
     obtain⟨n',rfl⟩:∃n',n=n'+1:=⟨n-1,by omega⟩
     obtain⟨e3,_⟩:=Jk h3;rw[Oq e3 (.inl (by simp)),tE h3,Kv (DF _),zw (by decide)];exact⟨rfl,λe=>absurd e (DF _)⟩
    | false=>
     rw[zw (by decide)];exact XZ k n _ _ _ (by omega) (λ_=>rfl) (λe=>by rw[h3]at e;cases e)
theorem YA:∀(n:Nat) (r:Rs) (out out':List Qq),r.rest.length<n->(r.e=0->out=out')->(AR 125 r=true->out'=[])->(C7 n r out).1=(DS n r out').1/\((C7 n r out).1.e=0->(C7 n r out).2=(DS n r out').2)
 | 0,r,out,out',h,_,_=>by omega
 | n+1,r,out,out',h,ho,hb=>by
  by_cases he:r.e=0
  rotate_left
  .rw[Om _ he,XV _ he];exact⟨rfl,λe=>absurd e he⟩
  have ho:=ho he;subst ho
  cases h1:AR 125 r with
  | true=>
   have hb:=hb h1;subst hb;rw[QH h1,XY h1];exact⟨rfl,λ_=>rfl⟩
  | false=>
   rw[QG he h1,Ot he (.inr h1)]
   cases h2:AR 59 (Bw r).1 with
   | false=>exact⟨rfl,λ_=>rfl⟩
   | true=>
    simp only[if_true];have hl:=Gf h2 [32];have hl2:=Oo r;unfold Eu
    cases h3:AR 125 (AC [59,32] (Bw r).1)with
    | true=>
     rw[zu rfl,Om n (DF _)]
     obtain⟨n',rfl⟩:∃n',n=n'+1:=⟨n-1,by omega⟩
     obtain⟨e3,_⟩:=Jk h3;rw[Ot e3 (.inl (by simp)),tF h3,Kv (DF _),zw (by decide)];exact⟨rfl,λe=>absurd e (DF _)⟩
    | false=>
     rw[zw (by decide)];exact YA n _ _ _ (by omega) (λ_=>rfl) (λe=>by rw[h3]at e;cases e)
theorem YB (r:Rs):(D4 r).e=0->D4 r=r/\r.e=0/\r.rest=[]:=by
 intro h;unfold D4 at h ⊢;by_cases hc:r.e=0/\r.rest≠[]
 .rw[zu hc]at h;exact absurd h (DF r)
 .rw[zw hc]at h ⊢;refine⟨rfl,h,?_⟩
  by_cases hr:r.rest=[]
  .exact hr
  .exact absurd ⟨h,hr⟩ hc
theorem Ou (r:Rs):(BG r).1.rest.length<=r.rest.length:=by
 unfold BG;exact Xe (DG _ _) (Xe (Kw _) (Xe (DG _ _) (Kw _)))
theorem QI (k:Nat):∀(n:Nat) (r:Rs) (out:List Ep),(BW k n r out).1.rest.length<=r.rest.length
 | 0,r,out=>Xc _
 | n+1,r,out=>by
  rw[BW];split
  .split
   .refine Xe (QI k n _ _) (Xe ?_ (Iu k r));unfold Eu;split
    .rw[EO];exact DG _ _
    .exact DG _ _
   .exact Iu k r
  .exact Xc _
theorem QJ {t:List UInt8} {r:Rs} (h:(AC t r).e=0):r.e=0:=by
 by_cases he:r.e=0
 .exact he
 .rw[Ge he]at h;exact h
theorem tG {r:Rs} (h:(AW r).1.e=0):r.e=0:=by
 by_cases he:r.e=0
 .exact he
 .rw[Oj he]at h;exact h
theorem tH {big:Bool} {r:Rs} (h:(Bt big r).1.e=0):r.e=0:=by
 by_cases he:r.e=0
 .exact he
 .rw[Oi he]at h;exact h
theorem QK {n:Nat} {r:Rs} {out:List Qq} (h:(C7 n r out).1.e=0):r.e=0:=by
 by_cases he:r.e=0
 .exact he
 .rw[Om n he]at h;exact h
theorem YC {k n:Nat} {r:Rs} {out:List Ep} (h:(BW k n r out).1.e=0):r.e=0:=by
 by_cases he:r.e=0
 .exact he
 .rw[Ol k n he]at h;exact h
theorem tI {n:Nat} {r:Rs} (h:r.rest.length<n):(Dn n r).1=(Oh n r).1/\((Dn n r).1.e=0->(Dn n r).2=(Oh n r).2):=by
 have h1:=Ou r;obtain⟨a1,a2⟩:=XZ n n (BG r).1 [] [] (by omega) (λ_=>rfl) (λ_=>rfl);have h2:=QI n n (BG r).1 []
 have e1:AC [32,123] (AC [125] (Dv n n (BG r).1 []).1)=AC [125,32,123] (BW n n (BG r).1 []).1:=by
  rw[<-a1,<-tD];rfl
 have h3:=DG [125,32,123] (BW n n (BG r).1 []).1;obtain⟨b1,b2⟩:=YA n (AC [125,32,123] (BW n n (BG r).1 []).1) [] [] (by omega) (λ_=>rfl) (λ_=>rfl)
 have hs:(Dn n r).1=(Oh n r).1:=by
  show D4 (AC [125] (C7 n _ []).1)=D4 (AC [125] (DS n _ []).1);rw[e1,b1]
 refine⟨hs,λhe=>?_⟩;have g1:=(YB _ he).2.1;have g2:=QJ g1;have g3:=QJ (QK g2);show Mr.mk _ _ _ (BW n n (BG r).1 []).2 (C7 n _ []).2=Mr.mk _ _ _ (Dv n n (BG r).1 []).2 (DS n (AC [32,123] (AC [125] (Dv n n (BG r).1 []).1)) []).2;rw[e1,a2 g3,b2 g2]
def Dw (w:Int->List UInt8) (a:Ag):List UInt8:=wb a.role++32::w a.var
def Cb (sep:List UInt8):List (List UInt8)->List UInt8
 | []=>[]
 | [x]=>x
 | x::r=>x++(sep++Cb sep r)
theorem QL (sep x y:List UInt8) (r:List (List UInt8)):Cb sep (x::y::r)=x++(sep++Cb sep (y::r)):=rfl
def Dc (w:Int->List UInt8) (x:Ep):List UInt8:=w x.label++58::(wb x.pred++40::(Cb [44,32] (x.args.map (Dw w))++[41]))
def Eh (w:Int->List UInt8) (c:Qq):List UInt8:=w c.high++([32,113,101,113,32]++w c.low)
def Ky (w:Int->List UInt8) (m:Mr):List UInt8:=
 w m.top++32::(w m.index++32::123::(Cb [59,32] (m.rels.map (Dc w))++125::32::123::(Cb [59,32] (m.cons.map (Eh w))++[125])))
def wM (m:Mr) (x:Int):List UInt8:=wb (vS m.vars x)++Lib.itoa x
def QM (m:Mr):List UInt8:=Ky (wM m) m
def plA:Nat->List Ag->List Ag
 | _,[]=>[]
 | k,a::r=>⟨a.role,(k:Int)⟩::plA (k+1) r
def plE (k:Nat) (x:Ep):Ep:=⟨x.pred,(k:Int),plA (k+1) x.args⟩
def GH:Nat->List Ep->List Ep
 | _,[]=>[]
 | k,x::r=>plE k x::GH (k+(1+x.args.length)) r
def HH:Nat->List Qq->List Qq
 | _,[]=>[]
 | k,_::r=>⟨(k:Int),((k+1:Nat):Int)⟩::HH (k+2) r
def nE:List Ep->Nat
 | []=>0
 | x::r=>1+x.args.length+nE r
def plM (m:Mr):Mr:=⟨0,1,[],GH 2 m.rels,HH (2+nE m.rels) m.cons⟩
theorem tJ (x:Ep):(B7 x).length=1+x.args.length:=by simp[B7];omega
theorem QN:∀l:List Ep,nE l=(l.flatMap B7).length
 | []=>rfl
 | x::r=>by rw[nE,Xz,Xg,tJ,QN r]
structure EP (v:Vr):Prop where
 sort:∃c,v.sort=ob [c]/\GF c=true
 digits:CQ (wb v.digits)=wb v.digits
 ne:wb v.digits≠[]
def vW (v:Vr):List UInt8:=wb v.sort++wb v.digits
theorem Co (l:List UInt8):wb (ob l)=l:=by simp
def Wt (w:Int->List UInt8) (seen:List Vr):Prop:=∀(p:Nat) v,seen[p]?=some v->w (p:Int)=vW v
theorem Wt.pre {w:Int->List UInt8} {a b:List Vr} (h:Wt w (a++b)):Wt w a:=λp v hp=>h p v (by rw[List.getElem?_append_left (Xi.1 hp).1];exact hp)
theorem Wt.at_ {w:Int->List UInt8} {a b:List Vr} {v:Vr} (h:Wt w (a++v::b)):w (a.length:Int)=vW v:=h a.length v (by simp)
theorem Fi:∀{t:List UInt8} {r:Rs},(AC t r).e=0->r.e=0/\r.rest=t++(AC t r).rest/\(AC t r).seen=r.seen
 | [],r,h=>⟨h,rfl,rfl⟩
 | c::t,r,h=>by
  have he:=QJ h;rw[AC,zu he]at h ⊢
  cases hr:r.rest with
  | nil=>rw[hr]at h;exact absurd h (DF r)
  | cons x q=>
   rw[hr]at h;simp only at h ⊢;by_cases hx:x=c
   .rw[zu hx]at h ⊢;obtain⟨_,h2,h3⟩:=Fi h;refine⟨he,?_,h3⟩;rw[hx,Xl];congr 1
   .rw[zw hx]at h;exact absurd h (DF r)
theorem YD (big:Bool):∀(l:List UInt8) (first:Bool),l=Dm big first l++l.drop (Dm big first l).length/\Dm big first (Dm big first l)=Dm big first l
 | [],first=>by cases first<;>exact⟨rfl,rfl⟩
 | c::q,first=>by
  rw[Dm];split
  .rename_i hc;obtain⟨h1,h2⟩:=YD big q false;refine⟨?_,?_⟩
   .rw[Xl,Xf,Yg,<-h1]
   .rw[Dm,zu hc,h2]
  .exact⟨rfl,by cases first<;>rfl⟩
theorem YE {big:Bool} {r:Rs} (h:(Bt big r).1.e=0):r.e=0/\r.rest=wb (Bt big r).2++(Bt big r).1.rest/\Dm big true (wb (Bt big r).2)=wb (Bt big r).2/\wb (Bt big r).2≠[]/\(Bt big r).1.seen=r.seen:=by
 have he:=tH h;unfold Bt at h ⊢;rw[zu he]at h ⊢;split at h
 .exact absurd h (DF r)
 .rename_i hne;rw[zw hne];obtain⟨h1,h2⟩:=YD big r.rest true;simp only[Co];exact⟨he,h1,h2,hne,trivial⟩
theorem YF (l:List UInt8):l=CQ l++l.drop (CQ l).length/\CQ (CQ l)=CQ l:=by
 cases l with
 | nil=>exact⟨rfl,rfl⟩
 | cons c q=>
  rw[CQ];split
  .rename_i hc;split
   .rename_i h0;refine⟨rfl,?_⟩;rw[CQ,zu hc,zu h0]
   .rename_i h0;refine⟨?_,?_⟩
    .rw[Xl,Xf,Yg,<-takeWhile_drop q]
    .rw[CQ,zu hc,zw h0,takeWhile_twice]
  .exact⟨rfl,rfl⟩
 where
 takeWhile_drop {p:UInt8->Bool}:∀l:List UInt8,l=l.takeWhile p++l.drop (l.takeWhile p).length
  | []=>rfl
  | c::r=>by
   rw[Yh];split
   .rw[Xl,Xf,Yg,<-takeWhile_drop r]
   .rfl
 takeWhile_twice {p:UInt8->Bool}:∀{l:List UInt8},(l.takeWhile p).takeWhile p=l.takeWhile p
  | []=>rfl
  | c::r=>by
   rw[Yh];split
   .rename_i h;rw[Yh,zu h,takeWhile_twice]
   .rfl
theorem Kz {r:Rs} (h:(AW r).1.e=0):r.e=0/\∃v,EP v/\r.rest=vW v++(AW r).1.rest/\(AW r).1.seen=r.seen++[v]/\(AW r).2=(r.seen.length:Int):=by
 have he:=tG h;refine⟨he,?_⟩;unfold AW at h ⊢;rw[zu he]at h ⊢
 cases hr:r.rest with
 | nil=>rw[hr]at h;exact absurd h (DF r)
 | cons c q=>
  rw[hr]at h;simp only at h ⊢;split at h
  .rename_i hc;rw[zu hc];split at h
   .exact absurd h (DF _)
   .rename_i hne;rw[zw hne];obtain⟨h1,h2⟩:=YF q;refine⟨⟨ob [c],ob (CQ q)⟩,⟨⟨c,rfl,hc⟩,?_,?_⟩,?_,rfl,rfl⟩
    .simp only[Co];exact h2
    .simp only[Co];exact hne
    .unfold vW;simp only[Co];rw[Yo,<-h1];rfl
  .exact absurd h (DF r)
def LY (big:Bool) (n:ByteArray):Prop:=Dm big true (wb n)=wb n/\wb n≠[]
theorem YG {r:Rs} (h:(Db r).1.e=0):r.e=0/\LY true (Db r).2.role/\(Db r).2.var=(r.seen.length:Int)/\∃v,EP v/\(Db r).1.seen=r.seen++[v]/\∀w,Wt w (r.seen++[v])->r.rest=Dw w (Db r).2++(Db r).1.rest:=by
 unfold Db at h ⊢;simp only at h ⊢;obtain⟨h1,v,h2,h3,h4,h5⟩:=Kz h;obtain⟨h6,h7,h8⟩:=Fi h1;obtain⟨g1,g2,g3,g4,g5⟩:=YE h6;rw[h8,g5]at h4 h5;refine⟨g1,⟨g3,g4⟩,h5,v,h2,h4,λw hw=>?_⟩;have hv:=hw.at_ (b:=[]);unfold Dw;simp only;rw[h5,hv,g2,h7,h3];simp
theorem YH (n:Nat) {r:Rs} (h:r.e≠0) (out:List Ag):Cz n r out=(r,out):=by
 cases n with
 | zero=>rfl
 | succ n=>rw[Cz,zw h]
theorem YI:∀(n:Nat) (r:Rs) (out:List Ag),r.rest.length<n->r.e=0->(Cz n r out).1.e=0 ->
  ∃(l:List Ag) (vs:List Vr),l≠[]/\(Cz n r out).2=out++l/\(Cz n r out).1.seen=r.seen++vs/\vs.length=l.length/\l=plA r.seen.length l/\(∀a∈l,LY true a.role)/\(∀v∈vs,EP v) /\
   ∀w,Wt w (r.seen++vs)->r.rest=Cb [44,32] (l.map (Dw w))++(Cz n r out).1.rest
 | 0,r,out,h,_,_=>by omega
 | n+1,r,out,hl,he,h=>by
  rw[Cz,zu he]at h ⊢
  cases hn:AR 44 (Db r).1 with
  | false=>
   rw[hn,zw (by decide)]at h;rw[zw (by decide)];obtain⟨_,h2,h3,v,h4,h5,h6⟩:=YG h;refine⟨[(Db r).2],[v],by simp,rfl,h5,rfl,?_,λa ha=>by rw[Xn.1 ha];exact h2,λx hx=>by rw[Xn.1 hx];exact h4,λw hw=>h6 w hw⟩
   show [_]=[_]
   congr 1;rw[<-h3]
  | true=>
   rw[hn,zu rfl]at h;rw[zu rfl]
   have hm:(AC [44,32] (Db r).1).e=0:=by
    by_cases e:(AC [44,32] (Db r).1).e=0
    .exact e
    .rw[YH n e]at h;exact h
   obtain⟨a1,a2,a3⟩:=Fi hm;obtain⟨_,h2,h3,v,h4,h5,h6⟩:=YG a1;have hlen:=Gf hn [32];have hlen2:=LW r;obtain⟨l,vs,b1,b2,b3,b4,b5,b6,b7,b8⟩:=YI n (AC [44,32] (Db r).1) (out++[(Db r).2]) (by omega) hm h;rw[a3,h5]at b3 b5 b8;refine⟨(Db r).2::l,v::vs,by simp,by rw[b2];simp,by rw[b3];simp,by simp[b4],?_,λa ha=>?_,λx hx=>?_,λw hw=>?_⟩
   .rw[plA,<-h3];congr 1;simpa using b5
   .rcases Xd.1 ha with rfl | ha
    .exact h2
    .exact b6 a ha
   .rcases Xd.1 hx with rfl | hx
    .exact h4
    .exact b7 x hx
   .have hw':Wt w ((r.seen++[v])++vs):=by simpa using hw
    rw[h6 w hw'.pre,a2,b8 w hw']
    cases l with
    | nil=>exact absurd rfl b1
    | cons a l=>simp[Cb]
theorem YJ {r:Rs} (h:(Ci r).1.e=0):r.e=0/\(Ci r).2.1=(r.seen.length:Int)/\LY false (Ci r).2.2/\∃v,EP v/\(Ci r).1.seen=r.seen++[v]/\r.rest=vW v++58::(wb (Ci r).2.2++40::(Ci r).1.rest):=by
 unfold Ci at h ⊢;simp only at h ⊢;obtain⟨h1,h2,h3⟩:=Fi h;obtain⟨g1,g2,g3,g4,g5⟩:=YE h1;obtain⟨k1,k2,k3⟩:=Fi g1;obtain⟨l1,v,l2,l3,l4,l5⟩:=Kz k1;refine⟨l1,l5,⟨g3,g4⟩,v,l2,by rw[h3,g5,k3,l4],?_⟩;rw[l3,k2,g2,h2];rfl
structure WfE (x:Ep):Prop where
 pred:LY false x.pred
 roles:∀a∈x.args,LY true a.role
theorem tK {r:Rs} {c:UInt8} (h:AR c r=true):r.rest=c::(EB r).rest/\(EB r).e=0/\(EB r).seen=r.seen:=by
 obtain⟨h1,q,h2⟩:=Jk h;unfold EB;simp only;rw[h2];exact⟨rfl,h1,trivial⟩
theorem YK {n:Nat} {r:Rs} (hl:r.rest.length<n) (h:(Bl n r).1.e=0):r.e=0/\WfE (Bl n r).2/\(Bl n r).2=plE r.seen.length (Bl n r).2 /\
  ∃vs:List Vr,vs.length=1+(Bl n r).2.args.length/\(∀v∈vs,EP v)/\(Bl n r).1.seen=r.seen++vs/\∀w,Wt w (r.seen++vs)->r.rest=Dc w (Bl n r).2++(Bl n r).1.rest:=by
 unfold Bl at h ⊢;have hh:=LX r
 cases hn:AR 41 (Ci r).1 with
 | true=>
  rw[zu rfl];obtain⟨e0,_⟩:=Jk hn;obtain⟨h1,h2,h3,v,h4,h5,h6⟩:=YJ e0;obtain⟨k1,k2,k3⟩:=tK hn;refine⟨h1,⟨h3,λa ha=>by cases ha⟩,?_,[v],rfl,λx hx=>by rw[Xn.1 hx];exact h4,by rw[k3,h5],λw hw=>?_⟩
  .unfold plE;simp only;rw[h2];rfl
  .have hv:=hw.at_ (b:=[]);unfold Dc;simp only[X2];rw[h2,hv,h6,k1];simp[Cb]
 | false=>
  rw[hn,zw (by decide)]at h;rw[zw (by decide)];obtain⟨k1,k2,k3⟩:=Fi h
  have he:(Ci r).1.e=0:=by
   by_cases e:(Ci r).1.e=0
   .exact e
   .rw[YH n e]at k1;exact k1
  obtain⟨h1,h2,h3,v,h4,h5,h6⟩:=YJ he;obtain⟨l,vs,b1,b2,b3,b4,b5,b6,b7,b8⟩:=YI n (Ci r).1 [] (by omega) he k1;rw[X0]at b2;rw[h5]at b3 b5 b8;simp only;rw[b2];refine⟨h1,⟨h3,b6⟩,?_,v::vs,by simp only[Xf];omega,λx hx=>?_,by rw[k3,b3];simp,λw hw=>?_⟩
  .unfold plE;simp only;rw[h2];congr 1;simpa using b5
  .rcases Xd.1 hx with rfl | hx
   .exact h4
   .exact b7 x hx
  .have hw':Wt w ((r.seen++[v])++vs):=by simpa using hw
   have hv:=hw'.pre.at_ (b:=[]);unfold Dc;simp only;rw[h2,hv,h6,b8 w hw',k2];simp
theorem YL {r:Rs} (h:(Eu r).e=0):Eu r=AC [59,32] r/\(AC [59,32] r).e=0:=by
 unfold Eu at h ⊢
 cases hn:AR 125 (AC [59,32] r)with
 | true=>rw[hn,zu rfl]at h;exact absurd h (DF _)
 | false=>
  rw[hn,zw (by decide)]at h;rw[zw (by decide)];exact⟨rfl,h⟩
theorem YM (k:Nat):∀(n:Nat) (r:Rs) (out:List Ep),r.rest.length<n->r.rest.length<k->r.e=0->(BW k n r out).1.e=0 ->
  ∃(l:List Ep) (vs:List Vr),(AR 125 r=false->l≠[])/\(BW k n r out).2=out++l/\(BW k n r out).1.seen=r.seen++vs/\vs.length=nE l/\l=GH r.seen.length l/\(∀x∈l,WfE x)/\(∀v∈vs,EP v) /\
   ∀w,Wt w (r.seen++vs)->r.rest=Cb [59,32] (l.map (Dc w))++(BW k n r out).1.rest
 | 0,r,out,h,_,_,_=>by omega
 | n+1,r,out,hl,hk,he,h=>by
  cases hb:AR 125 r with
  | true=>
   rw[QF hb];exact⟨[],[],λh=>(by cases h),by simp,by simp,rfl,rfl,λx hx=>(by cases hx),λv hv=>(by cases hv),λw _=>rfl⟩
  | false=>
   rw[QE he hb]at h ⊢
   cases hn:AR 59 (Bl k r).1 with
   | false=>
    rw[hn,zw (by decide)]at h;rw[zw (by decide)];obtain⟨_,h2,h3,vs,h4,h5,h6,h7⟩:=YK hk h;refine⟨[(Bl k r).2],vs,λ_=>by simp,rfl,h6,by rw[nE,nE,h4];rfl,?_,λx hx=>by rw[Xn.1 hx];exact h2,h5,λw hw=>h7 w hw⟩;rw[GH,GH,<-h3]
   | true=>
    rw[hn,zu rfl]at h;rw[zu rfl];have hse:=YC h;obtain⟨s1,s2⟩:=YL hse;rw[s1]at h ⊢;obtain⟨a1,a2,a3⟩:=Fi s2;obtain⟨_,h2,h3,vs0,h4,h5,h6,h7⟩:=YK hk a1;have hlen:=Gf hn [32];have hlen2:=Iu k r
    have hnb:AR 125 (AC [59,32] (Bl k r).1)=false:=by
     cases e:AR 125 (AC [59,32] (Bl k r).1)with
     | false=>rfl
     | true=>
      exfalso;unfold Eu at hse;rw[e,zu rfl]at hse;exact DF _ hse
    obtain⟨l,vs,b0,b2,b3,b4,b5,b6,b7,b8⟩:=YM k n (AC [59,32] (Bl k r).1) (out++[(Bl k r).2]) (by omega) (by omega) s2 h;have b1:=b0 hnb;rw[a3,h6]at b3 b5 b8;refine⟨(Bl k r).2::l,vs0++vs,λ_=>by simp,by rw[b2];simp,by rw[b3];simp,by rw[Xg,h4,b4,nE],?_,λa ha=>?_,λx hx=>?_,λw hw=>?_⟩
    .rw[GH,<-h3];congr 1;rw[<-h4];rw[Xg]at b5;exact b5
    .rcases Xd.1 ha with rfl | ha
     .exact h2
     .exact b6 a ha
    .rcases Xq.1 hx with hx | hx
     .exact h5 x hx
     .exact b7 x hx
    .have hw':Wt w ((r.seen++vs0)++vs):=by simpa using hw
     rw[h7 w hw'.pre,a2,b8 w hw']
     cases l with
     | nil=>exact absurd rfl b1
     | cons a l=>simp[Cb]
theorem YN {r:Rs} (h:(Bw r).1.e=0):r.e=0/\(Bw r).2=⟨(r.seen.length:Int),((r.seen.length+1:Nat):Int)⟩/\∃vs:List Vr,vs.length=2/\(∀v∈vs,EP v)/\(Bw r).1.seen=r.seen++vs/\∀w,Wt w (r.seen++vs)->r.rest=Eh w (Bw r).2++(Bw r).1.rest:=by
 unfold Bw at h ⊢;simp only at h ⊢;obtain⟨h1,v,h2,h3,h4,h5⟩:=Kz h;obtain⟨k1,k2,k3⟩:=Fi h1;obtain⟨l1,u,l2,l3,l4,l5⟩:=Kz k1;rw[k3,l4]at h4 h5;refine⟨l1,by rw[l5,h5];simp,[u,v],rfl,λx hx=>?_,by rw[h4];simp,λw hw=>?_⟩
 .simp only[Xd,Ys,or_false]at hx;rcases hx with rfl | rfl
  .exact l2
  .exact h2
 .have hw':Wt w ((r.seen++[u])++[v]):=by simpa using hw
  have e1:=hw'.pre.at_ (b:=[]);have e2:=hw'.at_ (b:=[]);unfold Eh;simp only;rw[l5,h5,e1,e2,l3,k2,h3];simp
theorem YO:∀(n:Nat) (r:Rs) (out:List Qq),r.rest.length<n->r.e=0->(C7 n r out).1.e=0 ->
  ∃(l:List Qq) (vs:List Vr),(AR 125 r=false->l≠[])/\(C7 n r out).2=out++l/\(C7 n r out).1.seen=r.seen++vs/\vs.length=2*l.length/\l=HH r.seen.length l/\(∀v∈vs,EP v) /\
   ∀w,Wt w (r.seen++vs)->r.rest=Cb [59,32] (l.map (Eh w))++(C7 n r out).1.rest
 | 0,r,out,h,_,_=>by omega
 | n+1,r,out,hl,he,h=>by
  cases hb:AR 125 r with
  | true=>
   rw[QH hb];exact⟨[],[],λh=>(by cases h),by simp,by simp,rfl,rfl,λv hv=>(by cases hv),λw _=>rfl⟩
  | false=>
   rw[QG he hb]at h ⊢
   cases hn:AR 59 (Bw r).1 with
   | false=>
    rw[hn,zw (by decide)]at h;rw[zw (by decide)];obtain⟨_,h3,vs,h4,h5,h6,h7⟩:=YN h;refine⟨[(Bw r).2],vs,λ_=>by simp,rfl,h6,by rw[h4];rfl,?_,h5,λw hw=>h7 w hw⟩;rw[HH,HH,<-h3]
   | true=>
    rw[hn,zu rfl]at h;rw[zu rfl];have hse:=QK h;obtain⟨s1,s2⟩:=YL hse;rw[s1]at h ⊢;obtain⟨a1,a2,a3⟩:=Fi s2;obtain⟨_,h3,vs0,h4,h5,h6,h7⟩:=YN a1;have hlen:=Gf hn [32];have hlen2:=Oo r
    have hnb:AR 125 (AC [59,32] (Bw r).1)=false:=by
     cases e:AR 125 (AC [59,32] (Bw r).1)with
     | false=>rfl
     | true=>
      exfalso;unfold Eu at hse;rw[e,zu rfl]at hse;exact DF _ hse
    obtain⟨l,vs,b0,b2,b3,b4,b5,b7,b8⟩:=YO n (AC [59,32] (Bw r).1) (out++[(Bw r).2]) (by omega) s2 h;have b1:=b0 hnb;rw[a3,h6]at b3 b5 b8;refine⟨(Bw r).2::l,vs0++vs,λ_=>by simp,by rw[b2];simp,by rw[b3];simp,by rw[Xg,h4,b4,Xf];omega,?_,λx hx=>?_,λw hw=>?_⟩
    .rw[HH,<-h3];congr 1;rw[Xg,h4]at b5;exact b5
    .rcases Xq.1 hx with hx | hx
     .exact h5 x hx
     .exact b7 x hx
    .have hw':Wt w ((r.seen++vs0)++vs):=by simpa using hw
     rw[h7 w hw'.pre,a2,b8 w hw']
     cases l with
     | nil=>exact absurd rfl b1
     | cons a l=>simp[Cb]
theorem tL {r:Rs} (h:(BG r).1.e=0):r.e=0/\(BG r).2.1=(r.seen.length:Int)/\(BG r).2.2=((r.seen.length+1:Nat):Int)/\∃u v,EP u/\EP v/\(BG r).1.seen=r.seen++[u,v]/\r.rest=vW u++32::(vW v++32::123::(BG r).1.rest):=by
 unfold BG at h ⊢;simp only at h ⊢;obtain⟨h1,h2,h3⟩:=Fi h;obtain⟨k1,v,k2,k3,k4,k5⟩:=Kz h1;obtain⟨g1,g2,g3⟩:=Fi k1;obtain⟨l1,u,l2,l3,l4,l5⟩:=Kz g1;rw[g3,l4]at k4 k5;refine⟨l1,l5,by rw[k5];simp,u,v,l2,k2,by rw[h3,k4];simp,?_⟩;rw[l3,g2,k3,h2];rfl
theorem QO:∀l:List Qq,(l.flatMap BE).length=2*l.length
 | []=>rfl
 | c::l=>by rw[Xz,Xg,QO l];simp[BE];omega
theorem Ov {n:Nat} {s:List UInt8} (hl:s.length<n) (h:(Dn n ⟨s,0,[]⟩).1.e=0):∃(m:Mr) (seen:List Vr),Dn n ⟨s,0,[]⟩=(⟨[],0,seen⟩,m)/\m=plM m/\seen.length=(occ m).length/\(∀v∈seen,EP v)/\(∀x∈m.rels,WfE x)/\∀w,Wt w seen->s=Ky w m:=by
 obtain⟨e1,e2,e3⟩:=YB _ h;obtain⟨c1,c2,c3⟩:=Fi e2;have hr0:=Ou ⟨s,0,[]⟩;have hr1:=QI n n (BG ⟨s,0,[]⟩).1 [];have hr2:=DG [125,32,123] (BW n n (BG ⟨s,0,[]⟩).1 []).1;simp only at hr0;have d0:=QK c1;obtain⟨d1,d2,d3⟩:=Fi d0;have t0:=YC d1;obtain⟨_,t2,t3,u,v,t4,t5,t6,t7⟩:=tL t0;obtain⟨l,vs,_,b2,b3,b4,b5,b6,b7,b8⟩:=YM n n (BG ⟨s,0,[]⟩).1 [] (by omega) (by omega) t0 d1;obtain⟨cl,us,_,f2,f3,f4,f5,f7,f8⟩:=YO n (AC [125,32,123] (BW n n (BG ⟨s,0,[]⟩).1 []).1) [] (by omega) d0 c1;rw[t6]at b3 b5 b8;rw[X0]at b2 f2;rw[d3,b3]at f3 f5 f8;simp only[X0]at t2 t3 t7 t6 b3 b5 b8 f3 f5 f8
 have hseen:(AC [125] (C7 n (AC [125,32,123] (BW n n (BG ⟨s,0,[]⟩).1 []).1) []).1).seen=([u,v]++vs)++us:=by rw[c3,f3]
 refine⟨⟨(BG ⟨s,0,[]⟩).2.1,(BG ⟨s,0,[]⟩).2.2,[],l,cl⟩,([u,v]++vs)++us,?_,?_,?_,λx hx=>?_,b6,λw hw=>?_⟩
 .show(D4 (AC [125] (C7 n (AC [125,32,123] (BW n n (BG ⟨s,0,[]⟩).1 []).1) []).1),Mr.mk _ _ _ (BW n n (BG ⟨s,0,[]⟩).1 []).2 (C7 n (AC [125,32,123] (BW n n (BG ⟨s,0,[]⟩).1 []).1) []).2)=_;rw[b2,f2,e1]
  have:AC [125] (C7 n (AC [125,32,123] (BW n n (BG ⟨s,0,[]⟩).1 []).1) []).1=⟨[],0,([u,v]++vs)++us⟩:=by
   have key:∀(R:Rs) (X:List Vr),R.rest=[]->R.e=0->R.seen=X->R=⟨[],0,X⟩:=λ⟨a,b,c⟩ X h1 h2 h3=>by
    simp only at h1 h2 h3;rw[h1,h2,h3]
   exact key _ _ e3 e2 hseen
  rw[this]
 .unfold plM;simp only;rw[t2,t3];have g1:l=GH 2 l:=b5
  have g2:([u,v]++vs).length=2+nE l:=by rw[Xg,b4];rfl
  rw[g2]at f5;rw[<-g1,<-f5];rfl
 .unfold occ;simp only[Xf,Xg,Yn];rw[b4,QN,f4];rw[QO];omega
 .rcases Xq.1 hx with hx | hx
  .rcases Xq.1 hx with hx | hx
   .simp only[Xd,Ys,or_false]at hx;rcases hx with rfl | rfl
    .exact t4
    .exact t5
   .exact b7 x hx
  .exact f7 x hx
 .have w1:=hw.pre;have w2:=w1.pre;have wu:=w2 0 u rfl;have wv:=w2 1 v rfl;have q1:=b8 w w1;have q2:=f8 w hw;unfold Ky;simp only;rw[t2,t3];have wu:w 0=vW u:=wu;have wv:w 1=vW v:=wv;show s=w 0++32::(w 1++32::123::_);rw[wu,wv,t7,q1,d2,q2,c2,e3];simp
def nmV (v:Vr):Int:=(Cl (wb v.digits)).1
def Fj (l:List Vr):Option (List Int):=if l.all (λv=>decide ((Cl (wb v.digits)).2=0))then some (l.map nmV)else none
def BX:List Vr->List Vr->Bool
 | _,[]=>false
 | acc,x::r=>(acc.any λy=>decide (nmV y=nmV x) && !decide (y.sort=x.sort))||BX (acc++[x]) r
def Bx (l:List Vr) (n:Int):ByteArray:=((l.find? λv=>decide (nmV v=n)).map Vr.sort).getD ⟨#[]⟩
def Ei (ns:List Int):Nat:=(Bo [] ns).length
def Dx (ns:List Int):Bool:=ns.all λn=>decide (n<(Ei ns:Int))
def toV (ns:List Int) (p:Int):Int:=ns.getD p.toNat 0
def GJ (raw:Mr) (l:List Vr):Mr:=⟨toV (l.map nmV) raw.top,toV (l.map nmV) raw.index,(upN (Ei (l.map nmV))).map (Bx l),raw.rels.map (Bu (toV (l.map nmV))),raw.cons.map (Bv (toV (l.map nmV)))⟩
def LZ (raw:Mr) (l:List Vr):Except Int Mr:=
 match Fj l with
 | none=>.error 2
 | some ns=>if BX [] l=true then .error 17 else if Dx ns=false then .error 3 else
  if Dl AN (GJ raw l)≠0 then .error (Dl AN (GJ raw l))else .ok (GJ raw l)
def DB (s:List UInt8):Except Int Mr:=
 if 65536<s.length then .error 7
 else if(Dn (s.length+1) ⟨s,0,[]⟩).1.e≠0 then .error (Dn (s.length+1) ⟨s,0,[]⟩).1.e
 else LZ (Dn (s.length+1) ⟨s,0,[]⟩).2 (Dn (s.length+1) ⟨s,0,[]⟩).1.seen
theorem QP {l:List Vr} {ns:List Int} (h:Fj l=some ns):ns=l.map nmV/\∀v∈l,Cl (wb v.digits)=(nmV v,0):=by
 unfold Fj at h;split at h
 .rename_i hc;injection h with h;refine⟨h.symm,λv hv=>?_⟩;have:=of_decide_eq_true (List.all_eq_true.1 hc v hv);rw[<-this];rfl
 .cases h
theorem tM {raw:Mr} {l:List Vr} {m:Mr} (h:LZ raw l = .ok m):m=GJ raw l/\Dl AN m=0/\BX [] l=false/\Dx (l.map nmV)=true/\∀v∈l,Cl (wb v.digits)=(nmV v,0):=by
 unfold LZ at h
 cases hn:Fj l with
 | none=>rw[hn]at h;cases h
 | some ns=>
  rw[hn]at h;obtain⟨h1,h2⟩:=QP hn;subst h1;simp only at h;split at h
  .cases h
  rename_i h3;split at h
  .cases h
  rename_i h4;by_cases h5:Dl AN (GJ raw l)=0
  .rw[zw (λe=>e h5)]at h;injection h with h;subst h;exact⟨rfl,h5,by simpa using h3,by simpa using h4,h2⟩
  .rw[zu h5]at h;cases h
theorem YP {v:Vr} (hv:EP v):0<=nmV v:=by
 unfold nmV;have hd:=hv.digits
 cases hw:wb v.digits with
 | nil=>exact absurd hw hv.ne
 | cons c q=>
  rw[hw,CQ]at hd;split at hd
  .rename_i hc;have h45:¬c=45:=nU hc;rw[U7];split
   .exact Int.le_refl _
   .rw[zw (by simpa using h45)];split
    .exact Int.natCast_nonneg _
    .exact Int.le_refl _
  .cases hd
theorem YQ:∀{l:List Ag} {p:Option ByteArray},Fx AN p l=0->∀a∈l,AN true a.role=true
 | [],p,_,a,ha=>by cases ha
 | x::r,p,h,a,ha=>by
  rw[Fx]at h;split at h
  .cases h
  rename_i h1;split at h
  .cases h
  rcases Xd.1 ha with rfl | ha
  .cases e:AN true a.role with
   | true=>rfl
   | false=>exact absurd (.inl e) h1
  .exact YQ h a ha
theorem QQ {x:Ep} (h:Dk AN x=0):AN false x.pred=true/\∀a∈x.args,AN true a.role=true:=by
 unfold Dk at h;split at h
 .cases h
 rename_i h1;exact⟨by simpa using h1,YQ h⟩
theorem QR {s:ByteArray} (h:Cr s=true):∃c,s=ob [c]/\GF c=true:=by
 unfold Cr at h;simp only[Bool.or_eq_true,decide_eq_true_iff]at h;rcases h with h | h | h | h
 .exact⟨104,h,rfl⟩
 .exact⟨101,h,rfl⟩
 .exact⟨120,h,rfl⟩
 .exact⟨105,h,rfl⟩
end Go.Proofs.YtmgjopafgboljaaGreatDoor
