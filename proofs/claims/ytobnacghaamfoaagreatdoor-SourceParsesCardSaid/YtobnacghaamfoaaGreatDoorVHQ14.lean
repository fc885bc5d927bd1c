/- Auxiliary facts. -/
import Derived.Test.YtobnacghaamfoaaGreatDoorVHQ13
import Derived.Lib.CountLaws
import Derived.Lib.CutLaws
set_option linter.unusedSimpArgs false
set_option maxRecDepth 100000
set_option maxHeartbeats 0
set_option linter.unusedVariables false
open Go.Proofs.Tryz renaming prog->Xa
open Go.IntKind renaming i64->Xb
open Nat renaming le_refl->Xc,lt_of_lt_of_le->Xu,zero_le->X0,add_sub_cancel_left->X4,lt_or_ge->X8,lt_succ_self->Yl,le_trans->Yn,le_succ->Yp
open List renaming map_cons->Xd,getElem?_eq_getElem->Xe,getElem?_eq_some_iff->Xf,map_nil->Xg,mem_cons->Xi,length_append->Xj,all_eq_true->Xm,getElem?_map->Xn,mem_append->Xp,mem_singleton->Xq,drop_eq_getElem_cons->Xr,length_drop->Xs,length_map->Xt,cons_append->Xv,nil_append->Xw,isEmpty->Xx,length_singleton->Xy,take_of_length_le->Xz,mem_of_getElem?->X1,drop_eq_nil_of_le->X2,takeWhile_cons->X3,mem_cons_of_mem->X5,mem_cons_self->X6,map_map->X7,filterMap_cons->Ya,length_cons->Yb,take->Yc,getElem_of_mem->Yd,append_nil->Ye,getElem?_drop->Yi,isPrefixOf_iff_prefix->Yk,getElem?_take->Yo,not_mem_nil->Yq,all_eq_false->Yr,any_eq_true->Ys,any_eq_false->Yt,map_append->Yu,takeWhile_sublist->Yv,length_take->Yy,head?_cons->Yz,append_assoc->Y2,length_nil->Y3,mem_zipIdx_iff_getElem?->Y8,mem_filter->Y9,foldl_cons->Za,foldl_nil->Zb,filterMap->Zc,filter_cons->Zd
open Bool renaming and_eq_true->Xh,false_eq_true->Xk,or_eq_true->X9,true_and->Yg,or_false->Yh,or_self->Yj,not_false->Yw,false_and->Yx,or_eq_true_iff->Y1,false_or->Y6,not_eq_true'->Y7
open Option renaming map_some->Xl,map_eq_some_iff->Xo,any_some->Y0
open UInt8 renaming toNat_inj->Yf
open Array renaming getElem?_eq_getElem->Ym,replicate->Y4,getD_eq_getD_getElem?->Y5
namespace Go.Proofs.YtobnacghaamfoaaGreatDoor
open Go Go.Abs
def BQ:List UInt8->List UInt8->List (List UInt8)
 | acc,[]=>[acc]
 | acc,c::r=>if c=32 then acc::BQ [] r else BQ (acc++[c]) r
theorem YR:∀(l acc:List UInt8),32∉l->BQ acc l=[acc++l]
 | [],acc,_=>by simp[BQ]
 | c::r,acc,h=>by
  have hc:¬c=32:=λe=>h (by simp[e]);rw[BQ,zz hc,YR r _ (λe=>h (by simp[e]))];simp
theorem YS:∀(w acc r:List UInt8),32∉w->BQ acc (w++32::r)=(acc++w)::BQ [] r
 | [],acc,r,_=>by simp[BQ]
 | c::w,acc,r,h=>by
  have hc:¬c=32:=λe=>h (by simp[e]);rw[Xv,BQ,zz hc,YS w _ r (λe=>h (by simp[e]))];simp
theorem RO:∀(l:List UInt8) (c:UInt8),Lib.indexByte l c = -1->c∉l
 | [],c,_=>by simp
 | b::l,c,h=>by
  have hge:=Lib.indexByte_ge l c;rw[Lib.indexByte]at h;split at h
  .cases h
  .rename_i hb;split at h
   .rename_i h1;have:=RO l c (by simpa using h1);simp only[Xi,not_or];exact⟨λe=>hb (by simp[e]),this⟩
   .rename_i h1
    have:¬Lib.indexByte l c = -1:=by simpa using h1
    omega
theorem RP:∀(l:List UInt8) (c:UInt8) (i:Nat),Lib.indexByte l c=i->∃w r,l=w++c::r/\w.length=i/\c∉w
 | [],c,i,h=>by rw[Lib.indexByte]at h;omega
 | b::l,c,i,h=>by
  have hge:=Lib.indexByte_ge l c;rw[Lib.indexByte]at h;split at h
  .rename_i hb
   have e:b=c:=by simpa using hb
   subst e;exact⟨[],l,rfl,by simp;omega,by simp⟩
  .rename_i hb;split at h
   .omega
   .rename_i h1
    have h2:¬Lib.indexByte l c = -1:=by simpa using h1
    obtain⟨w,r,e,hl,hn⟩:=RP l c (i-1) (by omega);refine⟨b::w,r,by rw[e];rfl,by simp;omega,?_⟩;simp only[Xi,not_or];exact⟨λe=>hb (by simp[e]),hn⟩
abbrev spB:ByteArray:=⟨#[32]⟩
theorem RQ:∀(n:Nat) (s:ByteArray),s.size<=n->Lib.splitB spB 0 (Lib.countB s spB) s=(BQ [] s.data.toList).map bs
 | n,s,hn=>by
  have hix:Lib.indexB s spB=Lib.indexByte s.data.toList 32:=Lib.index_one _ _;rcases Lib.indexB_cases s spB with h | ⟨i,h,hi⟩
  .rw[Lib.splitB_miss _ _ _ _ h,YR _ _ (RO _ _ (by rw[<-hix];exact h))];simp only[Xw,Xd,Xg,GZ]
  .have hc:=Lib.countB_hit s spB i (by decide) h;obtain⟨w,r,e,hl,hw⟩:=RP _ _ i (by rw[<-hix];exact h);rw[hc,Nat.add_comm,Lib.splitB_hit _ _ _ _ i h];have hlen:s.data.toList.length=s.size:=rfl
   have e1:(s.extract (i+spB.size) s.size).data.toList=r:=by
    rw[Lib.extract_data,e];rw[e]at hlen;simp only[Xj,Yb]at hlen;show Yc (s.size-(i+1)) (List.drop (i+1) (w++32::r))=r
    have h4:List.drop (i+1) (w++32::r)=r:=by
     rw[<-hl,show w++32::r=(w++[32])++r by simp];exact List.drop_left' (by simp)
    rw[h4];exact Xz (by omega)
   have e2:s.extract 0 (i+0)=bs w:=by
    rw[<-GZ (s.extract 0 (i+0)),Lib.extract_data,e];congr 1;simp[<-hl]
   cases n with
   | zero=>rw[show s.size=0 by omega]at hlen;rw[e]at hlen;simp at hlen
   | succ n=>
    rw[RQ n _ (by
     have:(s.extract (i+spB.size) s.size).data.toList.length=r.length:=by rw[e1]
     have h3:(s.extract (i+spB.size) s.size).size=r.length:=this;rw[h3];rw[e]at hlen;simp at hlen
     omega),e1,e2,e,YS w [] r hw]
    rfl
variable {q : Gl}
def prt (c:UInt8):Bool:=decide (32<=c.toNat)&&decide (c.toNat<=126)
def Ek (l:List UInt8):Option (List (List UInt8)):=
 if l.all prt then(if l.isEmpty then some []else if(BQ [] l).any Xx then none else some (BQ [] l))else none
def CX (l:List UInt8):T:=match Ek l with
 | none=>.tu [Ad,iv 8]
 | some ws=>.tu [Am Aj (ws.map bs),iv 0]
theorem Pn (c:UInt8):prt c = !(decide ((c.toNat:Int)<32)||decide (126<(c.toNat:Int))):=by
 have e1:decide ((c.toNat:Int)<32) = !decide (32<=c.toNat):=by
  by_cases h:32<=c.toNat
  .rw[zw h,zx (by omega)];rfl
  .rw[zx h,zw (by omega)];rfl
 have e2:decide (126<(c.toNat:Int)) = !decide (c.toNat<=126):=by
  by_cases h:c.toNat<=126
  .rw[zw h,zx (by omega)];rfl
  .rw[zx h,zw (by omega)];rfl
 rw[e1,e2,prt];cases decide (32<=c.toNat)<;>cases decide (c.toNat<=126)<;>rfl
noncomputable def YT:Tbl:=[(116,Pj)]
theorem Jl:Ctx Xa (G q) (orc YT):=(A5.cons rZ .nil).ctx mixed
def Po (s:ByteArray):Ac:=⟨[(0,.t (sv s))],[],0,38⟩
def Jm (s:ByteArray) (j:Nat):Ac:=⟨[(4,.t (iv (j:Int))),(0,.t (sv s))],[],0,38⟩
def G8 (ws:List ByteArray) (j:Nat):Ac:=⟨[(30,.t (iv (j:Int))),(29,.t (iv (ws.length:Int))),(28,.t (slT Aj ws)),(5,.t (slT Aj ws))],[],0,38⟩
def OkP (s:ByteArray) (j:Nat):Prop:=j<=s.size/\∀(i:Nat) c,i<j->s.data.toList[i]?=some c->prt c=true
def OkE (ws:List ByteArray) (j:Nat):Prop:=j<=ws.length/\∀(i:Nat) w,i<j->ws[i]?=some w->w.data.toList.isEmpty=false
def tE (l:List UInt8):Prop:=l.all prt=true
def tF (ws:List ByteArray):Prop:=OkE ws ws.length
theorem tG (s:ByteArray) (hs:s.size<=4294967280):AA Xa (G q) 98 [sv s] (· = CX s.data.toList):=by
 refine nT.call rfl ?_;(conv in Vx=>cbv)
 obtain⟨l,hl⟩:∃l,l=s.data.toList:=⟨_,rfl⟩
 have hlen:l.length=s.size:=by rw[hl];rfl
 rw[<-hl]
 have es:(s.toList==[])=l.isEmpty:=by rw[stl,<-hl,Fv]
 refine Az Jl ?_;simp -implicitDefEqProofs;refine Az Jl ?_
 cases he:l.isEmpty with
 | true=>
  have hl0:l=[]:=by simpa using he
  simp -implicitDefEqProofs [CM,es,he];simp -implicitDefEqProofs [hl0,CX,Ek,Am]
 | false=>
 simp -implicitDefEqProofs [CM,es,he]
 have bad:(l.all prt)=false->CX l = .tu [Ad,iv 8]:=by
  intro h;simp[CX,Ek,h]
 refine BM (α:=Unit) (λ_=>Po s) (λ_=>tE l) (λ_=>rfl) ?_ ?_
 .refine Az Jl ?_;simp -implicitDefEqProofs;refine BI ?_;refine CV (Jm s) (λj=>s.size-j) (OkP s) 0 (λ_=>rfl) ⟨X0 _,λi c h=>by omega⟩ ?_ rfl ?_
  .refine AJ rfl rfl ?_ ?_<;>simp -implicitDefEqProofs [Jm]
  .rintro j ⟨hj,hok⟩;refine Aw Jl ?_;by_cases hlt:j<s.size
   .obtain⟨x,hx⟩:∃x,s.data.toList[j]?=some x:=⟨_,Xe hlt⟩
    have ixj:=Dw s j x hx;have e1:Xb.wrap ((j:Int)+1)=((j+1:Nat):Int):=AH (by omega) (by omega);have hk:=Pn x
    have hb:prt x=false->CX l = .tu [Ad,iv 8]:=by
     intro h;refine bad ?_;rw[Yr];exact⟨x,by rw[hl];exact X1 hx,by rw[h];simp⟩
    cases t1:decide ((x.toNat:Int)<32)with
    | true=>rw[t1]at hk;simp -implicitDefEqProofs [Jm,hlt,ixj,t1,hb hk]
    | false=>
     cases t2:decide (126<(x.toNat:Int))with
     | true=>rw[t1,t2]at hk;simp -implicitDefEqProofs [Jm,hlt,ixj,t1,t2,hb hk]
     | false=>
      rw[t1,t2]at hk;simp -implicitDefEqProofs [Jm,hlt,ixj,t1,t2,e1];refine Aq.mk (j+1) ⟨⟨hlt,λi y hi hy=>?_⟩,by omega⟩ (AJ rfl rfl (by simp -implicitDefEqProofs [Jm]) (by simp -implicitDefEqProofs [Jm]));by_cases e:i=j
      .subst e;rw[hx]at hy;injection hy with hy;subst hy;exact hk
      .exact hok i y (by omega) hy
   .have e:j=s.size:=by omega
    subst e;simp -implicitDefEqProofs [Jm];refine Aq.mk () ?_ (AJ rfl rfl (by simp -implicitDefEqProofs [Po]) (by simp -implicitDefEqProofs [Po]));show l.all prt=true;rw[Xm,hl];intro x hx;obtain⟨i,hi,e⟩:=Yd hx;exact hok i x hi (by rw[Xe hi,e])
 rintro _ hall;have hall:l.all prt=true:=hall
 obtain⟨ws,hws⟩:∃ws,ws=(BQ [] l).map bs:=⟨_,rfl⟩
 have q1:Pj [.v (.string s),.v (.string ⟨#[32]⟩)]=some (slT Aj ws):=by
  rw[Pj,E2 (τ:=BX) (σ:=BX) (x:=s) (y:=⟨#[32]⟩) rfl rfl,zy ⟨by omega,by decide⟩,RQ s.size s (Xc _),hws,hl]
 have hlw:Bd (.t (slT Aj ws))=some (.t (iv (ws.length:Int))):=(IsS.mk (e:=Aj) ws).len
 have hwl:ws.length<=4294967281:=by
  have h1:=Lib.splitB_all spB (by decide) 0 _ s rfl;rw[RQ s.size s (Xc _),<-hl,<-hws]at h1;have h2:=Lib.countB_le spB (by decide) s.size s (Xc _);omega
 refine Az Jl ?_;simp -implicitDefEqProofs [Po,YT,q1];refine BM (α:=Unit) (λ_=>G8 ws ws.length) (λ_=>tF ws) (λ_=>rfl) ?_ ?_
 .refine Az Jl ?_;simp -implicitDefEqProofs [hlw];refine BI ?_;refine CV (G8 ws) (λj=>ws.length-j) (OkE ws) 0 (λ_=>rfl) ⟨X0 _,λi c h=>by omega⟩ ?_ rfl ?_
  .refine AJ rfl rfl ?_ ?_<;>simp -implicitDefEqProofs [G8]
  .rintro j ⟨hj,hok⟩;refine Aw Jl ?_;by_cases hlt:j<ws.length
   .obtain⟨x,hx⟩:∃x,ws[j]?=some x:=⟨_,Xe hlt⟩
    have ia:=(IsS.mk (e:=Aj) ws).iaddr hx .i64;have e1:Xb.wrap ((j:Int)+1)=((j+1:Nat):Int):=AH (by omega) (by omega);have ld:Ao false 1 [] (.t (.pt (Aj.enc x++AY Aj ws j)))=some (.t (sv x)):=rfl;have ia':Bm 1 (.t (slT Aj ws)) (.t (iv (j:Int)))=some (.t (.pt (Aj.enc x++AY Aj ws j))):=ia
    have ex:(x.toList==[])=x.data.toList.isEmpty:=by rw[stl,Fv]
    cases hxe:x.data.toList.isEmpty with
    | true=>
     have hw:CX l = .tu [Ad,iv 8]:=by
      have:(BQ [] l).any Xx=true:=by
       rw[Ys];have hx':=hx;rw[hws,Xn]at hx';obtain⟨y,hy,e⟩:=Xo.1 hx';refine⟨y,X1 hy,?_⟩
       have:x.data.toList=y:=by rw[<-e]
       rw[<-this];exact hxe
      simp[CX,Ek,hall,he,this]
     rw[hxe]at ex;simp -implicitDefEqProofs [G8,hlt,ia',ld,CM,ex,hw]
    | false=>
     rw[hxe]at ex;simp -implicitDefEqProofs [G8,hlt,ia',ld,CM,ex,e1];refine Aq.mk (j+1) ⟨⟨hlt,λi y hi hy=>?_⟩,by omega⟩ (AJ rfl rfl (by simp -implicitDefEqProofs [G8]) (by simp -implicitDefEqProofs [G8]));by_cases e:i=j
     .subst e;rw[hx]at hy;injection hy with hy;subst hy;exact hxe
     .exact hok i y (by omega) hy
   .have e:j=ws.length:=by omega
    subst e;simp -implicitDefEqProofs [G8];exact Aq.mk () ⟨hj,hok⟩ (AJ rfl rfl (by simp -implicitDefEqProofs [G8]) (by simp -implicitDefEqProofs [G8]))
 rintro _ hne;refine Aw Jl ?_
 have hw:CX l = .tu [slT Aj ws,iv 0]:=by
  have h1:(BQ [] l).any Xx=false:=by
   rw[Yt];intro y hy;obtain⟨i,hi,e⟩:=Yd hy
   have h2:ws[i]?=some (bs y):=by rw[hws,Xn,Xe hi,e];rfl
   have h3:=hne.2 i (bs y) ((Xf.1 h2).1) h2
   have h4:y.isEmpty=false:=by simpa using h3
   simp[h4]
  have h2:Am Aj ws=slT Aj ws:=by
   cases hw:ws with
   | nil=>
    rw[hws]at hw
    have:BQ [] l=[]:=by simpa using hw
    cases l with
    | nil=>cases this
    | cons c r=>
     have nn:∀(r acc:List UInt8),BQ acc r≠[]:=by
      intro r
      induction r with
      | nil=>intro acc h;cases h
      | cons c r ih=>
       intro acc h;rw[BQ]at h;split at h
       .cases h
       .exact ih _ h
     exact absurd this (nn _ _)
   | cons _ _=>rfl
  simp[CX,Ek,hall,he,h1,<-hws,h2]
 simp -implicitDefEqProofs [G8,hw]
theorem tH {α:Type} {e:Enc α} {ty:Nat} {H:Ab} {b:Nat} {l:List α} (h:Ar e ty H b l) (y:T) :
  toT H (CF [rowP e b l,.t y])=some (.tu [Am e l,y],FF b l):=by
 have ht:=h.toT
 cases l with
 | nil=>rfl
 | cons x r=>
  show toT H (.tu [rowP e b (x::r),.t y])=_;simp only[toT,Cx,ht,Xl,Ye]
structure RW where
 j:Nat
 out:List (List UInt8)
 w:List UInt8
def SRw (s:ByteArray) (a:RW):Ac:=⟨[(6,.t (iv (a.j:Int))),(5,.t (sv (bs a.w))),(4,rowP Aj 0 (a.out.map bs)),(0,.t (sv s))],Ax Aj 9 0 (a.out.map bs),1,57⟩
structure YU (l:List UInt8) (a:RW):Prop where
 le:a.j<=l.length
 prt:∀(i:Nat) c,i<a.j->l[i]?=some c->prt c=true
 eq:a.out++BQ a.w (l.drop a.j)=BQ [] l
 ne:∀x∈a.out,x.isEmpty=false
 wl:a.w.length<=a.j
 ol:a.out.length<=a.j
 em:a.w=[]->a.j=0\/a.j<l.length
theorem YV {l:List UInt8} (h:l.all prt=false):CX l = .tu [Ad,iv 8]:=by simp[CX,Ek,h]
theorem YW {l:List UInt8} (h0:l≠[]) (h:[]∈BQ [] l):CX l = .tu [Ad,iv 8]:=by
 have h1:(BQ [] l).any Xx=true:=Ys.2 ⟨[],h,rfl⟩
 have h2:l.isEmpty=false:=by cases l with | nil=>exact absurd rfl h0 | cons _ _=>rfl
 cases h3:l.all prt with
 | false=>exact YV h3
 | true=>simp[CX,Ek,h1,h2,h3]
theorem LL (s:ByteArray) (i j:Nat) (h1:i<=j) (h2:j<=s.size):Dn (.t (sv s)) (some (.t (iv (i:Int)))) (some (.t (iv (j:Int))))=some (.t (sv (s.extract i j))):=by
 have a1:¬(i:Int)<0:=by omega
 have a2:¬(j:Int)<0:=by omega
 simp[Dn,CD,h1,h2]
theorem YX (s:ByteArray) (i:Nat) (h1:i<=s.size):Dn (.t (sv s)) (some (.t (iv (i:Int)))) none=some (.t (sv (s.extract i s.size))):=by
 have a1:¬(i:Int)<0:=by omega
 simp[Dn,CD,h1]
theorem YY (s:ByteArray) (j:Nat) (h2:j<=s.size):Dn (.t (sv s)) none (some (.t (iv (j:Int))))=some (.t (sv (s.extract 0 j))):=by
 have a2:¬(j:Int)<0:=by omega
 simp[Dn,CD,h2]
theorem tI (s:ByteArray) (hs:s.size<=100000):AA Xa (G q) 134 [sv s] (· = CX s.data.toList):=by
 refine nU.call rfl ?_;(conv in Vy=>cbv)
 obtain⟨l,hl⟩:∃l,l=s.data.toList:=⟨_,rfl⟩
 have hlen:l.length=s.size:=by rw[hl];rfl
 rw[<-hl];refine Az Af ?_;simp -implicitDefEqProofs;refine Az Af ?_;simp -implicitDefEqProofs;refine Az Af ?_;simp -implicitDefEqProofs;refine BM (α:=RW) (SRw s) (λa=>YU l a/\a.j=s.size) (λ_=>rfl) ?_ ?_
 .refine Az Af ?_;simp -implicitDefEqProofs;refine BI ?_;refine CV (SRw s) (λa=>s.size-a.j) (YU l) ⟨0,[],[]⟩ (λ_=>rfl) ⟨X0 _,λi c h=>by simp at h,by simp,by simp,by simp,by simp,λ_=>.inl rfl⟩ ?_ rfl ?_
  .exact Rm (by omega) (by simp -implicitDefEqProofs [SRw,under,rowP])
  .rintro⟨j,out,w⟩ hok;have hok':=hok;obtain⟨hj,hp,heq,hne,hwl,hol,hem⟩:=hok;simp only at hj hp heq hne hwl hol hem;refine Aw Af ?_;have r0:Ar Aj 9 (Ax Aj 9 0 (out.map bs)) 0 (out.map bs):=Ar.head' _ _ _ _;by_cases hlt:j<s.size
   .obtain⟨x,hx⟩:∃x,l[j]?=some x:=⟨_,Xe (by omega)⟩
    have ixj:=Dw s j x (by rw[<-hl];exact hx);have e1:Xb.wrap ((j:Int)+1)=((j+1:Nat):Int):=AH (by omega) (by omega);have hk:=Pn x
    have hdrop:l.drop j=x::l.drop (j+1):=by
     have:=Xr (l:=l) (i:=j) (by omega);rw[this,(Xf.1 hx).2]
    have hb:prt x=false->CX l = .tu [Ad,iv 8]:=λh=>YV (Yr.2 ⟨x,X1 hx,by rw[h];simp⟩)
    have h0:l≠[]:=by intro e;rw[e]at hx;simp at hx
    have hp':prt x=true->∀(i:Nat) c,i<j+1->l[i]?=some c->prt c=true:=by
     intro h i c hi hc;by_cases e:i=j
     .subst e;rw[hx]at hc;injection hc with hc;subst hc;exact h
     .exact hp i c (by omega) hc
    cases t1:decide ((x.toNat:Int)<32)with
    | true=>rw[t1]at hk;simp -implicitDefEqProofs [SRw,hlt,ixj,t1,hb hk]
    | false=>
     cases t2:decide (126<(x.toNat:Int))with
     | true=>rw[t1,t2]at hk;simp -implicitDefEqProofs [SRw,hlt,ixj,t1,t2,hb hk]
     | false=>
      rw[t1,t2]at hk;by_cases hsp:x=32
      .have t3:((x.toNat:Int) != 32)=false:=by rw[hsp];rfl
       have hsl:BQ w (l.drop j)=w::BQ [] (l.drop (j+1)):=by rw[hdrop,BQ,zy hsp]
       rw[hsl]at heq
       cases hw:w.isEmpty with
       | true=>
        have hw0:w=[]:=by simpa using hw
        have hb2:=YW h0 (by rw[<-heq,hw0];simp);simp -implicitDefEqProofs [SRw,hlt,ixj,t1,t2,t3,CM,Fv,hw,hb2]
       | false=>
        by_cases hlast:j=s.size-1
        .have t4:((j:Int)==(s.size:Int)-1)=true:=by rw[beq_iff_eq];omega
         have e2:Xb.wrap ((s.size:Int)-1)=(s.size:Int)-1:=Fs (by omega) (by omega);have hd0:l.drop (j+1)=[]:=X2 (by omega);have hb2:=YW h0 (by rw[<-heq,hd0];simp[BQ]);simp -implicitDefEqProofs [SRw,hlt,ixj,t1,t2,t3,CM,Fv,hw,e2,t4,hb2]
        .have t4:((j:Int)==(s.size:Int)-1)=false:=by rw[zu];omega
         have e2:Xb.wrap ((s.size:Int)-1)=(s.size:Int)-1:=Fs (by omega) (by omega);have hbs:De 9 1 [.string ⟨#[]⟩] 1 [(0,.t (sv (bs w)))] 1=some (.row 1 0 1 1,.cells 9 [.t (sv (bs w))]):=rfl;obtain⟨b2,H2,n2,ap2,r2,ne2,_⟩:=Gd (e:=Aj) (ty:=9) (by':=16) (nx:=2) (m:=[bs w]) (r0.cons (k:=1) (r:=.cells 9 [.t (sv (bs w))]) (by omega)) (Gc (b:=1) (ty:=9) _ (by simp[Aj])) (by simp;omega) (by simp;omega);have ap2':B1 9 1 16 ((1,.cells 9 [.t (sv (bs w))])::Ax Aj 9 0 (out.map bs)) 2 (rowP Aj 0 (out.map bs)) (.row 1 0 1 1)=some (rowP Aj b2 (out.map bs++[bs w]),H2,n2):=ap2;simp -implicitDefEqProofs [SRw,hlt,ixj,t1,t2,t3,CM,Fv,hw,e2,t4,hbs,ap2',e1];refine Aq.mk ⟨j+1,out++[w],[]⟩ ⟨⟨by show j+1<=l.length;omega,hp' hk,?_,?_,by simp,by simp;omega,λ_=>.inr (by show j+1<l.length;omega)⟩,by show s.size-(j+1)<s.size-j;omega⟩ ?_
         .show(out++[w])++BQ [] (l.drop (j+1))=_;rw[<-heq];simp
         .intro y hy;rcases Xp.1 hy with h | h
          .exact hne y h
          .have:y=w:=by simpa using h
           rw[this];exact hw
         .unfold SRw;simp only[Yu,Xd,Xg];exact Jd (k:=b2) r2 (by omega) (by omega) (by simp -implicitDefEqProofs [Cs,Ct,ren,under])
      .have t3:((x.toNat:Int) != 32)=true:=by
        rw[bne_iff_ne];intro e;exact hsp (Yf.1 (by show x.toNat=32;omega))
       have hsl:BQ w (l.drop j)=BQ (w++[x]) (l.drop (j+1)):=by rw[hdrop,BQ,zz hsp]
       obtain⟨j1,hj1⟩:∃j1,j1=j+1:=⟨_,rfl⟩
       have e1':Xb.wrap ((j:Int)+1)=(j1:Int):=by rw[e1,hj1]
       have hst:Dn (.t (sv s)) (some (.t (iv (j:Int)))) (some (.t (iv (j1:Int))))=some (.t (sv (bs [x]))):=by
        rw[LL s j j1 (by omega) (by omega)]
        have e3:s.extract j j1=bs [x]:=by
         rw[<-GZ (s.extract j j1),Lib.extract_data,<-hl,hdrop,hj1];simp
        rw[e3]
       have sa:=cat (Φ:=orc []) (a:=w) (b:=[x]) (by simp;omega);simp -implicitDefEqProofs [SRw,hlt,ixj,t1,t2,t3,e1',hst,sa];subst hj1;refine Aq.mk ⟨j+1,out,w++[x]⟩ ⟨⟨by show j+1<=l.length;omega,hp' hk,?_,hne,by simp;omega,by show out.length<=j+1;omega,λh=>by simp at h⟩,by show s.size-(j+1)<s.size-j;omega⟩ ?_
       .show out++BQ (w++[x]) (l.drop (j+1))=_;rw[<-hsl];exact heq
       .unfold SRw;exact Jd (k:=0) r0 (by omega) (by omega) (by simp -implicitDefEqProofs [Cs,Ct,ren,under])
   .have e:j=s.size:=by omega
    subst e;simp -implicitDefEqProofs [SRw];refine Aq.mk ⟨s.size,out,w⟩ ⟨hok',rfl⟩ ?_;exact Jd (k:=0) r0 (by omega) (by omega) (by simp -implicitDefEqProofs [Cs,Ct,ren,under])
 rintro⟨j,out,w⟩ ⟨hok,hje⟩;simp only at hje;subst hje;obtain⟨_,hp,heq,hne,hwl,hol,hem⟩:=hok;simp only at hp heq hne hwl hol hem;have hd0:l.drop s.size=[]:=X2 (by omega);rw[hd0,BQ]at heq;have r0:Ar Aj 9 (Ax Aj 9 0 (out.map bs)) 0 (out.map bs):=Ar.head' _ _ _ _
 have hall:l.all prt=true:=by
  rw[Xm];intro x hx;obtain⟨i,hi,e⟩:=Yd hx;exact hp i x (by omega) (by rw[Xe hi,e])
 refine Aw Af ?_
 cases hw:w.isEmpty with
 | true=>
  have hw0:w=[]:=by simpa using hw
  have hl0:l=[]:=by
   rcases hem hw0 with h | h
   .exact List.eq_nil_of_length_eq_zero (by omega)
   .omega
  have ho:out=[]:=by
   rw[hl0,hw0]at heq;have:out++[[]]=[]++[[]]:=heq;exact List.append_cancel_right this
  simp -implicitDefEqProofs [SRw,CM,Fv,hw,ho,hl0,rowP,CX,Ek,Am]
 | false=>
  have hbs:De 9 1 [.string ⟨#[]⟩] 1 [(0,.t (sv (bs w)))] 1=some (.row 1 0 1 1,.cells 9 [.t (sv (bs w))]):=rfl;obtain⟨b2,H2,n2,ap2,r2,ne2,_⟩:=Gd (e:=Aj) (ty:=9) (by':=16) (nx:=2) (m:=[bs w]) (r0.cons (k:=1) (r:=.cells 9 [.t (sv (bs w))]) (by omega)) (Gc (b:=1) (ty:=9) _ (by simp[Aj])) (by simp;omega) (by simp;omega);have ap2':B1 9 1 16 ((1,.cells 9 [.t (sv (bs w))])::Ax Aj 9 0 (out.map bs)) 2 (rowP Aj 0 (out.map bs)) (.row 1 0 1 1)=some (rowP Aj b2 (out.map bs++[bs w]),H2,n2):=ap2
  have hl0:l.isEmpty=false:=by
   cases l with
   | nil=>
    have:out++[w]=[]++[[]]:=heq;have:=(List.append_inj' this rfl).2;injection this with this;rw[this]at hw;cases hw
   | cons _ _=>rfl
  have hany:(BQ [] l).any Xx=false:=by
   rw[<-heq,Yt];intro y hy;rcases Xp.1 hy with h | h
   .rw[hne y h];simp
   .have:y=w:=by simpa using h
    rw[this,hw];simp
  have hwt:CX l = .tu [Am Aj (out.map bs++[bs w]),iv 0]:=by
   unfold CX Ek;rw[hall,hl0,hany];simp[<-heq]
  have ht:=tH r2 (iv 0);simp -implicitDefEqProofs [SRw,CM,Fv,hw,hbs,ap2',hwt,-CF,ht]
abbrev scc (s:ByteArray) (a l:Nat):List T:=[sv s,iv (a:Int),iv (l:Int)]
abbrev scr (s:ByteArray) (a l:Nat):Row:=.cells 105 [.t (sv s),.t (iv (a:Int)),.t (iv (l:Int))]
section
variable (s : ByteArray) (a l x : Nat)
theorem sl0 (R:Ab):Ao false 1 ((0,scr s a l)::R) (.ptr 0 0)=some (.t (sv s)):=rfl
theorem sl1 (R:Ab):Ao false 1 ((0,scr s a l)::R) (.ptr 0 1)=some (.t (iv (a:Int))):=rfl
theorem sl2 (R:Ab):Ao false 1 ((0,scr s a l)::R) (.ptr 0 2)=some (.t (iv (l:Int))):=rfl
theorem ss1 (R:Ab):A8 1 ((0,scr s a l)::R) (.ptr 0 1) (.t (iv (x:Int)))=some ((0,scr s x l)::R):=rfl
theorem ss2 (R:Ab):A8 1 ((0,scr s a l)::R) (.ptr 0 2) (.t (iv (x:Int)))=some ((0,scr s a x)::R):=rfl
theorem tl0 (t:Row):Ao false 1 [(1,t),(0,scr s a l)] (.ptr 0 0)=some (.t (sv s)):=rfl
theorem tl1 (t:Row):Ao false 1 [(1,t),(0,scr s a l)] (.ptr 0 1)=some (.t (iv (a:Int))):=rfl
theorem tl2 (t:Row):Ao false 1 [(1,t),(0,scr s a l)] (.ptr 0 2)=some (.t (iv (l:Int))):=rfl
theorem ts1 (t:Row):A8 1 [(1,t),(0,scr s a l)] (.ptr 0 1) (.t (iv (x:Int)))=some [(1,t),(0,scr s x l)]:=rfl
end
def Bc (big:Bool) (l:List UInt8):Nat:=(l.takeWhile (CJ big)).length
theorem Kl (big:Bool) (l:List UInt8):Bc big l<=l.length:=(Yv _).length_le
theorem Nx {p:UInt8->Bool}:∀{l:List UInt8} {j:Nat} {c:UInt8},j<(l.takeWhile p).length->l[j]?=some c->p c=true
 | [],j,c,h,hc=>by simp at hc
 | x::r,j,c,h,hc=>by
  rw[X3]at h;split at h
  .rename_i hx
   cases j with
   | zero=>simp at hc;subst hc;exact hx
   | succ j=>exact Nx (l:=r) (by simpa using h) (by simpa using hc)
  .simp at h
theorem Ny {p:UInt8->Bool}:∀{l:List UInt8} {c:UInt8},l[(l.takeWhile p).length]?=some c->p c=false
 | [],c,hc=>by simp at hc
 | x::r,c,hc=>by
  rw[X3]at hc;split at hc
  .exact Ny (l:=r) (by simpa using hc)
  .rename_i hx;simp at hc;subst hc;simpa using hx
def SRn (big:Bool) (s:ByteArray) (a l p:Nat):Ac:=⟨[(5,.t (iv (a:Int))),(1,.t (fv (He big))),(0,.ptr 0 0)],[(0,scr s p l)],1,76⟩
theorem RR (c:UInt8):IntKind.i32.wrap (c.toNat:Int)=(c.toNat:Int):=by
 have:=c.toNat_lt;unfold IntKind.wrap IntKind.bits IntKind.signed;simp only[Yg,Nat.reduceSub]
 have e1:(2:Int)^32=4294967296:=by decide
 have e2:(2:Int)^31=2147483648:=by decide
 simp only[e1,e2,ge_iff_le,decide_eq_true_eq];split<;>omega
theorem tJ (big:Bool) (c:UInt8):Ic big (c.toNat:Int)=(if big then Bw c else BS c):=by
 unfold Ic;cases big
 .exact RK c
 .exact Nu c
theorem RS (big:Bool) (x:UInt8):CJ big x=((if big then Bw x else BS x)||AQ x||decide (x.toNat=45)):=by
 cases big<;>simp only[CJ,Bool.not_true,Yw,Yg,Yx,Yh,if_true,Xk,if_false]
 .cases AQ x<;>cases decide (x.toNat=45)<;>cases BS x<;>rfl
 .cases AQ x<;>cases decide (x.toNat=45)<;>cases Bw x<;>rfl
def InR (a n p:Nat):Prop:=a<=p/\p<=a+n
theorem tL (big:Bool) (s:ByteArray) (a l:Nat) (hs:s.size<=65536) (ha:a<=s.size) :
  AB Xa (G q) 112 [.ptr 0 0,.t (fv (He big))] [(0,scr s a l)] 1 (.t (sv (bs ((s.data.toList.drop a).take (Bc big (s.data.toList.drop a)))))) [(0,scr s (a+Bc big (s.data.toList.drop a)) l)] 1:=by
 obtain⟨n,hn⟩:∃n,n=Bc big (s.data.toList.drop a):=⟨_,rfl⟩
 have hlen:s.data.toList.length=s.size:=rfl
 have hnl:a+n<=s.size:=by
  have:=Kl big (s.data.toList.drop a);rw[<-hn,Xs]at this;omega
 rw[<-hn]
 obtain⟨z,hz⟩:∃z,z=a+n:=⟨_,rfl⟩
 rw[<-hz];refine oQ.callP rfl ?_;(conv in VF=>cbv);refine Az (G6 big) ?_;simp -implicitDefEqProofs;refine Az (G6 big) ?_;simp -implicitDefEqProofs [sl1];refine BM (α:=Unit) (λ_=>SRn big s a l z) (λ_=>True) (λ_=>rfl) ?_ ?_
 .refine BI ?_;refine CV (SRn big s a l) (λp=>z-p) (InR a n) a (λ_=>rfl) ⟨Xc _,by omega⟩ ?_ rfl ?_
  .refine AJ rfl rfl ?_ ?_<;>simp -implicitDefEqProofs [SRn]
  .rintro p ⟨hp1,hp2⟩;refine Aw (G6 big) ?_;by_cases hlt:p<s.size
   .obtain⟨c,hc⟩:∃c,s.data.toList[p]?=some c:=⟨_,Xe hlt⟩
    have ix:=Dw s p c hc
    have hc':(s.data.toList.drop a)[p-a]?=some c:=by rw[Yi,show a+(p-a)=p by omega];exact hc
    have cvF:=λH nx c=>YN big H nx c;have qd:=Jk EW (c.toNat:Int);rw[Nv]at qd;have lr:=tJ big c;have hpe:=RS big c;have hgo:p<a+n->CJ big c=true:=λh=>Nx (by show p-a<Bc big (s.data.toList.drop a);omega) hc'
    have hst:¬p<a+n->CJ big c=false:=λh=>Ny (by
     show(s.data.toList.drop a)[Bc big (s.data.toList.drop a)]?=some c
     rw[<-hn,show n=p-a by omega];exact hc')
    have e1:Xb.wrap ((p:Int)+1)=((p+1:Nat):Int):=AH (by omega) (by omega);have st1:=ss1 s p l (p+1) [];have ci:=RR c;by_cases hpn:p<a+n
    .have hpp:=hgo hpn;rw[hpp]at hpe
     cases hL:(if big then Bw c else BS c:Bool)with
     | true=>
      rw[hL]at lr;simp -implicitDefEqProofs [SRn,sl0,sl1,hlt,ix,ci,cvF,lr,e1,st1];exact Aq.mk (p+1) ⟨⟨by omega,by omega⟩,by omega⟩ (AJ rfl rfl (by simp -implicitDefEqProofs [SRn]) (by simp -implicitDefEqProofs [SRn,Bj]))
     | false=>
      rw[hL]at lr hpe
      cases hD:AQ c with
      | true=>
       rw[hD]at qd;simp -implicitDefEqProofs [SRn,sl0,sl1,hlt,ix,ci,cvF,lr,tbF,qd,e1,st1];exact Aq.mk (p+1) ⟨⟨by omega,by omega⟩,by omega⟩ (AJ rfl rfl (by simp -implicitDefEqProofs [SRn]) (by simp -implicitDefEqProofs [SRn,Bj]))
      | false=>
       rw[hD]at qd hpe
       have h45:c.toNat=45:=by
        have:decide (c.toNat=45)=true:=by simpa using hpe.symm
        exact of_decide_eq_true this
       have e45:((c.toNat:Int)==45)=true:=by rw[h45];rfl
       simp -implicitDefEqProofs [SRn,sl0,sl1,hlt,ix,ci,cvF,lr,tbF,qd,e45,e1,st1];exact Aq.mk (p+1) ⟨⟨by omega,by omega⟩,by omega⟩ (AJ rfl rfl (by simp -implicitDefEqProofs [SRn]) (by simp -implicitDefEqProofs [SRn,Bj]))
    .have hpp:=hst hpn;rw[hpp]at hpe
     have hpz:p=z:=by omega
     subst hpz
     have hL:(if big then Bw c else BS c:Bool)=false:=by
      cases h:(if big then Bw c else BS c:Bool)with
      | false=>rfl
      | true=>rw[h]at hpe;cases hpe
     rw[hL]at lr hpe
     have hD:AQ c=false:=by
      cases h:AQ c with
      | false=>rfl
      | true=>rw[h]at hpe;cases hpe
     rw[hD]at qd hpe
     have e45:((c.toNat:Int)==45)=false:=by
      have:decide (c.toNat=45)=false:=by simpa using hpe.symm
      have:=of_decide_eq_false this;rw[zu];omega
     simp -implicitDefEqProofs [SRn,sl0,sl1,hlt,ix,ci,cvF,lr,tbF,qd,e45];exact Aq.mk () trivial (AJ rfl rfl (by simp -implicitDefEqProofs [SRn]) (by simp -implicitDefEqProofs [SRn,Bj]))
   .have hpz:p=z:=by omega
    subst hpz;simp -implicitDefEqProofs [SRn,sl0,sl1,hlt];exact Aq.mk () trivial (AJ rfl rfl (by simp -implicitDefEqProofs [SRn]) (by simp -implicitDefEqProofs [SRn,Bj]))
 rintro _ -;refine Aw (G6 big) ?_;have hsl:=LL s a z (by omega) (by omega)
 have e3:s.extract a z=bs ((s.data.toList.drop a).take n):=by
  rw[<-GZ (s.extract a z),Lib.extract_data,hz,X4]
 rw[e3]at hsl;simp -implicitDefEqProofs [SRn,sl0,sl1,hsl];exact⟨.inr rfl,_,_,Sub.refl _,rfl,rfl,rfl,rfl⟩
def AV:Bool->List UInt8->Nat×Nat
 | _,[]=>(0,0)
 | cm,c::r=>
  if c.toNat=10 then((AV false r).1+1,(AV false r).2+1)
  else if cm||decide (c.toNat=37)then((AV true r).1+1,(AV true r).2)
  else if c.toNat=32\/c.toNat=9\/c.toNat=13 then((AV false r).1+1,(AV false r).2)
  else(0,0)
theorem Nz:∀(l:List UInt8) (cm:Bool),(AV cm l).1<=l.length/\(AV cm l).2<=l.length
 | [],_=>by simp[AV]
 | c::r,cm=>by
  have h1:=Nz r false;have h2:=Nz r true;rw[AV];split
  .simp;omega
  .split
   .simp;omega
   .split
    .simp;omega
    .simp
structure Sk where
 p:Nat
 ln:Nat
 cm:Bool
def SSk (s:ByteArray) (a:Sk):Ac:=⟨[(2,.t (bv a.cm)),(0,.ptr 0 0)],[(0,scr s a.p a.ln)],1,56⟩
structure YZ (l:List UInt8) (z zl:Nat) (a:Sk):Prop where
 le:a.p<=l.length
 e1:a.p+(AV a.cm (l.drop a.p)).1=z
 e2:a.ln+(AV a.cm (l.drop a.p)).2=zl
theorem tM (s:ByteArray) (a l:Nat) (hs:s.size<=65536) (ha:a<=s.size) (hl:l<=1000000) :
  AB Xa (G q) 55 [.ptr 0 0] [(0,scr s a l)] 1 (CF []) [(0,scr s (a+(AV false (s.data.toList.drop a)).1) (l+(AV false (s.data.toList.drop a)).2))] 1:=by
 have hlen:s.data.toList.length=s.size:=rfl
 obtain⟨z,hz⟩:∃z,z=a+(AV false (s.data.toList.drop a)).1:=⟨_,rfl⟩
 obtain⟨zl,hzl⟩:∃z,z=l+(AV false (s.data.toList.drop a)).2:=⟨_,rfl⟩
 rw[<-hz,<-hzl]
 have hzb:z<=s.size/\zl<=1000000+65536:=by
  have:=Nz (s.data.toList.drop a) false;rw[Xs]at this;omega
 refine oE.callP rfl ?_;(conv in V5=>cbv)
 have fin:∀(env:List (Nat×PV)),EA Xa (G q) 1 [] (λr0 H0 nx0=>r0=CF []/\H0=[(0,scr s z zl)]/\nx0=1) .normal ⟨env,[(0,scr s z zl)],1,56⟩:=λenv=>⟨.inl rfl,_,[],Sub.refl _,rfl,rfl,rfl,rfl⟩
 have finr:∀(env:List (Nat×PV)),EA Xa (G q) 1 [] (λr0 H0 nx0=>r0=CF []/\H0=[(0,scr s z zl)]/\nx0=1) .ret ⟨env,[(0,scr s z zl)],1,56⟩:=λenv=>⟨.inr rfl,_,[],Sub.refl _,rfl,rfl,rfl,rfl⟩
 refine Az Af ?_;simp -implicitDefEqProofs;refine BI ?_;refine CV (SSk s) (λa=>s.size-a.p) (YZ s.data.toList z zl) ⟨a,l,false⟩ (λ_=>rfl) ⟨by show a<=_;omega,hz.symm,hzl.symm⟩ ?_ rfl ?_
 .refine AJ rfl rfl ?_ ?_<;>simp -implicitDefEqProofs [SSk]
 .rintro⟨p,ln,cm⟩ ⟨hp,hq1,hq2⟩;simp only at hp hq1 hq2;refine Aw Af ?_;by_cases hlt:p<s.size
  .obtain⟨c,hc⟩:∃c,s.data.toList[p]?=some c:=⟨_,Xe hlt⟩
   have ix:=Dw s p c hc
   have hdrop:s.data.toList.drop p=c::s.data.toList.drop (p+1):=by
    have:=Xr (l:=s.data.toList) (i:=p) (by omega);rw[this,(Xf.1 hc).2]
   rw[hdrop,AV]at hq1 hq2
   obtain⟨p1,hp1⟩:∃p1,p1=p+1:=⟨_,rfl⟩
   rw[<-hp1]at hq1 hq2
   have e1:Xb.wrap ((p:Int)+1)=(p1:Int):=by rw[hp1];exact AH (by omega) (by omega)
   have hlnb:ln<=1000000+65536:=by omega
   have st1:=λln=>ss1 s p ln p1 []
   have nxt:∀(ln':Nat) (cm':Bool) (env:List (Nat×PV)),p1+(AV cm' (s.data.toList.drop p1)).1=z->ln'+(AV cm' (s.data.toList.drop p1)).2=zl->(∀q∈(SSk s ⟨p1,ln',cm'⟩).env,Aa env q.1=some q.2) ->
     Aq Xa (G q) 1 (SSk s) (λa'=>YZ s.data.toList z zl a'/\s.size-a'.p<s.size-p) ⟨env,[(0,scr s p1 ln')],1,56⟩:=by
    intro ln' cm' env h1 h2 h3;refine Aq.mk ⟨p1,ln',cm'⟩ ⟨⟨by show p1<=_;omega,h1,h2⟩,by show s.size-p1<s.size-p;omega⟩ (AJ rfl rfl h3 λq hq=>?_)
    have e:q=(0,scr s p1 ln'):=by simpa[SSk]using hq
    subst e;rfl
   have b10:((c.toNat:Int)==10)=decide (c.toNat=10):=by
    by_cases h:c.toNat=10
    .rw[h];rfl
    .rw[zx h,zu];omega
   have b37:((c.toNat:Int)==37)=decide (c.toNat=37):=by
    by_cases h:c.toNat=37
    .rw[h];rfl
    .rw[zx h,zu];omega
   by_cases h10:c.toNat=10
   .rw[zy h10]at hq1 hq2;rw[zw h10]at b10
    obtain⟨ln1,hln1⟩:∃ln1,ln1=ln+1:=⟨_,rfl⟩
    have e2:Xb.wrap ((ln:Int)+1)=(ln1:Int):=by rw[hln1];exact AH (by omega) (by omega)
    have st2:=ss2 s p ln ln1 [];simp -implicitDefEqProofs [SSk,sl0,sl1,sl2,hlt,ix,b10,e1,e2,st2,st1];exact nxt ln1 false _ (by omega) (by omega) (by simp -implicitDefEqProofs [SSk])
   .rw[zz h10]at hq1 hq2;rw[zx h10]at b10
    cases cm with
    | true=>
     simp only[Bool.true_or,if_true]at hq1 hq2;simp -implicitDefEqProofs [SSk,sl0,sl1,hlt,ix,b10,e1,st1];exact nxt ln true _ (by omega) (by omega) (by simp -implicitDefEqProofs [SSk])
    | false=>
     by_cases h37:c.toNat=37
     .rw[zw h37]at b37 hq1 hq2;simp only[Bool.or_true,if_true]at hq1 hq2;simp -implicitDefEqProofs [SSk,sl0,sl1,hlt,ix,b10,b37,e1,st1];exact nxt ln true _ (by omega) (by omega) (by simp -implicitDefEqProofs [SSk])
     .rw[zx h37]at b37 hq1 hq2;simp only[Yh,Xk,if_false]at hq1 hq2;by_cases h32:c.toNat=32
      .rw[zy (.inl h32)]at hq1 hq2
       have b32:((c.toNat:Int) != 32)=false:=by rw[h32];rfl
       simp -implicitDefEqProofs [SSk,sl0,sl1,hlt,ix,b10,b37,b32,e1,st1];exact nxt ln false _ (by omega) (by omega) (by simp -implicitDefEqProofs [SSk])
      .have b32:((c.toNat:Int) != 32)=true:=by rw[bne_iff_ne];omega
       by_cases h9:c.toNat=9
       .rw[zy (.inr (.inl h9))]at hq1 hq2
        have b9:((c.toNat:Int) != 9)=false:=by rw[h9];rfl
        simp -implicitDefEqProofs [SSk,sl0,sl1,hlt,ix,b10,b37,b32,b9,e1,st1];exact nxt ln false _ (by omega) (by omega) (by simp -implicitDefEqProofs [SSk])
       .have b9:((c.toNat:Int) != 9)=true:=by rw[bne_iff_ne];omega
        by_cases h13:c.toNat=13
        .rw[zy (.inr (.inr h13))]at hq1 hq2
         have b13:((c.toNat:Int) != 13)=false:=by rw[h13];rfl
         simp -implicitDefEqProofs [SSk,sl0,sl1,hlt,ix,b10,b37,b32,b9,b13,e1,st1];exact nxt ln false _ (by omega) (by omega) (by simp -implicitDefEqProofs [SSk])
        .have b13:((c.toNat:Int) != 13)=true:=by rw[bne_iff_ne];omega
         rw[zz (by omega)]at hq1 hq2
         have e1:p=z:=by simpa using hq1
         have e2:ln=zl:=by simpa using hq2
         subst e1;subst e2;simp -implicitDefEqProofs [SSk,sl0,sl1,hlt,ix,b10,b37,b32,b9,b13];exact finr _
  .have hd0:s.data.toList.drop p=[]:=X2 (by omega);rw[hd0,AV]at hq1 hq2
   have e1:p=z:=by simpa using hq1
   have e2:ln=zl:=by simpa using hq2
   subst e1;subst e2;simp -implicitDefEqProofs [SSk,sl0,sl1,hlt];exact fin _
abbrev tkc (k:Int) (t:List UInt8) (l:Int):List T:=[iv k,sv (bs t),iv l]
abbrev tkr (k:Int) (t:List UInt8) (l:Int):Row:=.cells 42 [.t (iv k),.t (sv (bs t)),.t (iv l)]
def Dh (k:Int) (t:List UInt8) (l:Int) (e:Int):T:=if e=0 then .tu [.ag (tkc k t l),iv 0]else .tu [.ag (tkc 0 [] 0),iv e]
theorem ZA {Φ:AC} {H:Ab} {nx:Nat} (k l:Int) (t:ByteArray):Ah Φ H nx (.build [(0,1),(1,1),(2,1)] [.int .i64 0,.string ⟨#[]⟩,.int .i64 0] [0,1,2]) [.t (iv k),.t (sv t),.t (iv l)]=some (.t (.ag [iv k,sv t,iv l]),H,nx):=rfl
theorem G9 {Φ:AC} {H:Ab} {nx:Nat}:Ah Φ H nx (.build [(0,1),(1,1),(2,1)] [.int .i64 0,.string ⟨#[]⟩,.int .i64 0] []) []=some (.t (.ag [iv 0,sv ⟨#[]⟩,iv 0]),H,nx):=rfl
theorem DE (k l:Int) (t:ByteArray) (x y z:PV) (R:Ab):A8 3 ((1,.cells 42 [x,y,z])::R) (.ptr 1 0) (.t (.ag [iv k,sv t,iv l]))=some ((1,.cells 42 [.t (iv k),.t (sv t),.t (iv l)])::R):=rfl
theorem Pp {Φ:AC} {H:Ab} {nx:Nat} (k l:Int) (t:ByteArray):Bb Φ H nx (.build [(0,1),(1,1),(2,1)] [.int .i64 0,.string ⟨#[]⟩,.int .i64 0] [0,1,2]) [.t (iv k),.t (sv t),.t (iv l)]=some (.t (.ag [iv k,sv t,iv l])):=rfl
theorem tN (big:Bool) (s:ByteArray) (a l:Nat) (hs:s.size<=65536) (ha:a<=s.size) (t:Row) :
  HOK Xa (G q) 112 (Ge [.ptr 0 0,.t (fv (He big))] [(1,t),(0,scr s a l)] 2 (.t (sv (bs ((s.data.toList.drop a).take (Bc big (s.data.toList.drop a))))),[(1,t),(0,scr s (a+Bc big (s.data.toList.drop a)) l)],2)):=by
 refine Fu ?_ ?_
 .have h:=tL (q:=q) big s a l hs ha;exact AB.lift1 (cs:=scc s a l) (args:=[fv (He big)]) (cs':=scc s (a+Bc big (s.data.toList.drop a)) l) h (b:=0) (NX:=2) (Hb:=[(1,t),(0,scr s a l)]) rfl (by omega)
 .intro _ b x hb;simp only[Aa]at hb;split at hb
  .omega
  .split at hb
   .omega
   .cases hb
theorem ZB (big:Bool) (s:ByteArray) (a l:Nat) (k:Int) (hs:s.size<=65536) (ha:a<=s.size) :
  AB Xa (G q) 89 [.ptr 0 0,.t (iv k),.t (fv (He big))] [(0,scr s a l)] 1
   (.t (Dh k ((s.data.toList.drop a).take (Bc big (s.data.toList.drop a))) l (if 32<Bc big (s.data.toList.drop a)then 7 else 0))) [(0,scr s (a+Bc big (s.data.toList.drop a)) l)] 1:=by
 have lr:=tN (q:=q) big s a l hs ha (.cells 42 [.t (iv 0),.t (sv ⟨#[]⟩),.t (iv 0)]);have hrl:=Kl big (s.data.toList.drop a)
 obtain⟨n,hn⟩:∃n,n=Bc big (s.data.toList.drop a):=⟨_,rfl⟩
 rw[<-hn]at lr hrl ⊢
 obtain⟨z,hz⟩:∃z,z=a+n:=⟨_,rfl⟩
 rw[<-hz]at lr ⊢
 obtain⟨t,ht⟩:∃t,t=(s.data.toList.drop a).take n:=⟨_,rfl⟩
 have hsz:(bs t).size=n:=by
  show t.toArray.size=n;rw[ht];simp at hrl ⊢;omega
 rw[<-ht]at lr ⊢;have ctx:Ctx Xa (G q) (orh [] [(112,_)]):=A5.nil.ctxH (.cons lr .nil) mixed;have h1:=λps H nx o=>EF ps H nx o;by_cases h32:32<n
 .rw[zy h32];refine AB.keep1 (cs:=scc s z l) (H':=[(1,tkr 0 [] 0),(0,scr s z l)]) (nx':=2) ?_ rfl;refine V8.callP rfl ?_;refine Aw ctx ?_
  have h32':(32:Int)<(n:Int):=by omega
  (conv in Rv=>cbv);simp -implicitDefEqProofs [h1,hsz,h32',-AF,G9,DE]
  exact⟨.inr rfl,_,_,Sub.refl _,rfl,rfl,rfl,rfl⟩
 .rw[zz h32];refine AB.keep1 (cs:=scc s z l) (H':=[(1,tkr k t l),(0,scr s z l)]) (nx':=2) ?_ rfl;refine V8.callP rfl ?_;refine Aw ctx ?_
  have h32':¬(32:Int)<(n:Int):=by omega
  (conv in Rv=>cbv);simp -implicitDefEqProofs [h1,hsz,h32',tl2,-AF,ZA,DE]
  exact⟨.inr rfl,_,_,Sub.refl _,rfl,rfl,rfl,rfl⟩
def DS (l:List UInt8):Nat:=if l.head?==some 45 then 1 else 0
def BH (l:List UInt8):Nat:=DS l+((l.drop (DS l)).takeWhile AQ).length
theorem N1 (l:List UInt8):BH l<=l.length:=by
 have h:=(Yv AQ (l:=l.drop (DS l))).length_le;rw[Xs]at h;unfold BH
 have:DS l<=l.length:=by
  unfold DS
  cases l with
  | nil=>simp
  | cons c r=>split<;>simp
 omega
def DF (t:List UInt8):Int:=if t=[45]then 8 else(DR t).2
noncomputable def Pq:List T->Option T:=g1 BX λs=>if s.size<=281474976710656 then some (Dq s.data.toList)else none
theorem tO:GOK Xa (G q) 113 Pq:=GX λa s r ha hr=>by
 have e:a=sv s:=ha;subst e;split at hr
 .rename_i h;injection hr with hr;subst hr;exact sU s h
 .cases hr
noncomputable def N2:Tbl:=[(91,G5 EW),(113,Pq)]
theorem LM:Ctx Xa (G q) (orc N2):=(A5.cons (Jj RJ) (.cons tO .nil)).ctx mixed
abbrev tk0:Row:=.cells 42 [.t (iv 0),.t (sv ⟨#[]⟩),.t (iv 0)]
def SFg (s:ByteArray) (a l p:Nat):Ac:=⟨[(4,.t (iv (a:Int))),(3,.t (iv 0)),(2,.ptr 1 0),(0,.ptr 0 0)],[(1,tk0),(0,scr s p l)],2,87⟩
theorem ZC (s:ByteArray) (a l:Nat) (hs:s.size<=65536) (ha:a<s.size) :
  AB Xa (G q) 92 [.ptr 0 0] [(0,scr s a l)] 1
   (.t (Dh 4 ((s.data.toList.drop a).take (BH (s.data.toList.drop a))) l (DF ((s.data.toList.drop a).take (BH (s.data.toList.drop a)))))) [(0,scr s (a+BH (s.data.toList.drop a)) l)] 1:=by
 have hlen:s.data.toList.length=s.size:=rfl
 obtain⟨D,hD⟩:∃D,D=s.data.toList.drop a:=⟨_,rfl⟩
 rw[<-hD];have hfl:=N1 D
 have hDl:D.length=s.size-a:=by rw[hD,Xs,hlen]
 obtain⟨n,hn⟩:∃n,n=BH D:=⟨_,rfl⟩
 rw[<-hn]at hfl ⊢
 obtain⟨z,hz⟩:∃z,z=a+n:=⟨_,rfl⟩
 rw[<-hz]
 obtain⟨t,ht⟩:∃t,t=D.take n:=⟨_,rfl⟩
 rw[<-ht]
 obtain⟨k,hk⟩:∃k,k=DS D:=⟨_,rfl⟩
 have hkn:k<=n:=by rw[hn,hk];unfold BH;omega
 obtain⟨c0,hc0⟩:∃c,s.data.toList[a]?=some c:=⟨_,Xe ha⟩
 have hD0:D=c0::s.data.toList.drop (a+1):=by
  have:=Xr (l:=s.data.toList) (i:=a) (by omega);rw[hD,this,(Xf.1 hc0).2]
 have ix0:=Dw s a c0 hc0
 have htl:t.length=n:=by rw[ht,Yy];omega
 obtain⟨tk,htk⟩:∃tk:Row,tk=if DF t=0 then tkr 4 t l else tkr 0 [] 0:=⟨_,rfl⟩
 have fin:∀(env:List (Nat×PV)),Aa env 2=some (.ptr 1 0)->Aa env 3=some (.t (iv (DF t))) ->
   EA Xa (G q) 1 [.cell 2 true 3,.tmp 3] (λr0 H0 nx0=>r0=PV.t (Dh 4 t l (DF t))/\H0=[(1,tk),(0,scr s z l)]/\nx0=2) .ret ⟨env,[(1,tk),(0,scr s z l)],2,87⟩:=by
  intro env h2 h3;by_cases h0:DF t=0
  .rw[zy h0]at htk;refine⟨.inr rfl,_,[.t (.ag (tkc 4 t l)),.t (iv (DF t))],Sub.refl _,?_,?_,rfl,rfl⟩
   .simp[CH,h2,h3,htk,Ao,AN]
   .simp[Dh,h0]
  .rw[zz h0]at htk;refine⟨.inr rfl,_,[.t (.ag (tkc 0 [] 0)),.t (iv (DF t))],Sub.refl _,?_,?_,rfl,rfl⟩
   .simp[CH,h2,h3,htk,Ao,AN]
   .simp[Dh,h0]
 refine AB.keep1 (cs:=scc s z l) (H':=[(1,tk),(0,scr s z l)]) (nx':=2) ?_ rfl;refine oI.callP rfl ?_;(conv in V9=>cbv);refine Az LM ?_;simp -implicitDefEqProofs;refine Az LM ?_;simp -implicitDefEqProofs [tl1]
 have e45:((c0.toNat:Int)==45)=(c0==45):=by
  by_cases h:c0=45
  .subst h;rfl
  .have:¬c0.toNat=45:=λe=>h (Yf.1 e);rw[beq_eq_false_iff_ne.2 h,zu];omega
 have hk':k=if c0==45 then 1 else 0:=by
  rw[hk,hD0];unfold DS;cases h:(c0==45)<;>simp[h]
 refine BM (α:=Unit) (λ_=>SFg s a l (a+k)) (λ_=>True) (λ_=>rfl) ?_ ?_
 .refine Aw LM ?_
  cases h45:(c0==45)with
  | true=>
   rw[h45]at hk'
   obtain⟨a1,ha1⟩:∃a1,a1=a+1:=⟨_,rfl⟩
   have e1:Xb.wrap ((a:Int)+1)=(a1:Int):=by rw[ha1];exact AH (by omega) (by omega)
   have st:=λt=>ts1 s a l a1 t
   have:a+k=a1:=by rw[hk',ha1];rfl
   rw[this];simp -implicitDefEqProofs [tl0,tl1,ix0,e45,h45,e1,st];exact Aq.mk () trivial (AJ rfl rfl (by simp -implicitDefEqProofs [SFg]) (by simp -implicitDefEqProofs [SFg]))
  | false=>
   rw[h45]at hk'
   have:a+k=a:=by rw[hk'];rfl
   rw[this];simp -implicitDefEqProofs [tl0,tl1,ix0,e45,h45];exact Aq.mk () trivial (AJ rfl rfl (by simp -implicitDefEqProofs [SFg]) (by simp -implicitDefEqProofs [SFg]))
 rintro _ -;refine BM (α:=Unit) (λ_=>SFg s a l z) (λ_=>True) (λ_=>rfl) ?_ ?_
 .refine BI ?_;refine CV (SFg s a l) (λp=>z-p) (InR (a+k) (n-k)) (a+k) (λ_=>rfl) ⟨Xc _,by omega⟩ (Sub.refl _) rfl ?_
  .rintro p ⟨hp1,hp2⟩;refine Aw LM ?_;by_cases hlt:p<s.size
   .obtain⟨c,hc⟩:∃c,s.data.toList[p]?=some c:=⟨_,Xe hlt⟩
    have ix:=Dw s p c hc
    have hc':(D.drop k)[p-(a+k)]?=some c:=by rw[hD,Yi,Yi,show a+(k+(p-(a+k)))=p by omega];exact hc
    have hnk:n-k=((D.drop k).takeWhile AQ).length:=by rw[hn,hk];unfold BH;omega
    have qd:=Jk EW (c.toNat:Int);rw[Nv]at qd;have ci:=RR c
    obtain⟨p1,hp1'⟩:∃p1,p1=p+1:=⟨_,rfl⟩
    have e1:Xb.wrap ((p:Int)+1)=(p1:Int):=by rw[hp1'];exact AH (by omega) (by omega)
    have st:=λt=>ts1 s p l p1 t;by_cases hpn:p<z
    .have hd:AQ c=true:=Nx (by rw[<-hnk];omega) hc';rw[hd]at qd;simp -implicitDefEqProofs [SFg,tl0,tl1,hlt,ix,ci,N2,qd,e1,st];exact Aq.mk p1 ⟨⟨by omega,by omega⟩,by omega⟩ (AJ rfl rfl (by simp -implicitDefEqProofs [SFg]) (by simp -implicitDefEqProofs [SFg]))
    .have hd:AQ c=false:=Ny (by rw[<-hnk,show n-k=p-(a+k)by omega];exact hc');rw[hd]at qd
     have hpz:p=z:=by omega
     subst hpz;simp -implicitDefEqProofs [SFg,tl0,tl1,hlt,ix,ci,N2,qd];exact Aq.mk () trivial (AJ rfl rfl (by simp -implicitDefEqProofs [SFg]) (by simp -implicitDefEqProofs [SFg]))
   .have hpz:p=z:=by omega
    subst hpz;simp -implicitDefEqProofs [SFg,tl0,tl1,hlt];exact Aq.mk () trivial (AJ rfl rfl (by simp -implicitDefEqProofs [SFg]) (by simp -implicitDefEqProofs [SFg]))
 rintro _ -;have hsl:=LL s a z (by omega) (by omega)
 have e3:s.extract a z=bs t:=by
  rw[<-GZ (s.extract a z),Lib.extract_data,hz,X4,<-hD,ht]
 rw[e3]at hsl;refine Az LM ?_;simp -implicitDefEqProofs [SFg,tl0,tl1,hsl];refine Aw LM ?_
 have gn:Pq [.v (.string (bs t))]=some (Dq t):=by
  rw[Pq,HY (τ:=BX) (x:=bs t) rfl,zy (by show t.toArray.size<=_;simp;omega)]
 by_cases ht45:t=[45]
 .have hE:DF t=8:=by rw[DF,zy ht45]
  have b1:(t==[45])=true:=by rw[ht45];rfl
  rw[hE]at fin htk;rw[zz (by omega)]at htk;subst htk;rw[hE];simp -implicitDefEqProofs [CM,b1,-AF,G9,DE];exact fin _ rfl rfl
 .have hE:DF t=(DR t).2:=by rw[DF,zz ht45]
  have b1:(t==[45])=false:=by simpa using ht45
  by_cases h0:(DR t).2=0
  .rw[hE,h0]at fin htk;rw[zy rfl]at htk;subst htk;rw[hE,h0]
   have b2:((DR t).2 != 0)=false:=by rw[h0];rfl
   simp -implicitDefEqProofs [CM,b1,N2,gn,Bv,b2,tl2,-AF,ZA,DE];exact fin _ rfl rfl
  .have b2:((DR t).2 != 0)=true:=by rw[bne_iff_ne];exact h0
   rw[hE]at fin htk;rw[zz h0]at htk;subst htk;rw[hE];simp -implicitDefEqProofs [CM,b1,N2,gn,Bv,b2,-AF,G9,DE];exact fin _ rfl rfl
def AU:List UInt8->Nat×Int
 | []=>(0,9)
 | c::r=>if c.toNat=34 then(0,0)else if prt c then((AU r).1+1,(AU r).2)else(0,8)
theorem N3:∀l,(AU l).1<=l.length/\((AU l).2=0->(AU l).1<l.length)/\((AU l).2=0\/(AU l).2=8\/(AU l).2=9)
 | []=>by simp[AU]
 | c::r=>by
  obtain⟨h1,h2,h3⟩:=N3 r;rw[AU];split
  .simp
  .split
   .refine⟨by simp;omega,λh=>by have:=h2 h;simp;omega,h3⟩
   .simp
structure OkQ (l:List UInt8) (z:Nat) (e:Int) (a p:Nat):Prop where
 lo:a<=p
 le:p<=l.length
 e1:p+(AU (l.drop p)).1=z
 e2:(AU (l.drop p)).2=e
def SQ (s:ByteArray) (a l p:Nat):Ac:=⟨[(4,.t (iv (a:Int))),(3,.t (iv 0)),(2,.ptr 1 0),(0,.ptr 0 0)],[(1,tk0),(0,scr s p l)],2,90⟩
theorem tP (s:ByteArray) (a l:Nat) (hs:s.size<=65536) (ha:a<s.size) :
  AB Xa (G q) 93 [.ptr 0 0] [(0,scr s a l)] 1
   (.t (Dh 3 ((s.data.toList.drop (a+1)).take (AU (s.data.toList.drop (a+1))).1) l (AU (s.data.toList.drop (a+1))).2))
   [(0,scr s (a+1+(AU (s.data.toList.drop (a+1))).1+(if(AU (s.data.toList.drop (a+1))).2=0 then 1 else 0)) l)] 1:=by
 have hlen:s.data.toList.length=s.size:=rfl
 obtain⟨a1,ha1⟩:∃a1,a1=a+1:=⟨_,rfl⟩
 rw[<-ha1]
 obtain⟨D,hD⟩:∃D,D=s.data.toList.drop a1:=⟨_,rfl⟩
 rw[<-hD];obtain⟨hq1,hq2,hq3⟩:=N3 D
 have hDl:D.length=s.size-a1:=by rw[hD,Xs,hlen]
 obtain⟨n,hn⟩:∃n,n=(AU D).1:=⟨_,rfl⟩
 obtain⟨e,he⟩:∃e,e=(AU D).2:=⟨_,rfl⟩
 rw[<-hn,<-he]at hq2;rw[<-hn]at hq1;rw[<-he]at hq3;rw[<-hn,<-he]
 obtain⟨t,ht⟩:∃t,t=D.take n:=⟨_,rfl⟩
 rw[<-ht]
 obtain⟨z,hz⟩:∃z,z=a1+n:=⟨_,rfl⟩
 rw[<-hz]
 obtain⟨y,hy⟩:∃y,y=z+(if e=0 then 1 else 0):=⟨_,rfl⟩
 rw[<-hy]
 obtain⟨tk,htk⟩:∃tk:Row,tk=if e=0 then tkr 3 t l else tkr 0 [] 0:=⟨_,rfl⟩
 have fin:∀(env:List (Nat×PV)),Aa env 2=some (.ptr 1 0)->Aa env 3=some (.t (iv e)) ->
   EA Xa (G q) 1 [.cell 2 true 3,.tmp 3] (λr0 H0 nx0=>r0=PV.t (Dh 3 t l e)/\H0=[(1,tk),(0,scr s y l)]/\nx0=2) .ret ⟨env,[(1,tk),(0,scr s y l)],2,90⟩:=by
  intro env h2 h3;by_cases h0:e=0
  .rw[zy h0]at htk;refine⟨.inr rfl,_,[.t (.ag (tkc 3 t l)),.t (iv e)],Sub.refl _,?_,?_,rfl,rfl⟩
   .simp[CH,h2,h3,htk,Ao,AN]
   .simp[Dh,h0]
  .rw[zz h0]at htk;refine⟨.inr rfl,_,[.t (.ag (tkc 0 [] 0)),.t (iv e)],Sub.refl _,?_,?_,rfl,rfl⟩
   .simp[CH,h2,h3,htk,Ao,AN]
   .simp[Dh,h0]
 refine AB.keep1 (cs:=scc s y l) (H':=[(1,tk),(0,scr s y l)]) (nx':=2) ?_ rfl;refine oJ.callP rfl ?_;(conv in VA=>cbv)
 have e0:Xb.wrap ((a:Int)+1)=(a1:Int):=by rw[ha1];exact AH (by omega) (by omega)
 have st0:=λt=>ts1 s a l a1 t;refine Az Af ?_;simp -implicitDefEqProofs;refine Az Af ?_;simp -implicitDefEqProofs [tl1,e0,st0];refine Az Af ?_;simp -implicitDefEqProofs [tl1];refine BM (α:=Unit) (λ_=>SQ s a1 l z) (λ_=>e=9/\z=s.size) (λ_=>rfl) ?_ ?_
 .refine BI ?_;refine CV (SQ s a1 l) (λp=>s.size-p) (OkQ s.data.toList z e a1) a1 (λ_=>rfl) ⟨Xc _,by omega,by rw[<-hD,<-hn,hz],by rw[<-hD,<-he]⟩ ?_ rfl ?_
  .refine AJ rfl rfl ?_ ?_<;>simp -implicitDefEqProofs [SQ]
  .rintro p ⟨hp0,hp,hp1,hp2⟩;refine Aw Af ?_;by_cases hlt:p<s.size
   .obtain⟨c,hc⟩:∃c,s.data.toList[p]?=some c:=⟨_,Xe hlt⟩
    have ix:=Dw s p c hc
    have hdrop:s.data.toList.drop p=c::s.data.toList.drop (p+1):=by
     have:=Xr (l:=s.data.toList) (i:=p) (by omega);rw[this,(Xf.1 hc).2]
    rw[hdrop,AU]at hp1 hp2
    obtain⟨p1,hp1'⟩:∃p1,p1=p+1:=⟨_,rfl⟩
    rw[<-hp1']at hp1 hp2
    have e1:Xb.wrap ((p:Int)+1)=(p1:Int):=by rw[hp1'];exact AH (by omega) (by omega)
    have st:=λt=>ts1 s p l p1 t
    have b34:((c.toNat:Int)==34)=decide (c.toNat=34):=by
     by_cases h:c.toNat=34
     .rw[h];rfl
     .rw[zx h,zu];omega
    by_cases h34:c.toNat=34
    .rw[zy h34]at hp1 hp2;rw[zw h34]at b34
     have hpz:p=z:=by simpa using hp1
     have he0:e=0:=by simpa using hp2.symm
     rw[zy he0]at htk hy
     have hyp:y=p1:=by omega
     have e2:Xb.wrap ((p1:Int)-1)=(z:Int):=by rw[Fs (by omega) (by omega)];omega
     have hsl:=LL s a1 z (by omega) (by omega)
     have e3:s.extract a1 z=bs t:=by
      rw[<-GZ (s.extract a1 z),Lib.extract_data,hz,X4,<-hD,ht]
     rw[e3]at hsl;subst htk;rw[hyp,he0]at fin;simp -implicitDefEqProofs [SQ,tl0,tl1,tl2,hlt,ix,b34,e1,st,e2,hsl,-AF,-Ja,Pp,DE,hyp,he0];exact fin _ rfl rfl
    .rw[zz h34]at hp1 hp2;rw[zx h34]at b34;have hk:=Pn c
     have bad:prt c=false->p=z/\e=8/\y=p:=by
      intro h;rw[h]at hp1 hp2;simp at hp1 hp2;refine⟨hp1,hp2.symm,?_⟩;rw[zz (by omega)]at hy;omega
     cases t1:decide ((c.toNat:Int)<32)with
     | true=>
      rw[t1]at hk;obtain⟨h1,h2,h3⟩:=bad hk;rw[zz (by omega)]at htk;subst htk;rw[h3,h2]at fin;simp -implicitDefEqProofs [SQ,tl0,tl1,hlt,ix,b34,t1,-AF,G9,DE,h3,h2];exact fin _ rfl rfl
     | false=>
      cases t2:decide (126<(c.toNat:Int))with
      | true=>
       rw[t1,t2]at hk;obtain⟨h1,h2,h3⟩:=bad hk;rw[zz (by omega)]at htk;subst htk;rw[h3,h2]at fin;simp -implicitDefEqProofs [SQ,tl0,tl1,hlt,ix,b34,t1,t2,-AF,G9,DE,h3,h2];exact fin _ rfl rfl
      | false=>
       rw[t1,t2]at hk;rw[hk]at hp1 hp2;simp only[Yj,Yw,if_true]at hp1 hp2;simp -implicitDefEqProofs [SQ,tl0,tl1,hlt,ix,b34,t1,t2,e1,st];exact Aq.mk p1 ⟨⟨by omega,by omega,by omega,hp2⟩,by omega⟩ (AJ rfl rfl (by simp -implicitDefEqProofs [SQ]) (by simp -implicitDefEqProofs [SQ]))
   .have hd0:s.data.toList.drop p=[]:=X2 (by omega);rw[hd0,AU]at hp1 hp2
    have h1:p=z:=by simpa using hp1
    have h2:e=9:=by simpa using hp2.symm
    subst h1;simp -implicitDefEqProofs [SQ,tl0,tl1,hlt];exact Aq.mk () ⟨h2,by omega⟩ (AJ rfl rfl (by simp -implicitDefEqProofs [SQ]) (by simp -implicitDefEqProofs [SQ]))
 rintro _ ⟨h9,hzs⟩;refine Aw Af ?_;rw[zz (by omega)]at htk hy;subst htk
 have hyz:y=z:=by omega
 rw[hyz,h9]at fin;simp -implicitDefEqProofs [SQ,-AF,G9,DE,hyz,h9];exact fin _ rfl rfl
def Fw:List UInt8:=[40,41,91,93,60,62,123,125,44,46,59,58,61,38,124,47,35,64]
def AG (D:List UInt8):Nat×Int:=
 if Lib.hasPrefix D [60,33]||Lib.hasPrefix D [33,62]then(2,0)else if(D.head?).any Fw.contains then(1,0)else(0,8)
theorem tQ (l:List UInt8) (c:UInt8):decide (Lib.indexByte l c<0) = !l.contains c:=by
 have hge:=Lib.indexByte_ge l c;by_cases h:Lib.indexByte l c = -1
 .have:=RO l c h;rw[h]
  have h2:l.contains c=false:=by simpa using this
  rw[h2];rfl
 .obtain⟨w,r,e,_,_⟩:=RP l c (Lib.indexByte l c).toNat (by omega)
  have h2:l.contains c=true:=by rw[e];simp
  rw[h2,zx (by omega)];rfl
noncomputable def N4:Tbl:=[(114,LJ),(115,Ns)]
theorem Pr:Ctx Xa (G q) (orc N4):=(A5.cons rU (.cons rW .nil)).ctx mixed
theorem tR (s:ByteArray) (a l:Nat) (hs:s.size<=65536) (ha:a<s.size) :
  AB Xa (G q) 94 [.ptr 0 0] [(0,scr s a l)] 1
   (.t (Dh 5 ((s.data.toList.drop a).take (AG (s.data.toList.drop a)).1) l (AG (s.data.toList.drop a)).2))
   [(0,scr s (a+(AG (s.data.toList.drop a)).1) l)] 1:=by
 have hlen:s.data.toList.length=s.size:=rfl
 obtain⟨D,hD⟩:∃D,D=s.data.toList.drop a:=⟨_,rfl⟩
 rw[<-hD]
 have hDl:D.length=s.size-a:=by rw[hD,Xs,hlen]
 obtain⟨c0,hc0⟩:∃c,s.data.toList[a]?=some c:=⟨_,Xe ha⟩
 have hD0:D=c0::s.data.toList.drop (a+1):=by
  have:=Xr (l:=s.data.toList) (i:=a) (by omega);rw[hD,this,(Xf.1 hc0).2]
 have ix0:=Dw s a c0 hc0
 have hx:(s.extract a s.size).data.toList=D:=by
  rw[Lib.extract_data,<-hD];exact Xz (by omega)
 have hsf:=YX s a (by omega)
 have q1:∀p:ByteArray,LJ [.v (.string (s.extract a s.size)),.v (.string p)]=some (bv (Lib.hasPrefix D p.data.toList)):=by
  intro p;rw[LJ,E2 (τ:=BX) (σ:=BX) (x:=s.extract a s.size) (y:=p) rfl rfl,hx]
 have q2:Ns [.v (.string ⟨#[40,41,91,93,60,62,123,125,44,46,59,58,61,38,124,47,35,64]⟩),cv c0]=some (iv (Lib.indexByte Fw c0)):=by
  have:(((c0.toNat:Nat):Int)).toNat.toUInt8=c0:=by simp
  simp only[Ns,this];rfl
 have hneg:=tQ Fw c0;have q11:=q1 ⟨#[60,33]⟩;have q12:=q1 ⟨#[33,62]⟩
 have fin:∀(k':Int) (t':List UInt8) (l' e:Int) (z:Nat) (env:List (Nat×PV)),Dh 5 (D.take (AG D).1) l (AG D).2 = .tu [.ag (tkc k' t' l'),iv e]->Aa env 2=some (.ptr 1 0)->Aa env 3=some (.t (iv e)) ->
   EA Xa (G q) 1 [.cell 2 true 3,.tmp 3] (λr0 H0 nx0=>r0=PV.t (Dh 5 (D.take (AG D).1) l (AG D).2)/\H0=[(1,tkr k' t' l'),(0,scr s z l)]/\nx0=2) .ret ⟨env,[(1,tkr k' t' l'),(0,scr s z l)],2,67⟩:=by
  intro k' t' l' e z env h h2 h3;refine⟨.inr rfl,_,[.t (.ag (tkc k' t' l')),.t (iv e)],Sub.refl _,?_,?_,rfl,rfl⟩
  .simp[CH,h2,h3,Ao,AN]
  .rw[h];rfl
 have good:∀n:Nat,AG D=(n,0)->0<n->n<=D.length->∀z,z=a+n->Xb.wrap ((a:Int)+(n:Int))=(z:Int)/\Xb.wrap ((z:Int)-(n:Int))=(a:Int)/\Dn (.t (sv s)) (some (.t (iv (a:Int)))) (some (.t (iv (z:Int))))=some (.t (sv (bs (D.take n)))) /\
   Dh 5 (D.take (AG D).1) l (AG D).2 = .tu [.ag (tkc 5 (D.take n) l),iv 0]:=by
  intro n hn h0 hle z hz;refine⟨by rw[Fs (by omega) (by omega)];omega,by rw[Fs (by omega) (by omega)];omega,?_,by rw[hn];rfl⟩;rw[LL s a z (by omega) (by omega)]
  have e3:s.extract a z=bs (D.take n):=by
   rw[<-GZ (s.extract a z),Lib.extract_data,hz,X4,<-hD]
  rw[e3]
 have pl:∀x y:UInt8,Lib.hasPrefix D [x,y]=true->2<=D.length:=by
  intro x y h;have:=(Yk.1 h).length_le;simpa using this
 have q11':∀b,Lib.hasPrefix D [60,33]=b->LJ [.v (.string (s.extract a s.size)),.v (.string ⟨#[60,33]⟩)]=some (bv b):=by intro b h;rw[q11,<-h]
 have q12':∀b,Lib.hasPrefix D [33,62]=b->LJ [.v (.string (s.extract a s.size)),.v (.string ⟨#[33,62]⟩)]=some (bv b):=by intro b h;rw[q12,<-h]
 cases p1:Lib.hasPrefix D [60,33]with
 | true=>
  have hS:AG D=(2,0):=by simp[AG,p1]
  have g1:=q11' _ p1
  obtain⟨z,hz⟩:∃z,z=a+2:=⟨_,rfl⟩
  obtain⟨w1,w2,w3,w4⟩:=good 2 hS (by omega) (pl _ _ p1) z hz;have w1':Xb.wrap ((a:Int)+2)=(z:Int):=w1;have w2':Xb.wrap ((z:Int)-2)=(a:Int):=w2;have st:=λt=>ts1 s a l z t
  have hzz:a+(AG D).1=z:=by rw[hS];exact hz.symm
  rw[hzz];refine AB.keep1 (cs:=scc s z l) (H':=[(1,tkr 5 (D.take 2) l),(0,scr s z l)]) (nx':=2) ?_ rfl;refine OX.callP rfl ?_;refine Aw Pr ?_
  (conv in Nl=>cbv);simp -implicitDefEqProofs [tl0,tl1,tl2,hsf,N4,g1,w1',st,w2',w3,-AF,-Ja,Pp,DE]
  exact fin 5 (D.take 2) l 0 z _ w4 rfl rfl
 | false=>
 have g1:=q11' _ p1
 cases p2:Lib.hasPrefix D [33,62]with
 | true=>
  have hS:AG D=(2,0):=by simp[AG,p2]
  have g2:=q12' _ p2
  obtain⟨z,hz⟩:∃z,z=a+2:=⟨_,rfl⟩
  obtain⟨w1,w2,w3,w4⟩:=good 2 hS (by omega) (pl _ _ p2) z hz;have w1':Xb.wrap ((a:Int)+2)=(z:Int):=w1;have w2':Xb.wrap ((z:Int)-2)=(a:Int):=w2;have st:=λt=>ts1 s a l z t
  have hzz:a+(AG D).1=z:=by rw[hS];exact hz.symm
  rw[hzz];refine AB.keep1 (cs:=scc s z l) (H':=[(1,tkr 5 (D.take 2) l),(0,scr s z l)]) (nx':=2) ?_ rfl;refine OX.callP rfl ?_;refine Aw Pr ?_
  (conv in Nl=>cbv);simp -implicitDefEqProofs [tl0,tl1,tl2,hsf,N4,g1,g2,w1',st,w2',w3,-AF,-Ja,Pp,DE]
  exact fin 5 (D.take 2) l 0 z _ w4 rfl rfl
 | false=>
 have g2:=q12' _ p2
 cases p3:Fw.contains c0 with
 | true=>
  have hS:AG D=(1,0):=by
   unfold AG;rw[p1,p2,hD0];simp only[Yj,Xk,if_false,Yz,Y0,p3,if_true]
  rw[p3]at hneg;have h3:¬Lib.indexByte Fw c0<0:=of_decide_eq_false hneg
  obtain⟨z,hz⟩:∃z,z=a+1:=⟨_,rfl⟩
  obtain⟨w1,w2,w3,w4⟩:=good 1 hS (by omega) (by rw[hD0];simp) z hz;have w1':Xb.wrap ((a:Int)+1)=(z:Int):=w1;have w2':Xb.wrap ((z:Int)-1)=(a:Int):=w2;have st:=λt=>ts1 s a l z t
  have hzz:a+(AG D).1=z:=by rw[hS];exact hz.symm
  rw[hzz];refine AB.keep1 (cs:=scc s z l) (H':=[(1,tkr 5 (D.take 1) l),(0,scr s z l)]) (nx':=2) ?_ rfl;refine OX.callP rfl ?_;refine Aw Pr ?_
  (conv in Nl=>cbv);simp -implicitDefEqProofs [tl0,tl1,tl2,hsf,N4,g1,g2,ix0,q2,h3,w1',st,w2',w3,-AF,-Ja,Pp,DE]
  exact fin 5 (D.take 1) l 0 z _ w4 rfl rfl
 | false=>
  have hS:AG D=(0,8):=by
   unfold AG;rw[p1,p2,hD0];simp only[Yj,Xk,if_false,Yz,Y0,p3]
  rw[p3]at hneg;have h3:Lib.indexByte Fw c0<0:=of_decide_eq_true hneg
  have hzz:a+(AG D).1=a:=by rw[hS];rfl
  have w4:Dh 5 (D.take (AG D).1) l (AG D).2 = .tu [.ag (tkc 0 [] 0),iv 8]:=by rw[hS];rfl
  rw[hzz];refine AB.keep1 (cs:=scc s a l) (H':=[(1,tkr 0 [] 0),(0,scr s a l)]) (nx':=2) ?_ rfl;refine OX.callP rfl ?_;refine Aw Pr ?_
  (conv in Nl=>cbv);simp -implicitDefEqProofs [tl0,tl1,tl2,hsf,N4,g1,g2,ix0,q2,h3,-AF,G9,DE]
  exact fin 0 [] 0 8 a _ w4 rfl rfl
structure Tk where
 k:Int
 t:List UInt8
 e:Int
 n:Nat
def Bg (D:List UInt8):Tk:=
 match D with
 | []=>⟨0,[],8,0⟩
 | c::_=>
  if BS c then⟨1,D.take (Bc false D),if 32<Bc false D then 7 else 0,Bc false D⟩
  else if Bw c then⟨2,D.take (Bc true D),if 32<Bc true D then 7 else 0,Bc true D⟩
  else if AQ c||decide (c.toNat=45)then⟨4,D.take (BH D),DF (D.take (BH D)),BH D⟩
  else if c.toNat=34 then⟨3,(D.drop 1).take (AU (D.drop 1)).1,(AU (D.drop 1)).2,1+(AU (D.drop 1)).1+(if(AU (D.drop 1)).2=0 then 1 else 0)⟩
  else⟨5,D.take (AG D).1,(AG D).2,(AG D).1⟩
theorem LN (k:Int) (t:List UInt8) (l e:Int):∃k' t' l',Dh k t l e = .tu [.ag (tkc k' t' l'),iv e]:=by
 by_cases h:e=0
 .exact⟨k,t,l,by rw[Dh,zy h,h]⟩
 .exact⟨0,[],0,by rw[Dh,zz h]⟩
theorem LO {f:Nat} {args:List T} {r:T} {s:ByteArray} {a l a' l':Nat} (h:AB Xa (G q) f (.ptr 0 0::args.map .t) [(0,scr s a l)] 1 (.t r) [(0,scr s a' l')] 1) (t:Row) :
  HOK Xa (G q) f (Ge (.ptr 0 0::args.map .t) [(1,t),(0,scr s a l)] 2 (.t r,[(1,t),(0,scr s a' l')],2)):=by
 refine Fu ?_ ?_
 .exact AB.lift1 (cs:=scc s a l) (args:=args) (cs':=scc s a' l') h (b:=0) (NX:=2) (Hb:=[(1,t),(0,scr s a l)]) rfl (by omega)
 .intro _ b x hb;simp only[Aa]at hb;split at hb
  .omega
  .split at hb
   .omega
   .cases hb
noncomputable def Km:Tbl:=[(88,G5 Ji),(90,G5 rUp),(91,G5 EW)]
theorem LP:A5 Xa (G q) Km:=.cons (Jj YI) (.cons (Jj RI) (.cons (Jj RJ) .nil))
theorem tS (s:ByteArray) (a l:Nat) (hs:s.size<=65536) (ha:a<s.size) :
  AB Xa (G q) 56 [.ptr 0 0] [(0,scr s a l)] 1
   (.t (Dh (Bg (s.data.toList.drop a)).k (Bg (s.data.toList.drop a)).t l (Bg (s.data.toList.drop a)).e))
   [(0,scr s (a+(Bg (s.data.toList.drop a)).n) l)] 1:=by
 have hlen:s.data.toList.length=s.size:=rfl
 obtain⟨D,hD⟩:∃D,D=s.data.toList.drop a:=⟨_,rfl⟩
 obtain⟨c,hc⟩:∃c,s.data.toList[a]?=some c:=⟨_,Xe ha⟩
 have hD0:D=c::s.data.toList.drop (a+1):=by
  have:=Xr (l:=s.data.toList) (i:=a) (by omega);rw[hD,this,(Xf.1 hc).2]
 have hD1:D.drop 1=s.data.toList.drop (a+1):=by rw[hD0];rfl
 have ix:=Dw s a c hc;have ci:=RR c;have c1:=Jk Ji (c.toNat:Int);have c2:=Jk rUp (c.toNat:Int);have c3:=Jk EW (c.toNat:Int);rw[RK]at c1;rw[Nu]at c2;rw[Nv]at c3;have h1:=λps H nx o=>EF ps H nx o
 have fin:∀(r:T) (k:Int) (t:List UInt8) (z:Nat) (e k':Int) (t':List UInt8) (l':Int) (env:List (Nat×PV)),r=Dh k t l e->Dh k t l e = .tu [.ag (tkc k' t' l'),iv e]->Aa env 2=some (.ptr 1 0)->Aa env 3=some (.t (iv e)) ->
   EA Xa (G q) 1 [.cell 2 true 3,.tmp 3] (λr0 H0 nx0=>r0=PV.t r/\H0=[(1,tkr k' t' l'),(0,scr s z l)]/\nx0=2) .ret ⟨env,[(1,tkr k' t' l'),(0,scr s z l)],2,51⟩:=by
  intro r k t z e k' t' l' env hr h h2 h3;refine⟨.inr rfl,_,[.t (.ag (tkc k' t' l')),.t (iv e)],Sub.refl _,?_,?_,rfl,rfl⟩
  .simp[CH,h2,h3,Ao,AN]
  .rw[hr,h];rfl
 rw[<-hD]
 have hN:Bg D=Bg (c::s.data.toList.drop (a+1)):=by rw[hD0]
 rw[Bg]at hN;rw[<-hD0]at hN
 cases t1:BS c with
 | true=>
  rw[t1]at c1;rw[zy t1]at hN;have hm:=ZB (q:=q) false s a l 1 hs (by omega);rw[<-hD]at hm;rw[hN];simp only
  obtain⟨z,hz⟩:∃z,z=a+Bc false D:=⟨_,rfl⟩
  rw[<-hz]at hm ⊢;obtain⟨k',t',l',heq⟩:=LN 1 (D.take (Bc false D)) l (if 32<Bc false D then 7 else 0);generalize (if 32<Bc false D then(7:Int)else 0)=e at hm heq ⊢;generalize D.take (Bc false D)=t at hm heq ⊢;have lm:=LO (args:=[iv 1,fv 88]) hm tk0;rw[heq]at lm;have ctx:=LP.ctxH (.cons lm .nil) mixed;refine AB.keep1 (cs:=scc s z l) (H':=[(1,tkr k' t' l'),(0,scr s z l)]) (nx':=2) ?_ rfl;refine LH.callP rfl ?_;refine Aw ctx ?_
  (conv in Kh=>cbv);simp -implicitDefEqProofs [tl0,tl1,ix,ci,Km,c1,h1,Bv,DE]
  exact fin _ _ _ z e k' t' l' _ rfl heq rfl rfl
 | false=>
 rw[t1]at c1;rw[zz (by rw[t1];simp)]at hN
 cases t2:Bw c with
 | true=>
  rw[t2]at c2;rw[zy t2]at hN;have hm:=ZB (q:=q) true s a l 2 hs (by omega);rw[<-hD]at hm;rw[hN];simp only
  obtain⟨z,hz⟩:∃z,z=a+Bc true D:=⟨_,rfl⟩
  rw[<-hz]at hm ⊢;obtain⟨k',t',l',heq⟩:=LN 2 (D.take (Bc true D)) l (if 32<Bc true D then 7 else 0);generalize (if 32<Bc true D then(7:Int)else 0)=e at hm heq ⊢;generalize D.take (Bc true D)=t at hm heq ⊢;have lm:=LO (args:=[iv 2,fv 90]) hm tk0;rw[heq]at lm;have ctx:=LP.ctxH (.cons lm .nil) mixed;refine AB.keep1 (cs:=scc s z l) (H':=[(1,tkr k' t' l'),(0,scr s z l)]) (nx':=2) ?_ rfl;refine LH.callP rfl ?_;refine Aw ctx ?_
  (conv in Kh=>cbv);simp -implicitDefEqProofs [tl0,tl1,ix,ci,Km,c1,c2,h1,Bv,DE]
  exact fin _ _ _ z e k' t' l' _ rfl heq rfl rfl
 | false=>
 rw[t2]at c2;rw[zz (by rw[t2];simp)]at hN
 have b45:((c.toNat:Int)==45)=decide (c.toNat=45):=by
  by_cases h:c.toNat=45
  .rw[h];rfl
  .rw[zx h,zu];omega
 have num:AQ c=true\/(AQ c=false/\decide (c.toNat=45)=true)->Bg D=⟨4,D.take (BH D),DF (D.take (BH D)),BH D⟩:=by
  rintro(h | ⟨h,h'⟩)
  .rw[hN,zy (by rw[h];rfl)]
  .rw[hN,zy (by rw[h,h'];rfl)]
 cases t3:AQ c with
 | true=>
  rw[t3]at c3;have hm:=ZC (q:=q) s a l hs ha;rw[<-hD]at hm;rw[num (.inl t3)];simp only
  obtain⟨z,hz⟩:∃z,z=a+BH D:=⟨_,rfl⟩
  rw[<-hz]at hm ⊢;obtain⟨k',t',l',heq⟩:=LN 4 (D.take (BH D)) l (DF (D.take (BH D)));generalize DF (D.take (BH D))=e at hm heq ⊢;generalize D.take (BH D)=t at hm heq ⊢;have lm:=LO (args:=[]) hm tk0;rw[heq]at lm;have ctx:=LP.ctxH (.cons lm .nil) mixed;refine AB.keep1 (cs:=scc s z l) (H':=[(1,tkr k' t' l'),(0,scr s z l)]) (nx':=2) ?_ rfl;refine LH.callP rfl ?_;refine Aw ctx ?_
  (conv in Kh=>cbv);simp -implicitDefEqProofs [tl0,tl1,ix,ci,Km,c1,c2,c3,h1,Bv,DE]
  exact fin _ _ _ z e k' t' l' _ rfl heq rfl rfl
 | false=>
 rw[t3]at c3
 cases t4:decide (c.toNat=45)with
 | true=>
  rw[t4]at b45;have hm:=ZC (q:=q) s a l hs ha;rw[<-hD]at hm;rw[num (.inr ⟨t3,t4⟩)];simp only
  obtain⟨z,hz⟩:∃z,z=a+BH D:=⟨_,rfl⟩
  rw[<-hz]at hm ⊢;obtain⟨k',t',l',heq⟩:=LN 4 (D.take (BH D)) l (DF (D.take (BH D)));generalize DF (D.take (BH D))=e at hm heq ⊢;generalize D.take (BH D)=t at hm heq ⊢;have lm:=LO (args:=[]) hm tk0;rw[heq]at lm;have ctx:=LP.ctxH (.cons lm .nil) mixed;refine AB.keep1 (cs:=scc s z l) (H':=[(1,tkr k' t' l'),(0,scr s z l)]) (nx':=2) ?_ rfl;refine LH.callP rfl ?_;refine Aw ctx ?_
  (conv in Kh=>cbv);simp -implicitDefEqProofs [tl0,tl1,ix,ci,Km,c1,c2,c3,b45,h1,Bv,DE]
  exact fin _ _ _ z e k' t' l' _ rfl heq rfl rfl
 | false=>
 rw[t4]at b45;rw[t3,t4,zz (by simp)]at hN;by_cases h34:c.toNat=34
 .have b34:((c.toNat:Int)==34)=true:=by rw[h34];rfl
  rw[zy h34]at hN;have hm:=tP (q:=q) s a l hs ha;rw[<-hD1]at hm;rw[hN];simp only
  obtain⟨z,hz⟩:∃z,z=a+(1+(AU (D.drop 1)).1+(if(AU (D.drop 1)).2=0 then 1 else 0)):=⟨_,rfl⟩
  rw[show a+1+(AU (D.drop 1)).1+(if(AU (D.drop 1)).2=0 then 1 else 0)=z by omega]at hm;rw[<-hz];obtain⟨k',t',l',heq⟩:=LN 3 ((D.drop 1).take (AU (D.drop 1)).1) l (AU (D.drop 1)).2;generalize (D.drop 1).take (AU (D.drop 1)).1=t at hm heq ⊢;clear hz;generalize (AU (D.drop 1)).2=e at hm heq ⊢;have lm:=LO (args:=[]) hm tk0;rw[heq]at lm;have ctx:=LP.ctxH (.cons lm .nil) mixed;refine AB.keep1 (cs:=scc s z l) (H':=[(1,tkr k' t' l'),(0,scr s z l)]) (nx':=2) ?_ rfl;refine LH.callP rfl ?_;refine Aw ctx ?_
  (conv in Kh=>cbv);simp -implicitDefEqProofs [tl0,tl1,ix,ci,Km,c1,c2,c3,b45,b34,h1,Bv,DE]
  exact fin _ _ _ z e k' t' l' _ rfl heq rfl rfl
 .have b34:((c.toNat:Int)==34)=false:=by rw[zu];omega
  rw[zz h34]at hN;have hm:=tR (q:=q) s a l hs ha;rw[<-hD]at hm;rw[hN];simp only
  obtain⟨z,hz⟩:∃z,z=a+(AG D).1:=⟨_,rfl⟩
  rw[<-hz]at hm ⊢;obtain⟨k',t',l',heq⟩:=LN 5 (D.take (AG D).1) l (AG D).2;generalize (AG D).2=e at hm heq ⊢;generalize D.take (AG D).1=t at hm heq ⊢;have lm:=LO (args:=[]) hm tk0;rw[heq]at lm;have ctx:=LP.ctxH (.cons lm .nil) mixed;refine AB.keep1 (cs:=scc s z l) (H':=[(1,tkr k' t' l'),(0,scr s z l)]) (nx':=2) ?_ rfl;refine LH.callP rfl ?_;refine Aw ctx ?_
  (conv in Kh=>cbv);simp -implicitDefEqProofs [tl0,tl1,ix,ci,Km,c1,c2,c3,b45,b34,h1,Bv,DE]
  exact fin _ _ _ z e k' t' l' _ rfl heq rfl rfl
structure Tok where
 k:Int
 t:List UInt8
 l:Nat
def Ap:Enc Tok:=⟨3,λt=>[iv t.k,sv (bs t.t),iv (t.l:Int)],λ_=>rfl,by omega,λa b h=>by
 obtain⟨k,t,l⟩:=a;obtain⟨k',t',l'⟩:=b;injection h with h1 h2;injection h2 with h2 h3;injection h3 with h3;injection h1 with h1;injection h1 with _ h1;injection h2 with h2;injection h2 with h2;injection h3 with h3;injection h3 with _ h3
 have h2':t=t':=by
  have:=congrArg (λb:ByteArray=>b.data.toList) h2;simpa using this
 simp only at h1 h3
 have h3':l=l':=by omega
 rw[h1,h2',h3']⟩
def CY:Nat->List UInt8->Nat->Except (Nat×Int) (List Tok)
 | 0,_,_=>.ok []
 | f+1,D,l=>
  if D.isEmpty then .ok []
  else if(Bg D).e≠0 then .error (l,(Bg D).e)
  else match CY f ((D.drop (Bg D).n).drop (AV false (D.drop (Bg D).n)).1) (l+(AV false (D.drop (Bg D).n)).2)with
   | .error x=>.error x
   | .ok ts=>.ok (⟨(Bg D).k,(Bg D).t,l⟩::ts)
def EY (D:List UInt8) (l:Nat):Except (Nat×Int) (List Tok):=CY (D.length+1) (D.drop (AV false D).1) (l+(AV false D).2)
def Hf (out:List Tok):Except (Nat×Int) (List Tok)->Except (Nat×Int) (List Tok)
 | .error x=>.error x
 | .ok ts=>.ok (out++ts)
theorem ZD (r:Except (Nat×Int) (List Tok)):Hf [] r=r:=by cases r<;>rfl
theorem Ps:∀(l:List UInt8) (cm:Bool),(AV cm l).2<=(AV cm l).1
 | [],_=>by simp[AV]
 | c::r,cm=>by
  have h1:=Ps r false;have h2:=Ps r true;rw[AV];split
  .simp;omega
  .split
   .simp;omega
   .split
    .simp;omega
    .simp
theorem ZE (big:Bool) (c:UInt8) (r:List UInt8) (h:CJ big c=true):1<=Bc big (c::r):=by
 unfold Bc;rw[X3,zy h];simp
theorem Pt (D:List UInt8) (h0:D.isEmpty=false) (he:(Bg D).e=0):1<=(Bg D).n/\(Bg D).n<=D.length:=by
 cases D with
 | nil=>cases h0
 | cons c r=>
  rw[Bg]at he ⊢;by_cases t1:BS c=true
  .rw[zy t1];exact⟨ZE false c r (by rw[RS];simp[t1]),Kl _ _⟩
  .rw[zz t1]at he ⊢;by_cases t2:Bw c=true
   .rw[zy t2];exact⟨ZE true c r (by rw[RS];simp[t2]),Kl _ _⟩
   .rw[zz t2]at he ⊢;by_cases t3:(AQ c||decide (c.toNat=45))=true
    .rw[zy t3];refine⟨?_,N1 _⟩;show 1<=BH (c::r);unfold BH DS;by_cases h45:c=45
     .subst h45;simp
     .have hd:AQ c=true:=by
       rcases Y1.1 t3 with h | h
       .exact h
       .exact absurd (Yf.1 (by have:=of_decide_eq_true h;show c.toNat=45;omega)) h45
      have:((c::r).head?==some 45)=false:=by simpa using h45
      rw[this];simp[X3,hd]
    .rw[zz t3]at he ⊢;by_cases t4:c.toNat=34
     .rw[zy t4]at he ⊢;obtain⟨q1,q2,q3⟩:=N3 ((c::r).drop 1);have he':(AU ((c::r).drop 1)).2=0:=he;have:=q2 he';simp only[he',if_true];simp at this ⊢;omega
     .rw[zz t4]at he ⊢;have he':(AG (c::r)).2=0:=he;show 1<=(AG (c::r)).1/\(AG (c::r)).1<=(c::r).length;unfold AG at he' ⊢;split
      .rename_i h;refine⟨by omega,?_⟩;rcases Y1.1 h with h | h
       .have:=(Yk.1 h).length_le;simpa using this
       .have:=(Yk.1 h).length_le;simpa using this
      .rename_i h;rw[zz h]at he';split
       .simp
       .rename_i h2;rw[zz h2]at he';cases he'
abbrev KT:=Int×List UInt8
abbrev Res (α:Type):=Except Int (α×Nat)
section
variable (l : List KT)
def Au (p:Nat) (s:List UInt8):Bool:=match l[p]? with
 | some t=>decide (t.1=5)&&decide (t.2=s)
 | none=>false
def AE (p:Nat) (k:Int):Res ByteArray:=match l[p]? with
 | none=>.error 9
 | some t=>if t.1=k then .ok (bs t.2,p+1)else .error 8
def Bk (p:Nat) (s:List UInt8):Except Int Nat:=if l.length<=p then .error 9 else if Au l p s then .ok (p+1)else .error 8
def EZ:Nat->Nat->List ByteArray->Res (List ByteArray)
 | 0,_,_=>.error 0
 | f+1,p,path=>if Au l p [46]then(if 64<=path.length then .error 7 else match AE l (p+1) 2 with
  | .error e=>.error e
  | .ok (s,p')=>EZ f p' (path++[s]))else .ok (path,p)
def DG (rec:Nat->Res Ds) (p:Nat):Res Ds:=match AE l p 2 with
 | .error e=>.error e
 | .ok (s,p1)=>match EZ l (l.length+1) p1 [s]with
  | .error e=>.error e
  | .ok (path,p2)=>match rec p2 with
   | .error e=>.error e
   | .ok (d,p3)=>.ok (.mk 5 ⟨#[]⟩ path [d],p3)
def brS (rec:Nat->Res Ds):Nat->Nat->List Ds->Res (List Ds)
 | 0,_,_=>.error 0
 | f+1,p,parts=>match DG l rec p with
  | .error e=>.error e
  | .ok (d,p1)=>if Au l p1 [44]then(if 256<=parts.length+1 then .error 7 else brS rec f (p1+1) (parts++[d]))else match Bk l p1 [93]with
   | .error e=>.error e
   | .ok p2=>.ok (parts++[d],p2)
def itS (rec:Nat->Res Ds):Nat->Nat->List Ds->Res (List Ds)
 | 0,_,_=>.error 0
 | f+1,p,kids=>if Au l p [44]then(if 256<=kids.length then .error 7 else match rec (p+1)with
  | .error e=>.error e
  | .ok (d,p')=>itS rec f p' (kids++[d]))else .ok (kids,p)
def Cn (s:List UInt8) (op:Int) (kids:List Ds) (p:Nat):Res Ds:=match Bk l p s with
 | .error e=>.error e
 | .ok p'=>.ok (.mk op ⟨#[]⟩ [] kids,p')
def DH (rec:Nat->Res Ds) (p:Nat):Res Ds:=
 if l.length<=p then .error 9 else if Au l p [62]then Cn l [62] 6 [] p else match rec p with
 | .error e=>.error e
 | .ok (d,p1)=>match itS l rec (l.length+1) p1 [d]with
  | .error e=>.error e
  | .ok (kids,p2)=>if Au l p2 [124]then(if 256<=kids.length then .error 7 else match rec (p2+1)with
    | .error e=>.error e
    | .ok (d',p3)=>Cn l [62] 7 (kids++[d']) p3)
   else Cn l [62] 6 kids p2
def DI (rec:Nat->Res Ds) (p:Nat):Res Ds:=
 if l.length<=p then .error 9 else if Au l p [33,62]then Cn l [33,62] 8 [] p else match rec p with
 | .error e=>.error e
 | .ok (d,p1)=>match itS l rec (l.length+1) p1 [d]with
  | .error e=>.error e
  | .ok (kids,p2)=>Cn l [33,62] 8 kids p2
def DJ (parts:List Ds):Res Ds->Res (List Ds)
 | .error e=>.error e
 | .ok (d,p)=>.ok (parts++[d],p)
def Fx (op:Int):Res ByteArray->Res Ds
 | .error e=>.error e
 | .ok (s,p)=>.ok (.mk op s [] [],p)
def Di (rec:Nat->Res Ds) (p:Nat) (parts:List Ds):Res (List Ds):=match l[p]? with
 | none=>.error 9
 | some t=>
  if t.1=1 then .ok (parts++[.mk 1 (bs t.2) [] []],p+1)
  else if t.1≠5 then .error 8
  else if t.2=[64]then DJ parts (Fx 2 (AE l (p+1) 1))
  else if t.2=[35]then DJ parts (Fx 3 (AE l (p+1) 1))
  else if t.2=[91]then brS l rec (l.length+1) (p+1) parts
  else if t.2=[60]then DJ parts (DH l rec (p+1))
  else if t.2=[60,33]then DJ parts (DI l rec (p+1))
  else .error 8
def Fa (rec:Nat->Res Ds):Nat->Nat->List Ds->Res (List Ds)
 | 0,_,_=>.error 0
 | f+1,p,parts=>if Au l p [38]then(if 256<=parts.length then .error 7 else match Di l rec (p+1) parts with
  | .error e=>.error e
  | .ok (parts',p')=>Fa rec f p' parts')else .ok (parts,p)
def Kn (parts:List Ds):Ds:=match parts with
 | [d]=>d
 | parts=>.mk 4 ⟨#[]⟩ [] parts
def As:Nat->Nat->Res Ds
 | 0,p=>if l.length<=p then .error 9 else .error 7
 | n+1,p=>if l.length<=p then .error 9 else match Di l (As n) p []with
  | .error e=>.error e
  | .ok (parts,p1)=>match Fa l (As n) (l.length+1) p1 parts with
   | .error e=>.error e
   | .ok (parts',p2)=>.ok (Kn parts',p2)
end
end Go.Proofs.YtobnacghaamfoaaGreatDoor
namespace Go.Abs
open Go
section
variable {P : Program} {G : Ay}
theorem sub_env {B nx n:Nat} {env env':List (Nat×PV)} {H:Ab} (he:∀q∈env',Aa env q.1=some q.2):Sub P G B ⟨env,H,nx,n⟩ ⟨env',H,nx,n⟩:=by
 intro L a w hi;refine⟨L,⟨hi.heap,hi.nx,hi.base,hi.size,hi.defers,λk p h=>hi.env k p (he _ (BF h))⟩,?_,λ_ _=>rfl⟩;exact⟨Xc _,λ_ _ _=>rfl,λ_ h=>h,λ_ h=>.inl h,λg ⟨b,r,h,e⟩=>.inr ⟨b,r,h,e⟩,BT.refl w,BL.refl w⟩
end
section
variable {α β : Type} {P : Program} {G : Ay} {B : Nat}
theorem sub_rowR2 {e:Enc α} {e':Enc β} {ty ty' b c k nx nx' n:Nat} {l:List α} {l':List β} {env env':List (Nat×PV)} {H R:Ab} (h:Ar e ty H k l) (h':Ar e' ty' H c l') (hb:b<nx') (hB:B<=b) (hc:c<nx') (cb:c≠b) (ck:c≠k)
  (hR:∀q∈R,Aa H q.1=some (BG (λx=>if x=b then k else x) q.2)/\q.1<nx'/\q.1≠b/\q.1≠k/\BU nx' q.2=true)
  (he:∀q∈env',Aa env q.1=some (ren (λx=>if x=b then k else x) q.2)/\under nx' q.2=true) :
  Sub P G B ⟨env,H,nx,n⟩ ⟨env',R++(Ax e' ty' c l'++Ax e ty b l),nx',n⟩:=by
 rw[<-Y2];refine Dv h hb hB (λq hq=>?_) he;rcases Xp.1 hq with hq | hq
 .exact hR q hq
 .obtain⟨hn,rfl⟩:=EU hq;simp only[HZ,Ia];exact⟨h'.resolve_left hn,hc,cb,ck,trivial⟩
theorem Ar.right {e:Enc α} {ty b:Nat} {H R:Ab} {l:List α} (h:Ar e ty H b l) (hR:∀q∈R,q.1≠b):Ar e ty (R++H) b l:=by
 induction R with
 | nil=>exact h
 | cons q R ih=>exact Ar.cons (ih λx hx=>hR x (X5 _ hx)) (hR q X6)
theorem rowH_ne {e:Enc α} {ty b c:Nat} {l:List α} (h:c≠b):∀q∈Ax e ty c l,q.1≠b:=λq hq=>by
 obtain⟨_,rfl⟩:=EU hq;exact h
end
theorem app_cells {α:Type} {e:Enc α} {ty ty' by' b k nx:Nat} {H:Ab} {l:List α} {cs:List PV} (h:Ar e ty H b l) (hk:Aa H k=some (.cells ty' cs)) (hc:cs.length=e.z)
  (hb:(l.length+1)*by'<=140737488355328) (hb2:l.length+1<=9223372036854775807) :
  ∃H',B1 ty e.z by' H nx (rowP e b l) (.row k 0 1 e.z)=some (.row nx 0 (l.length+1) e.z,H',nx+1)/\Aa H' nx=some (.cells ty ((l.flatMap e.enc).map .t++cs))/\∀c,c≠nx->c≠b->Aa H' c=Aa H c:=by
 have hs:DB H e.z (.row k 0 1 e.z)=some (1,cs):=by
  have tk:Yc e.z cs=cs:=Xz (by rw[hc];exact Xc _);simp[DB,hk,hc,tk]
 cases l with
 | nil=>
  simp only[Y3,Nat.zero_add,Nat.one_mul]at hb hb2;refine⟨(nx,.cells ty cs)::H,?_,by simp[Aa],λc h1 _=>by rw[A1,zz (Ne.symm h1)]⟩;simp[B1,hs,rowP,hb]
 | cons x l=>
  have h:=h.resolve_left (by simp)
  have hl:(((x::l).flatMap e.enc).map PV.t).length=(x::l).length*e.z:=by rw[Xt,Jc]
  refine⟨(nx,.cells ty (((x::l).flatMap e.enc).map .t++cs))::rem H b,?_,by simp[Aa],λc h1 h2=>by rw[A1,zz (Ne.symm h1),Cr,zz h2]⟩;simp only[B1,hs,rowP,h,rowOf,hl,true_and,zy (And.intro hb hb2)]
theorem rowP_snoc {α:Type} (e:Enc α) (b:Nat) (l:List α) (x:α):rowP e b (l++[x]) = .row b 0 (l.length+1) e.z:=by
 cases l with
 | nil=>rfl
 | cons y l=>simp[rowP]
theorem ZF (a b:ByteArray):(!(Op.bytesLess a.toList b.toList||a.toList==b.toList))=EE b a:=by
 rw[mZ,mY];by_cases e:a=b
 .subst e;simp[Vn]
 .rw[zx e,Yh]
  cases h:EE a b with
  | true=>rw[nF h];rfl
  | false=>rw[nC h e];rfl
@[simp] theorem B6x {Φ:AC} {H:Ab} {nx:Nat} (isB:Bool) (nk:Option NK) (a b:ByteArray):Ah Φ H nx (.bin isB .gtr nk) [.t (.v (.string a)),.t (.v (.string b))]=some (.t (.v (.bool (EE b a))),H,nx):=by
 rw[<-ZF];rfl
@[simp] theorem B6y {Φ:AC} {H:Ab} {nx:Nat} (isB:Bool) (nk:Option NK) (a b:ByteArray):Ah Φ H nx (.bin isB .geq nk) [.t (.v (.string a)),.t (.v (.string b))]=some (.t (.v (.bool (!EE a b))),H,nx):=rfl
@[simp] theorem B6z {Φ:AC} {H:Ab} {nx:Nat} (isB:Bool) (nk:Option NK) (a b:ByteArray):Ah Φ H nx (.bin isB .leq nk) [.t (.v (.string a)),.t (.v (.string b))]=some (.t (.v (.bool (!EE b a))),H,nx):=by
 rw[<-ZF,Bool.not_not];rfl
section
variable {α : Type} {e : Enc α} {ty b : Nat} {H : Ab} {l : List α}
theorem tT {i:Nat} {x:α} (hx:l[i]?=some x):Bm e.z (.row b 0 l.length e.z) (.t (iv (i:Int)))=some (.ptr b (i*e.z)):=by
 have:rowP e b l = .row b 0 l.length e.z:=by
  cases l with
  | nil=>simp at hx
  | cons y r=>rfl
 rw[<-this];exact nG hx .i64
end
def LQ (f:Ac->Option (Exit×Ac)):Nat->Ac->Option (Exit×Ac)
 | 0,_=>none
 | k+1,s=>match f s with
  | some (.normal,s')=>LQ f k s'
  | r=>r
def Ig:List (Nat×PV)->List Nat->List (Nat×PV)
 | [],_=>[]
 | (k,p)::r,seen=>if seen.contains k then Ig r seen else(k,p)::Ig r (k::seen)
theorem RT:∀(l:List (Nat×PV)) (seen:List Nat) q,q∈Ig l seen->Aa l q.1=some q.2/\q.1∉seen
 | [],seen,q,h=>by simp[Ig]at h
 | (k,p)::r,seen,q,h=>by
  simp only[Ig]at h;split at h
  .rename_i hk;obtain⟨h1,h2⟩:=RT r seen q h;have:k≠q.1:=λe=>h2 (by rw[<-e];simpa using hk);simp[this,h1,h2]
  .rename_i hk;rcases Xi.1 h with rfl | h
   .simpa using hk
   .obtain⟨h1,h2⟩:=RT r (k::seen) q h;simp only[Xi,not_or]at h2;have:k≠q.1:=λe=>h2.1 e.symm;simp[this,h1,h2.2]
def tU:PV->List Nat
 | .row b _ _ _=>[b]
 | _=>[]
def tV:List Nat:=[]
def given (m:Av) (s:Ac):List Nat:=match m.k with
 | .call f=>if tV.contains f then m.xs.flatMap (λx=>tU (x.ev s.env))else []
 | _=>[]
def eqV:Value->Value->Bool
 | .int k a,.int k' b=>decide (k=k')&&(a==b)
 | .bool a,.bool b=>a==b
 | .string a,.string b=>a.data.toList==b.data.toList
 | .slice none 0 0,.slice none 0 0=>true
 | _,_=>false
theorem tW {a b:Value} (h:eqV a b=true):a=b:=by
 unfold eqV at h;split at h
 .simp only[Xh,decide_eq_true_eq,beq_iff_eq]at h;rw[h.1,h.2]
 .simp at h;rw[h]
 .rename_i a b;simp only[beq_iff_eq]at h
  have:a=b:=by
   cases a;cases b;congr;exact Array.toList_inj.1 h
  rw[this]
 .rfl
 .cases h
mutual
def eqT:T->T->Bool
 | .v a,.v b=>eqV a b
 | .sl n l,.sl m r=>(n==m)&&Ih l r
 | .ag l,.ag r=>Ih l r
 | .tu l,.tu r=>Ih l r
 | _,_=>false
def Ih:List T->List T->Bool
 | [],[]=>true
 | a::l,b::r=>eqT a b&&Ih l r
 | _,_=>false
end
mutual
theorem tX:∀(a b:T),eqT a b=true->a=b
 | .v a,.v b,h=>by simp only[eqT]at h;rw[tW h]
 | .sl n l,.sl m r,h=>by
  simp only[eqT,Xh,beq_iff_eq]at h;rw[h.1,N5 l r h.2]
 | .ag l,.ag r,h=>by simp only[eqT]at h;rw[N5 l r h]
 | .tu l,.tu r,h=>by simp only[eqT]at h;rw[N5 l r h]
 | .v _,.sl _ _,h=>by simp[eqT]at h
 | .v _,.ag _,h=>by simp[eqT]at h
 | .v _,.tu _,h=>by simp[eqT]at h
 | .v _,.pt _,h=>by simp[eqT]at h
 | .sl _ _,.v _,h=>by simp[eqT]at h
 | .sl _ _,.ag _,h=>by simp[eqT]at h
 | .sl _ _,.tu _,h=>by simp[eqT]at h
 | .sl _ _,.pt _,h=>by simp[eqT]at h
 | .ag _,.v _,h=>by simp[eqT]at h
 | .ag _,.sl _ _,h=>by simp[eqT]at h
 | .ag _,.tu _,h=>by simp[eqT]at h
 | .ag _,.pt _,h=>by simp[eqT]at h
 | .tu _,.v _,h=>by simp[eqT]at h
 | .tu _,.sl _ _,h=>by simp[eqT]at h
 | .tu _,.ag _,h=>by simp[eqT]at h
 | .tu _,.pt _,h=>by simp[eqT]at h
 | .pt _,_,h=>by simp[eqT]at h
theorem N5:∀(a b:List T),Ih a b=true->a=b
 | [],[],_=>rfl
 | a::l,b::r,h=>by
  simp only[Ih,Xh]at h;rw[tX a b h.1,N5 l r h.2]
 | [],_::_,h=>by simp[Ih]at h
 | _::_,[],h=>by simp[Ih]at h
end
section
variable {P : Program} {G : Ay} {B N : Nat} {Φ : AC}
theorem tY {s:Ac} (hu:True):Sub P G B s { s with env:=Ig s.env [] }:=by
 intro L a w hi;exact⟨L,⟨hi.heap,hi.nx,hi.base,hi.size,hi.defers,λk p h=>hi.env k p (RT _ _ _ (BF h)).1⟩,Ext.refl _ _ _,λ_ _=>rfl⟩
structure FnM where
 k:Nat
 N:Nat
 M:Ak
 vs:List RV
def ZG (vs:List RV) (s:Ac):Option T:=match CH s vs with
 | some ps=>match toT s.H (CF ps)with
  | some (r,_)=>some r
  | none=>none
 | none=>none
def RU (nx:Nat) (H:Ab):Bool:=H.all λq=>decide (q.1<nx)
def Pu (P:Program) (G:Ay) (tab:List (Nat×FnM)):Prop:=∀q∈tab,A0 P G q.1 q.2.k q.2.N q.2.M q.2.vs
theorem ZH {nx:Nat} {H:Ab} (h:RU nx H=true) (b:Nat) (x:Row) (hb:Aa H b=some x):b<nx:=by
 have:=Xm.1 h _ (BF hb);simpa using this
end
abbrev DZ:=List (Nat×List T×T)
def DZ.get (m:DZ) (f:Nat) (args:List T):Option T:=match m with
 | []=>none
 | (g,as',r)::AY=>if g=f then(if Ih as' args then some r else DZ.get AY f args)else DZ.get AY f args
def Hg (P:Program) (G:Ay) (m:DZ):Prop:=∀q∈m,AA P G q.1 q.2.1 (· = q.2.2)
theorem Hg.nil {P:Program} {G:Ay}:Hg P G []:=λ_ h=>by cases h
theorem Hg.cons {P:Program} {G:Ay} {m:DZ} {f:Nat} {as':List T} {r:T} (h:AA P G f as' (· = r)) (hm:Hg P G m):Hg P G ((f,as',r)::m):=λq hq=>by
 rcases Xi.1 hq with rfl | hq
 .exact h
 .exact hm q hq
theorem DZ.get_sound {P:Program} {G:Ay}:∀{m:DZ} {f:Nat} {args:List T} {r:T},Hg P G m->m.get f args=some r->AA P G f args (· = r)
 | [],f,args,r,_,h=>by cases h
 | (g,as',r0)::AY,f,args,r,hm,h=>by
  have hr:Hg P G AY:=λq hq=>hm q (X5 _ hq);simp only[DZ.get]at h;split at h
  .rename_i hg;split at h
   .rename_i ha;injection h with h;subst h;subst hg;rw[<-N5 _ _ ha];exact hm (g,as',r0) X6
   .exact DZ.get_sound hr h
  .exact DZ.get_sound hr h
abbrev Bn:=List PanicEntry
def Ea (P:Program) (G:Ay) (f:FuncId) (ps:List PV) (H:Ab) (nx:Nat) (ch:Bn) (H':Ab):Prop:=
 JP P f/\∀(L:Loc) (w:World) (us:Array Value),Bx P G L H w->L.nx=nx->A3 P L w ps us.toList ->
  Calls P f us w λe w'=>∃L',e = .panicked ch/\Bx P G L' H' w'/\L'.nx=nx/\AO L w L' w'/\Ext L H w L' H' w'
inductive Out where
 | ret (r:PV) (H:Ab) (nx:Nat)
 | pan (ch:Bn)
def GA (P:Program) (G:Ay) (f:FuncId) (ps:List PV) (H:Ab) (nx:Nat):Out->Prop
 | .ret r H' nx'=>AB P G f ps H nx r H' nx'
 | .pan ch=>Ea P G f ps H nx ch []
abbrev Gg:=FuncId->List PV->Ab->Nat->Option Bn
def POK (P:Program) (G:Ay) (E:Gg):Prop:=∀f ps H nx ch,E f ps H nx=some ch->Ea P G f ps H nx ch []
def Ko:List PV->Option Bn
 | [.t (.ic t (.v x))]=>some [{ v:=.iface t x,recovered:=false }]
 | [.t (.ic t (.ag [.v x]))]=>some [{ v:=.iface t (.agg #[x]),recovered:=false }]
 | _=>none
def Jn (E:Gg) (H:Ab) (nx:Nat) (k:MK) (ps:List PV):Option Bn:=
 match k with
 | .hcall f=>E f ps H nx
 | .hx .pan=>Ko ps
 | _=>none
def Ks (x:Option Bn) (X:Bn->Prop) (C:Prop):Prop:=
 match x with
 | some ch=>X ch
 | none=>C
@[simp] theorem B7a (ch:Bn) (X:Bn->Prop) (C:Prop):Ks (some ch) X C=X ch:=rfl
@[simp] theorem Jo (X:Bn->Prop) (C:Prop):Ks none X C=C:=rfl
def Ch (Φ:AC) (E:Gg):List Av->Ac->(Ac->Prop)->(Bn->Prop)->Prop
 | [],s,K,_=>K s
 | m::r,s,K,X=>Nc (m.wants s.env)
  (Ks (Jn E s.H s.nx m.k (m.xs.map (·.ev s.env))) X (BP (Ah Φ s.H s.nx m.k (m.xs.map (·.ev s.env))) λq=>Ch Φ E r (s.set m.dst q) K X))
  (Ch Φ E r (s.set m.dst (.t (.v undef),s.H,s.nx)) K X)
def Dx (Q:Exit->Ac->Prop) (ch:Bn):Prop:=∀s,Q (.panic ch) s
def Cu (Φ:AC) (E:Gg):Ak->Ac->(Exit->Ac->Prop)->Prop
 | .skip,s,Q=>Q .normal s
 | .ops l,s,Q=>Ch Φ E l s (Q .normal) (Dx Q)
 | .draw l,s,Q=>Cz Φ l s (Q .normal)
 | .drawG k l,s,Q=>Df Φ k 0 0 [] l s (Q .normal)
 | .drawE l,s,Q=>Df Φ 0 0 0 [] l s (Q .normal)
 | .seq a b,s,Q=>Cu Φ E a s (Gb (λs1=>Cu Φ E b s1 Q) Q)
 | .cond c a b,s,Q=>LG (c.ev s.env) (Cu Φ E a s Q) (Cu Φ E b s Q)
 | .block id b,s,Q=>Cu Φ E b s (F8 id Q)
 | .loop _,_,_=>False
 | .exit id,s,Q=>Q (.exit id) s
 | .ret,s,Q=>Q .ret s
 | .scope b,s,Q=>Cu Φ E b s (HQ Q)
section
variable {P : Program} {G : Ay} {B N : Nat} {Φ : AC} {E : Gg} {Q : Exit -> Ac -> Prop} {s : Ac}
def N6 (P:Program) (G:Ay) (B:Nat) (o:Oper) (s:Ac) (ch:Bn):Prop:=
 ∀L a w,Interp P G B L s a w->o.wp P a w (λ_ _=>False) (λe a' w'=>e = .panic ch/\a'=a/\∃L',Bx P G L' [] w'/\L'.nx=s.nx/\AO L w L' w'/\Ext L s.H w L' [] w')
theorem N7 {L:Loc} {H:Ab} {w:World} (h:Bx P G L H w):Bx P G L [] w/\Ext L H w L [] w:=
 ⟨⟨h.lt,λ_ _ hb=>(by cases hb),λ_ _ hb=>(by cases hb),λ_ _ _ _ hb=>(by cases hb),λ_ _ hb=>(by cases hb),h.glob⟩,
  ⟨Xc _,λ_ _ _=>rfl,λ_ h=>h,λ_ h=>.inl h,λ_ ⟨_,_,hb,_⟩=>(by cases hb),BT.refl w,BL.refl w⟩⟩
theorem tZ {o:Oper} {f:FuncId} {args:Array Operand} {ts:Array TypeId} {ch:Bn} (ho:o.op = .call ⟨.value (.func f),args,ts⟩) (hc:Ea P G f (args.toList.map (s.ev G)) s.H s.nx ch []):N6 P G B o s ch:=λL a w hi=>by
 unfold Oper.wp
 have hr:(execOp a.eval o).run P w = .ok (.enter f (args.map a.eval)) w:=by simp[execOp,ho,resolve,Act.eval,Deferred.ofValue,invoke,hc.1.run]
 rw[hr,Oper.upon_enter];refine(hc.2 L w _ hi.heap hi.nx (O8 hi args)).mono ?_;rintro e w' ⟨L',rfl,h1,h2,h3,h4⟩;exact⟨rfl,rfl,L',h1,h2,h3,h4⟩
theorem uA {o:Oper} {x:Operand} {ch:Bn} (ho:o.op = .panic x) (hc:Ko [s.ev G x]=some ch):N6 P G B o s ch:=λL a w hi=>by
 have h:=hi.ev x;generalize s.ev G x=p at h hc;unfold Ko at hc;split at hc
 .rename_i t v e;injection e with e e2;subst e;injection hc with hc;subst hc;simp only[Ae,An]at h;obtain⟨y,hy,rfl⟩:=h;unfold Oper.wp
  have hr:(execOp a.eval o).run P w = .halt (.panic (.iface t y)) w:=by
   simp[execOp,ho,hy,Instr.panic,goPanic]
  rw[hr];exact⟨rfl,rfl,L,(N7 hi.heap).1,hi.nx,AO.refl L w,(N7 hi.heap).2⟩
 .rename_i t v e;injection e with e e2;subst e;injection hc with hc;subst hc;simp only[Ae,An,Ba]at h;obtain⟨y,hy,us,rfl,_,x,xs,e1,rfl,rfl⟩:=h;have e3:us = #[x]:=Array.ext' e1;subst e3;unfold Oper.wp
  have hr:(execOp a.eval o).run P w = .halt (.panic (.iface t (.agg #[x]))) w:=by
   simp[execOp,ho,hy,Instr.panic,goPanic]
  rw[hr];exact⟨rfl,rfl,L,(N7 hi.heap).1,hi.nx,AO.refl L w,(N7 hi.heap).2⟩
 .cases hc
def Kt (P:Program) (G:Ay) (B:Nat) (ops:Array Oper) (l:List Oper) (Q:Exit->Ac->Prop) (s:Ac):Prop:=
 ∀L a w,Interp P G B L s a w->wpList P ops (BO P G B Q L s.H w) l a w
theorem uB {ops:Array Oper} {L L':Loc} {H H':Ab} {w w':World} (hq:∀e a w2,BO P G B Q L' H' w' e a w2->BO P G B Q L H w e a w2):∀(l:List Oper) (a:Act) (w2:World),wpList P ops (BO P G B Q L' H' w') l a w2->wpList P ops (BO P G B Q L H w) l a w2:=by
 intro l
 induction l with
 | nil=>intro a w2 h;exact hq _ _ _ h
 | cons o l ih=>
  intro a w2 h;unfold wpList at h ⊢;split
  .rename_i hw;rw[zy hw]at h;rcases h with h | ⟨h1,a0,w0,h2⟩
   .exact .inl (EO ih hq h)
   .exact .inr ⟨h1,a0,w0,hq _ _ _ h2⟩
  .rename_i hw;rw[zz hw]at h;exact ih _ _ h
theorem uC {ops:Array Oper} {o:Oper} {AY:List Oper} {r:PV} {H':Ab} {nx':Nat} (hw:s.wants ops o=some true) (hd:∀k,o.dst=some k->k<s.n)
  (ho:AOp P G B o s r H' nx') (h:Kt P G B ops AY Q (({ s with H:=H',nx:=nx' }:Ac).put o.dst r)):Kt P G B ops (o::AY) Q s:=λL a w hi=>by
 unfold wpList;rw[zy (hi.wants hw)];refine .inl (EO ?_ (λ_ _ _ h=>h.elim) (ho L a w hi));rintro a' w' ⟨v,L',rfl,hr,hok,rfl,hm,hx⟩;have hp:=h L' _ w' (MA hi hd hr hok hm);rw[D9]at hp;refine uB ?_ _ _ _ hp;rintro e a w2 ⟨s2,L2,q,hi2,hx2,hb2⟩;exact⟨s2,L2,q,hi2,hx.trans hx2,λb hb=>(hb2 b hb).trans (hm.μ b (Xu hb hi.base))⟩
theorem uD {ops:Array Oper} {o:Oper} {AY:List Oper} (hw:s.wants ops o=some false) (hd:∀k,o.dst=some k->k<s.n)
  (h:Kt P G B ops AY Q (s.put o.dst (.t (.v undef)))):Kt P G B ops (o::AY) Q s:=λL a w hi=>by
 unfold wpList;rw[zz (by rw[hi.wants hw];simp)];have hi':=MA hi (r:=.t (.v undef)) (v:=undef) hd (by simp only[Ae,An]) hi.heap (AO.refl L w)
 have e:({ s with H:=s.H,nx:=L.nx }:Ac)=s:=by rw[hi.nx]
 rw[e]at hi';have:=h L _ w hi';rw[D9]at this;exact this
theorem uE {L L':Loc} {a:Act} {w w':World} {ch:Bn} (hi:Interp P G B L s a w) (h1:Bx P G L' [] w') (h2:L'.nx=s.nx) (h3:AO L w L' w') (h4:Ext L s.H w L' [] w') (hx:Dx Q ch):BO P G B Q L s.H w (.panic ch) a w':=
 ⟨⟨[],[],L'.nx,s.n⟩,L',hx _,⟨h1,rfl,by rw[h2,<-hi.nx];exact hi.base,hi.size,hi.defers,λk p hl=>by cases hl⟩,h4,λb hb=>h3.μ b (Xu hb hi.base)⟩
theorem uF {ops:Array Oper} {o:Oper} {AY:List Oper} {ch:Bn} (hw:s.wants ops o=some true) (ho:N6 P G B o s ch) (hx:Dx Q ch):Kt P G B ops (o::AY) Q s:=λL a w hi=>by
 unfold wpList;rw[zy (hi.wants hw)];refine .inl (EO (λ_ _ h=>h.elim) ?_ (ho L a w hi));rintro e a' w' ⟨rfl,rfl,L',h1,h2,h3,h4⟩;exact uE hi h1 h2 h3 h4 hx
theorem uG {id:Nat} {ops:Array Oper} (h:Kt P G B ops ops.toList Q s):Cd P G B (.region id ops false) Q s:=λL a w hi=>
 wp_region_list (h L a w hi)
theorem uH {d:Bool} {o:Op} {k:MK} {xs:List Opd} (hc:opK P G d o=(k,xs)) {H:Ab} {nx:Nat} {ps:List PV} {ch:Bn} (hp:Jn E H nx k ps=some ch) :
  (∃f args ts,o = .call ⟨.value (.func f),args,ts⟩/\k = .hcall f/\xs=args.toList.map (AP G))\/(∃x,o = .panic x/\k = .hx .pan/\xs=[AP G x]):=by
 unfold opK at hc;split at hc
 .rename_i q hq;subst hc;unfold Lu at hq;split at hq
  all_goals (first
   | (injection hq with hq;injection hq with e1 e2;subst e1;subst e2;exact .inr ⟨_,rfl,rfl,rfl⟩)
   | (obtain⟨ks,_,e⟩:=Xo.1 hq;injection e with e1 e2;subst e1;cases hp;done)
   | (split at hq<;>(first | (cases hq;done) | (obtain⟨ks,_,e⟩:=Xo.1 hq;injection e with e1 e2;subst e1;cases hp;done) | (injection hq with hq;injection hq with e1 e2;subst e1;cases hp;done) | (split at hq<;>(first | (cases hq;done) | (injection hq with hq;injection hq with e1 e2;subst e1;cases hp;done))));done)
   | (injection hq with hq;injection hq with e1 e2;subst e1;cases hp;done)
   | (cases hq;done))
 .split at hc
  .split at hc
   .injection hc with e1 e2;subst e1;cases hp
   .injection hc with e1 e2;subst e1;cases hp
  .split at hc
   .rename_i q hq;subst hc;unfold Lx at hq;split at hq
    all_goals (first
     | (
      split at hq
      .injection hq with hq;injection hq with e1 e2;subst e1;subst e2;exact .inl ⟨_,_,_,rfl,rfl,rfl⟩
      .injection hq with hq;injection hq with e1 e2;subst e1;cases hp)
     | (injection hq with hq;injection hq with e1 e2;subst e1;cases hp;done)
     | (obtain⟨ks,_,e⟩:=Xo.1 hq;injection e with e1 e2;subst e1;cases hp;done)
     | (cases hq;done)
     | skip)
    all_goals repeat' (first
     | (cases hq;done)
     | (injection hq with hq;injection hq with e1 e2;subst e1;cases hp;done)
     | (obtain⟨ks,_,e⟩:=Xo.1 hq;injection e with e1 e2;subst e1;cases hp;done)
     | split at hq)
   .injection hc with e1 e2;subst e1;cases hp
theorem ZI (hE:POK P G E) {d:Bool} {o:Oper} {k:MK} {xs:List Opd} {ch:Bn} (hc:opK P G d o.op=(k,xs)) (hp:Jn E s.H s.nx k (xs.map (·.ev s.env))=some ch):N6 P G B o s ch:=by
 rcases uH hc hp with⟨f,args,ts,ho,rfl,rfl⟩ | ⟨x,ho,rfl,rfl⟩
 .refine tZ ho (hE _ _ _ _ _ ?_)
  have:(args.toList.map (AP G)).map (·.ev s.env)=args.toList.map (s.ev G):=by
   rw[X7];exact List.map_congr_left λx _=>JQ G s x
  rw[this]at hp;exact hp
 .refine uA ho ?_;simp only[Xd,Xg,JQ]at hp;exact hp
theorem RX (hΦ:Φ.Sound P G) (hE:POK P G E) {ops:Array Oper}:∀(os:List Oper) {l:List Av} {s:Ac},E9 P G N false ops os l->s.n=N->Ch Φ E l s (Q .normal) (Dx Q)->Kt P G B ops os Q s
 | [],l,s,ha,hn,h=>by
  simp only[E9]at ha;subst ha;exact λL a w hi=>Li hi h
 | o::AY,l,s,ha,hn,h=>by
  simp only[E9]at ha;obtain⟨m,l',rfl,hm,hr⟩:=ha;obtain⟨hc,hdst,hd,hw⟩:=JT hm
  have hd':∀k,o.dst=some k->k<s.n:=λk hk=>by rw[hn];exact hd k hk
  simp only[Ch]at h;rw[<-hw s,hdst]at h
  cases hww:s.wants ops o with
  | none=>rw[hww]at h;exact h.elim
  | some b=>
   rw[hww]at h
   cases b with
   | false=>
    simp only[HU,IZ]at h;exact uD hww hd' (RX hΦ hE AY hr (by rw[F9];exact hn) h)
   | true=>
    simp only[HS]at h
    cases hp:Jn E s.H s.nx m.k (m.xs.map (·.ev s.env))with
    | some ch=>
     rw[hp]at h;exact uF hww (ZI hE hc hp) h
    | none=>
     rw[hp,Jo]at h;obtain⟨⟨r,H',nx'⟩,hv,hk⟩:=G1 h;rw[IZ]at hk;exact uC hww hd' (GQ hΦ hc hv) (RX hΦ hE AY hr (by rw[F9];exact hn) hk)
def RY (n:Nat) (e:Exit) (s:Ac):Prop:=(∀ch,e ≠ .panic ch)->s.n=n
theorem ZJ:∀{l:List Av} {s:Ac} {K:Ac->Prop} {X:Bn->Prop},Ch Φ E l s K X->Ch Φ E l s (λs'=>K s'/\s'.n=s.n) X
 | [],s,K,X,h=>⟨h,rfl⟩
 | m::r,s,K,X,h=>by
  have key:∀q:PV×Ab×Nat,Ch Φ E r (s.set m.dst q) K X->Ch Φ E r (s.set m.dst q) (λs'=>K s'/\s'.n=s.n) X:=by
   intro q hq;have:=ZJ hq
   have e:(s.set m.dst q).n=s.n:=by unfold Ac.set;cases m.dst<;>rfl
   rw[e]at this;exact this
  simp only[Ch]at h ⊢
  cases hw:m.wants s.env with
  | none=>rw[hw]at h;exact h.elim
  | some b=>
   rw[hw]at h
   cases b with
   | false=>exact key _ h
   | true=>
    simp only[HS]at h ⊢
    cases hp:Jn E s.H s.nx m.k (m.xs.map (·.ev s.env))with
    | some ch=>rw[hp]at h;exact h
    | none=>
     rw[hp,Jo]at h;rw[Jo];obtain⟨q,hv,hk⟩:=G1 h;rw[hv];exact key _ hk
theorem Jp (hΦ:Ctx P G Φ) (hE:POK P G E):∀(M:Ak) {Q:Exit->Ac->Prop} {s:Ac},Cu Φ E M s Q->s.n=N->MC P G B N M (λe s'=>Q e s'/\RY N e s') s
 | .skip,Q,s,h,hn=>λc hc _=>by
  rcases Eg hc with rfl | ⟨l,rfl⟩
  .exact TU ⟨h,λ_=>hn⟩
  .exact TV ⟨h,λ_=>hn⟩
 | .ops l,Q,s,h,hn=>λc hc _=>by
  obtain⟨id,ops,rfl,ho⟩:=Eg hc;refine uG (RX hΦ.sound hE _ (JU ho) hn ?_);have h2:=ZJ h
  have e1:(λs':Ac=>Q .normal s'/\RY N .normal s')=λs'=>Q .normal s'/\s'.n=s.n:=by
   funext s';refine propext ⟨λh=>⟨h.1,by rw[hn];exact h.2 (λ_ h=>by cases h)⟩,λh=>⟨h.1,λ_=>by rw[<-hn];exact h.2⟩⟩
  have e2:Dx (λe s'=>Q e s'/\RY N e s')=Dx Q:=by
   funext ch;refine propext ⟨λh s=>(h s).1,λh s=>⟨h s,λhh=>absurd rfl (hh ch)⟩⟩
  rw[e1,e2];exact h2
 | .draw l,Q,s,h,hn=>by
  obtain⟨e,s',h1,h2⟩:=Fq (Φ:=Φ) (.draw l) (Q:=Q) h;exact Eh hΦ _ h1 ⟨h2,λ_=>(Ey _ h1).trans hn⟩
 | .drawG k l,Q,s,h,hn=>by
  obtain⟨e,s',h1,h2⟩:=Fq (Φ:=Φ) (.drawG k l) (Q:=Q) h;exact Eh hΦ _ h1 ⟨h2,λ_=>(Ey _ h1).trans hn⟩
 | .drawE l,Q,s,h,hn=>by
  obtain⟨e,s',h1,h2⟩:=Fq (Φ:=Φ) (.drawE l) (Q:=Q) h;exact Eh hΦ _ h1 ⟨h2,λ_=>(Ey _ h1).trans hn⟩
 | .seq a b,Q,s,h,hn=>by
  refine JY ((Jp hΦ hE a h hn).mono λe s1 q=>?_);cases e
  case normal=>
   have hs:s1.n=N:=q.2 λ_ h=>by cases h
   exact⟨hs,Jp hΦ hE b q.1 hs⟩
  all_goals exact q
 | .cond c a b,Q,s,h,hn=>by
  simp only[Cu]at h;unfold LG at h;split at h
  .rename_i hc;exact JZ (t:=true) hc (Jp hΦ hE a h hn)
  .rename_i hc;exact JZ (t:=false) hc (Jp hΦ hE b h hn)
  .exact h.elim
 | .block id b,Q,s,h,hn=>by
  refine BI ((Jp hΦ hE b h hn).mono λe s1 q=>?_);cases e
  case exit i=>
   have hs:s1.n=N:=q.2 λ_ h=>by cases h
   have q1:=q.1;simp only[Kd]at q1 ⊢;split at q1
   .rename_i hi;rw[zy hi];exact⟨q1,λ_=>hs⟩
   .rename_i hi;rw[zz hi];exact⟨q1,λ_=>hs⟩
  all_goals exact q
 | .loop _,Q,s,h,_=>h.elim
 | .exit id,Q,s,h,hn=>λc hc _=>by
  have:=Eg hc;simp only at this;subst this;exact TW ⟨h,λ_=>hn⟩
 | .ret,Q,s,h,hn=>λc hc _=>by
  have:=Eg hc;simp only at this;subst this;exact TX ⟨h,λ_=>hn⟩
 | .scope b,Q,s,h,hn=>by
  refine UT ((Jp hΦ hE b h hn).mono λe s1 q=>?_);cases e
  case goto l=>exact q.1
  all_goals exact q
def LR (P:Program) (G:Ay) (B:Nat) (vs:List RV) (o:Out) (e:Exit) (s:Ac):Prop:=
 match o with
 | .ret r H nx=>EA P G B vs (λr0 H0 nx0=>r0=r/\H0=H/\nx0=nx) e s
 | .pan ch=>e = .panic ch
theorem uI {f:FuncId} {fn:Func} {c:Code} {M:Ak} {ps:List PV} {H:Ab} {nx:Nat} {ch:Bn} (hf:P.funcs[f]?=some fn) (hb:fn.body=some c) (hname:(fn.name == "runtime.NumGoroutine")=false)
  (hc:comp P G N c=some M) (hN:ps.length+(fn.ntmps-ps.length)=N)
  (h:MC P G nx N M (λe _=>e = .panic ch) ⟨FD 0 ps,H,nx,N⟩):Ea P G f ps H nx ch []:=by
 refine⟨⟨fn,c,hf,hb,hname⟩,λL w us hok hnx hargs=>calls_of_wp hf hb ?_⟩
 have hlen:us.size=ps.length:=by simpa using hargs.length
 have hi:Interp P G nx L ⟨FD 0 ps,H,nx,N⟩ { tmps:=us++Y4 (fn.ntmps-us.size) undef,defers:=[] } w:=by
  refine⟨hok,hnx,by rw[hnx];exact Xc _,by simp[hlen,hN],rfl,λk p hl=>?_⟩;simp only[OS]at hl;obtain⟨_,hk⟩:=MS _ k 0 p hl;simp only[Nat.sub_zero]at hk;obtain⟨x,hx,hr⟩:=hargs.at_ k hk
  have hx':us[k]?=some x:=by simpa using hx
  have hk':k<us.size:=(Array.getElem?_eq_some_iff.1 hx').1;rw[Y5,Array.getElem?_append_left hk',hx'];exact hr
 refine wp_mono (h c hc rfl L _ w hi) λe a' w' ⟨s1,L1,q,hi1,hx,hμ⟩=>?_;subst q
 have hb1:L.nx<=L1.nx:=by rw[hnx];exact hi1.base
 have hkp:F7 L.I L1.I w w':=Ext.keeps hok hx
 have hm:AO L w { L1 with nx:=L.nx } w':=⟨hkp,Xc _,λb hb=>hμ b (by omega),hx.size,hx.shape⟩
 refine⟨hi1.defers,{ L1 with nx:=L.nx },rfl,⟨hi1.heap.lt,λ_ _ hb=>(by cases hb),λ_ _ hb=>(by cases hb),λ_ _ _ _ hb=>(by cases hb),λ_ _ hb=>(by cases hb),hi1.heap.glob⟩,hnx,hm,?_⟩;exact⟨hx.size,hx.same,hx.more,hx.new,λg ⟨b,r,hb,_⟩=>(by cases hb),hx.shape,hx.outer⟩
theorem A0.callO {f:FuncId} {k:Nat} {M:Ak} {vs:List RV} (h:A0 P G f k N M vs) {ps:List PV} {H:Ab} {nx:Nat} {o:Out} (hk:ps.length=k)
  (hm:MC P G nx N M (LR P G nx vs o) ⟨FD 0 ps,H,nx,N⟩):GA P G f ps H nx o:=by
 cases o with
 | ret r H' nx'=>exact h.callP hk hm
 | pan ch=>
  obtain⟨fn,hf,hn,hb,hr,hN⟩:=h
  cases hbody:fn.body with
  | none=>rw[hbody]at hb;cases hb
  | some c=>
   rw[hbody]at hb;exact uI hf hbody hn hb (by rw[hk];exact hN) hm
theorem Ea.lift1 {f:FuncId} {ty:TypeId} {cs args:List T} {ch:Bn} (h:Ea P G f (.ptr 0 0::args.map .t) [(0,.cells ty (cs.map .t))] 1 ch [])
  {b NX:Nat} {Hb:Ab} (hb:Aa Hb b=some (.cells ty (cs.map .t))) (hlt:b<NX):Ea P G f (.ptr b 0::args.map .t) Hb NX ch (rem Hb b):=by
 refine⟨h.1,λL w us hok hnx hargs=>?_⟩
 have one:∀k r,Aa [(0,Row.cells ty (cs.map .t))] k=some r->k=0/\r = .cells ty (cs.map .t):=by
  intro k r hk;simp only[Aa]at hk;split at hk
  .rename_i e;injection hk with hk;exact⟨e.symm,hk.symm⟩
  .cases hk
 have hrow:=hok.rep b _ hb
 have hok0:Bx P G ⟨L.I,λ_=>L.μ b,1⟩ [(0,.cells ty (cs.map .t))] w:=by
  refine⟨hok.lt,λk r hk=>?_,λk r hk=>?_,λk k' r r' hk hk' _=>by rw[(one k r hk).1,(one k' r' hk').1],λk r hk=>by rw[(one k r hk).1];exact Yl _,hok.glob⟩
  .obtain⟨rfl,rfl⟩:=one k r hk;obtain⟨arr,ha,hl,hc⟩:=hrow;refine⟨arr,ha,hl,λj c hj=>?_⟩;obtain⟨v,hv,h1,hr⟩:=hc j c hj;refine⟨v,hv,h1,?_⟩;rw[Xn]at hj;obtain⟨c0,_,rfl⟩:=AR hj;simp only[Ae]at hr ⊢;exact hr
  .exact hok.apart b _ hb
 have hargs0:A3 P ⟨L.I,λ_=>L.μ b,1⟩ w (.ptr 0 0::args.map .t) us.toList:=by
  simp only[A3,Ae]at hargs ⊢;obtain⟨u,r,e,⟨_,h2⟩,h3⟩:=hargs;refine⟨u,r,e,⟨by omega,h2⟩,?_⟩;clear e
  have:∀(args:List T) (r:List Value),A3 P L w (args.map .t) r->A3 P ⟨L.I,λ_=>L.μ b,1⟩ w (args.map .t) r:=by
   intro args
   induction args with
   | nil=>intro r h;simpa only[Xg,A3]using h
   | cons a args ih=>
    intro r h;simp only[Xd,A3,Ae]at h ⊢;obtain⟨x,xs,e,hx,hxs⟩:=h;exact⟨x,xs,e,hx,ih xs hxs⟩
  exact this _ _ h3
 refine(h.2 _ w us hok0 rfl hargs0).mono ?_;rintro e w' ⟨L1,rfl,hok1,hnx1,hm,hx⟩;have mine0:∀g,Fl ⟨L.I,λ_=>L.μ b,1⟩ [(0,Row.cells ty (cs.map .t))] g->g=L.μ b:=λg ⟨_,_,_,e⟩=>e.symm
 have hm':AO L w ⟨L1.I,L.μ,NX⟩ w':=⟨hm.keeps,by rw[hnx];exact Xc _,λ_ _=>rfl,hm.size,hm.shape⟩
 have hsame:∀k r,Aa (rem Hb b) k=some r->Aa Hb k=some r/\L.μ k≠L.μ b:=by
  intro k r hk;rw[Cr]at hk;split at hk
  .cases hk
  .rename_i hne;exact⟨hk,λe=>hne (hok.inj k b r _ hk hb e)⟩
 refine⟨⟨L1.I,L.μ,NX⟩,rfl,⟨hok1.lt,λk r hk=>?_,λk r hk hI=>?_,λk k' r r' hk hk' e=>hok.inj k k' r r' (hsame k r hk).1 (hsame k' r' hk').1 e,λk r hk=>by rw[<-hnx];exact hok.nx k r (hsame k r hk).1,hok1.glob⟩,rfl,hm',?_⟩
 .obtain⟨hk1,hk2⟩:=hsame k r hk;have hr:=hok.rep k r hk1;exact hr.keep hm' (hx.same _ hr.lt λhmn=>hk2 (mine0 _ hmn))
 .obtain⟨hk1,hk2⟩:=hsame k r hk;have hr:=(hok.rep k r hk1).lt;rcases hx.new _ hI with h1 | h1 | h1
  .exact hok.apart k r hk1 h1
  .exact absurd hr (by have h':w.heap.size<=L.μ k:=h1;omega)
  .exact hk2 (mine0 _ h1)
 .refine⟨hx.size,λg hg hmn=>hx.same g hg λh0=>hmn ⟨b,_,hb,(mine0 g h0).symm⟩,hx.more,λg hg=>?_,λg ⟨k,r,hk,e⟩=>.inr ⟨k,r,(hsame k r hk).1,e⟩,hx.shape,hx.outer⟩;rcases hx.new g hg with h1 | h1 | h1
  .exact .inl h1
  .exact .inr (.inl h1)
  .exact .inr (.inr ⟨b,_,hb,(mine0 g h1).symm⟩)
end
section
variable {P : Program} {G : Ay} {B N : Nat} {Φ : AC} {E : Gg} {ops : Array Oper} {l : List Av} {π : List Nat} {pa : Nat} {R : List (Nat × Nat)}
structure uJ (Φ:AC) (ms:List Av) (R:List (Nat×Nat)) (s:Ac) (pe:Nat) (st:Nat->Ac) (vals:Nat->PV):Prop where
 start:st 0=s
 norm:∀(p:Nat) m,p<pe->ms[p]?=some m->Did Φ (st p) m (vals p) (st (p+1))
 again:∀(p p':Nat) m,p<pe->p'<pe->(p,p')∈R->ms[p]?=some m->Bb Φ (st (p'+1)).H (st (p'+1)).nx m.k (m.xs.map (·.ev (st p).env))=some (vals p)
structure uK (P:Program) (G:Ay) (B:Nat) (q:List (Nat×Av)) (pe i0:Nat) (st:Nat->Ac) (vals:Nat->PV) (s:Ac) (L0:Loc) (w0:World) (S:Array Bool) (p0:Nat) (L:Loc) (a:Act) (w:World):Prop where
 le:p0<=pe
 notyet:S.getD i0 false=false
 bound:∀(p:Nat) x,q[p]?=some x->S.getD x.1 false=true->p<pe
 done:∀(p:Nat) x,q[p]?=some x->A2 x.2.k=false->(S.getD x.1 false=true ↔ p<p0)
 heap:Bx P G L (st p0).H w
 nx:L.nx=(st p0).nx
 base:B<=L.nx
 size:a.tmps.size=s.n
 defers:a.defers=[]
 vals:∀(p:Nat) x,q[p]?=some x->S.getD x.1 false=true->∀k,x.2.dst=some k->Ae P L w (vals p) (a.tmps.getD k undef)
 old:∀k u,(∀(p:Nat) x,q[p]?=some x->S.getD x.1 false=true->x.2.dst≠some k)->Aa s.env k=some u->Ae P L w u (a.tmps.getD k undef)
 ext:Ext L0 s.H w0 L (st p0).H w
 μ:∀b,b<B->L.μ b=L0.μ b
theorem uL (hmix:P.follows .mixedOrders=true) (hΦ:Φ.Sound P G) {Q:Exit->Ac->Prop} {s:Ac} {st:Nat->Ac} {vals:Nat->PV} {id pe:Nat} {x0:Nat×Av} {ch:Bn}
  (ha0:ops.toList.mapM (DX P G N true ops)=some l) (hd0:HO ops l π pa 0 R=true) (hn:s.n=N)
  (hx0:(BD l π)[pe]?=some x0) (hlate:∀(p:Nat) y,pe<p->(BD l π)[p]?=some y->((Dm ops.toList []).getD y.1 0).testBit x0.1=true) (hk0:A2 x0.2.k=false)
  (hrun:uJ Φ ((BD l π).map Prod.snd) R s pe st vals) (hw0:x0.2.wants (st pe).env=some true)
  (hpan:∀(o:Oper) (s':Ac),opK P G true o.op=(x0.2.k,x0.2.xs)->s'.H=(st pe).H->s'.nx=(st pe).nx->x0.2.xs.map (·.ev s'.env)=x0.2.xs.map (·.ev (st pe).env)->N6 P G B o s' ch)
  (hq:Dx Q ch):Cd P G B (.region id ops true) Q s:=by
 intro L0 a0 w0 hi0;have ha:=JU ha0
 have hlen:ops.size=l.length:=by have:=(ha.at_ 0).2;simpa using this
 obtain⟨hd,hql,hnodup⟩:=UG hlen hd0;have h0:=hrun.start;generalize hq':BD l π=q at *
 have hmem:∀(p:Nat) x,q[p]?=some x->l[x.1]?=some x.2:=by intro p x hx;rw[<-hq']at hx;exact QY l π p x hx
 have hms:∀(p:Nat) x,q[p]?=some x->(q.map Prod.snd)[p]?=some x.2:=by intro p x hx;simp[hx]
 have hpe:pe<q.length:=(Xf.1 hx0).1;have step:∀(p:Nat) x,p<pe->q[p]?=some x->Did Φ (st p) x.2 (vals p) (st (p+1)):=λp x hp hx=>hrun.norm p x.2 hp (hms p x hx)
 have uniq:∀(p p':Nat) x y,q[p]?=some x->q[p']?=some y->x.1=y.1->p=p':=by
  intro p p' x y hx hy e
  have h1:(q.map Prod.fst)[p]?=some x.1:=by simp[hx]
  have h2:(q.map Prod.fst)[p']?=some x.1:=by simp[hy,e]
  have hp:=(Xf.1 h1).1;exact(List.getElem?_inj hp hnodup).1 (h1.trans h2.symm)
 have fresh:∀p,p<=pe->GT (st p):=by
  intro p
  induction p with
  | zero=>intro _;rw[h0];exact λb r hb=>by have:=hi0.heap.nx b r hb;rw[hi0.nx]at this;exact this
  | succ p ih=>
   intro hp;have hx:q[p]?=some q[p]:=Xe (by omega);exact(JX hΦ (step p _ (by omega) hx) (ih (by omega))).1
 have flat:∀(a b:Nat),a<=b->b<=pe->(∀(p:Nat) x,a<=p->p<b->q[p]?=some x->A2 x.2.k=true)->(st b).H=(st a).H/\(st b).nx=(st a).nx:=by
  intro a b hab
  induction b with
  | zero=>
   intro _ _
   have:a=0:=by omega
   subst this;exact⟨rfl,rfl⟩
  | succ b ih=>
   intro hb hno;by_cases e:a=b+1
   .subst e;exact⟨rfl,rfl⟩
   .have hx:q[b]?=some q[b]:=Xe (by omega);have h1:=L8 (step b _ (by omega) hx) (hno b _ (by omega) (by omega) hx);have h2:=ih (by omega) (by omega) (λp x h1 h2 h3=>hno p x h1 (by omega) h3);exact⟨h1.1.trans h2.1,h1.2.trans h2.2⟩
 have nconst:∀p,p<=pe->(st p).n=s.n:=by
  intro p
  induction p with
  | zero=>intro _;rw[h0]
  | succ p ih=>
   intro hp;have hx:q[p]?=some q[p]:=Xe (by omega);rw[(OL (step p _ (by omega) hx)).2,ih (by omega)]
 have trace:∀(p:Nat),p<=pe->∀k u,Aa (st p).env k=some u->(∃(j:Nat) (y:Nat×Av),j<p/\q[j]?=some y/\y.2.dst=some k/\u=vals j)\/((∀(j:Nat) y,j<p->q[j]?=some y->y.2.dst≠some k)/\Aa s.env k=some u):=by
  intro p
  induction p with
  | zero=>intro _ k u hl;rw[h0]at hl;exact .inr ⟨λj y h=>by omega,hl⟩
  | succ p ih=>
   intro hp k u hl;have hx:q[p]?=some q[p]:=Xe (by omega);rw[(OL (step p _ (by omega) hx)).1]at hl;rcases Q7 hl with⟨e,rfl⟩ | ⟨e,hl'⟩
   .exact .inl ⟨p,_,by omega,hx,e,rfl⟩
   .rcases ih (by omega) k u hl' with⟨j,y,hj,hy,hd,rfl⟩ | ⟨hno,hs⟩
    .exact .inl ⟨j,y,by omega,hy,hd,rfl⟩
    .refine .inr ⟨λj y hj hy=>?_,hs⟩;by_cases ej:j=p
     .subst ej;rw[hx]at hy;injection hy with hy;subst hy;exact e
     .exact hno j y (by omega) hy
 refine wp_region_any hmix ?_
 have main:∀(fuel:Nat) (S:Array Bool) (p0:Nat) (L:Loc) (a:Act) (w:World),S.size=ops.size->HM ops S->ops.size<=cnt S+fuel ->
   uK P G B q pe x0.1 st vals s L0 w0 S p0 L a w->wpAny P .any ops (BO P G B Q L0 s.H w0) fuel S a w:=by
  have i0lt:x0.1<ops.size:=by have:=(Xf.1 (hmem pe x0 hx0)).1;omega
  intro fuel
  induction fuel with
  | zero=>
   intro S p0 L a w hs hS hc inv;have hall':=OK (S:=S) (by omega);have:=hall' x0.1 (by omega);rw[inv.notyet]at this;cases this
  | succ fuel ih=>
   intro S p0 L a w hs hS hc inv;refine⟨λhr=>?_,λi hi=>?_⟩
   .exfalso
    have all:∀i,i<ops.size->S.getD i false=true:=by
     intro i
     induction i using Nat.strongRecOn with
     | _ i ihi=>
      intro hi
      cases hS':S.getD i false with
      | true=>rfl
      | false=>
       exfalso
       have:i∈Region.ready .any ops S:=OI (o:=ops[i]) (Ym hi) (by rw[Gz (by omega)];exact hS')
        (λe he hb=>by
         have:=hd.back i _ (Ym hi) e he hb
         exact ihi _ this (by omega))
       rw[hr]at this;cases this
    have:=all x0.1 i0lt;rw[inv.notyet]at this;cases this
   .obtain⟨hi1,hun,o,ho,hp⟩:=JW hi;rw[Gz (by omega)]at hun;obtain⟨p,mi,hx⟩:=hd.all i hi1;have hpl:p<q.length:=(Xf.1 hx).1;obtain⟨mi',hmi',hcomp⟩:=(ha.at_ i).1 o (by simpa using ho)
    have emi:mi'=mi:=by have:=hmem p _ hx;simp only at this;rw[this]at hmi';injection hmi' with h;exact h.symm
    subst emi;obtain⟨hcop,hdst,hdlt,hwants⟩:=JT hcomp;have bef:∀j,((Dm ops.toList []).getD i 0).testBit j=true->S.getD j false=true:=λj hb=>Ls hS ho hb hp
    have aft:∀j,j<ops.size->((Dm ops.toList []).getD j 0).testBit i=true->S.getD j false=false:=by
     intro j hj hb
     cases hSj:S.getD j false with
     | false=>rfl
     | true=>
      have hjo:ops[j]?=some ops[j]:=Ym hj;have:=Ls hS hjo hb (hS j _ hjo hSj);rw[this]at hun;cases hun
    have idx:∀(p':Nat) y,q[p']?=some y->y.1<ops.size:=λp' y hy=>by have:=(Xf.1 (hmem p' y hy)).1;omega
    have idx:∀(p':Nat) y,q[p']?=some y->y.1<ops.size:=λp' y hy=>by have:=(Xf.1 (hmem p' y hy)).1;omega
    have hple:p<=pe:=by
     rcases X8 pe p with h | h
     .have:=bef x0.1 (hlate p _ h hx);rw[inv.notyet]at this;cases this
     .exact h
    have hbefore':∀(p':Nat) y,p'<p->q[p']?=some y->A2 y.2.k=false->p'<p0:=by
     intro p' y hlt hy hyk;refine(inv.done p' y hy hyk).1 (bef _ ?_);have hok:=hd.pair p' p _ _ hlt hy hx;unfold ES at hok;simp only[Xh]at hok;have h1:=hok.1.1.1;rw[hyk]at h1;simp only[Yx,Y6,X9,Xh,decide_eq_true_eq]at h1;rcases h1 with h1 | h1
     .exact h1
     .omega
    have eye:∀k u,k∈mi'.eyes->Aa (st p).env k=some u->Ae P L w u (a.tmps.getD k undef):=by
     intro k' u hke hl;rcases trace p hple k' u hl with⟨j,y,hj,hy,hdj,rfl⟩ | ⟨hno,hs'⟩
     .have hok:=hd.pair j p _ _ hj hy hx;unfold ES at hok;simp only[Xh]at hok;have h2:=hok.1.1.2;rw[hdj]at h2;simp only[X9,Y7,Xh]at h2;rcases h2 with h2 | ⟨h2,h3⟩
      .exact absurd hke (by simpa using h2)
      .exact inv.vals j _ hy (bef _ h2) k' hdj
     .refine inv.old k' u (λp' y hy hSy hdy=>?_) hs';rcases Nat.lt_trichotomy p' p with hlt | heq | hgt
      .exact hno p' y hlt hy hdy
      .subst heq;rw[hx]at hy;injection hy with hy;subst hy;simp only at hSy;rw[hSy]at hun;cases hun
      .have hok:=hd.pair p p' _ _ hgt hx hy;unfold ES at hok;simp only[Xh]at hok;have h3:=hok.1.2;rw[hdy]at h3;simp only[X9,Y7]at h3;rcases h3 with h3 | h3
       .exact absurd hke (by simpa using h3)
       .have:=aft y.1 (idx p' y hy) h3;rw[this]at hSy;cases hSy
    have hi':Interp P G B L ({ ((st p).only mi'.eyes)with H:=(st p0).H,nx:=(st p0).nx }:Ac) a w:=by
     refine⟨inv.heap,inv.nx,inv.base,by show a.tmps.size=(st p).n;rw[nconst p hple];exact inv.size,inv.defers,λk u hl=>?_⟩;have hl':Aa ((st p).only mi'.eyes).env k=some u:=hl;rw[Lz]at hl';split at hl'
     .rename_i hke;exact eye k u hke hl'
     .cases hl'
    have hww:({ ((st p).only mi'.eyes)with H:=(st p0).H,nx:=(st p0).nx }:Ac).wants ops o=mi'.wants (st p).env:=by
     rw[hwants];exact QU (st p) mi' mi'.eyes (λ_ h=>h)
    have hev:mi'.xs.map (·.ev ({ ((st p).only mi'.eyes)with H:=(st p0).H,nx:=(st p0).nx }:Ac).env)=mi'.xs.map (·.ev (st p).env):=QT (st p) mi' mi'.eyes (λ_ h=>h);unfold wpOp;rw[ho];simp only;by_cases hpp:p=pe
    .
     subst hpp;rw[hx]at hx0;injection hx0 with hx0;subst hx0
     have hf:=flat p0 p (by
      rcases X8 p p0 with h | h
      .have:=inv.le;omega
      .exact h) (Xc _) (λp' y h1 h2 h3=>by
      cases hyk:A2 y.2.k with
      | true=>rfl
      | false=>have:=hbefore' p' y h2 h3 hyk;omega)
     rw[zy (hi'.wants (hww.trans hw0))];have hap:=hpan o ({ ((st p).only mi'.eyes)with H:=(st p0).H,nx:=(st p0).nx }:Ac) hcop hf.1.symm hf.2.symm hev L a w hi';refine .inl (EO (λ_ _ h=>h.elim) ?_ hap);rintro e a' w' ⟨rfl,rfl,L',h1,h2,h3,h4⟩;refine⟨⟨[],[],L'.nx,s.n⟩,L',hq _,⟨h1,rfl,Yn inv.base (by rw[h2];exact Nat.le_of_eq inv.nx),inv.size,inv.defers,λk p hl=>by cases hl⟩,inv.ext.trans h4,λb hb=>(h3.μ b (Xu hb inv.base)).trans (inv.μ b hb)⟩
    have hplt:p<pe:=by omega
    have hS':HM ops (S.setIfInBounds i true):=by
     intro j oj hoj hj e he hb;rw[Do S i _ (by omega)]at hj ⊢;split
     .rfl
     .split at hj
      .rename_i e1;subst e1;rw[ho]at hoj;injection hoj with hoj;subst hoj;exact hp e he hb
      .exact hS j oj hoj hj e he hb
    have hc':ops.size<=cnt (S.setIfInBounds i true)+fuel:=by rw[OJ (by omega) hun];omega
    have dsts:∀(p':Nat) y k',q[p']?=some y->i≠y.1->y.2.dst=some k'->o.dst≠some k':=by
     intro p' y k' hy e hk;rw[<-hdst];intro hcon
     have epn:p≠p':=λep=>by subst ep;rw[hx]at hy;injection hy with hy;subst hy;exact e rfl
     rcases Nat.lt_or_gt_of_ne epn with hlt | hgt
     .have hok:=hd.pair p p' _ _ hlt hx hy;unfold ES at hok;simp only[Xh]at hok;have h4:=hok.2;rw[hcon]at h4;simp only[bne_iff_ne]at h4;exact h4 hk
     .have hok:=hd.pair p' p _ _ hgt hy hx;unfold ES at hok;simp only[Xh]at hok;have h4:=hok.2;rw[hk]at h4;simp only[bne_iff_ne]at h4;exact h4 hcon
    have ine:i≠x0.1:=λe=>hpp (uniq p pe _ _ hx hx0 e)
    have next:∀(p1:Nat) (L':Loc) (w':World) (u:Value),p1<=pe ->
      (∀(p':Nat) y,q[p']?=some y->A2 y.2.k=false->((S.setIfInBounds i true).getD y.1 false=true ↔ p'<p1)) ->
      Ae P L' w' (vals p) u->Bx P G L' (st p1).H w'->L'.nx=(st p1).nx->AO L w L' w'->Ext L (st p0).H w L' (st p1).H w' ->
      wpAny P .any ops (BO P G B Q L0 s.H w0) fuel (S.setIfInBounds i true) (a.put o.dst u) w':=by
     intro p1 L' w' u hp1 hdone hru hok' hnx' hm' hx';refine ih _ p1 L' _ w' (by simpa using hs) hS' hc' ⟨hp1,?_,λp' y hy hSy=>?_,hdone,hok',hnx',Yn inv.base hm'.nx,?_,?_,?_,?_,inv.ext.trans hx',λb hb=>(hm'.μ b (Xu hb inv.base)).trans (inv.μ b hb)⟩
     .rw[Do S i _ (by omega),zz ine];exact inv.notyet
     .rw[Do S i _ (by omega)]at hSy;split at hSy
      .rename_i e;have ep:=uniq p p' _ _ hx hy e;omega
      .exact inv.bound p' y hy hSy
     .rw[<-inv.size];cases o.dst<;>simp[Act.put]
     .cases o.dst<;>simp[Act.put,inv.defers]
     .intro p' y hy hSy k' hk;rw[FV];by_cases e:i=y.1
      .have ep:=uniq p p' _ _ hx hy e;subst ep;rw[hx]at hy;injection hy with hy;subst hy;rw[zy ⟨by rw[<-hdst];exact hk,by rw[inv.size,hn];exact hdlt k' (by rw[<-hdst];exact hk)⟩];exact hru
      .rw[Do S i _ (by omega),zz e]at hSy;rw[zz (λh=>dsts p' y k' hy e hk h.1)];exact Ae.keep hm' _ (inv.vals p' y hy hSy k' hk)
     .intro k' u' hno h0';rw[FV];have hk:=hno p _ hx (by rw[Do S i _ (by omega),zy rfl]);rw[zz (λh=>hk (by rw[hdst];exact h.1))];refine Ae.keep hm' u' (inv.old k' u' (λp' y hy hSy=>hno p' y hy ?_) h0');rw[Do S i _ (by omega)];split
      .rfl
      .exact hSy
    have keepdone:A2 mi'.k=true->∀(p':Nat) y,q[p']?=some y->A2 y.2.k=false->((S.setIfInBounds i true).getD y.1 false=true ↔ p'<p0):=by
     intro hquiet p' y hy hyk;rw[Do S i _ (by omega)];by_cases e:i=y.1
     .have ep:=uniq p p' _ _ hx hy e;subst ep;rw[hx]at hy;injection hy with hy;subst hy;rw[hquiet]at hyk;cases hyk
     .rw[zz e];exact inv.done p' y hy hyk
    have hdid:=step p _ hplt hx;simp only at hdid;rcases hdid with⟨hquiet,hval,hst⟩ | ⟨hheavy,hwf,hv,hst⟩ | ⟨hheavy,hwt,H',nx',hek,hst⟩
    .unfold HN at hval;split at hval
     .rename_i hwt;rw[zy (hi'.wants (hww.trans hwt))]
      have hval0:Bb Φ (st p0).H (st p0).nx mi'.k (mi'.xs.map (·.ev (st p).env))=some (vals p):=by
       by_cases hpp:p0<=p
       .have hf:=flat p0 p hpp hple (λp' y h1 h2 h3=>by
         cases hyk:A2 y.2.k with
         | true=>rfl
         | false=>have:=hbefore' p' y h2 h3 hyk;omega)
        rw[<-hf.1,<-hf.2];exact hval
       .have walk:∀p1,p<=p1->p1<=p0->Bb Φ (st p1).H (st p1).nx mi'.k (mi'.xs.map (·.ev (st p).env))=some (vals p):=by
         intro p1
         induction p1 with
         | zero=>
          intro h _
          have:p=0:=by omega
          subst this;exact hval
         | succ p1 ihp=>
          intro h1 h2;by_cases e:p=p1+1
          .subst e;exact hval
          .have hv1:=ihp (by omega) (by omega);have hle:=inv.le;have hy:q[p1]?=some q[p1]:=Xe (by omega);have hdy:=step p1 _ (by omega) hy
           cases hyk:A2 (q[p1]).2.k with
           | true=>
            have:=L8 hdy hyk;rw[this.1,this.2];exact hv1
           | false=>
            by_cases hind:Gx mi'.k=true
            .exact ON hind hv1
            .have hlt:p<p1:=by
              rcases X8 p p1 with h | h
              .exact h
              .have:p1=p:=by omega
               subst this;rw[hx]at hy;injection hy with hy;rw[<-hy]at hyk;simp only at hyk;rw[hquiet]at hyk;cases hyk
             have hSy:=(inv.done p1 _ hy hyk).2 (by omega);have hok:=hd.pair p p1 _ _ hlt hx hy;unfold ES at hok;simp only[Xh]at hok;have h1':=hok.1.1.1;simp only[hquiet,hyk,Yg,Y6,X9,Xh,decide_eq_true_eq]at h1';rcases h1' with(((h | h) | h) | h) | h
             .exact absurd h hind
             .exact L9 ((JX hΦ hdy (fresh p1 (by omega))).2 (.inl h)) hv1
             .exact hrun.again p p1 mi' hplt (by omega) (by simpa using h) (hms p _ hx)
             .have:=aft _ (idx p1 _ hy) h;rw[this]at hSy;cases hSy
             .omega
        exact walk p0 (by omega) (Xc _)
      have hek':Ah Φ ({ ((st p).only mi'.eyes)with H:=(st p0).H,nx:=(st p0).nx }:Ac).H ({ ((st p).only mi'.eyes)with H:=(st p0).H,nx:=(st p0).nx }:Ac).nx mi'.k (mi'.xs.map (·.ev ({ ((st p).only mi'.eyes)with H:=(st p0).H,nx:=(st p0).nx }:Ac).env))=some (vals p,(st p0).H,(st p0).nx):=by
       rw[hev];exact QS hval0
      have haop:=GQ (B:=B) hΦ hcop hek' L a w hi';refine .inl (EO ?_ (λ_ _ _ h=>h.elim) haop);rintro a' w' ⟨u,L',rfl,hru,hok',hnx',hm',hx'⟩
      exact next p0 L' w' u inv.le (keepdone hquiet) hru hok' hnx' hm' hx'
     .rename_i hwf;rw[zz (by rw[hi'.wants (hww.trans hwf)];simp)];injection hval with hval
      exact next p0 L w undef inv.le (keepdone hquiet) (by rw[<-hval];simp only[Ae,An]) inv.heap inv.nx (AO.refl _ _) (Ext.refl _ _ _)
     .cases hval
    all_goals
     have hp0p:p0<=p:=by
      rcases X8 p p0 with h | h
      .have:=(inv.done p _ hx hheavy).2 h;simp only at this;rw[this]at hun;cases hun
      .exact h
     have hf:=flat p0 p hp0p hple (λp' y h1 h2 h3=>by
      cases hyk:A2 y.2.k with
      | true=>rfl
      | false=>have:=hbefore' p' y h2 h3 hyk;omega)
     have hdone':∀(p':Nat) y,q[p']?=some y->A2 y.2.k=false->((S.setIfInBounds i true).getD y.1 false=true ↔ p'<p+1):=by
      intro p' y hy hyk;rw[Do S i _ (by omega)];by_cases e:i=y.1
      .have ep:=uniq p p' _ _ hx hy e;subst ep;simp[e]
      .rw[zz e,inv.done p' y hy hyk];constructor
       .intro h;omega
       .intro h
        have:p'≠p:=λep=>by subst ep;rw[hx]at hy;injection hy with hy;subst hy;exact e rfl
        exact hbefore' p' y (by omega) hy hyk
    .rw[zz (by rw[hi'.wants (hww.trans hwf)];simp)]
     have e1:(st (p+1)).H=(st p0).H:=by rw[hst,D9,hf.1]
     have e2:(st (p+1)).nx=(st p0).nx:=by rw[hst,EP,hf.2]
     exact next (p+1) L w undef (by omega) hdone' (by rw[hv];simp only[Ae,An]) (by rw[e1];exact inv.heap) (by rw[e2];exact inv.nx) (AO.refl _ _) (by rw[e1];exact Ext.refl _ _ _)
    .rw[zy (hi'.wants (hww.trans hwt))]
     have hek':Ah Φ ({ ((st p).only mi'.eyes)with H:=(st p0).H,nx:=(st p0).nx }:Ac).H ({ ((st p).only mi'.eyes)with H:=(st p0).H,nx:=(st p0).nx }:Ac).nx mi'.k (mi'.xs.map (·.ev ({ ((st p).only mi'.eyes)with H:=(st p0).H,nx:=(st p0).nx }:Ac).env))=some (vals p,H',nx'):=by
      rw[hev];show Ah Φ (st p0).H (st p0).nx mi'.k _=_;rw[<-hf.1,<-hf.2];exact hek
     have haop:=GQ (B:=B) hΦ hcop hek' L a w hi';refine .inl (EO ?_ (λ_ _ _ h=>h.elim) haop);rintro a' w' ⟨u,L',rfl,hru,hok',hnx',hm',hx'⟩
     have e1:(st (p+1)).H=H':=by rw[hst,D9]
     have e2:(st (p+1)).nx=nx':=by rw[hst,EP]
     exact next (p+1) L' w' u (by omega) hdone' hru (by rw[e1];exact hok') (by rw[e2];exact hnx') hm' (by rw[e1];exact hx')
 obtain⟨hok,hm,hx⟩:=hi0.heap.of_heap (w':={ w0 with drawn:=w0.drawn+1 }) ⟨rfl,rfl,rfl⟩ rfl
 have hfalse:∀i,(Y4 ops.size false).getD i false=false:=by
  intro i;simp only[Y5,Array.getElem?_replicate];split<;>rfl
 refine main ops.size _ 0 L0 a0 _ (by simp) ?_ (by omega) ⟨X0 _,hfalse _,λp x _ h=>(by rw[hfalse]at h;cases h),?_,by rw[h0];exact hok,by rw[h0];exact hi0.nx,hi0.base,hi0.size,hi0.defers,?_,?_,by rw[h0];exact hx,λ_ _=>rfl⟩
 .intro i o _ h;rw[hfalse]at h;cases h
 .intro p x _ _;rw[hfalse];simp
 .intro p x _ h;rw[hfalse]at h;cases h
 .intro k u _ hu;exact Ae.keep hm u (hi0.env k u hu)
end
section
variable {P : Program} {G : Ay} {B N : Nat} {Φ : AC} {E : Gg} {Q : Exit -> Ac -> Prop} {s : Ac}
def Ii (E:Gg) (s:Ac) (m:Av):Option Bn:=
 match m.k with
 | .hcall f=>match m.wants s.env with
  | some true=>E f (m.xs.map (·.ev s.env)) s.H s.nx
  | _=>none
 | _=>none
def Fy (Φ:AC) (E:Gg):Nat->Ew->List GI->Ac->(Ac->Prop)->(Bn->Prop)->Prop
 | _,_,[],s,K,_=>K s
 | n,pd,.o m kp ag::r,s,K,X=>Ks (Ii E s m) X (BP (FZ Φ s m) λq=>Fp Φ pd q.2.1 q.2.2 ag (Fy Φ E (n+1) (Ga kp n m s q.1 pd) r (s.set m.dst q) K X))
 | _,_,.g _ _::_,_,_,_=>False
theorem ZK:∀(l:List GI) {n:Nat} {pd:Ew} {s:Ac} {K:Ac->Prop} {X:Bn->Prop},Fy Φ E n pd l s K X ->
  Df Φ 0 n 0 pd l s K\/∃(pe:Nat) (m:Av) (kp:Bool) (ag:List Nat) (ch:Bn),l[pe]?=some (.o m kp ag)/\Df Φ 0 n 0 pd (l.take pe) s (λs1=>Ii E s1 m=some ch)/\X ch
 | [],n,pd,s,K,X,h=>.inl h
 | .g _ _::_,n,pd,s,K,X,h=>h.elim
 | .o m kp ag::r,n,pd,s,K,X,h=>by
  simp only[Fy]at h
  cases hp:Ii E s m with
  | some ch=>
   rw[hp]at h;exact .inr ⟨0,m,kp,ag,ch,rfl,hp,h⟩
  | none=>
   rw[hp,Jo]at h;obtain⟨q,hv,hk⟩:=G1 h;obtain⟨h1,h2⟩:=Ri hk
   have back:∀C:Prop,C->Fp Φ pd q.2.1 q.2.2 ag C:=by
    intro C hC
    have:∀ks:List Nat,OH Φ pd q.2.1 q.2.2 ks->Fp Φ pd q.2.1 q.2.2 ks C:=by
     intro ks
     induction ks with
     | nil=>intro _;exact hC
     | cons i r ih=>
      intro hh;obtain⟨x,hx,he⟩:=hh i (by simp);show BP (Aa pd i) _;rw[hx];exact⟨he,ih λj hj=>hh j (by simp[hj])⟩
    exact this ag h1
   rcases ZK r h2 with h3 | ⟨pe,m',kp',ag',ch,h3,h4,h5⟩
   .left;show BP (FZ Φ s m) _;rw[hv];exact back _ h3
   .right;refine⟨pe+1,m',kp',ag',ch,by simpa using h3,?_,h5⟩;rw[List.take_succ_cons];show BP (FZ Φ s m) _;rw[hv];exact back _ h4
theorem ZL (hΦ:Ctx P G Φ) (hE:POK P G E) {l:List GI} (h:Fy Φ E 0 [] l s (Q .normal) (Dx Q)):MC P G B N (.drawG 0 l) Q s:=by
 rcases ZK l h with h1 | ⟨pe,m,kp,ag,ch,h3,h4,h5⟩
 .exact Aw hΦ h1
 .intro c hc hn;obtain⟨id,ops,lt,π,pa,R,rfl,hl,hd,hsh,he,hlate⟩:=Eg hc;obtain⟨s1,hr,hp⟩:=Nd _ h4;unfold Ii at hp;split at hp
  .rename_i f hk;split at hp
   .rename_i hw;have hple:pe<l.length:=(Xf.1 h3).1
    have hshp:GS pa 0 (R.filter λr=>decide (r.2<pe)) (l.take pe)=true:=by
     unfold GS at hsh ⊢;rw[Xh]at hsh ⊢;refine⟨Xm.2 λx hx=>?_,Xm.2 λr hr=>?_⟩
     .obtain⟨y,i⟩:=x;rw[Y8]at hx
      have hx':l[i]?=some y:=by
       rw[Yo]at hx;split at hx
       .exact hx
       .cases hx
      exact Xm.1 hsh.1 (y,i) (by rw[Y8];exact hx')
     .obtain⟨h1,h2⟩:=Y9.1 hr;have:=Xm.1 hsh.2 r h1;rw[Yo,zy (of_decide_eq_true h2)];exact this
    obtain⟨st,vals,tr⟩:=Rc hr hshp
    have hlen:((l.take pe).map GI.mini).length=pe:=by rw[Xt,Yy];omega
    have hpre:∀(p:Nat) m',p<pe->((BD lt π).map Prod.snd)[p]?=some m'->((l.take pe).map GI.mini)[p]?=some m':=by
     intro p m' hp hm;rw[List.map_take,Yo,zy hp,he];exact hm
    have hstop:=tr.stop;rw[hlen]at hstop
    have hm0:((BD lt π).map Prod.snd)[pe]?=some m:=by rw[<-he,Xn,h3];rfl
    rw[Xn]at hm0;obtain⟨x0,hx0,e0⟩:=AR hm0;subst e0
    refine uL (st:=st) (vals:=vals) (pe:=pe) (x0:=x0) hΦ.mix hΦ.sound hl hd hn hx0 (mO hlate hx0 hk) (by rw[hk];rfl)
     ⟨tr.start,λp m' hp hm=>tr.norm p m' (hpre p m' hp hm) (by omega),λp p' m' hp hp' hR hm=>tr.again p p' m' (Y9.2 ⟨hR,zw hp'⟩) (hpre p m' hp hm)⟩ (by rw[hstop];exact hw) ?_ h5
    intro o s' hop hH hnx hxs;refine ZI hE hop ?_;rw[hH,hnx,hxs,hstop,hk];exact hp
   .cases hp
  .cases hp
theorem Co (hΦ:Ctx P G Φ) (hE:POK P G E) {a b:Ak} (hn:s.n=N) (h:Cu Φ E a s (Gb (λs1=>MC P G B N b Q s1) Q)):MC P G B N (.seq a b) Q s:=by
 refine JY ((Jp hΦ hE a h hn).mono λe s1 q=>?_);cases e
 case normal=>exact⟨q.2 (λ_ h=>(by cases h)),q.1⟩
 all_goals exact q.1
theorem BB (hΦ:Ctx P G Φ) (hE:POK P G E) {a:Ak} (hn:s.n=N) (h:Cu Φ E a s Q):MC P G B N a Q s:=(Jp hΦ hE a h hn).mono λ_ _ q=>q.1
abbrev GB:=List (Nat×(List PV->Ab->Nat->Option Bn))
def orE (tbl:GB):Gg:=λf ps H nx=>match Aa tbl f with
 | some g=>g ps H nx
 | none=>none
@[simp] theorem B7b (k f:Nat) (g:List PV->Ab->Nat->Option Bn) (r:GB) (ps:List PV) (H:Ab) (nx:Nat):orE ((k,g)::r) f ps H nx=if k=f then g ps H nx else orE r f ps H nx:=by
 unfold orE;rw[A1];by_cases h:k=f
 .rw[zy h,zy h]
 .rw[zz h,zz h]
@[simp] theorem B7c (f:Nat) (ps:List PV) (H:Ab) (nx:Nat):orE [] f ps H nx=none:=rfl
def EOK (P:Program) (G:Ay) (f:FuncId) (e:List PV->Ab->Nat->Option Bn):Prop:=∀ps H nx ch,e ps H nx=some ch->Ea P G f ps H nx ch []
def E3 (P:Program) (G:Ay) (tbl:GB):Prop:=∀q∈tbl,EOK P G q.1 q.2
theorem E3.nil:E3 P G []:=λ_ h=>by cases h
theorem E3.cons {f:Nat} {e:List PV->Ab->Nat->Option Bn} {r:GB} (h:EOK P G f e) (hr:E3 P G r):E3 P G ((f,e)::r):=λq hq=>by
 rcases Xi.1 hq with rfl | hq
 .exact h
 .exact hr q hq
theorem E3.ok {tbl:GB} (h:E3 P G tbl):POK P G (orE tbl):=λf ps H nx ch hr=>by
 unfold orE at hr;split at hr
 .rename_i g hg;exact h _ (BF hg) ps H nx ch hr
 .cases hr
abbrev Ij:=List T->List T->Option (Except Bn (T×List T))
def N8 (sp:Ij) (cs ts:List T):Option (T×List T):=match sp cs ts with
 | some (.ok x)=>some x
 | _=>none
def uM (ty:TypeId):Except Bn (T×List T)->Out
 | .ok (r,cs')=>.ret (.t r) [(0,.cells ty (cs'.map .t))] 1
 | .error ch=>.pan ch
def Ku (ty:TypeId) (sp:Ij) (ps:List PV) (H:Ab) (nx:Nat):Option Bn:=
 match ps with
 | .ptr b 0::args=>match Aa H b,Ee args with
  | some (.cells ty' cs),some ts=>match Ee cs with
   | some cs'=>if ty'=ty/\b<nx then(match sp cs' ts with
    | some (.error ch)=>some ch
    | _=>none)else none
   | none=>none
  | _,_=>none
 | _=>none
def N9 (P:Program) (G:Ay) (f:FuncId) (ty:TypeId) (sp:Ij):Prop:=∀cs ts o,sp cs ts=some o->GA P G f (.ptr 0 0::ts.map .t) [(0,.cells ty (cs.map .t))] 1 (uM ty o)
theorem N9.hok {f:FuncId} {ty:TypeId} {sp:Ij} (h:N9 P G f ty sp):HOK P G f (Je ty (N8 sp)):=nI λcs ts r cs' hr=>by
 unfold N8 at hr;split at hr
 .rename_i x hx;injection hr with hr;subst hr;exact h cs ts _ hx
 .cases hr
theorem Ea.weak {f:FuncId} {ps:List PV} {H H':Ab} {nx:Nat} {ch:Bn} (h:Ea P G f ps H nx ch H'):Ea P G f ps H nx ch []:=
 ⟨h.1,λL w us h1 h2 h3=>(h.2 L w us h1 h2 h3).mono λe w' ⟨L',e1,e2,e3,e4,e5⟩=>
  ⟨L',e1,(N7 e2).1,e3,e4,⟨e5.size,e5.same,e5.more,e5.new,λ_ ⟨_,_,hb,_⟩=>(by cases hb),e5.shape,e5.outer⟩⟩⟩
theorem N9.eok {f:FuncId} {ty:TypeId} {sp:Ij} (h:N9 P G f ty sp):EOK P G f (Ku ty sp):=λps H nx ch hr=>by
 unfold Ku at hr;split at hr
 .rename_i b args;split at hr
  .rename_i ty' cs ts hl ha;split at hr
   .rename_i cs' hc;split at hr
    .rename_i hcond;obtain⟨rfl,hb⟩:=hcond;split at hr
     .rename_i ch' hsp;injection hr with hr;subst hr
      have:=(h cs' ts _ hsp)
      have h1:Ea P G f (.ptr 0 0::ts.map .t) [(0,.cells ty' (cs'.map .t))] 1 ch' []:=this;have h2:=h1.lift1 (b:=b) (NX:=nx) (Hb:=H) (by rw[hl,Gu hc]) hb;rw[<-Gu ha]at h2;exact h2.weak
     .cases hr
    .cases hr
   .cases hr
  .cases hr
 .cases hr
theorem uO {ty:TypeId} {sp:Ij} {b nx:Nat} {H:Ab} {cs ts:List T} {r:T} {cs':List T} (hl:Aa H b=some (.cells ty (cs.map .t))) (hb:b<nx) (ho:sp cs ts=some (.ok (r,cs'))) :
 Je ty (N8 sp) (.ptr b 0::ts.map .t) H nx=some (.t r,upd H b (.cells ty (cs'.map .t)),nx):=nJ (o:=(r,cs')) hl hb (by unfold N8;rw[ho])
theorem uP {ty:TypeId} {sp:Ij} {b nx:Nat} {H:Ab} {cs ts:List T} {x:T×List T} (hl:Aa H b=some (.cells ty (cs.map .t))) (ho:sp cs ts=some (.ok x)) :
  Ku ty sp (.ptr b 0::ts.map .t) H nx=none:=by
 simp only[Ku,hl,Ke,ho];split<;>rfl
theorem uQ {ty:TypeId} {sp:Ij} {b nx:Nat} {H:Ab} {cs ts:List T} {ch:Bn} (hl:Aa H b=some (.cells ty (cs.map .t))) (hb:b<nx) (ho:sp cs ts=some (.error ch)) :
  Ku ty sp (.ptr b 0::ts.map .t) H nx=some ch:=by
 simp only[Ku,hl,Ke,hb,and_self,if_true,ho]
end
section
variable {P : Program} {G : Ay} {B : Nat} {Φ : AC} {E : Gg} {env : List (Nat × PV)} {H : Ab} {nx n : Nat} {K : Ac -> Prop} {X : Bn -> Prop} {Q : Exit -> Ac -> Prop} {d : Option Nat} {k : MK} {xs : List Opd} {r : List Av}
@[simp] theorem B7d (f:Nat) (ps:List PV):Jn E H nx (.hcall f) ps=E f ps H nx:=rfl
@[simp] theorem B7e (ps:List PV):Jn E H nx (.hx .pan) ps=Ko ps:=rfl
@[simp] theorem B7f (t:Nat) (x:Value):Ko [.t (.ic t (.v x))]=some [{ v:=.iface t x,recovered:=false }]:=rfl
@[simp] theorem B7g (t:Nat) (x:Value):Ko [.t (.ic t (.ag [.v x]))]=some [{ v:=.iface t (.agg #[x]),recovered:=false }]:=rfl
@[simp] theorem B7h (t:Nat) (x:T):exM (.mki t) [.t x]=some (.t (.ic t x)):=rfl
def Cc:MK->Bool
 | .hcall _=>false
 | .hx .pan=>false
 | _=>true
@[simp] theorem B7i:Cc (.mv)=true:=rfl
@[simp] theorem B7j:Cc (.pick)=true:=rfl
@[simp] theorem B7k (isB:Bool) (op:BinOp) (nk:Option NK):Cc (.bin isB op nk)=true:=rfl
@[simp] theorem B7l (op:UnOp):Cc (.un op)=true:=rfl
@[simp] theorem B7m (k:Option IntKind):Cc (.conv k)=true:=rfl
@[simp] theorem B7n (agg:Bool) (n:Nat):Cc (.load agg n)=true:=rfl
@[simp] theorem B7o (off:Nat):Cc (.faddr off)=true:=rfl
@[simp] theorem B7p (off:Nat) (agg:Bool) (n:Nat):Cc (.field off agg n)=true:=rfl
@[simp] theorem B7q (z:Nat):Cc (.iaddr z)=true:=rfl
@[simp] theorem B7r (len:Nat) (z:Nat):Cc (.aaddr len z)=true:=rfl
@[simp] theorem B7s:Cc (.index)=true:=rfl
@[simp] theorem B7t (lo:Bool) (hi:Bool):Cc (.slstr lo hi)=true:=rfl
@[simp] theorem B7u (z:Nat) (lo:Bool) (hi:Bool):Cc (.slice z lo hi)=true:=rfl
@[simp] theorem B7v (i:Nat):Cc (.ext i)=true:=rfl
@[simp] theorem B7w:Cc (.chk)=true:=rfl
@[simp] theorem B7x:Cc (.lenstr)=true:=rfl
@[simp] theorem B7y:Cc (.lensl)=true:=rfl
@[simp] theorem B7z:Cc (.min)=true:=rfl
@[simp] theorem B8a:Cc (.max)=true:=rfl
@[simp] theorem B8b (n:Nat):Cc (.store n)=true:=rfl
@[simp] theorem B8c (e:Nat) (n:Nat) (b:Nat) (zc:List Value):Cc (.make e n b zc)=true:=rfl
@[simp] theorem B8d (e:Nat) (n:Nat) (zc:List Value) (len:Nat) (idx:List Nat):Cc (.bslice e n zc len idx)=true:=rfl
@[simp] theorem B8e (pl:List (Nat×Nat)) (zc:List Value) (idx:List Nat):Cc (.build pl zc idx)=true:=rfl
@[simp] theorem B8f (n:Nat) (zc:List Value) (idx:List Nat):Cc (.barr n zc idx)=true:=rfl
@[simp] theorem B8g (t:Nat):Cc (.box t)=true:=rfl
@[simp] theorem B8h (t:Nat) (zc:List Value):Cc (.alloc t zc)=true:=rfl
@[simp] theorem B8i (e:Nat) (n:Nat) (b:Nat):Cc (.app e n b)=true:=rfl
@[simp] theorem B8j (f:Nat):Cc (.call f)=true:=rfl
@[simp] theorem B8k:Cc (.callv)=true:=rfl
@[simp] theorem B8l (e:Nat) (n:Nat) (zc:List Value) (len:Nat) (idx:List Nat):Cc (.tslice e n zc len idx)=true:=rfl
@[simp] theorem B8m:Cc (.bad)=true:=rfl
@[simp] theorem B8n (e:EK):Cc (.ex e)=true:=rfl
theorem ZM {ps:List PV} (h:Cc k=true):Jn E H nx k ps=none:=by
 cases k
 case hx h2=>cases h2<;>first | (cases h;done) | rfl
 all_goals first | (cases h;done) | rfl
@[simp] theorem B8o {s:Ac}:Ch Φ E [] s K X=K s:=rfl
@[simp] theorem B8p (hk:Cc k=true):Ch Φ E (⟨d,k,xs,none⟩::r) ⟨env,H,nx,n⟩ K X=BP (Ah Φ H nx k (xs.map (·.ev env))) λq=>Ch Φ E r (Ac.set ⟨env,H,nx,n⟩ d q) K X:=by
 simp only[Ch,Av.wants,HS,ZM hk,Jo]
@[simp] theorem B8q {f:Nat}:Ch Φ E (⟨d,.hcall f,xs,none⟩::r) ⟨env,H,nx,n⟩ K X=Ks (E f (xs.map (·.ev env)) H nx) X (BP (Ah Φ H nx (.hcall f) (xs.map (·.ev env))) λq=>Ch Φ E r (Ac.set ⟨env,H,nx,n⟩ d q) K X):=rfl
@[simp] theorem B8r:Ch Φ E (⟨d,.hx .pan,xs,none⟩::r) ⟨env,H,nx,n⟩ K X=Ks (Ko (xs.map (·.ev env))) X (BP (Ah Φ H nx (.hx .pan) (xs.map (·.ev env))) λq=>Ch Φ E r (Ac.set ⟨env,H,nx,n⟩ d q) K X):=rfl
@[simp] theorem B8s {g:Nat} {want:Bool} (h:Aa env g=some (.t (.v (.bool want)))) (hk:Cc k=true) :
  Ch Φ E (⟨d,k,xs,some (g,want)⟩::r) ⟨env,H,nx,n⟩ K X=BP (Ah Φ H nx k (xs.map (·.ev env))) λq=>Ch Φ E r (Ac.set ⟨env,H,nx,n⟩ d q) K X:=by
 simp only[Ch,Av.wants,h,beq_self_eq_true,HS,ZM hk,Jo]
theorem ZN {g:Nat} {want b:Bool} (h:Aa env g=some (.t (.v (.bool b)))) (hb:(b==want)=false) :
  Ch Φ E (⟨d,k,xs,some (g,want)⟩::r) ⟨env,H,nx,n⟩ K X=Ch Φ E r (Ac.set ⟨env,H,nx,n⟩ d (.t (.v undef),H,nx)) K X:=by
 simp only[Ch,Av.wants,h,hb,HU]
@[simp] theorem B8t {g:Nat} (h:Aa env g=some (.t (.v (.bool false)))) :
 Ch Φ E (⟨d,k,xs,some (g,true)⟩::r) ⟨env,H,nx,n⟩ K X=Ch Φ E r (Ac.set ⟨env,H,nx,n⟩ d (.t (.v undef),H,nx)) K X:=ZN h rfl
@[simp] theorem B8u {g:Nat} (h:Aa env g=some (.t (.v (.bool true)))) :
 Ch Φ E (⟨d,k,xs,some (g,false)⟩::r) ⟨env,H,nx,n⟩ K X=Ch Φ E r (Ac.set ⟨env,H,nx,n⟩ d (.t (.v undef),H,nx)) K X:=ZN h rfl
@[simp] theorem B8v {g:Nat} {want:Bool} (h:Aa env g=some (.t (.v undef))) :
  Ch Φ E (⟨d,k,xs,some (g,want)⟩::r) ⟨env,H,nx,n⟩ K X=Ch Φ E r (Ac.set ⟨env,H,nx,n⟩ d (.t (.v undef),H,nx)) K X:=by
 simp only[Ch,Av.wants,h,undef,HU]
@[simp] theorem B8w {s:Ac}:Cu Φ E .skip s Q=Q .normal s:=rfl
@[simp] theorem B8x {l:List Av}:Cu Φ E (.ops l) ⟨env,H,nx,n⟩ Q=Ch Φ E l ⟨env,H,nx,n⟩ (Q .normal) (Dx Q):=rfl
@[simp] theorem B8y {l:List Av}:Cu Φ E (.draw l) ⟨env,H,nx,n⟩ Q=Cz Φ l ⟨env,H,nx,n⟩ (Q .normal):=rfl
@[simp] theorem B8z {κ:Nat} {l:List GI}:Cu Φ E (.drawG κ l) ⟨env,H,nx,n⟩ Q=Df Φ κ 0 0 [] l ⟨env,H,nx,n⟩ (Q .normal):=rfl
@[simp] theorem B9a {l:List GI}:Cu Φ E (.drawE l) ⟨env,H,nx,n⟩ Q=Df Φ 0 0 0 [] l ⟨env,H,nx,n⟩ (Q .normal):=rfl
@[simp] theorem B9b {a b:Ak}:Cu Φ E (.seq a b) ⟨env,H,nx,n⟩ Q=Cu Φ E a ⟨env,H,nx,n⟩ (Gb (λs1=>Cu Φ E b s1 Q) Q):=rfl
@[simp] theorem B9c {c:Opd} {a b:Ak} (h:c.ev env = .t (.v (.bool true))):Cu Φ E (.cond c a b) ⟨env,H,nx,n⟩ Q=Cu Φ E a ⟨env,H,nx,n⟩ Q:=by simp only[Cu,h,UZ]
@[simp] theorem B9d {c:Opd} {a b:Ak} (h:c.ev env = .t (.v (.bool false))):Cu Φ E (.cond c a b) ⟨env,H,nx,n⟩ Q=Cu Φ E b ⟨env,H,nx,n⟩ Q:=by simp only[Cu,h,Va]
@[simp] theorem B9e {i:Nat} {a:Ak}:Cu Φ E (.block i a) ⟨env,H,nx,n⟩ Q=Cu Φ E a ⟨env,H,nx,n⟩ (F8 i Q):=rfl
@[simp] theorem B9f {i:Nat} {s:Ac}:Cu Φ E (.exit i) s Q=Q (.exit i) s:=rfl
@[simp] theorem B9g {a:Ak}:Cu Φ E (.scope a) ⟨env,H,nx,n⟩ Q=Cu Φ E a ⟨env,H,nx,n⟩ (HQ Q):=rfl
@[simp] theorem B9h {s:Ac}:Cu Φ E .ret s Q=Q .ret s:=rfl
@[simp] theorem B9i (K:Ac->Prop) (ch:Bn):Dx (Gb K Q) ch=Dx Q ch:=rfl
@[simp] theorem B9j (i:Nat) (ch:Bn):Dx (F8 i Q) ch=Dx Q ch:=rfl
@[simp] theorem B9k (ch:Bn):Dx (HQ Q) ch=Dx Q ch:=rfl
@[simp] theorem B9l {α:Type} (S:α->Ac) (Ok:α->Prop) (ch:Bn):Dx (Kg P G B S Ok Q) ch=Dx Q ch:=rfl
@[simp] theorem B9m (S:Ac) (ch:Bn):Dx (Nf P G B S Q) ch=Dx Q ch:=rfl
@[simp] theorem B9n (ch:Bn):Dx (Jb Q) ch=Dx Q ch:=rfl
@[simp] theorem B9o (vs:List RV) (o:Out) (ch:Bn):Dx (LR P G B vs o) ch=(o = .pan ch):=by
 refine propext ⟨λh=>?_,λh s=>?_⟩
 .have:=h ⟨[],[],0,0⟩
  cases o with
  | ret r H nx=>
   obtain⟨he,_⟩:=(show EA P G B vs (λr0 H0 nx0=>r0=r/\H0=H/\nx0=nx) (.panic ch) ⟨[],[],0,0⟩from this)
   rcases he with he | he<;>cases he
  | pan c=>
   have e:Exit.panic ch=Exit.panic c:=this;injection e with e;rw[e]
 .subst h;exact rfl
theorem ZO {vs:List RV} {r:PV} {H':Ab} {nx':Nat} {e:Exit} {s:Ac} (h:EA P G B vs (λr0 H0 nx0=>r0=r/\H0=H'/\nx0=nx') e s):LR P G B vs (.ret r H' nx') e s:=h
theorem NA {vs:List RV} {r:PV} {H':Ab} {nx':Nat} {e:Exit} {s s2:Ac} {rs:List PV} (he:e = .normal\/e = .ret) (hs:Sub P G B s s2) (h1:CH s2 vs=some rs) (h2:CF rs=r) (h3:s2.H=H') (h4:s2.nx=nx'):LR P G B vs (.ret r H' nx') e s:=
 ⟨he,s2,rs,hs,h1,h2,h3,h4⟩
end
def Ik:MK->Bool
 | .hcall _=>true
 | _=>false
@[simp] theorem B9p:Ik .mv=false:=rfl
@[simp] theorem B9q (n:Nat):Ik (.faddr n)=false:=rfl
@[simp] theorem B9r (b:Bool) (n:Nat):Ik (.load b n)=false:=rfl
@[simp] theorem B9s (b:Bool) (op:BinOp) (nk:Option NK):Ik (.bin b op nk)=false:=rfl
@[simp] theorem B9t (e n:Nat) (zc:List Value) (len:Nat) (idx:List Nat):Ik (.tslice e n zc len idx)=false:=rfl
@[simp] theorem B9u (e n b:Nat):Ik (.app e n b)=false:=rfl
@[simp] theorem B9v (n:Nat):Ik (.store n)=false:=rfl
section
variable {α : Type} {P : Program} {G : Ay} {B : Nat}
theorem LS (H:Ab) (F:List Nat) (x:T):B5 H F (.t x) = .t x:=rfl
theorem uR (H:Ab) (F:List Nat) (ty:TypeId) (cs:List T):Cy H F (.cells ty (cs.map .t)) = .cells ty (cs.map .t):=by
 simp only[Cy,X7];rfl
theorem RZ (σ:Nat->Nat):∀cs:List T,AX σ (cs.map .t)=cs.map .t
 | []=>rfl
 | c::cs=>by simp only[Xd,AX,RZ σ cs,ren]
theorem NB (n:Nat):∀cs:List T,Bl n (cs.map .t)=true
 | []=>rfl
 | c::cs=>by simp only[Xd,Bl,NB n cs,under,Bool.and_self]
theorem uS {e:Enc α} {ty ty0 b k nx n:Nat} {l:List α} {env:List (Nat×PV)} {H:Ab} {cs:List T} (h:Ar e ty H b l) (hb0:b≠0) (h0:Aa H 0=some (.cells ty0 (cs.map .t)))
  (hk:Aa env k=some (rowP e b l)) (hB:B<=1):Sub P G B ⟨env,H,nx,n⟩ ⟨[(k,.t (Am e l))],[(0,.cells ty0 (cs.map .t))],1,n⟩:=by
 have h1:Sub P G B ⟨env,H,nx,n⟩ (Ac.frz ⟨env,H,nx,n⟩ [b]):=LF [b];refine h1.trans ?_;refine Kc (λx=>x) rfl hB (λ_ _=>rfl) (λq hq=>?_) (λq hq=>?_) (λ_ _ _ _ e=>e)
 .simp only[Xq]at hq;subst hq;refine⟨?_,rfl⟩;simp only[Ac.frz,Fo,hk,Xl,ren];unfold B5;rw[h.toT]
  have:(FF b l).all ([b].contains ·)=true:=by cases l<;>simp[FF]
  simp only[this,if_true]
 .simp only[Xq]at hq;subst hq;refine⟨?_,by show 0<1;omega,NB _ _⟩;simp only[Ac.frz,Fo];rw[show Aa (Dl H [b]) 0=Aa H 0 by simp only[Dl,Za,Zb];rw[Cr,zz (Ne.symm hb0)],h0,Xl,uR];simp only[BG,RZ]
end
section
variable {Φ : AC} {E : Gg} {env : List (Nat × PV)} {H : Ab} {nx n j : Nat} {K : Ac -> Prop} {X : Bn -> Prop} {d : Option Nat} {k : MK} {xs : List Opd} {gr : List GI} {pd : Ew} {kp : Bool} {ag : List Nat}
@[simp] theorem B9w {s:Ac}:Fy Φ E j pd [] s K X=K s:=rfl
@[simp] theorem B9x (hk:A2 k=true) (hc:Ik k=false):Fy Φ E j pd (.o ⟨d,k,xs,none⟩ kp ag::gr) ⟨env,H,nx,n⟩ K X =
  BP (Bb Φ H nx k (xs.map (·.ev env))) λv=>Fp Φ pd H nx ag (Fy Φ E (j+1) (Ga kp j ⟨d,k,xs,none⟩ ⟨env,H,nx,n⟩ v pd) gr (Ac.set ⟨env,H,nx,n⟩ d (v,H,nx)) K X):=by
 have hp:Ii E ⟨env,H,nx,n⟩ ⟨d,k,xs,none⟩=none:=by
  unfold Ii;split
  .rename_i f e;simp only at e;subst e;cases hc
  .rfl
 simp only[Fy,hp,Jo,FZ,hk,if_true,HN,Av.wants,UY]
@[simp] theorem B9y (hk:A2 k=false) (hc:Ik k=false):Fy Φ E j pd (.o ⟨d,k,xs,none⟩ kp ag::gr) ⟨env,H,nx,n⟩ K X =
  BP (Ah Φ H nx k (xs.map (·.ev env))) λq=>Fp Φ pd q.2.1 q.2.2 ag (Fy Φ E (j+1) (Ga kp j ⟨d,k,xs,none⟩ ⟨env,H,nx,n⟩ q.1 pd) gr (Ac.set ⟨env,H,nx,n⟩ d q) K X):=by
 have hp:Ii E ⟨env,H,nx,n⟩ ⟨d,k,xs,none⟩=none:=by
  unfold Ii;split
  .rename_i f e;simp only at e;subst e;cases hc
  .rfl
 simp only[Fy,hp,Jo,FZ,hk,Xk,if_false,Av.wants]
@[simp] theorem B9z {f:Nat}:Fy Φ E j pd (.o ⟨d,.hcall f,xs,none⟩ kp ag::gr) ⟨env,H,nx,n⟩ K X =
  Ks (E f (xs.map (·.ev env)) H nx) X (BP (Ah Φ H nx (.hcall f) (xs.map (·.ev env))) λq=>Fp Φ pd q.2.1 q.2.2 ag (Fy Φ E (j+1) (Ga kp j ⟨d,.hcall f,xs,none⟩ ⟨env,H,nx,n⟩ q.1 pd) gr (Ac.set ⟨env,H,nx,n⟩ d q) K X)):=by
 have hq:A2 (.hcall f)=false:=rfl;simp only[Fy,Ii,FZ,hq,Xk,if_false,Av.wants]
end
theorem ZP {P:Program} {G:Ay} {B:Nat} {vs:List RV} {R:PV->Ab->Nat->Prop} {s:Ac} (h:BP (CH s vs) λps=>R (CF ps) s.H s.nx):EA P G B vs R .ret s:=by
 obtain⟨ps,h1,h2⟩:=G1 h;exact⟨.inr rfl,s,ps,Sub.refl s,h1,h2⟩
def Frs (H:Ab) (nx:Nat):Prop:=∀b x,Aa H b=some x->b<nx
theorem Frs.cons {H:Ab} {nx k m:Nat} {r:Row} (h:Frs H nx) (hk:k<m) (hm:nx<=m):Frs ((k,r)::H) m:=λb x hb=>by
 rw[A1]at hb;split at hb
 .omega
 .exact Xu (h b x hb) hm
theorem Frs.upd {H:Ab} {nx k:Nat} {r:Row} (h:Frs H nx):Frs (Abs.upd H k r) nx:=λb x hb=>by
 rw[A9]at hb;split at hb
 .rename_i e;obtain⟨y,hy,_⟩:=Xo.1 hb;subst e;exact h _ _ hy
 .exact h b x hb
theorem Frs.rem {H:Ab} {nx k:Nat} (h:Frs H nx):Frs (rem H k) nx:=λb x hb=>by
 rw[Cr]at hb;split at hb
 .cases hb
 .exact h b x hb
theorem Frs.mono {H:Ab} {nx m:Nat} (h:Frs H nx) (hm:nx<=m):Frs H m:=λb x hb=>Xu (h b x hb) hm
theorem hAt {P:Program} {G:Ay} {f:FuncId} {ps:List PV} {H:Ab} {nx:Nat} {r:PV} {H':Ab} {nx':Nat} (h:AB P G f ps H nx r H' nx') (hf:Frs H nx->Frs H' nx') :
 ∃t:List PV->Ab->Nat->Option (PV×Ab×Nat),t ps H nx=some (r,H',nx')/\HOK P G f t:=⟨_,EF _ _ _ _,Fu h hf⟩
section
variable {α : Type} {e : Enc α} {ty b : Nat} {H : Ab} {l : List α}
theorem Frs.appH {nx:Nat} {m:List α} (h:Frs H nx):Frs (Abs.appH e ty H nx b l m) (nx+1):=by
 unfold Abs.appH;split
 .exact h.mono (Yp _)
 .split
  .exact h.cons (Yl _) (Yp _)
  .exact h.rem.cons (Yl _) (Yp _)
theorem Kv (e:Enc α) (b:Nat) (l:List α) (h:l≠[]):rowP e b l = .row b 0 l.length e.z:=by
 cases l with
 | nil=>exact absurd rfl h
 | cons x r=>rfl
theorem Em {b o n:Nat} {t:PV} {ty:Nat} {cs ns:List PV} (h:Aa H b=some (.cells ty cs)) (hn:B7 t=some ns) (hl:ns.length=n) (ho:o+n<=cs.length):A8 n H (.ptr b o) t=some (Abs.upd H b (.cells ty (Bj cs o ns))):=by
 simp only[A8,h,hn,hl,ho,and_self,if_true]
end
def B8 (H:Ab) (F:List Nat):Ab:=(Dl H F).map λq=>(q.1,Cy H F q.2)
theorem Sa:∀(F:List Nat) (H:Ab) (k:Nat),k∉F->Aa (Dl H F) k=Aa H k
 | [],H,k,_=>rfl
 | b::F,H,k,h=>by
  rw[Xi,not_or]at h;show Aa (Dl (rem H b) F) k=_;rw[Sa F _ k h.2,Cr,zz h.1]
theorem LU {H:Ab} {F:List Nat} {c:Nat} {r:Row} (hc:c∉F) (h:Aa H c=some r):Aa (B8 H F) c=some (Cy H F r):=by
 unfold B8;rw[Fo,Sa _ _ _ hc,h];rfl
theorem EG {P:Program} {G:Ay} {B nx n:Nat} {env env':List (Nat×PV)} {H:Ab} (F:List Nat) (he:∀q∈env',∃p0,Aa env q.1=some p0/\B5 H F p0=q.2):Sub P G B ⟨env,H,nx,n⟩ ⟨env',B8 H F,nx,n⟩:=by
 refine(LF F).trans ?_;unfold Ac.frz;refine sub_env λq hq=>?_;obtain⟨p0,h1,h2⟩:=he q hq;rw[Fo,h1,<-h2];rfl
theorem Jq {P:Program} {G:Ay} {B nx nx' n:Nat} {env:List (Nat×PV)} {H:Ab} (h:nx<=nx'):Sub P G B ⟨env,H,nx,n⟩ ⟨env,H,nx',n⟩:=by
 intro L a w hi;have hnx:L.nx=nx:=hi.nx
 have hm:AO L w { L with nx:=nx' } w:=⟨λb hb=>⟨hb,rfl⟩,by show L.nx<=nx';omega,λ_ _=>rfl,Xc _,BT.refl w⟩
 refine⟨{ L with nx:=nx' },⟨⟨hi.heap.lt,λb r hb=>(hi.heap.rep b r hb).keep hm rfl,hi.heap.apart,hi.heap.inj,λb r hb=>?_,hi.heap.glob⟩,rfl,?_,hi.size,hi.defers,λk p hk=>Ae.keep hm p (hi.env k p hk)⟩,?_,λ_ _=>rfl⟩
 .have:=hi.heap.nx b r hb;show b<nx';omega
 .have:=hi.base;show B<=nx';omega
 .exact⟨Xc _,λ_ _ _=>rfl,λ_ h=>h,λ_ h=>.inl h,λg ⟨b,r,h,e⟩=>.inr ⟨b,r,h,e⟩,BT.refl w,BL.refl w⟩
theorem Gh (H:Ab) (F:List Nat) (x:T):B5 H F (.t x) = .t x:=rfl
theorem Il (H:Ab) (F:List Nat) (b o:Nat):B5 H F (.ptr b o) = .ptr b o:=rfl
theorem Hh {α:Type} {e:Enc α} {ty b:Nat} {H:Ab} {l:List α} {F:List Nat} (h:Ar e ty H b l) (hb:b∈F):B5 H F (rowP e b l) = .t (Am e l):=by
 unfold B5;rw[h.toT]
 cases l with
 | nil=>rfl
 | cons x r=>simp[FF,hb]
theorem uT {ty:Nat} {H:Ab} {F:List Nat} (cs:List T):Cy H F (.cells ty (cs.map .t)) = .cells ty (cs.map .t):=by
 simp only[Cy,X7];congr 1
end Go.Abs
namespace Go.Proofs.YtobnacghaamfoaaGreatDoor
open Go Go.Abs
structure Dfn where
 name:ByteArray
 strict:Ds
 defaults:List Ds
structure TyD where
 name:ByteArray
 supers:List ByteArray
 feats:List (ByteArray×ByteArray)
structure Afx where
 kind:Int
 pairs:List (ByteArray×ByteArray)
def eFt:Enc (ByteArray×ByteArray):=⟨2,λp=>[sv p.1,sv p.2],λ_=>rfl,by omega,λa b h=>by
 obtain⟨_,_⟩:=a;obtain⟨_,_⟩:=b;injection h with h1 h;injection h with h2 _;injection h1 with h1;injection h1 with h1;injection h2 with h2;injection h2 with h2;simp only at h1 h2
 subst h1;subst h2;rfl⟩
def Dfn.cs (x:Dfn):List T:=sv x.name::(A4 x.strict++[Am eD x.defaults])
def TyD.cs (x:TyD):List T:=[sv x.name,Am Aj x.supers,Am eFt x.feats]
def Afx.cs (x:Afx):List T:=[iv x.kind,Am eFt x.pairs]
theorem Dfn.len (x:Dfn):x.cs.length=6:=by
 unfold Dfn.cs;rw[Yb,Xj,Gf];rfl
inductive El where
 | imp (s:ByteArray)
 | typ (x:TyD)
 | tmp (x:Dfn)
 | ent (w:List ByteArray) (x:Dfn)
 | lex (a:Afx) (x:Dfn)
 | rul (x:Dfn)
 | roo (x:Dfn)
 | chk (p:List ByteArray)
 | drp (s:ByteArray)
def El.j:El->Nat
 | .imp _=>0
 | .typ _=>1
 | .tmp _=>2
 | .ent _ _=>3
 | .lex _ _=>4
 | .rul _=>5
 | .roo _=>6
 | .chk _=>7
 | .drp _=>8
def El.cs:El->List T
 | .imp s=>[sv s]
 | .typ x=>x.cs
 | .tmp x=>x.cs
 | .ent w x=>Am Aj w::x.cs
 | .lex a x=>a.cs++x.cs
 | .rul x=>x.cs
 | .roo x=>x.cs
 | .chk p=>[Am Aj p]
 | .drp s=>[sv s]
def zE:Nat->Nat
 | 0=>1
 | 1=>3
 | 2=>6
 | 3=>7
 | 4=>8
 | 5=>6
 | 6=>6
 | _=>1
theorem uU (j:Nat):0<zE j:=by
 unfold zE;split<;>omega
theorem El.len (x:El):x.cs.length=zE x.j:=by
 cases x<;>simp[El.cs,El.j,zE,Dfn.len,TyD.cs,Afx.cs]
abbrev RwC (z:Nat):={c:List T // c.length=z}
def eRw (j:Nat):Enc (RwC (zE j)):=⟨zE j,Subtype.val,Subtype.property,uU j,λ_ _ h=>Subtype.ext h⟩
def Pv (j:Nat) (x:El):Option (RwC (zE j)):=if h:x.j=j then some ⟨x.cs,h▸x.len⟩else none
def AL (j:Nat) (els:List El):List (RwC (zE j)):=els.filterMap (Pv j)
theorem ZQ (j:Nat) (a b:List El):AL j (a++b)=AL j a++AL j b:=List.filterMap_append
theorem ZR (x:El):Pv x.j x=some ⟨x.cs,x.len⟩:=dif_pos rfl
theorem ZS {j:Nat} {x:El} (h:x.j≠j):Pv j x=none:=dif_neg h
theorem ZT (els:List El) (x:El):AL x.j (els++[x])=AL x.j els++[⟨x.cs,x.len⟩]:=by
 rw[ZQ];show _++Zc _ [x]=_;rw[Ya,ZR];rfl
theorem Jr {j:Nat} (els:List El) {x:El} (h:x.j≠j):AL j (els++[x])=AL j els:=by
 rw[ZQ];show _++Zc _ [x]=_;rw[Ya,ZS h];simp
def Cp (j:Nat) (els:List El):Nat:=(els.filter λx=>decide (x.j=j)).length
theorem NC (j:Nat):∀els:List El,(AL j els).length=Cp j els
 | []=>rfl
 | x::r=>by
  have ih:=NC j r;unfold AL Cp at *;by_cases h:x.j=j
  .rw[Ya,Zd,zw h];subst h;rw[ZR];simp only[if_true,Yb,ih]
  .rw[Ya,Zd,zx h,ZS h];simp only[ih];rfl
theorem uV (j:Nat) (a b:List El):Cp j (a++b)=Cp j a+Cp j b:=by
 unfold Cp;rw[List.filter_append,Xj]
structure Md where
 name:ByteArray
 els:List El
def mdC (name:ByteArray) (l:Nat->T):List T:=[sv name,l 0,l 1,l 2,l 3,l 4,l 5,l 6,l 7,l 8]
def Md.cs (m:Md):List T:=mdC m.name λj=>Am (eRw j) (AL j m.els)
def eMd:Enc (RwC 10):=⟨10,Subtype.val,Subtype.property,by omega,λ_ _ h=>Subtype.ext h⟩
def Md.rw (m:Md):RwC 10:=⟨m.cs,rfl⟩
def Hi (l:List Md):T:=Am eMd (l.map Md.rw)
variable {q : Gl}
abbrev pc (t:T) (i:Nat):List T:=[t,iv (i:Int)]
abbrev pr (t:T) (i:Nat):Row:=.cells 198 [.t t,.t (iv (i:Int))]
abbrev Cv (e:Int):Bn:=[{ v:=.iface 24 (.int .i64 e),recovered:=false }]
section
variable (t : T) (i j : Nat) (x y : Row)
theorem pl0 (R:Ab):Ao false 1 ((0,pr t i)::R) (.ptr 0 0)=some (.t t):=rfl
theorem pl1 (R:Ab):Ao false 1 ((0,pr t i)::R) (.ptr 0 1)=some (.t (iv (i:Int))):=rfl
theorem pw1 (R:Ab):A8 1 ((0,pr t i)::R) (.ptr 0 1) (.t (iv (j:Int)))=some ((0,pr t j)::R):=rfl
theorem ql0 (R:Ab):Ao false 1 ((1,x)::(0,pr t i)::R) (.ptr 0 0)=some (.t t):=rfl
theorem ql1 (R:Ab):Ao false 1 ((1,x)::(0,pr t i)::R) (.ptr 0 1)=some (.t (iv (i:Int))):=rfl
theorem qw1 (R:Ab):A8 1 ((1,x)::(0,pr t i)::R) (.ptr 0 1) (.t (iv (j:Int)))=some ((1,x)::(0,pr t j)::R):=rfl
end
theorem BJ (H:Ab) (a:T) (r:List T):Ao false 1 H (.t (.pt (a::r)))=some (.t a):=rfl
theorem lp3 (H:Ab) (a b c:T) (r:List T):Ao true 3 H (.t (.pt (a::b::c::r)))=some (.t (.ag [a,b,c])):=rfl
def FI (t:T):Except Int (T×Nat)->Out
 | .ok (r,i)=>.ret (.t r) [(0,pr t i)] 1
 | .error e=>.pan (Cv e)
def PM (P:Program) (G:Ay) (t:T) (f:FuncId) (i:Nat) (ts:List T) (o:Except Int (T×Nat)):Prop:=
 GA P G f (.ptr 0 0::ts.map .t) [(0,pr t i)] 1 (FI t o)
theorem PM.ret {P:Program} {G:Ay} {t:T} {f:FuncId} {i:Nat} {ts:List T} {r:T} {i':Nat} {H':Ab} {nx':Nat} (h:AB P G f (.ptr 0 0::ts.map .t) [(0,pr t i)] 1 (.t r) H' nx') (hl:Aa H' 0=some (pr t i')) :
 PM P G t f i ts (.ok (r,i')):=AB.keep1 (cs:=pc t i') h hl
variable {t : T} {l : List Tok} {i : Nat}
theorem EH (ht:IsS Ap t l) {x:Tok} (hx:l[i]?=some x):∃r,Bm 3 (.t t) (.t (.v (.int .i64 (i:Int))))=some (.t (.pt (iv x.k::sv (bs x.t)::iv (x.l:Int)::r))):=⟨_,ht.iaddr hx .i64⟩
theorem uW (ht:IsS Ap t l) {x:Tok} (hx:l[i]?=some x):PM Xa (G q) t 174 i [] (.ok (.ag (Ap.enc x),i)):=by
 obtain⟨r,hr⟩:=EH ht hx;have hlen:Bd (.t t)=some (.t (iv (l.length:Int))):=ht.len
 have hi:¬((l.length:Int)<=(i:Int)):=by have:=(Xf.1 hx).1;omega
 have hi2:¬l.length<=i:=by omega
 refine PM.ret (H':=[(1,.cells 42 [.t (iv x.k),.t (sv (bs x.t)),.t (iv (x.l:Int))]),(0,pr t i)]) (nx':=2) ?_ rfl;refine VU.callP rfl ?_;have ctx:Ctx Xa (G q) (orh [] []):=A5.nil.ctxH .nil mixed;refine Aw ctx ?_
 (conv in Ry=>cbv);simp -implicitDefEqProofs [ql0,ql1,BJ,lp3,hlen,hr,hi,hi2]
 exact⟨.inr rfl,_,_,Sub.refl _,rfl,rfl,rfl,rfl⟩
abbrev kt (x:Tok):KT:=(x.k,x.t)
theorem Pw {x:Tok} (hx:l[i]?=some x) (s:List UInt8):Au (l.map kt) i s=(decide (x.k=5)&&decide (x.t=s)):=by
 unfold Au;rw[Xn,hx];rfl
theorem ND (hi:l.length<=i) (s:List UInt8):Au (l.map kt) i s=false:=by
 unfold Au;rw[List.getElem?_eq_none (by simpa using hi)]
theorem uX (ht:IsS Ap t l) (s:ByteArray):PM Xa (G q) t 196 i [sv s] (.ok (bv (Au (l.map kt) i s.data.toList),i)):=by
 refine PM.ret (H':=[(0,pr t i)]) (nx':=1) ?_ rfl;refine pF.callP rfl ?_;have ctx:Ctx Xa (G q) (orh [] []):=A5.nil.ctxH .nil mixed;have hlen:Bd (.t t)=some (.t (iv (l.length:Int))):=ht.len;by_cases hi:l.length<=i
 .rw[ND hi]
  have hi1:¬((i:Int)<(l.length:Int)):=by omega
  have hi2:¬i<l.length:=by omega
  refine Aw ctx ?_
  (conv in OY=>cbv);simp -implicitDefEqProofs [pl0,pl1,BJ,hlen,hi1,hi2]
  exact⟨.inr rfl,_,_,Sub.refl _,rfl,rfl,rfl,rfl⟩
 .obtain⟨x,hx⟩:∃x,l[i]?=some x:=⟨_,Xe (by omega)⟩
  rw[Pw hx];obtain⟨r,hr⟩:=EH ht hx
  have hi1:((i:Int)<(l.length:Int)):=by omega
  have hi2:i<l.length:=by omega
  have hts:(x.t==s.toList)=decide (x.t=s.data.toList):=by rw[Ft];exact Bool.eq_iff_iff.2 (by simp)
  by_cases h5:x.k=5
  .have hb:(x.k==5)=true:=by rw[h5];rfl
   have hd:decide (x.k=5)=true:=by rw[h5];rfl
   refine Aw ctx ?_
   (conv in OY=>cbv);simp -implicitDefEqProofs [pl0,pl1,BJ,hlen,hi1,hi2,hr,hb,hd,hts]
   exact⟨.inr rfl,_,_,Sub.refl _,rfl,rfl,rfl,rfl⟩
  .have hb:(x.k==5)=false:=by simpa using h5
   have hd:decide (x.k=5)=false:=by simpa using h5
   refine Aw ctx ?_
   (conv in OY=>cbv);simp -implicitDefEqProofs [pl0,pl1,BJ,hlen,hi1,hi2,hr,hb,hd]
   exact⟨.inr rfl,_,_,Sub.refl _,rfl,rfl,rfl,rfl⟩
def ZU (t:T):Except Int (T×Nat)->Except Bn (T×List T)
 | .ok (r,i)=>.ok (r,pc t i)
 | .error e=>.error (Cv e)
abbrev PG:=Nat->List T->Option (Except Int (T×Nat))
noncomputable def pSp (t:T) (g:PG):Ij:=open Classical in λcs ts=>match cs with
 | [t',.v (.int .i64 i)]=>if t'=t/\0<=i then(g i.toNat ts).map (ZU t)else none
 | _=>none
theorem Sb (g:PG) (ts:List T):pSp t g (pc t i) ts=(g i ts).map (ZU t):=by
 simp[pSp]
theorem BR {P:Program} {G:Ay} {f:FuncId} {g:PG} (h:∀i ts o,g i ts=some o->PM P G t f i ts o):N9 P G f 198 (pSp t g):=λcs ts o ho=>by
 unfold pSp at ho;split at ho
 .rename_i t' i;split at ho
  .rename_i hc;obtain⟨rfl,h0⟩:=hc;obtain⟨o',ho',rfl⟩:=Xo.1 ho;have:=h _ _ _ ho';obtain⟨n,rfl⟩:=Int.eq_ofNat_of_zero_le h0
   cases o' with
   | ok x=>exact this
   | error e=>exact this
  .cases ho
 .cases ho
noncomputable abbrev hP (t:T) (g:PG):=Je 198 (N8 (pSp t g))
noncomputable abbrev eP (t:T) (g:PG):=Ku 198 (pSp t g)
theorem CO {g:PG} {b nx:Nat} {H:Ab} {ts:List T} {r:T} {i':Nat} (hl:Aa H b=some (pr t i)) (hb:b<nx) (ho:g i ts=some (.ok (r,i'))) :
 hP t g (.ptr b 0::ts.map .t) H nx=some (.t r,upd H b (pr t i'),nx):=uO (cs:=pc t i) (cs':=pc t i') hl hb (by rw[Sb,ho];rfl)
theorem CZ {g:PG} {b nx:Nat} {H:Ab} {ts:List T} {x:T×Nat} (hl:Aa H b=some (pr t i)) (ho:g i ts=some (.ok x)) :
 eP t g (.ptr b 0::ts.map .t) H nx=none:=uP (cs:=pc t i) (x:=(x.1,pc t x.2)) hl (by rw[Sb,ho];rfl)
theorem Dy {g:PG} {b nx:Nat} {H:Ab} {ts:List T} {e:Int} (hl:Aa H b=some (pr t i)) (hb:b<nx) (ho:g i ts=some (.error e)) :
 eP t g (.ptr b 0::ts.map .t) H nx=some (Cv e):=uQ (cs:=pc t i) hl hb (by rw[Sb,ho];rfl)
theorem uY (ht:IsS Ap t l) (hi:l.length<=i):PM Xa (G q) t 174 i [] (.error 9):=by
 have hlen:Bd (.t t)=some (.t (iv (l.length:Int))):=ht.len
 have hi1:((l.length:Int)<=(i:Int)):=by omega
 refine VU.callO rfl ?_;have ctx:Ctx Xa (G q) (orh [] []):=A5.nil.ctxH .nil mixed;refine BB ctx (E3.ok .nil) rfl ?_
 (conv in Ry=>cbv);simp -implicitDefEqProofs [ql0,ql1,BJ,lp3,hlen,hi,hi1,FI]
noncomputable def Bs (l:List Tok):PG:=λi ts=>match ts with
 | []=>some (match l[i]? with
  | none=>.error 9
  | some x=>.ok (.ag (Ap.enc x),i))
 | _=>none
theorem Js (ht:IsS Ap t l):∀i ts o,Bs l i ts=some o->PM Xa (G q) t 174 i ts o:=λi ts o h=>by
 unfold Bs at h;split at h
 .injection h with h;subst h
  cases hx:l[i]? with
  | none=>exact uY ht (by simpa using hx)
  | some x=>exact uW ht hx
 .cases h
noncomputable def gIs (l:List Tok):PG:=λi ts=>match ts with
 | [.v (.string s)]=>some (.ok (bv (Au (l.map kt) i s.data.toList),i))
 | _=>none
theorem Px (ht:IsS Ap t l):∀i ts o,gIs l i ts=some o->PM Xa (G q) t 196 i ts o:=λi ts o h=>by
 unfold gIs at h;split at h
 .injection h with h;subst h;exact uX ht _
 .cases h
section
variable (l : List KT)
def Cb {α:Type} (step:Nat->Res α) (sep:List UInt8) (mx:Nat):Nat->Nat->List α->Res (List α)
 | 0,_,_=>.error 0
 | f+1,p,out=>match step p with
  | .error e=>.error e
  | .ok (s,p1)=>if Au l p1 sep then(if mx<=out.length+1 then .error 7 else Cb step sep mx f (p1+1) (out++[s]))else .ok (out++[s],p1)
def Fb (p:Nat):Res (List ByteArray):=Cb l (λp=>AE l p 1) [44] 256 (l.length+1) p []
def ftS (p:Nat):Res (ByteArray×ByteArray):=match AE l p 2 with
 | .error e=>.error e
 | .ok (s,p1)=>match AE l p1 1 with
  | .error e=>.error e
  | .ok (v,p2)=>.ok ((s,v),p2)
def EI (p:Nat):Res (List (ByteArray×ByteArray)):=Cb l (ftS l) [44] 256 (l.length+1) p []
def En (p:Nat):Res (List ByteArray):=Cb l (λp=>AE l p 2) [46] 64 (l.length+1) p []
def Kw (p:Nat):Res (List Ds):=Cb l (As l 64) [47] 256 (l.length+1) p []
def Cf {α:Type} (s:List UInt8) (f:Nat->Res (List α)) (p:Nat):Res (List α):=if Au l p s then f (p+1)else .ok ([],p)
def FJ (name:ByteArray) (p:Nat):Res TyD:=match Cf l [60] (Fb l) p with
 | .error e=>.error e
 | .ok (su,p1)=>match Cf l [58] (EI l) p1 with
  | .error e=>.error e
  | .ok (fe,p2)=>.ok (⟨name,su,fe⟩,p2)
def C4 (name:ByteArray) (p:Nat):Res Dfn:=match Bk l p [61]with
 | .error e=>.error e
 | .ok p1=>match As l 64 p1 with
  | .error e=>.error e
  | .ok (d,p2)=>match Cf l [47] (Kw l) p2 with
   | .error e=>.error e
   | .ok (df,p3)=>.ok (⟨name,d,df⟩,p3)
def Eo (p:Nat):Res (ByteArray×ByteArray):=match AE l p 3 with
 | .error e=>.error e
 | .ok (s,p1)=>match AE l p1 3 with
  | .error e=>.error e
  | .ok (v,p2)=>.ok ((s,v),p2)
def Jt (p:Nat):Res (List (ByteArray×ByteArray)):=Cb l (Eo l) [44] 1000000000 (l.length+1) p []
def Fc (k:Int) (p:Nat):Res Afx:=match Jt l p with
 | .error e=>.error e
 | .ok (c,p1)=>.ok (⟨k,c⟩,p1)
def Dz (p:Nat):Res Afx:=match AE l p 1 with
 | .error e=>.error e
 | .ok (s,p1)=>
  if s=⟨#[110,111,110,101]⟩then .ok (⟨0,[]⟩,p1)
  else if s=⟨#[115,117,102,102,105,120]⟩then Fc l 1 p1
  else if s=⟨#[112,114,101,102,105,120]⟩then Fc l 2 p1
  else .error 8
end
def Da (s:ByteArray):Except Int (List ByteArray):=match Ek s.data.toList with
 | none=>.error 1
 | some w=>if w=[]then .error 1 else if w.all (λx=>CG (bs x))then .ok (w.map bs)else .error 1
section
variable (l : List KT)
def E4 (name:ByteArray) (p:Nat):Res El:=match AE l p 3 with
 | .error e=>.error e
 | .ok (s,p1)=>match Da s with
  | .error e=>.error e
  | .ok w=>match C4 l name p1 with
   | .error e=>.error e
   | .ok (d,p2)=>.ok (.ent w d,p2)
def Fz (name:ByteArray) (p:Nat):Res El:=match Dz l p with
 | .error e=>.error e
 | .ok (a,p1)=>match C4 l name p1 with
  | .error e=>.error e
  | .ok (d,p2)=>.ok (.lex a d,p2)
def elD (f:Dfn->El) (r:Res Dfn):Res El:=match r with
 | .error e=>.error e
 | .ok (d,p)=>.ok (f d,p)
def EJ (k:Nat) (name:ByteArray) (p:Nat):Res El:=
 if k=2 then .ok (.imp name,p)
 else if k=3 then(match FJ l name p with
  | .error e=>.error e
  | .ok (d,p1)=>.ok (.typ d,p1))
 else if k=5 then E4 l name p
 else if k=6 then Fz l name p
 else if k=4 then elD .tmp (C4 l name p)
 else if k=7 then elD .rul (C4 l name p)
 else elD .roo (C4 l name p)
def elS (k:Nat) (p:Nat):Res El:=
 if k=9 then(match En l p with
  | .error e=>.error e
  | .ok (x,p1)=>.ok (.chk x,p1))
 else if k=10 then(match AE l p 2 with
  | .error e=>.error e
  | .ok (x,p1)=>.ok (.drp x,p1))
 else match AE l p 1 with
  | .error e=>.error e
  | .ok (name,p1)=>EJ l k name p1
def Db (s:List UInt8):Nat:=
 if s=[109,111,100,117,108,101]then 1
 else if s=[105,109,112,111,114,116]then 2
 else if s=[116,121,112,101]then 3
 else if s=[116,101,109,112,108,97,116,101]then 4
 else if s=[101,110,116,114,121]then 5
 else if s=[108,101,120,114,117,108,101]then 6
 else if s=[114,117,108,101]then 7
 else if s=[114,111,111,116]then 8
 else if s=[99,104,101,99,107]then 9
 else if s=[100,114,111,112]then 10
 else 0
def D0 (t:KT):Nat:=if t.1=1 then Db t.2 else 0
inductive EL where
 | md (name:ByteArray)
 | el (x:El)
def C6 (k:Nat) (p:Nat):Res EL:=
 if k=1 then(match AE l p 1 with
  | .error e=>.error e
  | .ok (name,p1)=>.ok (.md name,p1))
 else match elS l k p with
  | .error e=>.error e
  | .ok (x,p1)=>.ok (.el x,p1)
structure Sta where
 fin:List Md
 cur:Option Md
def Sta.all (s:Sta):List Md:=s.fin++s.cur.toList
def Sta.add (s:Sta):EL->Sta
 | .md n=>⟨s.all,some ⟨n,[]⟩⟩
 | .el x=>⟨s.fin,s.cur.map λm=>⟨m.name,m.els++[x]⟩⟩
def CP (s:Sta) (k:Nat):Int:=
 if k=0 then 8 else if k=1 then(if 256<=s.all.length then 7 else 0)
 else match s.cur with
  | none=>8
  | some m=>if 256<=Cp (k-2) m.els then 7 else 0
def K0 (s:Sta) (t:KT) (p:Nat):Res EL:=
 if CP s (D0 t)≠0 then .error (CP s (D0 t))else match C6 l (D0 t) (p+1)with
 | .error e=>.error e
 | .ok (a,p1)=>match Bk l p1 [59]with
  | .error e=>.error e
  | .ok p2=>.ok (a,p2)
def Gi:Nat->Nat->Sta->Except (Nat×Int) Sta
 | 0,_,_=>.error (0,0)
 | f+1,p,s=>match l[p]? with
  | none=>.ok s
  | some t=>match K0 l s t p with
   | .error e=>.error (p,e)
   | .ok (a,p1)=>Gi f p1 (s.add a)
end
def FK (r:Except (Nat×Int) (List Md)):T:=match r with
 | .error x=>.tu [Ad,iv (x.1:Int),iv x.2]
 | .ok l=>.tu [Hi l,iv 0,iv 0]
def Er (s:List UInt8):Except (Nat×Int) (List Md):=
 if 65536<s.length then .error (0,7)else match EY s 1 with
 | .error x=>.error x
 | .ok ts=>match Gi (ts.map kt) (ts.length+1) 0 ⟨[],none⟩with
  | .error x=>.error ((ts[x.1]?.map Tok.l).getD 0,x.2)
  | .ok s=>.ok s.all
section
variable {l : List KT} {rec : Nat -> Res Ds}
def Fwd (l:List KT) (rec:Nat->Res Ds):Prop:=∀p d p',rec p = .ok (d,p')->p<p'/\p'<=l.length
theorem D1 {p p':Nat} {k:Int} {s:ByteArray} (h:AE l p k = .ok (s,p')):p'=p+1/\p<l.length:=by
 unfold AE at h;split at h
 .cases h
 .rename_i t ht;have:=(Xf.1 ht).1;split at h
  .injection h with h;injection h with _ h;exact⟨h.symm,this⟩
  .cases h
theorem LW {p p':Nat} {s:List UInt8} (h:Bk l p s = .ok p'):p'=p+1/\p<l.length:=by
 unfold Bk at h;split at h
 .cases h
 .split at h
  .injection h with h;exact⟨h.symm,by omega⟩
  .cases h
theorem Bo {p:Nat} {s:List UInt8} (h:Au l p s=true):p<l.length:=by
 unfold Au at h;split at h
 .rename_i t ht;exact(Xf.1 ht).1
 .cases h
theorem Sd:∀(f p:Nat) (path path':List ByteArray) (p':Nat),EZ l f p path = .ok (path',p')->path.length<=64->p<=p'/\(p<=l.length->p'<=l.length)/\path.length<=path'.length/\path'.length<=64
 | 0,p,path,path',p',h,_=>by cases h
 | f+1,p,path,path',p',h,hl=>by
  rw[EZ]at h;split at h
  .split at h
   .cases h
   .split at h
    .cases h
    .rename_i s p1 h1;obtain⟨e1,h2⟩:=D1 h1;have ih:=Sd f _ _ _ _ h (by simp;omega);simp only[Xj,Xy]at ih;omega
  .injection h with h;injection h with e1 e2;subst e1;subst e2;exact⟨Xc _,λh=>h,Xc _,hl⟩
theorem Se (hr:Fwd l rec) {p p':Nat} {d:Ds} (h:DG l rec p = .ok (d,p')):p<p'/\p'<=l.length:=by
 unfold DG at h;split at h
 .cases h
 .rename_i s p1 h1;obtain⟨e1,h2⟩:=D1 h1;split at h
  .cases h
  .rename_i path p2 h3;have h4:=Sd _ _ _ _ _ h3 (by simp);split at h
   .cases h
   .rename_i d' p3 h5;have h6:=hr _ _ _ h5;injection h with h;injection h with _ e;omega
theorem NF (hr:Fwd l rec):∀(f p:Nat) (parts parts':List Ds) (p':Nat),brS l rec f p parts = .ok (parts',p')->p<p'/\p'<=l.length/\parts.length<parts'.length/\(parts.length<=255->parts'.length<=256)
 | 0,p,parts,parts',p',h=>by cases h
 | f+1,p,parts,parts',p',h=>by
  rw[brS]at h;split at h
  .cases h
  .rename_i d p1 h1;have h2:=Se hr h1;split at h
   .split at h
    .cases h
    .have ih:=NF hr f _ _ _ _ h;simp only[Xj,Xy]at ih;omega
   .split at h
    .cases h
    .rename_i p2 h3;have h4:=LW h3;injection h with h;injection h with e1 e2;subst e1;subst e2;simp only[Xj,Xy];omega
theorem Py (hr:Fwd l rec):∀(f p:Nat) (kids kids':List Ds) (p':Nat),itS l rec f p kids = .ok (kids',p')->kids.length<=256->p<=p'/\(p<=l.length->p'<=l.length)/\kids.length<=kids'.length/\kids'.length<=256
 | 0,p,kids,kids',p',h,_=>by cases h
 | f+1,p,kids,kids',p',h,hl=>by
  rw[itS]at h;split at h
  .split at h
   .cases h
   .split at h
    .cases h
    .rename_i d p1 h1;have h2:=hr _ _ _ h1;have ih:=Py hr f _ _ _ _ h (by simp;omega);simp only[Xj,Xy]at ih;omega
  .injection h with h;injection h with e1 e2;subst e1;subst e2;exact⟨Xc _,λh=>h,Xc _,hl⟩
theorem LX {s:List UInt8} {op:Int} {kids:List Ds} {p p':Nat} {d:Ds} (h:Cn l s op kids p = .ok (d,p')):p'=p+1/\p<l.length:=by
 unfold Cn at h;split at h
 .cases h
 .rename_i p1 h1;injection h with h;injection h with _ e;have:=LW h1;omega
theorem ZV (hr:Fwd l rec) {p p':Nat} {d:Ds} (h:DH l rec p = .ok (d,p')):p<p'/\p'<=l.length:=by
 unfold DH at h;split at h
 .cases h
 .split at h
  .have:=LX h;omega
  .split at h
   .cases h
   .rename_i d1 p1 h1;have h2:=hr _ _ _ h1;split at h
    .cases h
    .rename_i kids p2 h3;have h4:=Py hr _ _ _ _ _ h3 (by simp);split at h
     .split at h
      .cases h
      .split at h
       .cases h
       .rename_i d3 p3 h5;have h6:=hr _ _ _ h5;have:=LX h;omega
     .have:=LX h;omega
theorem ZW (hr:Fwd l rec) {p p':Nat} {d:Ds} (h:DI l rec p = .ok (d,p')):p<p'/\p'<=l.length:=by
 unfold DI at h;split at h
 .cases h
 .split at h
  .have:=LX h;omega
  .split at h
   .cases h
   .rename_i d1 p1 h1;have h2:=hr _ _ _ h1;split at h
    .cases h
    .rename_i kids p2 h3;have h4:=Py hr _ _ _ _ _ h3 (by simp);have:=LX h;omega
theorem Pz {parts parts':List Ds} {p p':Nat} {r:Res Ds} (hr:∀d p',r = .ok (d,p')->p<p'/\p'<=l.length) (h:DJ parts r = .ok (parts',p')):p<p'/\p'<=l.length/\parts'.length=parts.length+1:=by
 unfold DJ at h;split at h
 .cases h
 .rename_i d p1;injection h with h;injection h with e1 e2;subst e1;subst e2;have:=hr _ _ rfl;exact⟨this.1,this.2,by simp⟩
theorem ZX {op k:Int} {p p':Nat} {d:Ds} (h:Fx op (AE l p k) = .ok (d,p')):p'=p+1/\p<l.length:=by
 unfold Fx at h;split at h
 .cases h
 .rename_i s p1 h1;injection h with h;injection h with _ e;have:=D1 h1;omega
theorem Im (hr:Fwd l rec) {p p':Nat} {parts parts':List Ds} (h:Di l rec p parts = .ok (parts',p')):p<p'/\p'<=l.length/\parts.length<parts'.length/\(parts.length<=255->parts'.length<=256):=by
 unfold Di at h;split at h
 .cases h
 .rename_i t ht;have hp:=(Xf.1 ht).1;split at h
  .injection h with h;injection h with e1 e2;subst e1;subst e2;simp only[Xj,Xy];omega
  .split at h
   .cases h
   .split at h
    .have:=Pz (l:=l) (p:=p+1) (λd p' h=>by have:=ZX h;omega) h;omega
    .split at h
     .have:=Pz (l:=l) (p:=p+1) (λd p' h=>by have:=ZX h;omega) h;omega
     .split at h
      .have:=NF hr _ _ _ _ _ h;omega
      .split at h
       .have:=Pz (l:=l) (p:=p+1) (λd p' h=>ZV hr h) h;omega
       .split at h
        .have:=Pz (l:=l) (p:=p+1) (λd p' h=>ZW hr h) h;omega
        .cases h
theorem Sf (hr:Fwd l rec):∀(f p:Nat) (parts parts':List Ds) (p':Nat),Fa l rec f p parts = .ok (parts',p')->parts.length<=256->p<=p'/\(p<=l.length->p'<=l.length)/\parts.length<=parts'.length/\parts'.length<=256
 | 0,p,parts,parts',p',h,_=>by cases h
 | f+1,p,parts,parts',p',h,hl=>by
  rw[Fa]at h;split at h
  .split at h
   .cases h
   .split at h
    .cases h
    .rename_i parts1 p1 h1;have h2:=Im hr h1;have ih:=Sf hr f _ _ _ _ h (by omega);omega
  .injection h with h;injection h with e1 e2;subst e1;subst e2;exact⟨Xc _,λh=>h,Xc _,hl⟩
theorem D2:∀n,Fwd l (As l n)
 | 0=>λp d p' h=>by
  rw[As]at h;split at h<;>cases h
 | n+1=>λp d p' h=>by
  rw[As]at h;split at h
  .cases h
  .split at h
   .cases h
   .rename_i parts p1 h1;have h2:=Im (D2 n) h1;split at h
    .cases h
    .rename_i parts' p2 h3;have h4:=Sf (D2 n) _ _ _ _ _ h3 (h2.2.2.2 (by simp));injection h with h;injection h with _ e;omega
end
def LY (op:Int):Bool:=decide (op=1)||decide (op=2)||decide (op=3)
def LZ (op:Int) (kids:List Ds):Bool:=
 if LY op then decide (kids.length=0)
 else if op=5 then decide (kids.length=1)
 else if op=7 then decide (2<=kids.length)
 else if op=4 then decide (2<=kids.length) && !(kids.any λk=>decide (k.op=4))
 else true
def Ju (op:Int) (name:ByteArray) (path:List ByteArray) (kids:List Ds):Bool:=
 (if LY op then Be false name else decide (name.size=0))&&(decide (op=5)==decide (0<path.length))&&path.all (Be true)&&LZ op kids
def Gj (op:Int) (name:ByteArray) (path:List ByteArray) (kids:List Ds):Int:=
 if op<1\/8<op then 14 else if Ju op name path kids then 0 else 1
mutual
def Cg:Ds->Nat->Int
 | .mk op name path kids,lv=>if 64<lv\/64<path.length\/256<kids.length then 7 else if Gj op name path kids≠0 then Gj op name path kids
  else FL kids (if op=4 then lv else lv+1)
def FL:List Ds->Nat->Int
 | [],_=>0
 | d::r,lv=>if Cg d lv≠0 then Cg d lv else FL r lv
end
inductive Small:Ds->Prop where
 | mk (op:Int) (name:ByteArray) (path:List ByteArray) (kids:List Ds):name.size<=60->path.length<=80->(∀s∈path,s.size<=60)->kids.length<=400->(∀k∈kids,Small k)->Small (.mk op name path kids)
variable {q : Gl} {t : T} {l : List Tok} {i : Nat}
theorem xl0 (k v:Int) (s:List UInt8) (R:Ab):Ao false 1 ((1,tkr k s v)::R) (.ptr 1 0)=some (.t (iv k)):=rfl
theorem xl1 (k v:Int) (s:List UInt8) (R:Ab):Ao false 1 ((1,tkr k s v)::R) (.ptr 1 1)=some (.t (sv (bs s))):=rfl
def Cw {α:Type} (f:α->T):Except Int (α×Nat)->Except Int (T×Nat)
 | .ok (x,i)=>.ok (f x,i)
 | .error e=>.error e
noncomputable def ctP (l:List Tok) (t:T):Ez:=[(174,hP t (Bs l)),(196,hP t (gIs l))]
noncomputable def Ma (l:List Tok) (t:T):GB:=[(174,eP t (Bs l)),(196,eP t (gIs l))]
theorem Io (ht:IsS Ap t l):Ctx Xa (G q) (orh [] (ctP l t)):=A5.nil.ctxH (.cons (BR (Js ht)).hok (.cons (BR (Px ht)).hok .nil)) mixed
theorem NG (ht:IsS Ap t l):POK Xa (G q) (orE (Ma l t)):=E3.ok (.cons (BR (Js ht)).eok (.cons (BR (Px ht)).eok .nil))
theorem E5:(l.map kt)[i]?=(l[i]?).map kt:=Xn ..
theorem uZ (ht:IsS Ap t l) (k:Int) (hi:i<4611686018427387904):PM Xa (G q) t 192 i [iv k] (Cw sv (AE (l.map kt) i k)):=by
 cases hx:l[i]? with
 | none=>
  have e1:AE (l.map kt) i k = .error 9:=by unfold AE;rw[E5,hx];rfl
  rw[e1];refine Rz.callO rfl ?_;refine BB (Io ht) (NG ht) rfl ?_;have h1:∀R:Ab,eP t (Bs l) [.ptr 0 0] ((0,pr t i)::R) 1=some (Cv 9):=λR=>Dy (ts:=[]) rfl (by omega) (by simp[Bs,hx])
  (conv in OZ=>cbv);simp -implicitDefEqProofs [Ma,ctP,h1,Cw,FI]
 | some x=>
  have h1:hP t (Bs l) [.ptr 0 0] [(0,pr t i)] 1=some (.t (.ag (Ap.enc x)),[(0,pr t i)],1):=CO (ts:=[]) rfl (by omega) (by simp[Bs,hx]);have h2:eP t (Bs l) [.ptr 0 0] [(0,pr t i)] 1=none:=CZ (ts:=[]) (x:=(.ag (Ap.enc x),i)) rfl (by simp[Bs,hx]);by_cases hk:x.k=k
  .have e1:AE (l.map kt) i k = .ok (bs x.t,i+1):=by unfold AE;rw[E5,hx];simp[hk]
   rw[e1]
   have hkn:(x.k != k)=false:=by simpa using hk
   have e2:Xb.wrap ((i:Int)+1)=((i+1:Nat):Int):=AH (by omega) (by omega);refine PM.ret (H':=[(1,.cells 42 [.t (iv x.k),.t (sv (bs x.t)),.t (iv (x.l:Int))]),(0,pr t (i+1))]) (nx':=2) ?_ rfl;refine Rz.callP rfl ?_;refine Aw (Io ht) ?_
   (conv in OZ=>cbv);simp -implicitDefEqProofs [ctP,h1,hkn,e2,Ap,DE,xl0,xl1,ql1,qw1]
   exact⟨.inr rfl,_,_,Sub.refl _,rfl,rfl,rfl,rfl⟩
  .have e1:AE (l.map kt) i k = .error 8:=by unfold AE;rw[E5,hx];simp[hk]
   have hkn:(x.k != k)=true:=by simpa using hk
   rw[e1];refine Rz.callO rfl ?_;refine BB (Io ht) (NG ht) rfl ?_
   (conv in OZ=>cbv);simp -implicitDefEqProofs [Ma,ctP,h1,h2,hkn,Cw,FI,Ap,DE,xl0,xl1]
theorem ZY (H:Ab) (hl:Aa H 0=some (pr t i)) {nx:Nat} (hb:0<nx) (s:ByteArray):hP t (gIs l) [.ptr 0 0,.t (sv s)] H nx=some (.t (bv (Au (l.map kt) i s.data.toList)),upd H 0 (pr t i),nx):=
 CO (ts:=[sv s]) hl hb rfl
theorem ZZ (H:Ab) (hl:Aa H 0=some (pr t i)) {nx:Nat} (s:ByteArray):eP t (gIs l) [.ptr 0 0,.t (sv s)] H nx=none:=
 CZ (ts:=[sv s]) (x:=(bv (Au (l.map kt) i s.data.toList),i)) hl rfl
def skR:Except Int Nat->Except Int (T×Nat)
 | .ok p=>.ok (.tu [],p)
 | .error e=>.error e
theorem v7 (ht:IsS Ap t l) (s:ByteArray) (hi:i<4611686018427387904):PM Xa (G q) t 206 i [sv s] (skR (Bk (l.map kt) i s.data.toList)):=by
 cases hx:l[i]? with
 | none=>
  have hge:l.length<=i:=by simpa using hx
  have e1:Bk (l.map kt) i s.data.toList = .error 9:=by unfold Bk;rw[zy (by simpa using hge)]
  rw[e1];refine R1.callO rfl ?_;refine BB (Io ht) (NG ht) rfl ?_;have h1:eP t (Bs l) [.ptr 0 0] [(0,pr t i)] 1=some (Cv 9):=Dy (ts:=[]) rfl (by omega) (by simp[Bs,hx])
  (conv in Pb=>cbv);simp -implicitDefEqProofs [Ma,ctP,h1,skR,FI]
 | some x=>
  have hlt:¬(l.map kt).length<=i:=by have:=(Xf.1 hx).1;simpa using this
  have h1:hP t (Bs l) [.ptr 0 0] [(0,pr t i)] 1=some (.t (.ag (Ap.enc x)),[(0,pr t i)],1):=CO (ts:=[]) rfl (by omega) (by simp[Bs,hx]);have h2:eP t (Bs l) [.ptr 0 0] [(0,pr t i)] 1=none:=CZ (ts:=[]) (x:=(.ag (Ap.enc x),i)) rfl (by simp[Bs,hx]);have h3:=ZY (l:=l) [(0,pr t i)] rfl (nx:=1) (by omega) s;have h4:=ZZ (l:=l) [(0,pr t i)] rfl (nx:=1) s
  cases hs:Au (l.map kt) i s.data.toList with
  | true=>
   have e1:Bk (l.map kt) i s.data.toList = .ok (i+1):=by unfold Bk;rw[zz hlt,hs];rfl
   have e2:Xb.wrap ((i:Int)+1)=((i+1:Nat):Int):=AH (by omega) (by omega);rw[e1];rw[hs]at h3;refine PM.ret (H':=[(0,pr t (i+1))]) (nx':=1) ?_ rfl;refine R1.callP rfl ?_;refine Aw (Io ht) ?_
   (conv in Pb=>cbv);simp -implicitDefEqProofs [ctP,h1,h3,e2,pl1,pw1]
   exact⟨.inl rfl,_,_,Sub.refl _,rfl,rfl,rfl,rfl⟩
  | false=>
   have e1:Bk (l.map kt) i s.data.toList = .error 8:=by unfold Bk;rw[zz hlt,hs];rfl
   rw[e1];rw[hs]at h3;refine R1.callO rfl ?_;refine BB (Io ht) (NG ht) rfl ?_
   (conv in Pb=>cbv);simp -implicitDefEqProofs [Ma,ctP,h1,h2,h3,h4,skR,FI]
def FM (b:Bool) (n most:Int) (i:Nat):Except Int (T×Nat):=if b then(if most<=n then .error 7 else .ok (bv true,i+1))else .ok (bv false,i)
theorem v8 (ht:IsS Ap t l) (s:ByteArray) (n most:Int) (hi:i<4611686018427387904):PM Xa (G q) t 176 i [sv s,iv n,iv most] (FM (Au (l.map kt) i s.data.toList) n most i):=by
 have h3:=ZY (l:=l) [(0,pr t i)] rfl (nx:=1) (by omega) s;have h4:=ZZ (l:=l) [(0,pr t i)] rfl (nx:=1) s
 cases hs:Au (l.map kt) i s.data.toList with
 | false=>
  rw[hs]at h3;refine PM.ret (H':=[(0,pr t i)]) (nx':=1) ?_ rfl;refine R3.callP rfl ?_;refine Aw (Io ht) ?_
  (conv in Pc=>cbv);simp -implicitDefEqProofs [ctP,h3]
  exact⟨.inr rfl,_,_,Sub.refl _,rfl,rfl,rfl,rfl⟩
 | true=>
  rw[hs]at h3;unfold FM;rw[zy rfl];by_cases hm:most<=n
  .rw[zy hm];refine R3.callO rfl ?_;refine BB (Io ht) (NG ht) rfl ?_
   (conv in Pc=>cbv);simp -implicitDefEqProofs [Ma,ctP,h3,h4,hm,FI]
  .rw[zz hm];have e2:Xb.wrap ((i:Int)+1)=((i+1:Nat):Int):=AH (by omega) (by omega);refine PM.ret (H':=[(0,pr t (i+1))]) (nx':=1) ?_ rfl;refine R3.callP rfl ?_;refine Aw (Io ht) ?_
   (conv in Pc=>cbv);simp -implicitDefEqProofs [ctP,h3,hm,e2,pl1,pw1]
   exact⟨.inr rfl,_,_,Sub.refl _,rfl,rfl,rfl,rfl⟩
noncomputable def Hj (l:List Tok):PG:=λi ts=>match ts with
 | [.v (.int .i64 k)]=>if i<4611686018427387904 then some (Cw sv (AE (l.map kt) i k))else none
 | _=>none
theorem P0 (ht:IsS Ap t l):∀i ts o,Hj l i ts=some o->PM Xa (G q) t 192 i ts o:=λi ts o h=>by
 unfold Hj at h;split at h
 .split at h
  .injection h with h;subst h;exact uZ ht _ (by assumption)
  .cases h
 .cases h
noncomputable def F0 (l:List Tok):PG:=λi ts=>match ts with
 | [.v (.string s)]=>if i<4611686018427387904 then some (skR (Bk (l.map kt) i s.data.toList))else none
 | _=>none
theorem P1 (ht:IsS Ap t l):∀i ts o,F0 l i ts=some o->PM Xa (G q) t 206 i ts o:=λi ts o h=>by
 unfold F0 at h;split at h
 .split at h
  .injection h with h;subst h;exact v7 ht _ (by assumption)
  .cases h
 .cases h
noncomputable def Ci (l:List Tok):PG:=λi ts=>match ts with
 | [.v (.string s),.v (.int .i64 n),.v (.int .i64 m)]=>if i<4611686018427387904 then some (FM (Au (l.map kt) i s.data.toList) n m i)else none
 | _=>none
theorem Jv (ht:IsS Ap t l):∀i ts o,Ci l i ts=some o->PM Xa (G q) t 176 i ts o:=λi ts o h=>by
 unfold Ci at h;split at h
 .split at h
  .injection h with h;subst h;exact v8 ht _ _ _ (by assumption)
  .cases h
 .cases h
variable {q : Gl} {t : T} {l : List Tok} {i : Nat}
abbrev dT (d:Ds):T:=.ag (A4 d)
theorem bsD (d:Ds) (b:Nat):De 57 4 [.int .i64 0,.string ⟨#[]⟩,.slice none 0 0,.slice none 0 0] 1 [(0,.t (dT d))] b=some (.row b 0 1 4,.cells 57 ((A4 d).map .t)):=by
 cases d;rw[dT,A4];rfl
noncomputable def Dj (l:List Tok) (n:Nat):PG:=λi ts=>match ts with
 | [.v (.int .i64 v)]=>if v=65-(n:Int)/\i<=l.length then some (Cw dT (As (l.map kt) n i))else none
 | _=>none
theorem P2 {n:Nat} (hi:i<=l.length):Dj l n i [iv (65-(n:Int))]=some (Cw dT (As (l.map kt) n i)):=zy ⟨rfl,hi⟩
abbrev Es (q:Gl) (t:T) (l:List Tok) (n:Nat):Prop:=∀i ts o,Dj l n i ts=some o->PM Xa (G q) t 156 i ts o
def Dr (L:List KT) (n i:Nat):Res (List Ds):=match As L n i with
 | .error e=>.error e
 | .ok (d,p)=>itS L (As L n) (L.length+1) p [d]
noncomputable def ctI (l:List Tok) (t:T) (n:Nat):Ez:=[(176,hP t (Ci l)),(156,hP t (Dj l n))]
noncomputable def ceI (l:List Tok) (t:T) (n:Nat):GB:=[(176,eP t (Ci l)),(156,eP t (Dj l n))]
theorem K8 (ht:IsS Ap t l) {n:Nat} (hD:Es q t l n):Ctx Xa (G q) (orh [] (ctI l t n)):=A5.nil.ctxH (.cons (BR (Jv ht)).hok (.cons (BR hD).hok .nil)) mixed
theorem K9 (ht:IsS Ap t l) {n:Nat} (hD:Es q t l n):POK Xa (G q) (orE (ceI l t n)):=E3.ok (.cons (BR (Jv ht)).eok (.cons (BR hD).eok .nil))
structure It where
 f:Nat
 p:Nat
 kids:List Ds
def SIt (t:T) (v:Int) (a:It):Ac:=⟨[(5,rowP eD 1 a.kids),(1,.t (iv v)),(0,.ptr 0 0)],[(0,pr t a.p)]++Ax eD 57 1 a.kids,2,23⟩
structure vA (L:List KT) (n:Nat) (R:Res (List Ds)) (a:It):Prop where
 le:a.p<=L.length
 fu:L.length-a.p<a.f
 kl:a.kids.length<=1000
 eq:itS L (As L n) a.f a.p a.kids=R
def NH (t:T) (b:Bool):Res (List Ds)->Out
 | .error e=>.pan (Cv e)
 | .ok (kids,p)=>bif b then .ret (rowP eD 1 kids) ([(0,pr t p)]++Ax eD 57 1 kids) 2 else .ret (.t (Am eD kids)) [(0,pr t p)] 1
theorem aA (rows:Bool) (ht:IsS Ap t l) (hlim:l.length<=1000000) {n:Nat} (hD:Es q t l n) (hF:Fwd (l.map kt) (As (l.map kt) n)) (hn:n<=64) (hi:i<=l.length) :
  GA Xa (G q) 207 [.ptr 0 0,.t (iv (64-(n:Int)))] [(0,pr t i)] 1 (NH t rows (Dr (l.map kt) n i)):=by
 obtain⟨L,hL⟩:∃L,L=l.map kt:=⟨_,rfl⟩
 have hLl:L.length=l.length:=by rw[hL,Xt]
 rw[<-hL]at hF;rw[<-hL]
 have ev:Xb.wrap (64-(n:Int)+1)=65-(n:Int):=by
  rw[Fs (by omega) (by omega)];omega
 have gd:∀{p:Nat},p<=l.length->Dj l n p [iv (65-(n:Int))]=some (Cw dT (As L n p)):=λhp=>by rw[P2 hp,hL]
 refine pI.callO rfl ?_;(conv in VW=>cbv);refine Co (K8 ht hD) (K9 ht hD) rfl ?_;simp -implicitDefEqProofs;refine Co (K8 ht hD) (K9 ht hD) rfl ?_
 cases hd:As L n i with
 | error e=>
  have e1:Dr L n i = .error e:=by unfold Dr;rw[hd]
  rw[e1];have h1:eP t (Dj l n) [.ptr 0 0,.t (iv (65-(n:Int)))] [(0,pr t i)] 1=some (Cv e):=Dy (ts:=[iv (65-(n:Int))]) rfl (by omega) (by rw[gd hi,hd];rfl);simp -implicitDefEqProofs [ctI,ceI,ev,h1,NH]
 | ok x=>
  obtain⟨d,p0⟩:=x;have hf0:=hF i d p0 hd;rw[hLl]at hf0
  obtain⟨R,hR⟩:∃R,R=itS L (As L n) (L.length+1) p0 [d]:=⟨_,rfl⟩
  have e1:Dr L n i=R:=by unfold Dr;rw[hd];exact hR.symm
  rw[e1];have h1:hP t (Dj l n) [.ptr 0 0,.t (iv (65-(n:Int)))] [(0,pr t i)] 1=some (.t (dT d),[(0,pr t p0)],1):=CO (ts:=[iv (65-(n:Int))]) rfl (by omega) (by rw[gd hi,hd];rfl);have h2:eP t (Dj l n) [.ptr 0 0,.t (iv (65-(n:Int)))] [(0,pr t i)] 1=none:=CZ (ts:=[iv (65-(n:Int))]) (x:=(dT d,p0)) rfl (by rw[gd hi,hd];rfl);simp -implicitDefEqProofs [ctI,ceI,ev,h1,h2,bsD];refine BM (α:=It) (SIt t (64-(n:Int))) (λa=>R = .ok (a.kids,a.p)) (λ_=>rfl) ?_ ?_
  .refine BI ?_;refine CV (SIt t (64-(n:Int))) (λa=>a.f) (vA L n R) ⟨L.length+1,p0,[d]⟩ (λ_=>rfl) ⟨by show p0<=_;omega,by show L.length-p0<L.length+1;omega,by simp,hR.symm⟩ ?_ rfl ?_
   .exact Dv (k:=1) (.inr (by simp[rowOf,Aa,eD])) (by omega) (by omega) (by simp -implicitDefEqProofs [BG,AX,ren,BU,Bl,under]) (by simp -implicitDefEqProofs [rowP,ren,under,eD])
   .rintro⟨f,p,kids⟩ ⟨hp,hfu,hkl,heq⟩;simp only at hp hfu hkl heq;rw[hLl]at hp hfu
    obtain⟨f',rfl⟩:∃f',f=f'+1:=⟨f-1,by omega⟩
    rw[itS]at heq
    obtain⟨H0,hH0⟩:∃H0,H0=[(0,pr t p)]++Ax eD 57 1 kids:=⟨_,rfl⟩
    have hu0:∀p',upd H0 0 (pr t p')=[(0,pr t p')]++Ax eD 57 1 kids:=λp'=>by rw[hH0];simp[upd]
    have hl0:Aa H0 0=some (pr t p):=by rw[hH0];rfl
    have hlen:Bd (rowP eD 1 kids)=some (.t (iv (kids.length:Int))):=ED eD 1 kids
    have gm:Ci l p [sv ⟨#[44]⟩,iv (kids.length:Int),iv 256]=some (FM (Au L p [44]) (kids.length:Int) 256 p):=by rw[hL];exact zy (by omega)
    cases hs:Au L p [44]with
    | false=>
     rw[hs]at gm;rw[hs]at heq;simp only[Xk,if_false]at heq;have m1:=CO (t:=t) (g:=Ci l) (b:=0) (nx:=2) (H:=H0) hl0 (by omega) (gm.trans rfl:_=some (.ok (bv false,p)));have m2:=CZ (t:=t) (g:=Ci l) (b:=0) (nx:=2) (H:=H0) hl0 (gm.trans rfl:_=some (.ok (bv false,p)));rw[hu0]at m1;rw[hH0]at m1 m2;simp only[Xd,Xg,Xv,Xw]at m1 m2;refine BB (K8 ht hD) (K9 ht hD) rfl ?_;simp -implicitDefEqProofs [SIt,ctI,ceI,hlen,m1,m2];refine Aq.mk ⟨f',p,kids⟩ heq.symm ?_;exact Dv (k:=1) ((Ar.head' eD 57 1 kids).cons (by omega)) (by omega) (by omega) (by simp -implicitDefEqProofs [BG,AX,ren,BU,Bl,under]) (by simp -implicitDefEqProofs [Cs,Ct,ren,under])
    | true=>
     rw[hs]at gm;rw[hs]at heq;simp only[if_true]at heq
     have hpl:p<l.length:=by have:=Bo hs;omega
     by_cases hbig:256<=kids.length
     .rw[zy hbig]at heq
      have gm':Ci l p [sv ⟨#[44]⟩,iv (kids.length:Int),iv 256]=some (.error 7):=by rw[gm,FM,zy rfl,zy (by omega)]
      have m3:=Dy (t:=t) (g:=Ci l) (b:=0) (nx:=2) (H:=H0) hl0 (by omega) gm';rw[hH0]at m3;simp only[Xd,Xg,Xv,Xw]at m3;refine BB (K8 ht hD) (K9 ht hD) rfl ?_;rw[<-heq];simp -implicitDefEqProofs [SIt,ctI,ceI,hlen,m3,NH]
     .rw[zz hbig]at heq
      have gm':Ci l p [sv ⟨#[44]⟩,iv (kids.length:Int),iv 256]=some (.ok (bv true,p+1)):=by rw[gm,FM,zy rfl,zz (by omega)]
      have m1:=CO (t:=t) (g:=Ci l) (b:=0) (nx:=2) (H:=H0) hl0 (by omega) gm';have m2:=CZ (t:=t) (g:=Ci l) (b:=0) (nx:=2) (H:=H0) hl0 gm';rw[hu0]at m1;rw[hH0]at m1 m2;simp only[Xd,Xg,Xv,Xw]at m1 m2;have hl1:Aa ((0,pr t (p+1))::Ax eD 57 1 kids) 0=some (pr t (p+1)):=rfl
      cases hd2:As L n (p+1)with
      | error e=>
       rw[hd2]at heq;simp only at heq;have m3:=Dy (t:=t) (g:=Dj l n) (b:=0) (nx:=2) hl1 (by omega) (by rw[gd (by omega),hd2];rfl);simp only[Xd,Xg]at m3;refine BB (K8 ht hD) (K9 ht hD) rfl ?_;rw[<-heq];simp -implicitDefEqProofs [SIt,ctI,ceI,hlen,m1,m2,ev,m3,NH]
      | ok x=>
       obtain⟨d2,p2⟩:=x;rw[hd2]at heq;simp only at heq;have hf2:=hF _ _ _ hd2;rw[hLl]at hf2;have m3:=CO (t:=t) (g:=Dj l n) (b:=0) (nx:=2) (r:=dT d2) (i':=p2) hl1 (by omega) (by rw[gd (by omega),hd2];rfl);have m4:=CZ (t:=t) (g:=Dj l n) (b:=0) (nx:=2) (x:=(dT d2,p2)) hl1 (by rw[gd (by omega),hd2];rfl);simp only[Xd,Xg]at m3 m4
       have hu1:upd ((0,pr t (p+1))::Ax eD 57 1 kids) 0 (pr t p2)=(0,pr t p2)::Ax eD 57 1 kids:=by simp[upd]
       rw[hu1]at m3;have r0':Ar eD 57 ((2,.cells 57 ((A4 d2).map .t))::(0,pr t p2)::Ax eD 57 1 kids) 1 kids:=((Ar.head' eD 57 1 kids).cons (k:=0) (by omega)).cons (k:=2) (by omega);obtain⟨b2,H2,n2,ap2,r2,ne2,hle2,hold,hb2⟩:=Gd (e:=eD) (ty:=57) (by':=72) (nx:=3) (m:=[d2]) r0' (Gc (e:=eD) (b:=2) (ty:=57) d2 rfl) (by simp;omega) (by simp;omega);have ap2':B1 57 4 72 ((2,.cells 57 ((A4 d2).map .t))::(0,pr t p2)::Ax eD 57 1 kids) 3 (rowP eD 1 kids) (.row 2 0 1 4)=some (rowP eD b2 (kids++[d2]),H2,n2):=ap2;have hl2:Aa H2 0=some (pr t p2):=(hold 0 (by omega) (by omega)).trans rfl;refine BB (K8 ht hD) (K9 ht hD) rfl ?_;simp -implicitDefEqProofs [SIt,ctI,ceI,hlen,m1,m2,ev,m3,m4,bsD,ap2'];refine Aq.mk ⟨f',p2,kids++[d2]⟩ ⟨⟨by show p2<=_;omega,by show L.length-p2<f';omega,by simp;omega,heq⟩,by show f'<f'+1;omega⟩ ?_;exact Dv (k:=b2) r2 (by omega) (by omega) (by simp -implicitDefEqProofs [BG,AX,ren,BU,Bl,under,hl2];omega) (by simp -implicitDefEqProofs [Cs,Ct,ren,under])
  .rintro⟨f,p,kids⟩ hR2;simp only at hR2;rw[hR2];refine BB (K8 ht hD) (K9 ht hD) rfl ?_;simp -implicitDefEqProofs [SIt,NH]
   cases rows with
   | true=>exact NA (rs:=[rowP eD 1 kids]) (.inr rfl) (Sub.refl _) rfl rfl rfl rfl
   | false=>
   exact NA (rs:=[.t (Am eD kids)]) (.inr rfl) (uS (k:=4) (b:=1) (l:=kids) (cs:=pc t p) ((Ar.head' eD 57 1 kids).cons (by omega)) (by omega) rfl (by simp -implicitDefEqProofs) (Xc _)) (by simp -implicitDefEqProofs) rfl rfl rfl
theorem vB (ht:IsS Ap t l) (hlim:l.length<=1000000) {n:Nat} (hD:Es q t l n) (hF:Fwd (l.map kt) (As (l.map kt) n)) (hn:n<=64) (hi:i<=l.length) :
  PM Xa (G q) t 207 i [iv (64-(n:Int))] (Cw (Am eD) (Dr (l.map kt) n i)):=by
 have h:=aA (q:=q) false ht hlim hD hF hn hi;unfold PM
 cases hh:Dr (l.map kt) n i with
 | error e=>rw[hh]at h;exact h
 | ok x=>rw[hh]at h;exact h
theorem vC (ht:IsS Ap t l) (hlim:l.length<=1000000) {n:Nat} (hD:Es q t l n) (hF:Fwd (l.map kt) (As (l.map kt) n)) (hn:n<=64) (hi:i<=l.length) {kids:List Ds} {p:Nat} (hs:Dr (l.map kt) n i = .ok (kids,p)) :
  AB Xa (G q) 207 [.ptr 0 0,.t (iv (64-(n:Int)))] [(0,pr t i)] 1 (rowP eD 1 kids) ([(0,pr t p)]++Ax eD 57 1 kids) 2:=by
 have h:=aA (q:=q) true ht hlim hD hF hn hi;rw[hs]at h;exact h
variable {q : Gl} {t : T} {l : List Tok} {i : Nat}
section
variable (a b c d x : T) (y z u v : PV) (X : Row) (R H : Ab)
theorem sd2:A8 4 ((2,.cells 57 [y,z,u,v])::R) (.ptr 2 0) (.t (.ag [a,b,c,d]))=some ((2,.cells 57 [.t a,.t b,.t c,.t d])::R):=rfl
theorem ld4:Ao true 4 ((2,.cells 57 [.t a,.t b,.t c,.t d])::R) (.ptr 2 0)=some (.t (.ag [a,b,c,d])):=rfl
theorem sd1:A8 4 ((2,X)::(1,.cells 57 [y,z,u,v])::R) (.ptr 1 0) (.t (.ag [a,b,c,d]))=some ((2,X)::(1,.cells 57 [.t a,.t b,.t c,.t d])::R):=rfl
theorem aB (kids:List Ds):A8 1 ((2,.cells 57 [.t a,.t b,.t c,.t d])::R) (.ptr 2 3) (.t (Am eD kids))=some ((2,.cells 57 [.t a,.t b,.t c,.t (Am eD kids)])::R):=by cases kids<;>rfl
theorem bd1 {Φ:AC} {nx:Nat} (k:Int):Ah Φ H nx (.build [(0,1),(1,1),(2,1),(3,1)] [.int .i64 0,.string ⟨#[]⟩,.slice none 0 0,.slice none 0 0] [0]) [.t (iv k)]=some (.t (.ag [iv k,sv ⟨#[]⟩,Ad,Ad]),H,nx):=rfl
end
theorem aC {L:List KT} {n i p:Nat} {kids:List Ds} (hF:Fwd L (As L n)) (h:Dr L n i = .ok (kids,p)):i<p/\p<=L.length/\kids.length<=256:=by
 unfold Dr at h
 cases hd:As L n i with
 | error e=>rw[hd]at h;cases h
 | ok x=>
  obtain⟨d,p0⟩:=x;rw[hd]at h;have h1:=hF i d p0 hd;have h2:=Py hF _ _ _ _ _ h (by simp);omega
noncomputable def Gk (l:List Tok) (n:Nat):PG:=λi ts=>match ts with
 | [.v (.int .i64 v)]=>if v=64-(n:Int)/\i<=l.length then some (Cw (Am eD) (Dr (l.map kt) n i))else none
 | _=>none
theorem aD {n:Nat} (hi:i<=l.length):Gk l n i [iv (64-(n:Int))]=some (Cw (Am eD) (Dr (l.map kt) n i)):=zy ⟨rfl,hi⟩
theorem aE (ht:IsS Ap t l) (hlim:l.length<=1000000) {n:Nat} (hD:Es q t l n) (hF:Fwd (l.map kt) (As (l.map kt) n)) (hn:n<=64) :
  ∀i ts o,Gk l n i ts=some o->PM Xa (G q) t 207 i ts o:=λi ts o h=>by
 unfold Gk at h;split at h
 .split at h
  .rename_i hc;obtain⟨rfl,hi⟩:=hc;injection h with h;subst h;exact vB ht hlim hD hF hn hi
  .cases h
 .cases h
noncomputable def ctL (l:List Tok) (t:T) (n:Nat):Ez:=[(174,hP t (Bs l)),(196,hP t (gIs l)),(206,hP t (F0 l)),(176,hP t (Ci l)),(207,hP t (Gk l n)),(156,hP t (Dj l n))]
noncomputable def ceL (l:List Tok) (t:T) (n:Nat):GB:=[(174,eP t (Bs l)),(196,eP t (gIs l)),(206,eP t (F0 l)),(176,eP t (Ci l)),(207,eP t (Gk l n)),(156,eP t (Dj l n))]
section
variable {n : Nat} (ht : IsS Ap t l) (hlim : l.length <= 1000000) (hD : Es q t l n) (hF : Fwd (l.map kt) (As (l.map kt) n)) (hn : n <= 64)
include ht hlim hD hF hn
theorem aF:Ctx Xa (G q) (orh [] (ctL l t n)):=
 A5.nil.ctxH (.cons (BR (Js ht)).hok (.cons (BR (Px ht)).hok (.cons (BR (P1 ht)).hok (.cons (BR (Jv ht)).hok (.cons (BR (aE ht hlim hD hF hn)).hok (.cons (BR hD).hok .nil)))))) mixed
theorem aG:POK Xa (G q) (orE (ceL l t n)):=
 E3.ok (.cons (BR (Js ht)).eok (.cons (BR (Px ht)).eok (.cons (BR (P1 ht)).eok (.cons (BR (Jv ht)).eok (.cons (BR (aE ht hlim hD hF hn)).eok (.cons (BR hD).eok .nil))))))
theorem vD (hi:i<=l.length):PM Xa (G q) t 195 i [iv (64-(n:Int))] (Cw dT (DI (l.map kt) (As (l.map kt) n) i)):=by
 have C:=aF ht hlim hD hF hn;have E:=aG ht hlim hD hF hn
 obtain⟨L,hL⟩:∃L,L=l.map kt:=⟨_,rfl⟩
 have hLl:L.length=l.length:=by rw[hL,Xt]
 have hgi:∀p,p<=l.length->Gk l n p [iv (64-(n:Int))]=some (Cw (Am eD) (Dr L n p)):=λp hp=>by rw[aD hp,hL]
 rw[<-hL]
 cases hx:l[i]? with
 | none=>
  have hge:l.length<=i:=by simpa using hx
  have e1:DI L (As L n) i = .error 9:=by unfold DI;rw[zy (by omega)]
  rw[e1];have h1:∀R:Row,eP t (Bs l) [.ptr 0 0] [(1,R),(0,pr t i)] 2=some (Cv 9):=λR=>Dy (ts:=[]) rfl (by omega) (by simp[Bs,hx]);refine Nn.callO rfl ?_;refine BB C E rfl ?_
  (conv in LI=>cbv);simp -implicitDefEqProofs [ctL,ceL,h1,Cw,FI]
 | some x=>
  have hlt:i<l.length:=(Xf.1 hx).1
  obtain⟨Z,hZ⟩:∃Z:Row,Z = .cells 57 [.t (iv 0),.t (sv ⟨#[]⟩),.t Ad,.t Ad]:=⟨_,rfl⟩
  have h1:hP t (Bs l) [.ptr 0 0] [(1,.cells 57 [.t (iv 0),.t (sv ⟨#[]⟩),.t Ad,.t Ad]),(0,pr t i)] 2=some (.t (.ag (Ap.enc x)),[(1,.cells 57 [.t (iv 0),.t (sv ⟨#[]⟩),.t Ad,.t Ad]),(0,pr t i)],2):=CO (ts:=[]) rfl (by omega) (by simp[Bs,hx]);have h2:eP t (Bs l) [.ptr 0 0] [(1,.cells 57 [.t (iv 0),.t (sv ⟨#[]⟩),.t Ad,.t Ad]),(0,pr t i)] 2=none:=CZ (ts:=[]) (x:=(.ag (Ap.enc x),i)) rfl (by simp[Bs,hx]);have hu:∀(X Y:Row) (p p':Nat),upd [(2,X),(1,Y),(0,pr t p)] 0 (pr t p')=[(2,X),(1,Y),(0,pr t p')]:=λ_ _ _ _=>rfl
  have h3:∀X Y:Row,hP t (gIs l) [.ptr 0 0,.t (sv ⟨#[33,62]⟩)] [(2,X),(1,Y),(0,pr t i)] 3=some (.t (bv (Au L i [33,62])),[(2,X),(1,Y),(0,pr t i)],3):=λX Y=>by
   rw[hL];exact CO (ts:=[sv ⟨#[33,62]⟩]) rfl (by omega) rfl
  have h4:∀X Y:Row,eP t (gIs l) [.ptr 0 0,.t (sv ⟨#[33,62]⟩)] [(2,X),(1,Y),(0,pr t i)] 3=none:=λX Y=>
   CZ (ts:=[sv ⟨#[33,62]⟩]) (x:=(bv (Au (l.map kt) i [33,62]),i)) rfl rfl
  have h5:∀(X Y:Row) p,p<=l.length->∀p',Bk L p [33,62] = .ok p'->hP t (F0 l) [.ptr 0 0,.t (sv ⟨#[33,62]⟩)] [(2,X),(1,Y),(0,pr t p)] 3=some (.t (.tu []),[(2,X),(1,Y),(0,pr t p')],3):=λX Y p hp p' h=>by
   rw[hL]at h;exact CO (ts:=[sv ⟨#[33,62]⟩]) rfl (by omega) ((zy (by omega)).trans (by show some (skR (Bk (l.map kt) p [33,62]))=_;rw[h];rfl))
  have h6:∀(X Y:Row) p,p<=l.length->∀e,Bk L p [33,62] = .error e->eP t (F0 l) [.ptr 0 0,.t (sv ⟨#[33,62]⟩)] [(2,X),(1,Y),(0,pr t p)] 3=some (Cv e):=λX Y p hp e h=>by
   rw[hL]at h;exact Dy (ts:=[sv ⟨#[33,62]⟩]) rfl (by omega) ((zy (by omega)).trans (by show some (skR (Bk (l.map kt) p [33,62]))=_;rw[h];rfl))
  cases hs:Au L i [33,62]with
  | true=>
   have hsk:Bk L i [33,62] = .ok (i+1):=by unfold Bk;rw[zz (by omega),zy hs]
   have e1:DI L (As L n) i = .ok (.mk 8 ⟨#[]⟩ [] [],i+1):=by unfold DI;rw[zz (by omega),zy hs,Cn,hsk]
   have h5':=λX Y=>h5 X Y i hi _ hsk;rw[e1];rw[hs]at h3;refine PM.ret (H':=[(2,.cells 57 [.t (iv 8),.t (sv ⟨#[]⟩),.t Ad,.t Ad]),(1,.cells 57 [.t (iv 8),.t (sv ⟨#[]⟩),.t Ad,.t Ad]),(0,pr t (i+1))]) (nx':=3) ?_ rfl;refine Nn.callP rfl ?_;refine Aw C ?_
   (conv in LI=>cbv);simp -implicitDefEqProofs [ctL,h1,-AF,bd1,sd2,h3,h5',ld4,sd1]
   exact⟨.inr rfl,_,_,Sub.refl _,rfl,by rw[dT,FG];rfl,rfl,rfl⟩
  | false=>
   have e0:DI L (As L n) i=match Dr L n i with
     | .error e=>.error e
     | .ok (kids,p2)=>Cn L [33,62] 8 kids p2:=by
    unfold DI Dr;rw[zz (by omega),hs,zz (by simp)];cases As L n i<;>rfl
   rw[hs]at h3
   cases hit:Dr L n i with
   | error e=>
    rw[hit]at e0;simp only at e0;rw[e0]
    have h7:∀X Y:Row,eP t (Gk l n) [.ptr 0 0,.t (iv (64-(n:Int)))] [(2,X),(1,Y),(0,pr t i)] 3=some (Cv e):=λX Y=>
     Dy (ts:=[iv (64-(n:Int))]) rfl (by omega) (by rw[hgi i hi,hit];rfl)
    refine Nn.callO rfl ?_;refine BB C E rfl ?_
    (conv in LI=>cbv);simp -implicitDefEqProofs [ctL,ceL,h1,h2,-AF,bd1,sd2,h3,h4,h7,Cw,FI]
   | ok y=>
    obtain⟨kids,p2⟩:=y;rw[hit]at e0;simp only at e0;rw[e0]
    have hp2:p2<=l.length:=by
     rw[<-hLl];exact(aC (by rw[hL];exact hF) hit).2.1
    have h7:∀X Y:Row,hP t (Gk l n) [.ptr 0 0,.t (iv (64-(n:Int)))] [(2,X),(1,Y),(0,pr t i)] 3=some (.t (Am eD kids),[(2,X),(1,Y),(0,pr t p2)],3):=λX Y=>
     CO (ts:=[iv (64-(n:Int))]) rfl (by omega) (by rw[hgi i hi,hit];rfl)
    have h8:∀X Y:Row,eP t (Gk l n) [.ptr 0 0,.t (iv (64-(n:Int)))] [(2,X),(1,Y),(0,pr t i)] 3=none:=λX Y=>
     CZ (ts:=[iv (64-(n:Int))]) (x:=(Am eD kids,p2)) rfl (by rw[hgi i hi,hit];rfl)
    cases hsk:Bk L p2 [33,62]with
    | error e=>
     have e1:Cn L [33,62] 8 kids p2 = .error e:=by rw[Cn,hsk]
     rw[e1];have h6':=λX Y=>h6 X Y p2 hp2 _ hsk;refine Nn.callO rfl ?_;refine BB C E rfl ?_
     (conv in LI=>cbv);simp -implicitDefEqProofs [ctL,ceL,h1,h2,-AF,bd1,sd2,aB,h3,h4,h6',h7,h8,Cw,FI]
    | ok p3=>
     have e1:Cn L [33,62] 8 kids p2 = .ok (.mk 8 ⟨#[]⟩ [] kids,p3):=by rw[Cn,hsk]
     have h5':=λX Y=>h5 X Y p2 hp2 _ hsk;rw[e1];refine PM.ret (H':=[(2,.cells 57 [.t (iv 8),.t (sv ⟨#[]⟩),.t Ad,.t (Am eD kids)]),(1,.cells 57 [.t (iv 8),.t (sv ⟨#[]⟩),.t Ad,.t (Am eD kids)]),(0,pr t p3)]) (nx':=3) ?_ rfl;refine Nn.callP rfl ?_;refine Aw C ?_
     (conv in LI=>cbv);simp -implicitDefEqProofs [ctL,h1,-AF,bd1,sd2,aB,h3,h7,h5',ld4,sd1]
     exact⟨.inr rfl,_,_,Sub.refl _,rfl,by rw[dT,FG];rfl,rfl,rfl⟩
end
variable {q : Gl} {t : T} {l : List Tok} {i : Nat}
theorem vE (ht:IsS Ap t l) (hlim:l.length<=1000000) {n:Nat} (hD:Es q t l n) (hF:Fwd (l.map kt) (As (l.map kt) n)) (hn:n<=64) (hi:i<=l.length) {kids:List Ds} {p:Nat} (hs:Dr (l.map kt) n i = .ok (kids,p)) (hne:kids≠[]) (X Y:Row) :
  HOK Xa (G q) 207 (Ge [.ptr 0 0,.t (iv (64-(n:Int)))] [(2,X),(1,Y),(0,pr t i)] 3 (rowP eD 3 kids,[(3,rowOf eD 57 kids),(2,X),(1,Y),(0,pr t p)],4)):=by
 refine Fu ?_ ?_
 .have h:=vC (q:=q) ht hlim hD hF hn hi hs
  have h2:=h.lift (λb=>b) 3 [(2,X),(1,Y),(0,pr t i)] [(3,rowOf eD 57 kids),(2,X),(1,Y),(0,pr t p)] (λb hb=>by omega) (λb c _ _ e=>e) (by omega)
   (λq hq=>by
    simp only[Xq]at hq;subst hq
    exact⟨by simp[Aa,BG,AX,ren],by show 0<1;omega,by simp[BU,Bl,under]⟩)
   (by simp[Bl,under]) (Ct _ _ _ _ (by omega))
   (λq hq=>by
    rcases Xp.1 hq with hq | hq
    .simp only[Xq]at hq;subst hq;exact⟨by show 0<2;omega,by simp[BU,Bl,under]⟩
    .obtain⟨_,rfl⟩:=EU hq
     exact⟨by show 1<2;omega,Ia _ _ _ _⟩)
   (λb x hb=>by
    simp only[Aa]at hb;split at hb
    .rename_i e;injection hb with hb;subst hb;refine .inl ⟨1,rowOf eD 57 kids,?_,?_,?_⟩
     .exact(Ar.head' eD 57 1 kids).cons (k:=0) (by omega) |>.resolve_left hne
     .simp[Ei];omega
     .rw[HZ]
    .split at hb
     .rename_i e;injection hb with hb;subst hb;refine .inr ⟨by simp[Aa,<-e],λb0 x0 h0=>?_⟩;simp only[Aa]at h0;split at h0
      .omega
      .cases h0
     .split at hb
      .rename_i e;injection hb with hb;subst hb;refine .inr ⟨by simp[Aa,<-e],λb0 x0 h0=>?_⟩;simp only[Aa]at h0;split at h0
       .omega
       .cases h0
      .split at hb
       .rename_i e;injection hb with hb;subst hb;refine .inl ⟨0,pr t p,rfl,by simp[Ei];omega,by simp[BG,AX,ren]⟩
       .cases hb)
  have e1:ren (Ei (λb=>b) 1 3) (rowP eD 1 kids)=rowP eD 3 kids:=by rw[Cs];rfl
  rw[e1]at h2;exact h2
 .intro _ b x hb;simp only[Aa]at hb;split at hb
  .omega
  .split at hb
   .omega
   .split at hb
    .omega
    .split at hb
     .omega
     .cases hb
theorem aH {P:Program} {G:Ay} {B b3 nx n p:Nat} {env:List (Nat×PV)} {H:Ab} {a b c:T} {kids:List Ds} {y0 y1 y2 y3:T} (hB:B<=3) (hr:Ar eD 57 H b3 kids) (hb:2<b3)
  (h2:Aa H 2=some (.cells 57 [.t a,.t b,.t c,rowP eD b3 kids])) (h1:Aa H 1=some (.cells 57 [.t y0,.t y1,.t y2,.t y3])) (h0:Aa H 0=some (pr t p))
  (e5:Aa env 5=some (.ptr 2 0)) (e4:Aa env 4=some (.ptr 1 0)) (e0:Aa env 0=some (.ptr 0 0)) :
  Sub P G B ⟨env,H,nx,n⟩ ⟨[(5,.ptr 2 0),(4,.ptr 1 0),(0,.ptr 0 0)],[(2,.cells 57 [.t a,.t b,.t c,.t (Am eD kids)]),(1,.cells 57 [.t y0,.t y1,.t y2,.t y3]),(0,pr t p)],3,n⟩:=by
 have h3:Sub P G B ⟨env,H,nx,n⟩ (Ac.frz ⟨env,H,nx,n⟩ [b3]):=LF [b3];refine h3.trans (Kc (λx=>x) rfl hB (λ_ _=>rfl) (λq hq=>?_) (λq hq=>?_) (λ_ _ _ _ e=>e))
 .simp only[Ac.frz,Fo];simp only[Xi,Yq,or_false]at hq;rcases hq with rfl | rfl | rfl
  .rw[e5];exact⟨rfl,rfl⟩
  .rw[e4];exact⟨rfl,rfl⟩
  .rw[e0];exact⟨rfl,rfl⟩
 .have hl:∀k,k≠b3->Aa (Dl H [b3]) k=Aa H k:=λk hk=>by
   simp only[Dl,Za,Zb];rw[Cr,zz hk]
  have hf:B5 H [b3] (rowP eD b3 kids) = .t (Am eD kids):=by
   unfold B5;rw[hr.toT]
   have:(FF b3 kids).all ([b3].contains ·)=true:=by cases kids<;>simp[FF]
   simp only[this,if_true]
  simp only[Ac.frz,Fo];simp only[Xi,Yq,or_false]at hq;rcases hq with rfl | rfl | rfl
  .refine⟨?_,by show 2<3;omega,rfl⟩;rw[hl 2 (by omega),h2,Xl];simp only[Cy,Xd,Xg,LS,hf,BG,AX,ren]
  .refine⟨?_,by show 1<3;omega,rfl⟩;rw[hl 1 (by omega),h1,Xl];simp only[Cy,Xd,Xg,LS,BG,AX,ren]
  .refine⟨?_,by show 0<3;omega,rfl⟩;rw[hl 0 (by omega),h0,Xl];simp only[Cy,Xd,Xg,LS,BG,AX,ren]
variable {q : Gl} {t : T} {l : List Tok} {i : Nat}
section
variable (a b c d : T) (X : Row) (R H : Ab) (kids : List Ds) (b3 : Nat)
theorem vF:A8 1 ((3,X)::(2,.cells 57 [.t a,.t b,.t c,.t d])::R) (.ptr 2 3) (rowP eD b3 kids)=some ((3,X)::(2,.cells 57 [.t a,.t b,.t c,rowP eD b3 kids])::R):=by cases kids<;>rfl
theorem NI:Ao false 1 ((3,X)::(2,.cells 57 [.t a,.t b,.t c,rowP eD b3 kids])::R) (.ptr 2 3)=some (rowP eD b3 kids):=by cases kids<;>rfl
theorem vG (k:Int) (w:PV):A8 1 ((3,X)::(2,.cells 57 [.t a,.t b,.t c,w])::R) (.ptr 2 0) (.t (iv k))=some ((3,X)::(2,.cells 57 [.t (iv k),.t b,.t c,w])::R):=rfl
end
theorem tsD (d:Ds):IW 57 4 [.int .i64 0,.string ⟨#[]⟩,.slice none 0 0,.slice none 0 0] 1 [(0,.t (dT d))]=some (.t (.sl 1 (A4 d))):=by
 cases d;rw[dT,A4];rfl
theorem aI {H:Ab} {b ty:Nat} {x0 x1 x2 x3:PV} (h:Aa H b=some (.cells ty [x0,x1,x2,x3])) (k b4:Nat) (kids:List Ds):A8 1 H (.ptr b 3) (rowP eD b4 kids)=some (upd H b (.cells ty [x0,x1,x2,rowP eD b4 kids])):=by
 cases kids<;>simp only[A8,rowP,h]<;>rfl
structure Lt where
 op:Int
 kids:List Ds
 p:Nat
abbrev zD:Row:=.cells 57 [.t (iv 0),.t (sv ⟨#[]⟩),.t Ad,.t Ad]
def SLt (t:T) (a:Lt):Ac:=⟨[(5,.ptr 2 0),(4,.ptr 1 0),(0,.ptr 0 0)],[(2,.cells 57 [.t (iv a.op),.t (sv ⟨#[]⟩),.t Ad,.t (Am eD a.kids)]),(1,zD),(0,pr t a.p)],3,34⟩
def outL (t:T):Res Ds->Out
 | .error e=>.pan (Cv e)
 | .ok (d,p)=>.ret (.t (dT d)) [(2,.cells 57 ((A4 d).map .t)),(1,.cells 57 ((A4 d).map .t)),(0,pr t p)] 3
theorem vH {L:List KT} {n i p:Nat} {kids:List Ds} (h:Dr L n i = .ok (kids,p)):kids≠[]:=by
 unfold Dr at h
 cases hd:As L n i with
 | error e=>rw[hd]at h;cases h
 | ok x=>
  rw[hd]at h
  have key:∀(f p:Nat) (ks ks':List Ds) (p':Nat),itS L (As L n) f p ks = .ok (ks',p')->ks≠[]->ks'≠[]:=by
   intro f
   induction f with
   | zero=>intro p ks ks' p' h;cases h
   | succ f ih=>
    intro p ks ks' p' h hk;rw[itS]at h;split at h
    .split at h
     .cases h
     .split at h
      .cases h
      .exact ih _ _ _ _ h (by simp)
    .injection h with h;injection h with e1 _;subst e1;exact hk
  exact key _ _ _ _ _ h (by simp)
theorem PM.outL {P:Program} {G:Ay} {f:FuncId} {ts:List T} {R:Res Ds} (h:GA P G f (.ptr 0 0::ts.map .t) [(0,pr t i)] 1 (outL t R)):PM P G t f i ts (Cw dT R):=by
 cases R with
 | error e=>exact h
 | ok x=>exact PM.ret h rfl
section
variable {n : Nat} (ht : IsS Ap t l) (hlim : l.length <= 1000000) (hD : Es q t l n) (hF : Fwd (l.map kt) (As (l.map kt) n)) (hn : n <= 64)
include ht hlim hD hF hn
theorem vI (hi:i<=l.length):PM Xa (G q) t 194 i [iv (64-(n:Int))] (Cw dT (DH (l.map kt) (As (l.map kt) n) i)):=by
 have C:=aF ht hlim hD hF hn;have E:=aG ht hlim hD hF hn
 obtain⟨L,hL⟩:∃L,L=l.map kt:=⟨_,rfl⟩
 have hLl:L.length=l.length:=by rw[hL,Xt]
 have hgi:∀p,p<=l.length->Gk l n p [iv (64-(n:Int))]=some (Cw (Am eD) (Dr L n p)):=λp hp=>by rw[aD hp,hL]
 have gd:∀{p:Nat},p<=l.length->Dj l n p [iv (65-(n:Int))]=some (Cw dT (As L n p)):=λhp=>by rw[P2 hp,hL]
 rw[<-hL]
 cases hx:l[i]? with
 | none=>
  have hge:l.length<=i:=by simpa using hx
  have e1:DH L (As L n) i = .error 9:=by unfold DH;rw[zy (by omega)]
  rw[e1];have h1:∀R:Row,eP t (Bs l) [.ptr 0 0] [(1,R),(0,pr t i)] 2=some (Cv 9):=λR=>Dy (ts:=[]) rfl (by omega) (by simp[Bs,hx]);refine VX.callO rfl ?_;(conv in R4=>cbv);refine Co C E rfl ?_;simp -implicitDefEqProofs;refine Co C E rfl ?_;simp -implicitDefEqProofs [ctL,ceL,h1,Cw,FI]
 | some x=>
  have hlt:i<l.length:=(Xf.1 hx).1;have h1:hP t (Bs l) [.ptr 0 0] [(1,zD),(0,pr t i)] 2=some (.t (.ag (Ap.enc x)),[(1,zD),(0,pr t i)],2):=CO (ts:=[]) rfl (by omega) (by simp[Bs,hx]);have h2:eP t (Bs l) [.ptr 0 0] [(1,zD),(0,pr t i)] 2=none:=CZ (ts:=[]) (x:=(.ag (Ap.enc x),i)) rfl (by simp[Bs,hx])
  have h3:∀X Y:Row,hP t (gIs l) [.ptr 0 0,.t (sv ⟨#[62]⟩)] [(2,X),(1,Y),(0,pr t i)] 3=some (.t (bv (Au L i [62])),[(2,X),(1,Y),(0,pr t i)],3):=λX Y=>by
   rw[hL];exact CO (ts:=[sv ⟨#[62]⟩]) rfl (by omega) rfl
  have h4:∀X Y:Row,eP t (gIs l) [.ptr 0 0,.t (sv ⟨#[62]⟩)] [(2,X),(1,Y),(0,pr t i)] 3=none:=λX Y=>
   CZ (ts:=[sv ⟨#[62]⟩]) (x:=(bv (Au (l.map kt) i [62]),i)) rfl rfl
  have h5:∀(X Y:Row) p nx,0<nx->p<=l.length->∀p',Bk L p [62] = .ok p'->hP t (F0 l) [.ptr 0 0,.t (sv ⟨#[62]⟩)] [(2,X),(1,Y),(0,pr t p)] nx=some (.t (.tu []),[(2,X),(1,Y),(0,pr t p')],nx):=λX Y p nx hnx hp p' h=>by
   rw[hL]at h;exact CO (ts:=[sv ⟨#[62]⟩]) rfl hnx ((zy (by omega)).trans (by show some (skR (Bk (l.map kt) p [62]))=_;rw[h];rfl))
  have h6:∀(X Y:Row) p nx,0<nx->p<=l.length->∀e,Bk L p [62] = .error e->eP t (F0 l) [.ptr 0 0,.t (sv ⟨#[62]⟩)] [(2,X),(1,Y),(0,pr t p)] nx=some (Cv e):=λX Y p nx hnx hp e h=>by
   rw[hL]at h;exact Dy (ts:=[sv ⟨#[62]⟩]) rfl hnx ((zy (by omega)).trans (by show some (skR (Bk (l.map kt) p [62]))=_;rw[h];rfl))
  have e0:Au L i [62]=false->DH L (As L n) i=match Dr L n i with
    | .error e=>.error e
    | .ok (kids,p2)=>if Au L p2 [124]then(if 256<=kids.length then .error 7 else match As L n (p2+1)with
      | .error e=>.error e
      | .ok (d',p3)=>Cn L [62] 7 (kids++[d']) p3)
     else Cn L [62] 6 kids p2:=λhs=>by
   unfold DH Dr;rw[zz (by omega),hs,zz (by simp)];cases As L n i<;>rfl
  obtain⟨R,hR⟩:∃R,R=DH L (As L n) i:=⟨_,rfl⟩
  rw[<-hR]at e0 ⊢;refine PM.outL (VX.callO rfl ?_);(conv in R4=>cbv);refine Co C E rfl ?_;simp -implicitDefEqProofs;refine Co C E rfl ?_;simp -implicitDefEqProofs [ctL,ceL,h1,h2];refine Co C E rfl ?_;simp -implicitDefEqProofs [-AF,bd1,sd2];refine BM (α:=Lt) (SLt t) (λa=>R=Cn L [62] a.op a.kids a.p/\a.p<=l.length) (λ_=>rfl) ?_ ?_
  .cases hs:Au L i [62]with
   | true=>
    have e1:R=Cn L [62] 6 [] i:=by rw[hR];unfold DH;rw[zz (by omega),zy hs]
    rw[hs]at h3;refine BB C E rfl ?_;simp -implicitDefEqProofs [ctL,ceL,h3,h4];exact Aq.mk ⟨6,[],i⟩ ⟨e1,hi⟩ (AJ rfl rfl (by simp -implicitDefEqProofs [SLt]) (by simp -implicitDefEqProofs [SLt];rfl))
   | false=>
    have e0:=e0 hs;rw[hs]at h3;refine Co C E rfl ?_;simp -implicitDefEqProofs [ctL,ceL,h3,h4];refine JZ (t:=true) rfl ?_;simp only[if_true]
    cases hit:Dr L n i with
    | error e=>
     rw[hit]at e0;simp only at e0;rw[e0]
     have h7:∀X Y:Row,eP t (Gk l n) [.ptr 0 0,.t (iv (64-(n:Int)))] [(2,X),(1,Y),(0,pr t i)] 3=some (Cv e):=λX Y=>
      Dy (ts:=[iv (64-(n:Int))]) rfl (by omega) (by rw[hgi i hi,hit];rfl)
     refine Co C E rfl ?_;simp -implicitDefEqProofs [ctL,ceL,h7,outL]
    | ok y=>
     obtain⟨kids,p2⟩:=y;rw[hit]at e0;simp only at e0;have hfw:=aC (by rw[hL];exact hF) hit;rw[hLl]at hfw;obtain⟨hip,hp2,hkl⟩:=hfw;have hne:kids≠[]:=vH hit;have hlift:=λX Y=>vE (q:=q) ht hlim hD hF hn hi (by rw[<-hL];exact hit) hne X Y
     have h8:∀X Y:Row,eP t (Gk l n) [.ptr 0 0,.t (iv (64-(n:Int)))] [(2,X),(1,Y),(0,pr t i)] 3=none:=λX Y=>
      CZ (ts:=[iv (64-(n:Int))]) (x:=(Am eD kids,p2)) rfl (by rw[hgi i hi,hit];rfl)
     have CI:=A5.nil.ctxH (.cons (hlift (.cells 57 [.t (iv 6),.t (sv ⟨#[]⟩),.t Ad,.t Ad]) zD) .nil) mixed;have ho:=λo=>EF [.ptr 0 0,.t (iv (64-(n:Int)))] [(2,.cells 57 [.t (iv 6),.t (sv ⟨#[]⟩),.t Ad,.t Ad]),(1,zD),(0,pr t i)] 3 o;refine Co CI E rfl ?_;simp -implicitDefEqProofs [ceL,h8,ho,vF]
     obtain⟨H3,hH3⟩:∃H3:Ab,H3=[(3,rowOf eD 57 kids),(2,.cells 57 [.t (iv 6),.t (sv ⟨#[]⟩),.t Ad,rowP eD 3 kids]),(1,zD),(0,pr t p2)]:=⟨_,rfl⟩
     have hl0:Aa H3 0=some (pr t p2):=by rw[hH3];rfl
     have hu:∀p',upd H3 0 (pr t p')=[(3,rowOf eD 57 kids),(2,.cells 57 [.t (iv 6),.t (sv ⟨#[]⟩),.t Ad,rowP eD 3 kids]),(1,zD),(0,pr t p')]:=λp'=>by rw[hH3];rfl
     have hlen:Bd (rowP eD 3 kids)=some (.t (iv (kids.length:Int))):=ED eD 3 kids
     have gm:Ci l p2 [sv ⟨#[124]⟩,iv (kids.length:Int),iv 256]=some (FM (Au L p2 [124]) (kids.length:Int) 256 p2):=by rw[hL];exact zy (by omega)
     cases hs2:Au L p2 [124]with
     | false=>
      rw[hs2]at gm e0;simp only[Xk,if_false]at e0;have m1:=CO (t:=t) (g:=Ci l) (b:=0) (nx:=4) (H:=H3) hl0 (by omega) (gm.trans rfl:_=some (.ok (bv false,p2)));have m2:=CZ (t:=t) (g:=Ci l) (b:=0) (nx:=4) (H:=H3) hl0 (gm.trans rfl:_=some (.ok (bv false,p2)));rw[hu]at m1;rw[hH3]at m1 m2;simp only[Xd,Xg]at m1 m2;refine BB C E rfl ?_;simp -implicitDefEqProofs [ctL,ceL,NI,hlen,m1,m2];refine Aq.mk ⟨6,kids,p2⟩ ⟨e0,hp2⟩ ?_;exact aH (b3:=3) (by omega) (.inr rfl) (by omega) rfl rfl rfl rfl rfl rfl
     | true=>
      rw[hs2]at gm e0;simp only[if_true]at e0
      have hpl:p2<l.length:=by have:=Bo hs2;omega
      by_cases hbig:256<=kids.length
      .rw[zy hbig]at e0
       have gm':Ci l p2 [sv ⟨#[124]⟩,iv (kids.length:Int),iv 256]=some (.error 7):=by rw[gm,FM,zy rfl,zy (by omega)]
       have m3:=Dy (t:=t) (g:=Ci l) (b:=0) (nx:=4) (H:=H3) hl0 (by omega) gm';rw[hH3]at m3;simp only[Xd,Xg]at m3;rw[e0];refine Co C E rfl ?_;simp -implicitDefEqProofs [ceL,NI,hlen,m3,outL]
      .rw[zz hbig]at e0
       have gm':Ci l p2 [sv ⟨#[124]⟩,iv (kids.length:Int),iv 256]=some (.ok (bv true,p2+1)):=by rw[gm,FM,zy rfl,zz (by omega)]
       have m1:=CO (t:=t) (g:=Ci l) (b:=0) (nx:=4) (H:=H3) hl0 (by omega) gm';have m2:=CZ (t:=t) (g:=Ci l) (b:=0) (nx:=4) (H:=H3) hl0 gm';rw[hu]at m1;rw[hH3]at m1 m2;simp only[Xd,Xg]at m1 m2;refine Co C E rfl ?_;simp -implicitDefEqProofs [ctL,ceL,NI,hlen,m1,m2];refine JZ (t:=true) rfl ?_;simp only[if_true];refine Co C E rfl ?_;simp -implicitDefEqProofs [vG]
       obtain⟨H4,hH4⟩:∃H4:Nat->Ab,H4=λp=>[(3,rowOf eD 57 kids),(2,.cells 57 [.t (iv 7),.t (sv ⟨#[]⟩),.t Ad,rowP eD 3 kids]),(1,zD),(0,pr t p)]:=⟨_,rfl⟩
       have hk0:∀p,Aa (H4 p) 0=some (pr t p):=λp=>by rw[hH4];rfl
       have hk:∀p p',upd (H4 p) 0 (pr t p')=H4 p':=λp p'=>by rw[hH4];rfl
       have ev:Xb.wrap (64-(n:Int)+1)=65-(n:Int):=by
        rw[Fs (by omega) (by omega)];omega
       cases hd2:As L n (p2+1)with
       | error e=>
        rw[hd2]at e0;simp only at e0;have m3:=Dy (t:=t) (g:=Dj l n) (b:=0) (nx:=4) (hk0 (p2+1)) (by omega) (by rw[gd (by omega),hd2];rfl);rw[hH4]at m3;simp only[Xd,Xg]at m3;rw[e0];refine ZL C E ?_;simp -implicitDefEqProofs [ctL,ceL,NI,ev,m3,outL]
       | ok y=>
        obtain⟨d2,p3⟩:=y;rw[hd2]at e0;simp only at e0;have hf2:=hF _ _ _ (by rw[<-hL];exact hd2);rw[<-hL,hLl]at hf2;have m3:=CO (t:=t) (g:=Dj l n) (b:=0) (nx:=4) (r:=dT d2) (i':=p3) (hk0 (p2+1)) (by omega) (by rw[gd (by omega),hd2];rfl);have m4:=CZ (t:=t) (g:=Dj l n) (b:=0) (nx:=4) (x:=(dT d2,p3)) (hk0 (p2+1)) (by rw[gd (by omega),hd2];rfl);rw[hk]at m3;have r3:Ar eD 57 (H4 p3) 3 kids:=.inr (by rw[hH4];rfl);obtain⟨b4,H5,n5,ap,r5,ne5,hle5,hold,hb5⟩:=Gd (e:=eD) (ty:=57) (by':=72) (nx:=4) (m:=[d2]) (src:=.t (.sl 1 (A4 d2))) r3 (OV (e:=eD) (l:=[d2]) (.inr (by simp[slT,eD]))) (by simp;omega) (by simp;omega);have ap':B1 57 4 72 (H4 p3) 4 (rowP eD 3 kids) (.t (.sl 1 (A4 d2)))=some (rowP eD b4 (kids++[d2]),H5,n5):=ap;have hl2:Aa H5 2=some (.cells 57 [.t (iv 7),.t (sv ⟨#[]⟩),.t Ad,rowP eD 3 kids]):=(hold 2 (by omega) (by omega)).trans (by rw[hH4];rfl);have hl1:Aa H5 1=some zD:=(hold 1 (by omega) (by omega)).trans (by rw[hH4];rfl);have hl0':Aa H5 0=some (pr t p3):=(hold 0 (by omega) (by omega)).trans (hk0 p3);have st:=aI hl2 3 b4 (kids++[d2]);rw[hH4]at m3 m4 ap';simp only[Xd,Xg]at m3 m4 ap';refine ZL C E ?_;simp -implicitDefEqProofs [ctL,ceL,NI,ev,m3,m4,tsD,ap',st];refine Aq.mk ⟨7,kids++[d2],p3⟩ ⟨e0,hf2.2⟩ ?_
        have lk:∀k,k≠2->Aa (upd H5 2 (.cells 57 [.t (iv 7),.t (sv ⟨#[]⟩),.t Ad,rowP eD b4 (kids++[d2])])) k=Aa H5 k:=λk hk=>by rw[A9,zz hk]
        exact aH (b3:=b4) (by omega) (r5.imp id λh=>by rw[lk _ (by omega)];exact h) (by omega) (by rw[A9,zy rfl,hl2];rfl) (by rw[lk _ (by omega),hl1]) (by rw[lk _ (by omega),hl0']) rfl rfl rfl
  .rintro⟨op,kids,p⟩ ⟨hR2,hp⟩;simp only at hR2 hp
   cases hsk:Bk L p [62]with
   | error e=>
    rw[Cn,hsk]at hR2;simp only at hR2;rw[hR2];have h6':=λX Y=>h6 X Y p 3 (by omega) hp _ hsk;refine BB C E rfl ?_;simp -implicitDefEqProofs [SLt,ctL,ceL,h6',outL]
   | ok p3=>
    rw[Cn,hsk]at hR2;simp only at hR2;rw[hR2];have h5':=λX Y=>h5 X Y p 3 (by omega) hp _ hsk;refine Aw C ?_;simp -implicitDefEqProofs [SLt,ctL,h5',ld4,sd1]
    have ed:(A4 (.mk op ⟨#[]⟩ [] kids)).map PV.t=[.t (iv op),.t (sv ⟨#[]⟩),.t Ad,.t (Am eD kids)]:=by rw[FG];rfl
    exact ZO ⟨.inr rfl,_,_,Sub.refl _,rfl,by rw[dT,FG];rfl,by rw[ed],rfl⟩
end
end Go.Proofs.YtobnacghaamfoaaGreatDoor
namespace Go.Abs
open Go
section
variable {P : Program} {G : Ay}
theorem Ea.lift {f:FuncId} {ps:List PV} {H:Ab} {nx:Nat} {ch:Bn} (h:Ea P G f ps H nx ch []) (σ:Nat->Nat) (NX:Nat) (Hb:Ab)
  (hσ:∀b,b<nx->σ b<NX) (hinj:∀b c,b<nx->c<nx->σ b=σ c->b=c)
  (hH:∀q∈H,Aa Hb (σ q.1)=some (BG σ q.2)/\q.1<nx/\BU nx q.2=true) (hps:Bl nx ps=true) :
  Ea P G f (AX σ ps) Hb NX ch []:=by
 refine⟨h.1,λL w us hok hnx hargs=>?_⟩
 let L0:Loc:=⟨L.I,λb=>L.μ (σ b),nx⟩
 have hok0:Bx P G L0 H w:=by
  refine⟨hok.lt,λb x hb=>?_,λb x hb=>?_,λb b' x x' hb hb' e=>?_,λb x hb=>(hH _ (BF hb)).2.1,hok.glob⟩
  .obtain⟨h1,h2,h3⟩:=hH _ (BF hb);have:=hok.rep _ _ h1
   cases x with
   | cells ty cs=>
    obtain⟨arr,ha,hl,hc⟩:=this;refine⟨arr,ha,by rw[Na]at hl;exact hl,λj c hj=>?_⟩;obtain⟨v,hv,h1v,hrv⟩:=hc j (ren σ c) (by rw[MY,hj];rfl);exact⟨v,hv,h1v,HR c (MZ h3 hj) hrv⟩
   | iter t pos=>exact this
   | map kk es=>exact this
   | lp l x k p=>exact⟨this.1,this.2.1,HR p h3 this.2.2⟩
   | blk l o=>exact this
  .exact hok.apart _ _ (hH _ (BF hb)).1
  .exact hinj b b' (hH _ (BF hb)).2.1 (hH _ (BF hb')).2.1 (hok.inj _ _ _ _ (hH _ (BF hb)).1 (hH _ (BF hb')).1 e)
 have mine0:∀g,Fl L0 H g->Fl L Hb g:=λg ⟨b,x,hb,e⟩=>⟨σ b,_,(hH _ (BF hb)).1,e⟩
 refine(h.2 L0 w us hok0 rfl (Kb ps hps hargs)).mono ?_;rintro e w' ⟨L1,rfl,hok1,hnx1,hm1,hx1⟩
 have hmono:AO L w ⟨L1.I,L.μ,NX⟩ w':=⟨hm1.keeps,by rw[hnx];exact Xc _,λ_ _=>rfl,hm1.size,hm1.shape⟩
 refine⟨⟨L1.I,L.μ,NX⟩,rfl,⟨hok1.lt,λ_ _ hb=>(by cases hb),λ_ _ hb=>(by cases hb),λ_ _ _ _ hb=>(by cases hb),λ_ _ hb=>(by cases hb),hok1.glob⟩,rfl,hmono,?_⟩;refine⟨hx1.size,λg hg hm=>hx1.same g hg (λh2=>hm (mine0 g h2)),hx1.more,λg hg=>?_,λg ⟨b,x,hb,_⟩=>(by cases hb),hx1.shape,hx1.outer⟩;rcases hx1.new g hg with h2 | h2 | h2
 .exact .inl h2
 .exact .inr (.inl h2)
 .exact .inr (.inr (mine0 g h2))
noncomputable def NJ (ps0:List PV) (H0:Ab) (nx0:Nat) (ch:Bn) (ps:List PV) (H:Ab) (nx:Nat):Option Bn:=
 open Classical in if ps = ps0 /\ H = H0 /\ nx = nx0 then some ch else none
theorem Sg (ps:List PV) (H:Ab) (nx:Nat) (ch:Bn):NJ ps H nx ch ps H nx=some ch:=by
 unfold NJ;rw[zy ⟨rfl,rfl,rfl⟩]
theorem vJ {f:FuncId} {ps:List PV} {H:Ab} {nx:Nat} {ch:Bn} (h:Ea P G f ps H nx ch []):EOK P G f (NJ ps H nx ch):=λps1 H1 nx1 ch1 h1=>by
 unfold NJ at h1;split at h1
 .rename_i hc;obtain⟨rfl,rfl,rfl⟩:=hc;injection h1 with h1;subst h1;exact h
 .cases h1
noncomputable def hO (ps0:List PV) (H0:Ab) (nx0:Nat):Out->List PV->Ab->Nat->Option (PV×Ab×Nat)
 | .ret r H' nx'=>Ge ps0 H0 nx0 (r,H',nx')
 | .pan _=>λ_ _ _=>none
noncomputable def eO (ps0:List PV) (H0:Ab) (nx0:Nat):Out->List PV->Ab->Nat->Option Bn
 | .ret _ _ _=>λ_ _ _=>none
 | .pan ch=>NJ ps0 H0 nx0 ch
def aJ (nx0:Nat) (H0:Ab):Out->Prop
 | .ret _ H' nx'=>(∀b x,Aa H0 b=some x->b<nx0)->∀b x,Aa H' b=some x->b<nx'
 | .pan _=>True
theorem Si {f:FuncId} {ps:List PV} {H:Ab} {nx:Nat} {o:Out} (h:GA P G f ps H nx o) (hf:aJ nx H o):HOK P G f (hO ps H nx o):=by
 cases o with
 | ret r H' nx'=>exact Fu h hf
 | pan ch=>exact⟨λ_ _ _ _ _ _ h=>(by cases h),λ_ _ _ _ _ _ h=>(by cases h)⟩
theorem Sj {f:FuncId} {ps:List PV} {H:Ab} {nx:Nat} {o:Out} (h:GA P G f ps H nx o):EOK P G f (eO ps H nx o):=by
 cases o with
 | ret r H' nx'=>exact λ_ _ _ _ h=>(by cases h)
 | pan ch=>exact vJ h
end
end Go.Abs
namespace Go.Proofs.YtobnacghaamfoaaGreatDoor
open Go Go.Abs
variable {q : Gl} {t : T} {l : List Tok} {i : Nat}
theorem app_cells {α:Type} {e:Enc α} {ty ty' by' b k nx:Nat} {H:Ab} {l:List α} {cs:List PV} (h:Ar e ty H b l) (hk:Aa H k=some (.cells ty' cs)) (hc:cs.length=e.z)
  (hb:(l.length+1)*by'<=140737488355328) (hb2:l.length+1<=9223372036854775807) :
  ∃H',B1 ty e.z by' H nx (rowP e b l) (.row k 0 1 e.z)=some (.row nx 0 (l.length+1) e.z,H',nx+1)/\Aa H' nx=some (.cells ty ((l.flatMap e.enc).map .t++cs))/\∀c,c≠nx->c≠b->Aa H' c=Aa H c:=by
 have hs:DB H e.z (.row k 0 1 e.z)=some (1,cs):=by
  have tk:Yc e.z cs=cs:=Xz (by rw[hc];exact Xc _);simp[DB,hk,hc,tk]
 cases l with
 | nil=>
  simp only[Y3,Nat.zero_add,Nat.one_mul]at hb hb2;refine⟨(nx,.cells ty cs)::H,?_,by simp[Aa],λc h1 _=>by rw[A1,zz (Ne.symm h1)]⟩;simp[B1,hs,rowP,hb]
 | cons x l=>
  have h:=h.resolve_left (by simp)
  have hl:(((x::l).flatMap e.enc).map PV.t).length=(x::l).length*e.z:=by rw[Xt,Jc]
  refine⟨(nx,.cells ty (((x::l).flatMap e.enc).map .t++cs))::rem H b,?_,by simp[Aa],λc h1 h2=>by rw[A1,zz (Ne.symm h1),Cr,zz h2]⟩;simp only[B1,hs,rowP,h,rowOf,hl,true_and,zy (And.intro hb hb2)]
theorem rowP_snoc {α:Type} (e:Enc α) (b:Nat) (l:List α) (x:α):rowP e b (l++[x]) = .row b 0 (l.length+1) e.z:=by
 cases l with
 | nil=>rfl
 | cons y l=>simp[rowP]
theorem vK {H:Ab} {F:List Nat} {b o n z:Nat} (hb:b∉F):B5 H F (.row b o n z) = .row b o n z:=by
 unfold B5;split
 .rename_i x F' hx;simp only[toT]at hx;split at hx
  .split at hx
   .obtain⟨ts,_,e⟩:=AR hx;injection e with e1 e2;subst e2;rw[zz];simpa using hb
   .cases hx
  .cases hx
 .rfl
theorem Mb {α:Type} {e:Enc α} {ty b:Nat} {H:Ab} {F:List Nat} {l:List α} (h:Ar e ty H b l) (hb:b∈F):B5 H F (rowP e b l) = .t (Am e l):=by
 unfold B5;rw[h.toT]
 have:(FF b l).all (F.contains ·)=true:=by cases l<;>simp[FF,hb]
 simp only[this,if_true]
theorem look_remAll':∀(F:List Nat) (H:Ab) (k:Nat),k∉F->Aa (Dl H F) k=Aa H k
 | [],_,_,_=>rfl
 | b::F,H,k,hk=>by
  have e:Aa (Dl H (b::F)) k=Aa (Dl (rem H b) F) k:=rfl;rw[e,look_remAll' F _ _ (λh=>hk (X5 _ h)),Cr,zz (λe=>hk (by rw[e];exact X6))]
theorem NL {H:Ab} {F:List Nat} {k:Nat} {r:Row} (h:Aa H k=some r) (hk:k∉F):Aa ((Dl H F).map λq=>(q.1,Cy H F q.2)) k=some (Cy H F r):=by
 rw[Fo,look_remAll' F H k hk,h,Xl]
theorem vL {B nx n p kn kd:Nat} {v:Int} {env:List (Nat×PV)} {H:Ab} {l:List Ds} {path:List ByteArray} {d:Ds} (hB:B<=2)
  (hn:Aa H kn=some (.cells 57 ((l.flatMap eD.enc).map .t++[.t (iv 5),.t (sv ⟨#[]⟩),rowP Aj 3 path,.row kd 0 1 4])))
  (h3:Ar Aj 9 H 3 path) (hd:Aa H kd=some (rowOf eD 57 [d])) (h0:Aa H 0=some (pr t p)) (k1:3<kn) (k2:3<kd) (k3:kn≠kd)
  (e1:Aa env 1=some (.row kn 0 (l.length+1) 4)) (e2:Aa env 2=some (.t (iv v))) (e0:Aa env 0=some (.ptr 0 0)) :
  Sub Xa (G q) B ⟨env,H,nx,n⟩ ⟨[(2,.t (iv v)),(1,rowP eD 2 (l++[.mk 5 ⟨#[]⟩ path [d]])),(0,.ptr 0 0)],[(0,pr t p)]++Ax eD 57 2 (l++[.mk 5 ⟨#[]⟩ path [d]]),3,n⟩:=by
 have hs:Sub Xa (G q) B ⟨env,H,nx,n⟩ (Ac.frz ⟨env,H,nx,n⟩ [3,kd]):=LF [3,kd]
 have n1:kn∉[3,kd]:=by simp;omega
 have n0:0∉[3,kd]:=by simp;omega
 refine hs.trans (Dv (k:=kn) (R:=[(0,pr t p)]) (.inr ?_) (by omega) hB ?_ ?_)
 .refine(NL hn n1).trans ?_;have f1:B5 H [3,kd] (rowP Aj 3 path) = .t (Am Aj path):=Mb h3 (by simp);have f2:B5 H [3,kd] (.row kd 0 1 4) = .t (Am eD [d]):=Mb (e:=eD) (ty:=57) (b:=kd) (l:=[d]) (.inr hd) (by simp)
  have f3:∀cs:List T,(cs.map PV.t).map (B5 H [3,kd])=cs.map PV.t:=λcs=>by rw[X7];rfl
  simp only[Cy,Yu,f3,Xd,Xg,f1,f2,LS,rowOf,List.flatMap_append,List.flatMap_cons,List.flatMap_nil,Ye];show _=some (Row.cells _ (_++(A4 (.mk 5 ⟨#[]⟩ path [d])).map PV.t));rw[FG];rfl
 .intro x hx;simp only[Xq]at hx;subst hx;refine⟨(NL h0 n0).trans ?_,by show 0<3;omega,by show 0≠2;omega,by show 0≠kn;omega,rfl⟩;simp only[Cy,Xd,Xg,LS,BG,AX,ren]
 .intro x hx;simp only[Ac.frz,Fo];simp only[Xi,Yq,or_false]at hx;rcases hx with rfl | rfl | rfl
  .rw[e2];exact⟨rfl,rfl⟩
  .refine⟨?_,Ct _ _ _ _ (by omega)⟩;rw[e1,Xl,vK n1,Cs,zy rfl,rowP_snoc];rfl
  .rw[e0];exact⟨by simp[B5,toT,ren],rfl⟩
def Et (t:T):Res (List Ds)->Out
 | .error e=>.pan (Cv e)
 | .ok (parts,p)=>.ret (rowP eD 2 parts) ([(0,pr t p)]++Ax eD 57 2 parts) 3
abbrev KM (q:Gl) (t:T) (f:FuncId) (i:Nat) (parts:List Ds) (lv:Int) (r:Res (List Ds)):Prop:=
 GA Xa (G q) f [.ptr 0 0,rowP eD 1 parts,.t (iv lv)] ([(0,pr t i)]++Ax eD 57 1 parts) 2 (Et t r)
def Fe (t:T) (H:Ab) (b NX:Nat) (parts parts':List Ds) (p:Nat):Ab:=(NX,rowOf eD 57 parts')::upd (if parts.isEmpty then H else rem H b) 0 (pr t p)
def Ip (t:T) (H:Ab) (b NX:Nat) (parts:List Ds):Res (List Ds)->Out
 | .error e=>.pan (Cv e)
 | .ok (parts',p)=>.ret (rowP eD NX parts') (Fe t H b NX parts parts' p) (NX+1)
theorem KM.lift {f:FuncId} {parts:List Ds} {lv:Int} {r:Res (List Ds)} (h:KM q t f i parts lv r) {H:Ab} {b NX:Nat} (h0:Aa H 0=some (pr t i)) (hb:Ar eD 57 H b parts) (hb0:0<b) (hlt:b<NX)
  (hne:∀parts' p,r = .ok (parts',p)->parts'≠[]):GA Xa (G q) f [.ptr 0 0,rowP eD b parts,.t (iv lv)] H NX (Ip t H b NX parts r):=by
 obtain⟨σ,hσ⟩:∃σ:Nat->Nat,σ=λx=>if x=1 then b else x:=⟨_,rfl⟩
 have s0:σ 0=0:=by rw[hσ];rfl
 have s1:σ 1=b:=by rw[hσ];rfl
 have a1:∀x,x<2->σ x<NX:=λx hx=>by
  obtain rfl | rfl:x=0\/x=1:=by omega
  .rw[s0];omega
  .rw[s1];exact hlt
 have a2:∀x y,x<2->y<2->σ x=σ y->x=y:=λx y hx hy e=>by
  obtain rfl | rfl:x=0\/x=1:=by omega
  .obtain rfl | rfl:y=0\/y=1:=by omega
   .rfl
   .rw[s0,s1]at e;omega
  .obtain rfl | rfl:y=0\/y=1:=by omega
   .rw[s0,s1]at e;omega
   .rfl
 have a3:∀x∈[(0,pr t i)]++Ax eD 57 1 parts,Aa H (σ x.1)=some (BG σ x.2)/\x.1<2/\BU 2 x.2=true:=λx hx=>by
  rcases Xp.1 hx with hx | hx
  .simp only[Xq]at hx;subst hx;refine⟨?_,by show 0<2;omega,rfl⟩;show Aa H (σ 0)=_;rw[s0,h0];rfl
  .obtain⟨hn,rfl⟩:=EU hx;refine⟨?_,by show 1<2;omega,Ia _ _ _ _⟩;show Aa H (σ 1)=_;rw[s1,HZ];exact hb.resolve_left hn
 have a4:Bl 2 [.ptr 0 0,rowP eD 1 parts,.t (iv lv)]=true:=by simp[Bl,under,Ct]
 have ea:AX σ [.ptr 0 0,rowP eD 1 parts,.t (iv lv)]=[.ptr 0 0,rowP eD b parts,.t (iv lv)]:=by simp only[AX,ren,Cs,s0,s1]
 cases r with
 | error e=>
  have h2:=Ea.lift (show Ea _ _ _ _ _ _ _ _ from h) σ NX H a1 a2 a3 a4;rw[ea]at h2;exact h2
 | ok x=>
  obtain⟨parts',p⟩:=x;have hp':=hne _ _ rfl
  have h2:=AB.lift (show AB _ _ _ _ _ _ _ _ _ from h) σ NX H (Fe t H b NX parts parts' p) a1 a2 (by omega) a3 a4 (Ct _ _ _ _ (by omega))
   (λx hx=>by
    rcases Xp.1 hx with hx | hx
    .simp only[Xq]at hx;subst hx;exact⟨by show 0<3;omega,rfl⟩
    .obtain⟨_,rfl⟩:=EU hx
     exact⟨by show 2<3;omega,Ia _ _ _ _⟩)
   (λk x hk=>by
    unfold Fe at hk;rw[A1]at hk;split at hk
    .rename_i e;injection hk with hk;subst hk;refine .inl ⟨2,rowOf eD 57 parts',?_,by simp[Ei,<-e],by rw[HZ]⟩
     exact(Ar.head' eD 57 2 parts').cons (k:=0) (by omega) |>.resolve_left hp'
    .rw[A9]at hk;split at hk
     .rename_i e;refine .inl ⟨0,pr t p,rfl,by rw[e];simp[Ei,s0],?_⟩;obtain⟨_,_,rfl⟩:=AR hk;rfl
     .rename_i hk0;refine .inr ?_
      cases parts with
      | nil=>
       refine⟨hk,λb0 x0 h0=>?_⟩;simp only[Ax,Ye,Aa]at h0;split at h0
       .rename_i e;rw[<-e,s0];exact λe=>hk0 e.symm
       .cases h0
      | cons y r=>
       simp only[List.isEmpty_cons,Xk,if_false]at hk;rw[Cr]at hk;split at hk
       .cases hk
       .rename_i hkb;refine⟨hk,λb0 x0 h0=>?_⟩;simp only[Ax,Xv,Xw,Aa]at h0;split at h0
        .rename_i e;rw[<-e,s0];exact λe=>hk0 e.symm
        .split at h0
         .rename_i e;rw[<-e,s1];exact λe=>hkb e.symm
         .cases h0)
  rw[ea]at h2
  have e2:ren (Ei σ 2 NX) (rowP eD 2 parts')=rowP eD NX parts':=by rw[Cs];rfl
  rw[e2]at h2;exact h2
theorem Sl {H:Ab} {b NX p:Nat} {parts parts':List Ds}:Ar eD 57 (Fe t H b NX parts parts' p) NX parts':=.inr (by unfold Fe;rw[A1,zy rfl])
theorem Sm {H:Ab} {b NX p:Nat} {parts parts':List Ds} {R:Row} (h0:Aa H 0=some R) (hb:0<b) (hn:0<NX):Aa (Fe t H b NX parts parts' p) 0=some (pr t p):=by
 unfold Fe;rw[A1,zz (by omega),A9,zy rfl];split
 .rw[h0];rfl
 .rw[Cr,zz (by omega),h0];rfl
theorem aK {H:Ab} {b NX p k:Nat} {parts parts':List Ds} (h0:k≠0) (hb:k≠b\/parts=[]) (hn:k≠NX):Aa (Fe t H b NX parts parts' p) k=Aa H k:=by
 unfold Fe;rw[A1,zz (Ne.symm hn),A9,zz h0];rcases hb with hb | rfl
 .split
  .rfl
  .rw[Cr,zz hb]
 .rfl
theorem Sn {H:Ab} {b NX:Nat} {parts:List Ds} {r:Res (List Ds)} (h0:0<NX):aJ NX H (Ip t H b NX parts r):=by
 cases r with
 | error e=>trivial
 | ok x=>
  intro hf k y hk;unfold Fe at hk;rw[A1]at hk;split at hk
  .omega
  .rw[A9]at hk;split at hk
   .omega
   .split at hk
    .have:=hf k y hk;omega
    .rw[Cr]at hk;split at hk
     .cases hk
     .have:=hf k y hk;omega
variable {q : Gl} {t : T} {l : List Tok} {i : Nat}
section
variable {α β : Type} {P : Program} {G : Ay} {B : Nat}
theorem sub_rowR2 {e:Enc α} {e':Enc β} {ty ty' b c k nx nx' n:Nat} {l:List α} {l':List β} {env env':List (Nat×PV)} {H R:Ab} (h:Ar e ty H k l) (h':Ar e' ty' H c l') (hb:b<nx') (hB:B<=b) (hc:c<nx') (cb:c≠b) (ck:c≠k)
  (hR:∀q∈R,Aa H q.1=some (BG (λx=>if x=b then k else x) q.2)/\q.1<nx'/\q.1≠b/\q.1≠k/\BU nx' q.2=true)
  (he:∀q∈env',Aa env q.1=some (ren (λx=>if x=b then k else x) q.2)/\under nx' q.2=true) :
  Sub P G B ⟨env,H,nx,n⟩ ⟨env',R++(Ax e' ty' c l'++Ax e ty b l),nx',n⟩:=by
 rw[<-Y2];refine Dv h hb hB (λq hq=>?_) he;rcases Xp.1 hq with hq | hq
 .exact hR q hq
 .obtain⟨hn,rfl⟩:=EU hq;simp only[HZ,Ia];exact⟨h'.resolve_left hn,hc,cb,ck,trivial⟩
theorem sub_env {nx n:Nat} {env env':List (Nat×PV)} {H:Ab} (he:∀q∈env',Aa env q.1=some q.2):Sub P G B ⟨env,H,nx,n⟩ ⟨env',H,nx,n⟩:=by
 intro L a w hi;refine⟨L,⟨hi.heap,hi.nx,hi.base,hi.size,hi.defers,λk p h=>hi.env k p (he _ (BF h))⟩,?_,λ_ _=>rfl⟩;exact⟨Xc _,λ_ _ _=>rfl,λ_ h=>h,λ_ h=>.inl h,λg ⟨b,r,h,e⟩=>.inr ⟨b,r,h,e⟩,BT.refl w,BL.refl w⟩
theorem Ar.right {e:Enc α} {ty b:Nat} {H R:Ab} {l:List α} (h:Ar e ty H b l) (hR:∀q∈R,q.1≠b):Ar e ty (R++H) b l:=by
 induction R with
 | nil=>exact h
 | cons q R ih=>exact Ar.cons (ih λx hx=>hR x (X5 _ hx)) (hR q X6)
theorem rowH_ne {e:Enc α} {ty b c:Nat} {l:List α} (h:c≠b):∀q∈Ax e ty c l,q.1≠b:=λq hq=>by
 obtain⟨_,rfl⟩:=EU hq;exact h
end
section
variable {L : List KT} (hL : L = l.map kt) (hlim : l.length <= 1000000) {H : Ab} {p nx : Nat} (h0 : Aa H 0 = some (pr t p)) (hnx : 0 < nx) (hp : p <= l.length)
include hL hlim h0 hp
omit h0 in
theorem So (k:Int):Hj l p [iv k]=some (Cw sv (AE L p k)):=by rw[hL];exact zy (by omega)
include hnx in
theorem P5 {k:Int} {s:ByteArray} {p':Nat} (h:AE L p k = .ok (s,p')):hP t (Hj l) [.ptr 0 0,.t (iv k)] H nx=some (.t (sv s),upd H 0 (pr t p'),nx):=
 CO (ts:=[iv k]) h0 hnx (by rw[So hL hlim hp,h];rfl)
theorem P7 {k:Int} {s:ByteArray} {p':Nat} (h:AE L p k = .ok (s,p')):eP t (Hj l) [.ptr 0 0,.t (iv k)] H nx=none:=
 CZ (ts:=[iv k]) (x:=(sv s,p')) h0 (by rw[So hL hlim hp,h];rfl)
include hnx in
theorem P8 {k e:Int} (h:AE L p k = .error e):eP t (Hj l) [.ptr 0 0,.t (iv k)] H nx=some (Cv e):=
 Dy (ts:=[iv k]) h0 hnx (by rw[So hL hlim hp,h];rfl)
omit h0 in
theorem NM (s:ByteArray) (n m:Int):Ci l p [sv s,iv n,iv m]=some (FM (Au L p s.data.toList) n m p):=by rw[hL];exact zy (by omega)
include hnx in
theorem Sp {s:ByteArray} {n m:Int} (h:Au L p s.data.toList=false):hP t (Ci l) [.ptr 0 0,.t (sv s),.t (iv n),.t (iv m)] H nx=some (.t (bv false),upd H 0 (pr t p),nx):=
 CO (ts:=[sv s,iv n,iv m]) h0 hnx (by rw[NM hL hlim hp,h];rfl)
theorem Sq {s:ByteArray} {n m:Int} (h:Au L p s.data.toList=false):eP t (Ci l) [.ptr 0 0,.t (sv s),.t (iv n),.t (iv m)] H nx=none:=
 CZ (ts:=[sv s,iv n,iv m]) (x:=(bv false,p)) h0 (by rw[NM hL hlim hp,h];rfl)
include hnx in
theorem Sr {s:ByteArray} {n m:Int} (h:Au L p s.data.toList=true) (hm:¬m<=n):hP t (Ci l) [.ptr 0 0,.t (sv s),.t (iv n),.t (iv m)] H nx=some (.t (bv true),upd H 0 (pr t (p+1)),nx):=
 CO (ts:=[sv s,iv n,iv m]) h0 hnx (by rw[NM hL hlim hp,h,FM,zy rfl,zz hm])
theorem Ss {s:ByteArray} {n m:Int} (h:Au L p s.data.toList=true) (hm:¬m<=n):eP t (Ci l) [.ptr 0 0,.t (sv s),.t (iv n),.t (iv m)] H nx=none:=
 CZ (ts:=[sv s,iv n,iv m]) (x:=(bv true,p+1)) h0 (by rw[NM hL hlim hp,h,FM,zy rfl,zz hm])
include hnx in
theorem St {s:ByteArray} {n m:Int} (h:Au L p s.data.toList=true) (hm:m<=n):eP t (Ci l) [.ptr 0 0,.t (sv s),.t (iv n),.t (iv m)] H nx=some (Cv 7):=
 Dy (ts:=[sv s,iv n,iv m]) h0 hnx (by rw[NM hL hlim hp,h,FM,zy rfl,zy hm])
omit h0 in
theorem Su (s:ByteArray):F0 l p [sv s]=some (skR (Bk L p s.data.toList)):=by rw[hL];exact zy (by omega)
include hnx in
theorem vM {s:ByteArray} {p':Nat} (h:Bk L p s.data.toList = .ok p'):hP t (F0 l) [.ptr 0 0,.t (sv s)] H nx=some (.t (.tu []),upd H 0 (pr t p'),nx):=
 CO (ts:=[sv s]) h0 hnx (by rw[Su hL hlim hp,h];rfl)
theorem vN {s:ByteArray} {p':Nat} (h:Bk L p s.data.toList = .ok p'):eP t (F0 l) [.ptr 0 0,.t (sv s)] H nx=none:=
 CZ (ts:=[sv s]) (x:=(.tu [],p')) h0 (by rw[Su hL hlim hp,h];rfl)
include hnx in
theorem vO {s:ByteArray} {e:Int} (h:Bk L p s.data.toList = .error e):eP t (F0 l) [.ptr 0 0,.t (sv s)] H nx=some (Cv e):=
 Dy (ts:=[sv s]) h0 hnx (by rw[Su hL hlim hp,h];rfl)
omit hlim h0 in
theorem Sv (n:Nat):Dj l n p [iv (65-(n:Int))]=some (Cw dT (As L n p)):=by rw[P2 hp,hL]
omit hlim in
include hnx in
theorem vP {n:Nat} {d:Ds} {p':Nat} (h:As L n p = .ok (d,p')):hP t (Dj l n) [.ptr 0 0,.t (iv (65-(n:Int)))] H nx=some (.t (dT d),upd H 0 (pr t p'),nx):=
 CO (ts:=[iv (65-(n:Int))]) h0 hnx (by rw[Sv hL hp,h];rfl)
omit hlim in
theorem vQ {n:Nat} {d:Ds} {p':Nat} (h:As L n p = .ok (d,p')):eP t (Dj l n) [.ptr 0 0,.t (iv (65-(n:Int)))] H nx=none:=
 CZ (ts:=[iv (65-(n:Int))]) (x:=(dT d,p')) h0 (by rw[Sv hL hp,h];rfl)
omit hlim in
include hnx in
theorem vR {n:Nat} {e:Int} (h:As L n p = .error e):eP t (Dj l n) [.ptr 0 0,.t (iv (65-(n:Int)))] H nx=some (Cv e):=
 Dy (ts:=[iv (65-(n:Int))]) h0 hnx (by rw[Sv hL hp,h];rfl)
end
section
variable (a b c d : PV) (H : Ab)
theorem bsS (s:ByteArray) (k:Nat):De 9 1 [.string ⟨#[]⟩] 1 [(0,.t (sv s))] k=some (.row k 0 1 1,.cells 9 [.t (sv s)]):=rfl
theorem bsA (k:Nat):De 57 4 [.int .i64 0,.string ⟨#[]⟩,.slice none 0 0,.slice none 0 0] 1 [(0,.ag [a,b,c,d])] k=some (.row k 0 1 4,.cells 57 [a,b,c,d]):=rfl
theorem bdP {Φ:AC} {nx k:Nat} {path:List ByteArray} (h:path≠[]):Ah Φ H nx (.build [(0,1),(1,1),(2,1),(3,1)] [.int .i64 0,.string ⟨#[]⟩,.slice none 0 0,.slice none 0 0] [0,2,3]) [.t (iv 5),rowP Aj 3 path,.row k 0 1 4] =
  some (.ag [.t (iv 5),.t (sv ⟨#[]⟩),rowP Aj 3 path,.row k 0 1 4],H,nx):=by
 cases path with
 | nil=>exact absurd rfl h
 | cons x r=>rfl
end
variable {q : Gl}
abbrev Iq (op:Int) (name:ByteArray) (tp tk:T):Row:=.cells 57 [.t (iv op),.t (sv name),.t tp,.t tk]
theorem aL (op:Int) (name:ByteArray) (tp tk:T):B7 (.t (.ag [iv op,sv name,tp,tk]))=some [.t (iv op),.t (sv name),.t tp,.t tk]:=rfl
section
variable (H R : Ab) (op : Int) (name : ByteArray) (tp tk : T)
theorem dl0:Ao false 1 ((0,Iq op name tp tk)::R) (.ptr 0 0)=some (.t (iv op)):=rfl
end
theorem aM {tk:T} {kids:List Ds} (h:IsK tk kids) {i:Nat} {x:Ds} (hx:kids[i]?=some x):∃p c,Bm 4 (.t tk) (.t (.v (.int .i64 (i:Int))))=some (.t (.pt p))/\(∀H,Ao true 4 H (.t (.pt p))=some (.t (.ag c)))/\Cm x c:=by
 obtain⟨ci,r,h1,h2⟩:=h.iaddr hx .i64;refine⟨_,ci,h1,λH=>?_,h2⟩;have:=h2.len;simp only[Ao,Xj,this,if_true];rw[zy (by omega),show(4:Nat)=ci.length by omega,List.take_left]
def Jw (n:Nat) (t u:T) (j:Nat):Ac:=⟨[(5,.t (iv (j:Int))),(1,.t u),(0,.t t)],[],0,n⟩
def Jx (n:Nat) (t u:T):Ac:=⟨[(1,.t u),(0,.t t)],[],0,n⟩
theorem BN:Ctx Xa (G q) (orc []):=A5.nil.ctx mixed
theorem vT {t u:T} {l:List ByteArray} (ht:IsS Aj t l) (hu:IsS Aj u l) (hb:l.length<=9223372036854775806):AA Xa (G q) 20 [t,u] (· = bv true):=by
 refine nV.call rfl ?_;(conv in Vz=>cbv);have l1:=ht.len;have l2:=hu.len;refine Az BN ?_;simp -implicitDefEqProofs;refine Az BN ?_;simp -implicitDefEqProofs [l1,l2];refine BM (α:=Unit) (λ_=>Jx 26 t u) (λ_=>True) (λ_=>rfl) ?_ ?_
 .refine Az BN ?_;simp -implicitDefEqProofs;refine BI ?_;refine GW (Jw 26 t u) l.length (λ_=>rfl) ?_ rfl ?_ ?_
  .refine AJ rfl rfl ?_ ?_<;>simp -implicitDefEqProofs [Jw]
  .intro j hj;refine Aw BN ?_
   obtain⟨x,hx⟩:∃x,l[j]?=some x:=⟨_,Xe hj⟩
   have i1:Bm 1 (.t t) (.t (iv (j:Int)))=some (.t (.pt (Aj.enc x++AY Aj l j))):=ht.iaddr hx .i64;have i2:Bm 1 (.t u) (.t (iv (j:Int)))=some (.t (.pt (Aj.enc x++AY Aj l j))):=hu.iaddr hx .i64;have ld:Ao false 1 [] (.t (.pt (Aj.enc x++AY Aj l j)))=some (.t (sv x)):=rfl;have e1:Xb.wrap ((j:Int)+1)=((j+1:Nat):Int):=AH (by omega) (by omega);simp -implicitDefEqProofs [Jw,l1,hj,i1,i2,ld,e1];refine AJ rfl rfl ?_ ?_<;>simp -implicitDefEqProofs
  .refine Aw BN ?_;simp -implicitDefEqProofs [Jw,l1];exact Aq.mk () trivial (AJ rfl rfl (by simp -implicitDefEqProofs [Jx]) (by simp -implicitDefEqProofs [Jx]))
 .rintro _ _;refine Aw BN ?_;simp -implicitDefEqProofs [Jx]
noncomputable def Jy (ts:List T):Option T:=g2 (tSl Aj) (tSl Aj) (λa b=>open Classical in if a=b/\a.length<=9223372036854775806 then some (bv true)else none) ts
theorem NN:GOK Xa (G q) 20 Jy:=
 DY λa b x y r ha hb hr=>by
  split at hr
  .rename_i hc;obtain⟨rfl,hl⟩:=hc;injection hr with hr;subst hr;exact vT ha hb hl
  .cases hr
theorem KA {t u:T} {l:List ByteArray} (ht:IsS Aj t l) (hu:IsS Aj u l) (hl:l.length<=9223372036854775806):Jy [t,u]=some (bv true):=by
 show g2 _ _ _ _=_;rw[E2 (τ:=tSl Aj) (σ:=tSl Aj) ht hu,zy ⟨rfl,hl⟩]
inductive Eu:Ds->Prop where
 | mk (op:Int) (name:ByteArray) (path:List ByteArray) (kids:List Ds):path.length<=1000->kids.length<=1000->(∀k∈kids,Eu k)->Eu (.mk op name path kids)
theorem Eu.parts {op:Int} {name:ByteArray} {path:List ByteArray} {kids:List Ds} (h:Eu (.mk op name path kids)):path.length<=1000/\kids.length<=1000/\∀k∈kids,Eu k:=by
 cases h with
 | mk _ _ _ _ h1 h2 h3=>exact⟨h1,h2,h3⟩
noncomputable def gSd (m:Nat) (ts:List T):Option T:=g2 tD tD (λa b=>open Classical in if a=b/\Eu a/\a.depth<=m then some (bv true)else none) ts
noncomputable def PA (m:Nat) (ts:List T):Option T:=g2 tK tK (λa b=>open Classical in if a=b/\a.length<=1000/\(∀k∈a,Eu k)/\Jf a<=m then some (bv true)else none) ts
theorem aN {m:Nat} {c c':List T} {d:Ds} (h:Cm d c) (h':Cm d c') (hf:Eu d) (hd:d.depth<=m):gSd m [.ag c,.ag c']=some (bv true):=by
 show g2 _ _ _ _=_;rw[E2 (τ:=tD) (σ:=tD) ⟨c,rfl,h⟩ ⟨c',rfl,h'⟩,zy ⟨rfl,hf,hd⟩]
theorem aO {m:Nat} {t u:T} {l:List Ds} (h:IsK t l) (h':IsK u l) (hl:l.length<=1000) (hf:∀k∈l,Eu k) (hd:Jf l<=m):PA m [t,u]=some (bv true):=by
 show g2 _ _ _ _=_;rw[E2 (τ:=tK) (σ:=tK) h h',zy ⟨rfl,hl,hf,hd⟩]
theorem vU {m:Nat} (hrec:GOK Xa (G q) 84 (gSd m)) {t u:T} {l:List Ds} (h:IsK t l) (h':IsK u l) (hl:l.length<=1000) (hf:∀k∈l,Eu k) (hd:Jf l<=m) :
  AA Xa (G q) 85 [t,u] (· = bv true):=by
 have C:=(A5.cons hrec .nil).ctx mixed;refine oS.call rfl ?_;(conv in VH=>cbv);have l1:=h.len;have l2:=h'.len;refine Az C ?_;simp -implicitDefEqProofs;refine Az C ?_;simp -implicitDefEqProofs [l1,l2];refine BM (α:=Unit) (λ_=>Jx 27 t u) (λ_=>True) (λ_=>rfl) ?_ ?_
 .refine Az C ?_;simp -implicitDefEqProofs;refine BI ?_;refine GW (Jw 27 t u) l.length (λ_=>rfl) ?_ rfl ?_ ?_
  .refine AJ rfl rfl ?_ ?_<;>simp -implicitDefEqProofs [Jw]
  .intro j hj;refine Aw C ?_
   obtain⟨x,hx⟩:∃x,l[j]?=some x:=⟨_,Xe hj⟩
   obtain⟨p,c,i1,ld1,hc⟩:=aM h hx;obtain⟨p',c',i2,ld2,hc'⟩:=aM h' hx;have hmem:=X1 hx;have hg:=aN hc hc' (hf x hmem) (Yn (Vp hmem) hd);have e1:Xb.wrap ((j:Int)+1)=((j+1:Nat):Int):=AH (by omega) (by omega);simp -implicitDefEqProofs [Jw,l1,hj,i1,i2,ld1,ld2,hg,e1];refine AJ rfl rfl ?_ ?_<;>simp -implicitDefEqProofs
  .refine Aw C ?_;simp -implicitDefEqProofs [Jw,l1];exact Aq.mk () trivial (AJ rfl rfl (by simp -implicitDefEqProofs [Jx]) (by simp -implicitDefEqProofs [Jx]))
 .rintro _ _;refine Aw C ?_;simp -implicitDefEqProofs [Jx]
section
variable (R : Ab) (X : Row) (op : Int) (name : ByteArray) (tp tk : T)
theorem el0:Ao false 1 ((1,Iq op name tp tk)::R) (.ptr 1 0)=some (.t (iv op)):=rfl
theorem el1:Ao false 1 ((1,Iq op name tp tk)::R) (.ptr 1 1)=some (.t (sv name)):=rfl
theorem el2:Ao false 1 ((1,Iq op name tp tk)::R) (.ptr 1 2)=some (.t tp):=rfl
theorem el3:Ao false 1 ((1,Iq op name tp tk)::R) (.ptr 1 3)=some (.t tk):=rfl
theorem fl0:Ao false 1 ((1,X)::(0,Iq op name tp tk)::R) (.ptr 0 0)=some (.t (iv op)):=rfl
theorem fl1:Ao false 1 ((1,X)::(0,Iq op name tp tk)::R) (.ptr 0 1)=some (.t (sv name)):=rfl
theorem fl2:Ao false 1 ((1,X)::(0,Iq op name tp tk)::R) (.ptr 0 2)=some (.t tp):=rfl
theorem fl3:Ao false 1 ((1,X)::(0,Iq op name tp tk)::R) (.ptr 0 3)=some (.t tk):=rfl
end
theorem vV {m:Nat} (hrec:GOK Xa (G q) 85 (PA m)) {c c':List T} {d:Ds} (h:Cm d c) (h':Cm d c') (hf:Eu d) (hd:d.depth<=m+1) :
  AA Xa (G q) 84 [.ag c,.ag c'] (· = bv true):=by
 cases d with
 | mk op name path kids=>
 obtain⟨tp,tk,rfl,hp,hk⟩:=h.parts;obtain⟨tp',tk',rfl,hp',hk'⟩:=h'.parts;obtain⟨f1,f2,f3⟩:=hf.parts;rw[Ds.depth]at hd;have C:=(A5.cons hrec (.cons NN .nil)).ctx mixed;have g1:=KA hp hp' (by omega);have g2:=aO (m:=m) hk hk' f2 f3 (by omega);refine oR.call rfl ?_;refine Aw C ?_
 (conv in VG=>cbv);simp -implicitDefEqProofs [aL,fl0,fl1,fl2,fl3,el0,el1,el2,el3,g1,g2]
theorem aP (m:Nat) (hrec:GOK Xa (G q) 84 (gSd m)):GOK Xa (G q) 85 (PA m):=
 DY λa b x y r ha hb hr=>by
  split at hr
  .rename_i hc;obtain⟨rfl,h1,h2,h3⟩:=hc;injection hr with hr;subst hr;exact vU hrec ha hb h1 h2 h3
  .cases hr
theorem hSd:∀m,GOK Xa (G q) 84 (gSd m)
 | 0=>DY λa b x y r ha hb hr=>by
  split at hr
  .rename_i hc;obtain⟨rfl,h1,h2⟩:=hc
   cases x with
   | mk _ _ _ _=>rw[Ds.depth]at h2;omega
  .cases hr
 | m+1=>DY λa b x y r ha hb hr=>by
  split at hr
  .rename_i hc;obtain⟨rfl,h1,h2⟩:=hc;injection hr with hr;subst hr;obtain⟨c,rfl,hcx⟩:=ha;obtain⟨c',rfl,hcx'⟩:=hb;exact vV (aP m (hSd m)) hcx hcx' h1 h2
  .cases hr
theorem vX (m:Nat):GOK Xa (G q) 85 (PA m):=aP m (hSd m)
end Go.Proofs.YtobnacghaamfoaaGreatDoor
