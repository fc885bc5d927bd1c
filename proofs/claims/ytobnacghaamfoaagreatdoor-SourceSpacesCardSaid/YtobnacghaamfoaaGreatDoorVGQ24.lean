/- Auxiliary facts. -/
import Derived.Test.YtobnacghaamfoaaGreatDoorVGQ22
import Derived.Lib.CountLaws
import Derived.Lib.CutLaws
set_option linter.unusedSimpArgs false
set_option maxRecDepth 100000
set_option maxHeartbeats 0
set_option linter.unusedVariables false
open Go.Proofs.Tryz renaming prog->Xa
open Nat renaming le_refl->Xb,lt_of_lt_of_le->Xt,add_sub_cancel_left->Ya,lt_or_ge->Yb,zero_le->Yg,lt_succ_self->Yn,le_succ->Yq
open Go.IntKind renaming i64->Xc
open List renaming map_cons->Xd,getElem?_eq_some_iff->Xe,getElem?_eq_getElem->Xf,map_nil->Xg,length_append->Xh,getElem?_map->Xj,length_map->Xl,mem_cons->Xn,map_map->Xo,mem_singleton->Xp,cons->Xr,length_drop->Xs,cons_append->Xu,nil_append->Xv,length_cons->Xw,all_eq_true->Xx,drop_eq_getElem_cons->Xy,mem_append->Xz,mem_cons_of_mem->X0,mem_cons_self->X6,length_singleton->X7,take_of_length_le->X8,takeWhile_cons->X9,filterMap_cons->Yd,take->Ye,isEmpty->Yf,mem_of_getElem?->Yh,getElem?_drop->Yk,isPrefixOf_iff_prefix->Ym,getElem?_take->Yp,not_mem_nil->Yr,getElem_of_mem->Ys,takeWhile_sublist->Yt,drop_eq_nil_of_le->Yw,length_take->Yx,head?_cons->Yz,append_assoc->Y3,length_nil->Y4,mem_zipIdx_iff_getElem?->Y9,mem_filter->Za,foldl_cons->Zb,foldl_nil->Zc,filterMap->Zd,filter_cons->Ze,flatMap_cons->Zf,append_nil->Zh,mem_map->Zi
open Bool renaming and_eq_true->Xi,false_eq_true->Xk,or_eq_true->Yc,true_and->Yi,or_false->Yj,or_self->Yl,not_false->Yu,false_and->Yv,or_eq_true_iff->Y1,false_or->Y7,not_eq_true'->Y8
open Option renaming map_eq_some_iff->Xm,map_some->Xq,any_some->Y0
open Array renaming getElem?_eq_getElem->Yo,replicate->Y5,getD_eq_getD_getElem?->Y6
open UInt8 renaming toNat_inj->Yy
namespace Go.Proofs.YtobnacghaamfoaaGreatDoor
open Go Go.Abs
def C6:List UInt8->List UInt8->List (List UInt8)
 | acc,[]=>[acc]
 | acc,c::r=>if c=32 then acc::C6 [] r else C6 (acc++[c]) r
theorem Tf:∀(l acc:List UInt8),32∉l->C6 acc l=[acc++l]
 | [],acc,_=>by simp[C6]
 | c::r,acc,h=>by
  have hc:¬c=32:=λe=>h (by simp[e]);rw[C6,zz hc,Tf r _ (λe=>h (by simp[e]))];simp
theorem Tg:∀(w acc r:List UInt8),32∉w->C6 acc (w++32::r)=(acc++w)::C6 [] r
 | [],acc,r,_=>by simp[C6]
 | c::w,acc,r,h=>by
  have hc:¬c=32:=λe=>h (by simp[e]);rw[Xu,C6,zz hc,Tg w _ r (λe=>h (by simp[e]))];simp
theorem Th:∀(l:List UInt8) (c:UInt8),Lib.indexByte l c = -1->c∉l
 | [],c,_=>by simp
 | b::l,c,h=>by
  have hge:=Lib.indexByte_ge l c;rw[Lib.indexByte]at h;split at h
  .cases h
  .rename_i hb;split at h
   .rename_i h1;have:=Th l c (by simpa using h1);simp only[Xn,not_or];exact⟨λe=>hb (by simp[e]),this⟩
   .rename_i h1
    have:¬Lib.indexByte l c = -1:=by simpa using h1
    omega
theorem Ti:∀(l:List UInt8) (c:UInt8) (i:Nat),Lib.indexByte l c=i->∃w r,l=w++c::r/\w.length=i/\c∉w
 | [],c,i,h=>by rw[Lib.indexByte]at h;omega
 | b::l,c,i,h=>by
  have hge:=Lib.indexByte_ge l c;rw[Lib.indexByte]at h;split at h
  .rename_i hb
   have e:b=c:=by simpa using hb
   subst e;exact⟨[],l,rfl,by simp;omega,by simp⟩
  .rename_i hb;split at h
   .omega
   .rename_i h1
    have h2:¬Lib.indexByte l c = -1:=by simpa using h1
    obtain⟨w,r,e,hl,hn⟩:=Ti l c (i-1) (by omega);refine⟨b::w,r,by rw[e];rfl,by simp;omega,?_⟩;simp only[Xn,not_or];exact⟨λe=>hb (by simp[e]),hn⟩
abbrev spB:ByteArray:=⟨#[32]⟩
theorem Tj:∀(n:Nat) (s:ByteArray),s.size<=n->Lib.splitB spB 0 (Lib.countB s spB) s=(C6 [] s.data.toList).map bs
 | n,s,hn=>by
  have hix:Lib.indexB s spB=Lib.indexByte s.data.toList 32:=Lib.index_one _ _;rcases Lib.indexB_cases s spB with h | ⟨i,h,hi⟩
  .rw[Lib.splitB_miss _ _ _ _ h,Tf _ _ (Th _ _ (by rw[<-hix];exact h))];simp only[Xv,Xd,Xg,En]
  .have hc:=Lib.countB_hit s spB i (by decide) h;obtain⟨w,r,e,hl,hw⟩:=Ti _ _ i (by rw[<-hix];exact h);rw[hc,Nat.add_comm,Lib.splitB_hit _ _ _ _ i h];have hlen:s.data.toList.length=s.size:=rfl
   have e1:(s.extract (i+spB.size) s.size).data.toList=r:=by
    rw[Lib.extract_data,e];rw[e]at hlen;simp only[Xh,Xw]at hlen;show Ye (s.size-(i+1)) (List.drop (i+1) (w++32::r))=r
    have h4:List.drop (i+1) (w++32::r)=r:=by
     rw[<-hl,show w++32::r=(w++[32])++r by simp];exact List.drop_left' (by simp)
    rw[h4];exact X8 (by omega)
   have e2:s.extract 0 (i+0)=bs w:=by
    rw[<-En (s.extract 0 (i+0)),Lib.extract_data,e];congr 1;simp[<-hl]
   cases n with
   | zero=>rw[show s.size=0 by omega]at hlen;rw[e]at hlen;simp at hlen
   | succ n=>
    rw[Tj n _ (by
     have:(s.extract (i+spB.size) s.size).data.toList.length=r.length:=by rw[e1]
     have h3:(s.extract (i+spB.size) s.size).size=r.length:=this;rw[h3];rw[e]at hlen;simp at hlen
     omega),e1,e2,e,Tg w [] r hw]
    rfl
variable {q : Gl}
def prt (c:UInt8):Bool:=decide (32<=c.toNat)&&decide (c.toNat<=126)
def Fu (l:List UInt8):Option (List (List UInt8)):=
 if l.all prt then(if l.isEmpty then some []else if(C6 [] l).any Yf then none else some (C6 [] l))else none
def Gd (l:List UInt8):T:=match Fu l with
 | none=>.tu [Ah,iv 8]
 | some ws=>.tu [Aq Ak (ws.map bs),iv 0]
theorem Tl (c:UInt8):prt c = !(decide ((c.toNat:Int)<32)||decide (126<(c.toNat:Int))):=by
 have e1:decide ((c.toNat:Int)<32) = !decide (32<=c.toNat):=by
  by_cases h:32<=c.toNat
  .rw[zw h,zx (by omega)];rfl
  .rw[zx h,zw (by omega)];rfl
 have e2:decide (126<(c.toNat:Int)) = !decide (c.toNat<=126):=by
  by_cases h:c.toNat<=126
  .rw[zw h,zx (by omega)];rfl
  .rw[zx h,zw (by omega)];rfl
 rw[e1,e2,prt];cases decide (32<=c.toNat)<;>cases decide (c.toNat<=126)<;>rfl
noncomputable def bH:Tbl:=[(116,Qz)]
theorem JO:Ctx Xa (G q) (orc bH):=(As.cons vT .nil).ctx mixed
def Q5 (s:ByteArray):Ad:=⟨[(0,.t (sv s))],[],0,38⟩
def JP (s:ByteArray) (j:Nat):Ad:=⟨[(4,.t (iv (j:Int))),(0,.t (sv s))],[],0,38⟩
def GY (ws:List ByteArray) (j:Nat):Ad:=⟨[(30,.t (iv (j:Int))),(29,.t (iv (ws.length:Int))),(28,.t (slT Ak ws)),(5,.t (slT Ak ws))],[],0,38⟩
def OkP (s:ByteArray) (j:Nat):Prop:=j<=s.size/\∀(i:Nat) c,i<j->s.data.toList[i]?=some c->prt c=true
def OkE (ws:List ByteArray) (j:Nat):Prop:=j<=ws.length/\∀(i:Nat) w,i<j->ws[i]?=some w->w.data.toList.isEmpty=false
def wV (l:List UInt8):Prop:=l.all prt=true
def wW (ws:List ByteArray):Prop:=OkE ws ws.length
theorem wX (s:ByteArray) (hs:s.size<=4294967280):A1 Xa (G q) 98 [sv s] (· = Gd s.data.toList):=by
 refine rN.call rfl ?_;(conv in XQ=>cbv)
 obtain⟨l,hl⟩:∃l,l=s.data.toList:=⟨_,rfl⟩
 have hlen:l.length=s.size:=by rw[hl];rfl
 rw[<-hl]
 have es:(s.toList==[])=l.isEmpty:=by rw[stl,<-hl,IM]
 refine Av JO ?_;simp -implicitDefEqProofs;refine Av JO ?_
 cases he:l.isEmpty with
 | true=>
  have hl0:l=[]:=by simpa using he
  simp -implicitDefEqProofs [DN,es,he];simp -implicitDefEqProofs [hl0,Gd,Fu,Aq]
 | false=>
 simp -implicitDefEqProofs [DN,es,he]
 have bad:(l.all prt)=false->Gd l = .tu [Ah,iv 8]:=by
  intro h;simp[Gd,Fu,h]
 refine BF (α:=Unit) (λ_=>Q5 s) (λ_=>wV l) (λ_=>rfl) ?_ ?_
 .refine Av JO ?_;simp -implicitDefEqProofs;refine BD ?_;refine D5 (JP s) (λj=>s.size-j) (OkP s) 0 (λ_=>rfl) ⟨Yg _,λi c h=>by omega⟩ ?_ rfl ?_
  .refine AQ rfl rfl ?_ ?_<;>simp -implicitDefEqProofs [JP]
  .rintro j ⟨hj,hok⟩;refine Ap JO ?_;by_cases hlt:j<s.size
   .obtain⟨x,hx⟩:∃x,s.data.toList[j]?=some x:=⟨_,Xf hlt⟩
    have ixj:=DM s j x hx;have e1:Xc.wrap ((j:Int)+1)=((j+1:Nat):Int):=AP (by omega) (by omega);have hk:=Tl x
    have hb:prt x=false->Gd l = .tu [Ah,iv 8]:=by
     intro h;refine bad ?_;rw[List.all_eq_false];exact⟨x,by rw[hl];exact Yh hx,by rw[h];simp⟩
    cases t1:decide ((x.toNat:Int)<32)with
    | true=>rw[t1]at hk;simp -implicitDefEqProofs [JP,hlt,ixj,t1,hb hk]
    | false=>
     cases t2:decide (126<(x.toNat:Int))with
     | true=>rw[t1,t2]at hk;simp -implicitDefEqProofs [JP,hlt,ixj,t1,t2,hb hk]
     | false=>
      rw[t1,t2]at hk;simp -implicitDefEqProofs [JP,hlt,ixj,t1,t2,e1];refine Am.mk (j+1) ⟨⟨hlt,λi y hi hy=>?_⟩,by omega⟩ (AQ rfl rfl (by simp -implicitDefEqProofs [JP]) (by simp -implicitDefEqProofs [JP]));by_cases e:i=j
      .subst e;rw[hx]at hy;injection hy with hy;subst hy;exact hk
      .exact hok i y (by omega) hy
   .have e:j=s.size:=by omega
    subst e;simp -implicitDefEqProofs [JP];refine Am.mk () ?_ (AQ rfl rfl (by simp -implicitDefEqProofs [Q5]) (by simp -implicitDefEqProofs [Q5]));show l.all prt=true;rw[Xx,hl];intro x hx;obtain⟨i,hi,e⟩:=Ys hx;exact hok i x hi (by rw[Xf hi,e])
 rintro _ hall;have hall:l.all prt=true:=hall
 obtain⟨ws,hws⟩:∃ws,ws=(C6 [] l).map bs:=⟨_,rfl⟩
 have q1:Qz [.v (.string s),.v (.string ⟨#[32]⟩)]=some (slT Ak ws):=by
  rw[Qz,Dz (τ:=BU) (σ:=BU) (x:=s) (y:=⟨#[32]⟩) rfl rfl,zy ⟨by omega,by decide⟩,Tj s.size s (Xb _),hws,hl]
 have hlw:AO (.t (slT Ak ws))=some (.t (iv (ws.length:Int))):=(IsS.mk (e:=Ak) ws).len
 have hwl:ws.length<=4294967281:=by
  have h1:=Lib.splitB_all spB (by decide) 0 _ s rfl;rw[Tj s.size s (Xb _),<-hl,<-hws]at h1;have h2:=Lib.countB_le spB (by decide) s.size s (Xb _);omega
 refine Av JO ?_;simp -implicitDefEqProofs [Q5,bH,q1];refine BF (α:=Unit) (λ_=>GY ws ws.length) (λ_=>wW ws) (λ_=>rfl) ?_ ?_
 .refine Av JO ?_;simp -implicitDefEqProofs [hlw];refine BD ?_;refine D5 (GY ws) (λj=>ws.length-j) (OkE ws) 0 (λ_=>rfl) ⟨Yg _,λi c h=>by omega⟩ ?_ rfl ?_
  .refine AQ rfl rfl ?_ ?_<;>simp -implicitDefEqProofs [GY]
  .rintro j ⟨hj,hok⟩;refine Ap JO ?_;by_cases hlt:j<ws.length
   .obtain⟨x,hx⟩:∃x,ws[j]?=some x:=⟨_,Xf hlt⟩
    have ia:=(IsS.mk (e:=Ak) ws).iaddr hx .i64;have e1:Xc.wrap ((j:Int)+1)=((j+1:Nat):Int):=AP (by omega) (by omega);have ld:Aj false 1 [] (.t (.pt (Ak.enc x++AU Ak ws j)))=some (.t (sv x)):=rfl;have ia':Bd 1 (.t (slT Ak ws)) (.t (iv (j:Int)))=some (.t (.pt (Ak.enc x++AU Ak ws j))):=ia
    have ex:(x.toList==[])=x.data.toList.isEmpty:=by rw[stl,IM]
    cases hxe:x.data.toList.isEmpty with
    | true=>
     have hw:Gd l = .tu [Ah,iv 8]:=by
      have:(C6 [] l).any Yf=true:=by
       rw[List.any_eq_true];have hx':=hx;rw[hws,Xj]at hx';obtain⟨y,hy,e⟩:=Xm.1 hx';refine⟨y,Yh hy,?_⟩
       have:x.data.toList=y:=by rw[<-e]
       rw[<-this];exact hxe
      simp[Gd,Fu,hall,he,this]
     rw[hxe]at ex;simp -implicitDefEqProofs [GY,hlt,ia',ld,DN,ex,hw]
    | false=>
     rw[hxe]at ex;simp -implicitDefEqProofs [GY,hlt,ia',ld,DN,ex,e1];refine Am.mk (j+1) ⟨⟨hlt,λi y hi hy=>?_⟩,by omega⟩ (AQ rfl rfl (by simp -implicitDefEqProofs [GY]) (by simp -implicitDefEqProofs [GY]));by_cases e:i=j
     .subst e;rw[hx]at hy;injection hy with hy;subst hy;exact hxe
     .exact hok i y (by omega) hy
   .have e:j=ws.length:=by omega
    subst e;simp -implicitDefEqProofs [GY];exact Am.mk () ⟨hj,hok⟩ (AQ rfl rfl (by simp -implicitDefEqProofs [GY]) (by simp -implicitDefEqProofs [GY]))
 rintro _ hne;refine Ap JO ?_
 have hw:Gd l = .tu [slT Ak ws,iv 0]:=by
  have h1:(C6 [] l).any Yf=false:=by
   rw[List.any_eq_false];intro y hy;obtain⟨i,hi,e⟩:=Ys hy
   have h2:ws[i]?=some (bs y):=by rw[hws,Xj,Xf hi,e];rfl
   have h3:=hne.2 i (bs y) ((Xe.1 h2).1) h2
   have h4:y.isEmpty=false:=by simpa using h3
   simp[h4]
  have h2:Aq Ak ws=slT Ak ws:=by
   cases hw:ws with
   | nil=>
    rw[hws]at hw
    have:C6 [] l=[]:=by simpa using hw
    cases l with
    | nil=>cases this
    | cons c r=>
     have nn:∀(r acc:List UInt8),C6 acc r≠[]:=by
      intro r
      induction r with
      | nil=>intro acc h;cases h
      | cons c r ih=>
       intro acc h;rw[C6]at h;split at h
       .cases h
       .exact ih _ h
     exact absurd this (nn _ _)
   | cons _ _=>rfl
  simp[Gd,Fu,hall,he,h1,<-hws,h2]
 simp -implicitDefEqProofs [GY,hw]
theorem Ot (s:ByteArray) (i j:Nat) (h1:i<=j) (h2:j<=s.size):DK (.t (sv s)) (some (.t (iv (i:Int)))) (some (.t (iv (j:Int))))=some (.t (sv (s.extract i j))):=by
 have a1:¬(i:Int)<0:=by omega
 have a2:¬(j:Int)<0:=by omega
 simp[DK,Cj,h1,h2]
theorem bI (s:ByteArray) (i:Nat) (h1:i<=s.size):DK (.t (sv s)) (some (.t (iv (i:Int)))) none=some (.t (sv (s.extract i s.size))):=by
 have a1:¬(i:Int)<0:=by omega
 simp[DK,Cj,h1]
abbrev scc (s:ByteArray) (a l:Nat):List T:=[sv s,iv (a:Int),iv (l:Int)]
abbrev scr (s:ByteArray) (a l:Nat):Row:=.cells 105 [.t (sv s),.t (iv (a:Int)),.t (iv (l:Int))]
section
variable (s : ByteArray) (a l x : Nat)
theorem sl0 (R:Ab):Aj false 1 ((0,scr s a l)::R) (.ptr 0 0)=some (.t (sv s)):=rfl
theorem sl1 (R:Ab):Aj false 1 ((0,scr s a l)::R) (.ptr 0 1)=some (.t (iv (a:Int))):=rfl
theorem sl2 (R:Ab):Aj false 1 ((0,scr s a l)::R) (.ptr 0 2)=some (.t (iv (l:Int))):=rfl
theorem ss1 (R:Ab):AM 1 ((0,scr s a l)::R) (.ptr 0 1) (.t (iv (x:Int)))=some ((0,scr s x l)::R):=rfl
theorem ss2 (R:Ab):AM 1 ((0,scr s a l)::R) (.ptr 0 2) (.t (iv (x:Int)))=some ((0,scr s a x)::R):=rfl
theorem tl0 (t:Row):Aj false 1 [(1,t),(0,scr s a l)] (.ptr 0 0)=some (.t (sv s)):=rfl
theorem tl1 (t:Row):Aj false 1 [(1,t),(0,scr s a l)] (.ptr 0 1)=some (.t (iv (a:Int))):=rfl
theorem tl2 (t:Row):Aj false 1 [(1,t),(0,scr s a l)] (.ptr 0 2)=some (.t (iv (l:Int))):=rfl
theorem ts1 (t:Row):AM 1 [(1,t),(0,scr s a l)] (.ptr 0 1) (.t (iv (x:Int)))=some [(1,t),(0,scr s x l)]:=rfl
end
def AB (big:Bool) (l:List UInt8):Nat:=(l.takeWhile (BL big)).length
theorem IQ (big:Bool) (l:List UInt8):AB big l<=l.length:=(Yt _).length_le
theorem Ou {p:UInt8->Bool}:∀{l:List UInt8} {j:Nat} {c:UInt8},j<(l.takeWhile p).length->l[j]?=some c->p c=true
 | [],j,c,h,hc=>by simp at hc
 | x::r,j,c,h,hc=>by
  rw[X9]at h;split at h
  .rename_i hx
   cases j with
   | zero=>simp at hc;subst hc;exact hx
   | succ j=>exact Ou (l:=r) (by simpa using h) (by simpa using hc)
  .simp at h
theorem Ov {p:UInt8->Bool}:∀{l:List UInt8} {c:UInt8},l[(l.takeWhile p).length]?=some c->p c=false
 | [],c,hc=>by simp at hc
 | x::r,c,hc=>by
  rw[X9]at hc;split at hc
  .exact Ov (l:=r) (by simpa using hc)
  .rename_i hx;simp at hc;subst hc;simpa using hx
def SRn (big:Bool) (s:ByteArray) (a l p:Nat):Ad:=⟨[(5,.t (iv (a:Int))),(1,.t (fv (HN big))),(0,.ptr 0 0)],[(0,scr s p l)],1,76⟩
theorem Tm (c:UInt8):IntKind.i32.wrap (c.toNat:Int)=(c.toNat:Int):=by
 have:=c.toNat_lt;unfold IntKind.wrap IntKind.bits IntKind.signed;simp only[Yi,Nat.reduceSub]
 have e1:(2:Int)^32=4294967296:=by decide
 have e2:(2:Int)^31=2147483648:=by decide
 simp only[e1,e2,ge_iff_le,decide_eq_true_eq];split<;>omega
theorem wY (big:Bool) (c:UInt8):IL big (c.toNat:Int)=(if big then Bq c else B7 c):=by
 unfold IL;cases big
 .exact Tb c
 .exact Q0 c
theorem Tn (big:Bool) (x:UInt8):BL big x=((if big then Bq x else B7 x)||AR x||decide (x.toNat=45)):=by
 cases big<;>simp only[BL,Bool.not_true,Yu,Yi,Yv,Yj,if_true,Xk,if_false]
 .cases AR x<;>cases decide (x.toNat=45)<;>cases B7 x<;>rfl
 .cases AR x<;>cases decide (x.toNat=45)<;>cases Bq x<;>rfl
def InR (a n p:Nat):Prop:=a<=p/\p<=a+n
theorem wZ (big:Bool) (s:ByteArray) (a l:Nat) (hs:s.size<=65536) (ha:a<=s.size) :
  AH Xa (G q) 112 [.ptr 0 0,.t (fv (HN big))] [(0,scr s a l)] 1 (.t (sv (bs ((s.data.toList.drop a).take (AB big (s.data.toList.drop a)))))) [(0,scr s (a+AB big (s.data.toList.drop a)) l)] 1:=by
 obtain⟨n,hn⟩:∃n,n=AB big (s.data.toList.drop a):=⟨_,rfl⟩
 have hlen:s.data.toList.length=s.size:=rfl
 have hnl:a+n<=s.size:=by
  have:=IQ big (s.data.toList.drop a);rw[<-hn,Xs]at this;omega
 rw[<-hn]
 obtain⟨z,hz⟩:∃z,z=a+n:=⟨_,rfl⟩
 rw[<-hz];refine rX.callP rfl ?_;(conv in YB=>cbv);refine Av (GX big) ?_;simp -implicitDefEqProofs;refine Av (GX big) ?_;simp -implicitDefEqProofs [sl1];refine BF (α:=Unit) (λ_=>SRn big s a l z) (λ_=>True) (λ_=>rfl) ?_ ?_
 .refine BD ?_;refine D5 (SRn big s a l) (λp=>z-p) (InR a n) a (λ_=>rfl) ⟨Xb _,by omega⟩ ?_ rfl ?_
  .refine AQ rfl rfl ?_ ?_<;>simp -implicitDefEqProofs [SRn]
  .rintro p ⟨hp1,hp2⟩;refine Ap (GX big) ?_;by_cases hlt:p<s.size
   .obtain⟨c,hc⟩:∃c,s.data.toList[p]?=some c:=⟨_,Xf hlt⟩
    have ix:=DM s p c hc
    have hc':(s.data.toList.drop a)[p-a]?=some c:=by rw[Yk,show a+(p-a)=p by omega];exact hc
    have cvF:=λH nx c=>bB big H nx c;have qd:=JM F9 (c.toNat:Int);rw[Oo]at qd;have lr:=wY big c;have hpe:=Tn big c;have hgo:p<a+n->BL big c=true:=λh=>Ou (by show p-a<AB big (s.data.toList.drop a);omega) hc'
    have hst:¬p<a+n->BL big c=false:=λh=>Ov (by
     show(s.data.toList.drop a)[AB big (s.data.toList.drop a)]?=some c
     rw[<-hn,show n=p-a by omega];exact hc')
    have e1:Xc.wrap ((p:Int)+1)=((p+1:Nat):Int):=AP (by omega) (by omega);have st1:=ss1 s p l (p+1) [];have ci:=Tm c;by_cases hpn:p<a+n
    .have hpp:=hgo hpn;rw[hpp]at hpe
     cases hL:(if big then Bq c else B7 c:Bool)with
     | true=>
      rw[hL]at lr;simp -implicitDefEqProofs [SRn,sl0,sl1,hlt,ix,ci,cvF,lr,e1,st1];exact Am.mk (p+1) ⟨⟨by omega,by omega⟩,by omega⟩ (AQ rfl rfl (by simp -implicitDefEqProofs [SRn]) (by simp -implicitDefEqProofs [SRn,Bp]))
     | false=>
      rw[hL]at lr hpe
      cases hD:AR c with
      | true=>
       rw[hD]at qd;simp -implicitDefEqProofs [SRn,sl0,sl1,hlt,ix,ci,cvF,lr,tbF,qd,e1,st1];exact Am.mk (p+1) ⟨⟨by omega,by omega⟩,by omega⟩ (AQ rfl rfl (by simp -implicitDefEqProofs [SRn]) (by simp -implicitDefEqProofs [SRn,Bp]))
      | false=>
       rw[hD]at qd hpe
       have h45:c.toNat=45:=by
        have:decide (c.toNat=45)=true:=by simpa using hpe.symm
        exact of_decide_eq_true this
       have e45:((c.toNat:Int)==45)=true:=by rw[h45];rfl
       simp -implicitDefEqProofs [SRn,sl0,sl1,hlt,ix,ci,cvF,lr,tbF,qd,e45,e1,st1];exact Am.mk (p+1) ⟨⟨by omega,by omega⟩,by omega⟩ (AQ rfl rfl (by simp -implicitDefEqProofs [SRn]) (by simp -implicitDefEqProofs [SRn,Bp]))
    .have hpp:=hst hpn;rw[hpp]at hpe
     have hpz:p=z:=by omega
     subst hpz
     have hL:(if big then Bq c else B7 c:Bool)=false:=by
      cases h:(if big then Bq c else B7 c:Bool)with
      | false=>rfl
      | true=>rw[h]at hpe;cases hpe
     rw[hL]at lr hpe
     have hD:AR c=false:=by
      cases h:AR c with
      | false=>rfl
      | true=>rw[h]at hpe;cases hpe
     rw[hD]at qd hpe
     have e45:((c.toNat:Int)==45)=false:=by
      have:decide (c.toNat=45)=false:=by simpa using hpe.symm
      have:=of_decide_eq_false this;rw[zu];omega
     simp -implicitDefEqProofs [SRn,sl0,sl1,hlt,ix,ci,cvF,lr,tbF,qd,e45];exact Am.mk () trivial (AQ rfl rfl (by simp -implicitDefEqProofs [SRn]) (by simp -implicitDefEqProofs [SRn,Bp]))
   .have hpz:p=z:=by omega
    subst hpz;simp -implicitDefEqProofs [SRn,sl0,sl1,hlt];exact Am.mk () trivial (AQ rfl rfl (by simp -implicitDefEqProofs [SRn]) (by simp -implicitDefEqProofs [SRn,Bp]))
 rintro _ -;refine Ap (GX big) ?_;have hsl:=Ot s a z (by omega) (by omega)
 have e3:s.extract a z=bs ((s.data.toList.drop a).take n):=by
  rw[<-En (s.extract a z),Lib.extract_data,hz,Ya]
 rw[e3]at hsl;simp -implicitDefEqProofs [SRn,sl0,sl1,hsl];exact⟨.inr rfl,_,_,Sub.refl _,rfl,rfl,rfl,rfl⟩
def Au:Bool->List UInt8->Nat×Nat
 | _,[]=>(0,0)
 | cm,c::r=>
  if c.toNat=10 then((Au false r).1+1,(Au false r).2+1)
  else if cm||decide (c.toNat=37)then((Au true r).1+1,(Au true r).2)
  else if c.toNat=32\/c.toNat=9\/c.toNat=13 then((Au false r).1+1,(Au false r).2)
  else(0,0)
theorem Ow:∀(l:List UInt8) (cm:Bool),(Au cm l).1<=l.length/\(Au cm l).2<=l.length
 | [],_=>by simp[Au]
 | c::r,cm=>by
  have h1:=Ow r false;have h2:=Ow r true;rw[Au];split
  .simp;omega
  .split
   .simp;omega
   .split
    .simp;omega
    .simp
structure Sk where
 p:Nat
 ln:Nat
 cm:Bool
def SSk (s:ByteArray) (a:Sk):Ad:=⟨[(2,.t (bv a.cm)),(0,.ptr 0 0)],[(0,scr s a.p a.ln)],1,56⟩
structure bJ (l:List UInt8) (z zl:Nat) (a:Sk):Prop where
 le:a.p<=l.length
 e1:a.p+(Au a.cm (l.drop a.p)).1=z
 e2:a.ln+(Au a.cm (l.drop a.p)).2=zl
theorem xA (s:ByteArray) (a l:Nat) (hs:s.size<=65536) (ha:a<=s.size) (hl:l<=1000000) :
  AH Xa (G q) 55 [.ptr 0 0] [(0,scr s a l)] 1 (Ei []) [(0,scr s (a+(Au false (s.data.toList.drop a)).1) (l+(Au false (s.data.toList.drop a)).2))] 1:=by
 have hlen:s.data.toList.length=s.size:=rfl
 obtain⟨z,hz⟩:∃z,z=a+(Au false (s.data.toList.drop a)).1:=⟨_,rfl⟩
 obtain⟨zl,hzl⟩:∃z,z=l+(Au false (s.data.toList.drop a)).2:=⟨_,rfl⟩
 rw[<-hz,<-hzl]
 have hzb:z<=s.size/\zl<=1000000+65536:=by
  have:=Ow (s.data.toList.drop a) false;rw[Xs]at this;omega
 refine rT.callP rfl ?_;(conv in XW=>cbv)
 have fin:∀(env:List (Nat×PV)),F7 Xa (G q) 1 [] (λr0 H0 nx0=>r0=Ei []/\H0=[(0,scr s z zl)]/\nx0=1) .normal ⟨env,[(0,scr s z zl)],1,56⟩:=λenv=>⟨.inl rfl,_,[],Sub.refl _,rfl,rfl,rfl,rfl⟩
 have finr:∀(env:List (Nat×PV)),F7 Xa (G q) 1 [] (λr0 H0 nx0=>r0=Ei []/\H0=[(0,scr s z zl)]/\nx0=1) .ret ⟨env,[(0,scr s z zl)],1,56⟩:=λenv=>⟨.inr rfl,_,[],Sub.refl _,rfl,rfl,rfl,rfl⟩
 refine Av Ac ?_;simp -implicitDefEqProofs;refine BD ?_;refine D5 (SSk s) (λa=>s.size-a.p) (bJ s.data.toList z zl) ⟨a,l,false⟩ (λ_=>rfl) ⟨by show a<=_;omega,hz.symm,hzl.symm⟩ ?_ rfl ?_
 .refine AQ rfl rfl ?_ ?_<;>simp -implicitDefEqProofs [SSk]
 .rintro⟨p,ln,cm⟩ ⟨hp,hq1,hq2⟩;simp only at hp hq1 hq2;refine Ap Ac ?_;by_cases hlt:p<s.size
  .obtain⟨c,hc⟩:∃c,s.data.toList[p]?=some c:=⟨_,Xf hlt⟩
   have ix:=DM s p c hc
   have hdrop:s.data.toList.drop p=c::s.data.toList.drop (p+1):=by
    have:=Xy (l:=s.data.toList) (i:=p) (by omega);rw[this,(Xe.1 hc).2]
   rw[hdrop,Au]at hq1 hq2
   obtain⟨p1,hp1⟩:∃p1,p1=p+1:=⟨_,rfl⟩
   rw[<-hp1]at hq1 hq2
   have e1:Xc.wrap ((p:Int)+1)=(p1:Int):=by rw[hp1];exact AP (by omega) (by omega)
   have hlnb:ln<=1000000+65536:=by omega
   have st1:=λln=>ss1 s p ln p1 []
   have nxt:∀(ln':Nat) (cm':Bool) (env:List (Nat×PV)),p1+(Au cm' (s.data.toList.drop p1)).1=z->ln'+(Au cm' (s.data.toList.drop p1)).2=zl->(∀q∈(SSk s ⟨p1,ln',cm'⟩).env,Aa env q.1=some q.2) ->
     Am Xa (G q) 1 (SSk s) (λa'=>bJ s.data.toList z zl a'/\s.size-a'.p<s.size-p) ⟨env,[(0,scr s p1 ln')],1,56⟩:=by
    intro ln' cm' env h1 h2 h3;refine Am.mk ⟨p1,ln',cm'⟩ ⟨⟨by show p1<=_;omega,h1,h2⟩,by show s.size-p1<s.size-p;omega⟩ (AQ rfl rfl h3 λq hq=>?_)
    have e:q=(0,scr s p1 ln'):=by simpa[SSk]using hq
    subst e;rfl
   have b10:((c.toNat:Int)==10)=decide (c.toNat=10):=by
    by_cases h:c.toNat=10
    .rw[h];rfl
    .rw[zx h,zu];omega
   have b37:((c.toNat:Int)==37)=decide (c.toNat=37):=by
    by_cases h:c.toNat=37
    .rw[h];rfl
    .rw[zx h,zu];omega
   by_cases h10:c.toNat=10
   .rw[zy h10]at hq1 hq2;rw[zw h10]at b10
    obtain⟨ln1,hln1⟩:∃ln1,ln1=ln+1:=⟨_,rfl⟩
    have e2:Xc.wrap ((ln:Int)+1)=(ln1:Int):=by rw[hln1];exact AP (by omega) (by omega)
    have st2:=ss2 s p ln ln1 [];simp -implicitDefEqProofs [SSk,sl0,sl1,sl2,hlt,ix,b10,e1,e2,st2,st1];exact nxt ln1 false _ (by omega) (by omega) (by simp -implicitDefEqProofs [SSk])
   .rw[zz h10]at hq1 hq2;rw[zx h10]at b10
    cases cm with
    | true=>
     simp only[Bool.true_or,if_true]at hq1 hq2;simp -implicitDefEqProofs [SSk,sl0,sl1,hlt,ix,b10,e1,st1];exact nxt ln true _ (by omega) (by omega) (by simp -implicitDefEqProofs [SSk])
    | false=>
     by_cases h37:c.toNat=37
     .rw[zw h37]at b37 hq1 hq2;simp only[Bool.or_true,if_true]at hq1 hq2;simp -implicitDefEqProofs [SSk,sl0,sl1,hlt,ix,b10,b37,e1,st1];exact nxt ln true _ (by omega) (by omega) (by simp -implicitDefEqProofs [SSk])
     .rw[zx h37]at b37 hq1 hq2;simp only[Yj,Xk,if_false]at hq1 hq2;by_cases h32:c.toNat=32
      .rw[zy (.inl h32)]at hq1 hq2
       have b32:((c.toNat:Int) != 32)=false:=by rw[h32];rfl
       simp -implicitDefEqProofs [SSk,sl0,sl1,hlt,ix,b10,b37,b32,e1,st1];exact nxt ln false _ (by omega) (by omega) (by simp -implicitDefEqProofs [SSk])
      .have b32:((c.toNat:Int) != 32)=true:=by rw[bne_iff_ne];omega
       by_cases h9:c.toNat=9
       .rw[zy (.inr (.inl h9))]at hq1 hq2
        have b9:((c.toNat:Int) != 9)=false:=by rw[h9];rfl
        simp -implicitDefEqProofs [SSk,sl0,sl1,hlt,ix,b10,b37,b32,b9,e1,st1];exact nxt ln false _ (by omega) (by omega) (by simp -implicitDefEqProofs [SSk])
       .have b9:((c.toNat:Int) != 9)=true:=by rw[bne_iff_ne];omega
        by_cases h13:c.toNat=13
        .rw[zy (.inr (.inr h13))]at hq1 hq2
         have b13:((c.toNat:Int) != 13)=false:=by rw[h13];rfl
         simp -implicitDefEqProofs [SSk,sl0,sl1,hlt,ix,b10,b37,b32,b9,b13,e1,st1];exact nxt ln false _ (by omega) (by omega) (by simp -implicitDefEqProofs [SSk])
        .have b13:((c.toNat:Int) != 13)=true:=by rw[bne_iff_ne];omega
         rw[zz (by omega)]at hq1 hq2
         have e1:p=z:=by simpa using hq1
         have e2:ln=zl:=by simpa using hq2
         subst e1;subst e2;simp -implicitDefEqProofs [SSk,sl0,sl1,hlt,ix,b10,b37,b32,b9,b13];exact finr _
  .have hd0:s.data.toList.drop p=[]:=Yw (by omega);rw[hd0,Au]at hq1 hq2
   have e1:p=z:=by simpa using hq1
   have e2:ln=zl:=by simpa using hq2
   subst e1;subst e2;simp -implicitDefEqProofs [SSk,sl0,sl1,hlt];exact fin _
abbrev tkc (k:Int) (t:List UInt8) (l:Int):List T:=[iv k,sv (bs t),iv l]
abbrev tkr (k:Int) (t:List UInt8) (l:Int):Row:=.cells 42 [.t (iv k),.t (sv (bs t)),.t (iv l)]
def Dp (k:Int) (t:List UInt8) (l:Int) (e:Int):T:=if e=0 then .tu [.ag (tkc k t l),iv 0]else .tu [.ag (tkc 0 [] 0),iv e]
theorem bK {Φ:A7} {H:Ab} {nx:Nat} (k l:Int) (t:ByteArray):Ai Φ H nx (.build [(0,1),(1,1),(2,1)] [.int .i64 0,.string ⟨#[]⟩,.int .i64 0] [0,1,2]) [.t (iv k),.t (sv t),.t (iv l)]=some (.t (.ag [iv k,sv t,iv l]),H,nx):=rfl
theorem GZ {Φ:A7} {H:Ab} {nx:Nat}:Ai Φ H nx (.build [(0,1),(1,1),(2,1)] [.int .i64 0,.string ⟨#[]⟩,.int .i64 0] []) []=some (.t (.ag [iv 0,sv ⟨#[]⟩,iv 0]),H,nx):=rfl
theorem DW (k l:Int) (t:ByteArray) (x y z:PV) (R:Ab):AM 3 ((1,.cells 42 [x,y,z])::R) (.ptr 1 0) (.t (.ag [iv k,sv t,iv l]))=some ((1,.cells 42 [.t (iv k),.t (sv t),.t (iv l)])::R):=rfl
theorem Q6 {Φ:A7} {H:Ab} {nx:Nat} (k l:Int) (t:ByteArray):Bk Φ H nx (.build [(0,1),(1,1),(2,1)] [.int .i64 0,.string ⟨#[]⟩,.int .i64 0] [0,1,2]) [.t (iv k),.t (sv t),.t (iv l)]=some (.t (.ag [iv k,sv t,iv l])):=rfl
theorem xB (big:Bool) (s:ByteArray) (a l:Nat) (hs:s.size<=65536) (ha:a<=s.size) (t:Row) :
  HOK Xa (G q) 112 (Fe [.ptr 0 0,.t (fv (HN big))] [(1,t),(0,scr s a l)] 2 (.t (sv (bs ((s.data.toList.drop a).take (AB big (s.data.toList.drop a))))),[(1,t),(0,scr s (a+AB big (s.data.toList.drop a)) l)],2)):=by
 refine E0 ?_ ?_
 .have h:=wZ (q:=q) big s a l hs ha;exact AH.lift1 (cs:=scc s a l) (args:=[fv (HN big)]) (cs':=scc s (a+AB big (s.data.toList.drop a)) l) h (b:=0) (NX:=2) (Hb:=[(1,t),(0,scr s a l)]) rfl (by omega)
 .intro _ b x hb;simp only[Aa]at hb;split at hb
  .omega
  .split at hb
   .omega
   .cases hb
theorem bL (big:Bool) (s:ByteArray) (a l:Nat) (k:Int) (hs:s.size<=65536) (ha:a<=s.size) :
  AH Xa (G q) 89 [.ptr 0 0,.t (iv k),.t (fv (HN big))] [(0,scr s a l)] 1
   (.t (Dp k ((s.data.toList.drop a).take (AB big (s.data.toList.drop a))) l (if 32<AB big (s.data.toList.drop a)then 7 else 0))) [(0,scr s (a+AB big (s.data.toList.drop a)) l)] 1:=by
 have lr:=xB (q:=q) big s a l hs ha (.cells 42 [.t (iv 0),.t (sv ⟨#[]⟩),.t (iv 0)]);have hrl:=IQ big (s.data.toList.drop a)
 obtain⟨n,hn⟩:∃n,n=AB big (s.data.toList.drop a):=⟨_,rfl⟩
 rw[<-hn]at lr hrl ⊢
 obtain⟨z,hz⟩:∃z,z=a+n:=⟨_,rfl⟩
 rw[<-hz]at lr ⊢
 obtain⟨t,ht⟩:∃t,t=(s.data.toList.drop a).take n:=⟨_,rfl⟩
 have hsz:(bs t).size=n:=by
  show t.toArray.size=n;rw[ht];simp at hrl ⊢;omega
 rw[<-ht]at lr ⊢;have ctx:Ctx Xa (G q) (orh [] [(112,_)]):=As.nil.ctxH (.cons lr .nil) mixed;have h1:=λps H nx o=>DL ps H nx o;by_cases h32:32<n
 .rw[zy h32];refine AH.keep1 (cs:=scc s z l) (H':=[(1,tkr 0 [] 0),(0,scr s z l)]) (nx':=2) ?_ rfl;refine XY.callP rfl ?_;refine Ap ctx ?_
  have h32':(32:Int)<(n:Int):=by omega
  (conv in SG=>cbv);simp -implicitDefEqProofs [h1,hsz,h32',-Bo,GZ,DW]
  exact⟨.inr rfl,_,_,Sub.refl _,rfl,rfl,rfl,rfl⟩
 .rw[zz h32];refine AH.keep1 (cs:=scc s z l) (H':=[(1,tkr k t l),(0,scr s z l)]) (nx':=2) ?_ rfl;refine XY.callP rfl ?_;refine Ap ctx ?_
  have h32':¬(32:Int)<(n:Int):=by omega
  (conv in SG=>cbv);simp -implicitDefEqProofs [h1,hsz,h32',tl2,-Bo,bK,DW]
  exact⟨.inr rfl,_,_,Sub.refl _,rfl,rfl,rfl,rfl⟩
def Cu (l:List UInt8):Nat:=if l.head?==some 45 then 1 else 0
def AX (l:List UInt8):Nat:=Cu l+((l.drop (Cu l)).takeWhile AR).length
theorem MA (l:List UInt8):AX l<=l.length:=by
 have h:=(Yt AR (l:=l.drop (Cu l))).length_le;rw[Xs]at h;unfold AX
 have:Cu l<=l.length:=by
  unfold Cu
  cases l with
  | nil=>simp
  | cons c r=>split<;>simp
 omega
def D0 (t:List UInt8):Int:=if t=[45]then 8 else(Eo t).2
noncomputable def Q7:List T->Option T:=g1 BU λs=>if s.size<=281474976710656 then some (D9 s.data.toList)else none
theorem xC:GOK Xa (G q) 113 Q7:=D6 λa s r ha hr=>by
 have e:a=sv s:=ha;subst e;split at hr
 .rename_i h;injection hr with hr;subst hr;exact wN s h
 .cases hr
noncomputable def Ox:Tbl:=[(91,GW F9),(113,Q7)]
theorem MD:Ctx Xa (G q) (orc Ox):=(As.cons (JL Ta) (.cons xC .nil)).ctx mixed
abbrev tk0:Row:=.cells 42 [.t (iv 0),.t (sv ⟨#[]⟩),.t (iv 0)]
def SFg (s:ByteArray) (a l p:Nat):Ad:=⟨[(4,.t (iv (a:Int))),(3,.t (iv 0)),(2,.ptr 1 0),(0,.ptr 0 0)],[(1,tk0),(0,scr s p l)],2,87⟩
theorem bM (s:ByteArray) (a l:Nat) (hs:s.size<=65536) (ha:a<s.size) :
  AH Xa (G q) 92 [.ptr 0 0] [(0,scr s a l)] 1
   (.t (Dp 4 ((s.data.toList.drop a).take (AX (s.data.toList.drop a))) l (D0 ((s.data.toList.drop a).take (AX (s.data.toList.drop a)))))) [(0,scr s (a+AX (s.data.toList.drop a)) l)] 1:=by
 have hlen:s.data.toList.length=s.size:=rfl
 obtain⟨D,hD⟩:∃D,D=s.data.toList.drop a:=⟨_,rfl⟩
 rw[<-hD];have hfl:=MA D
 have hDl:D.length=s.size-a:=by rw[hD,Xs,hlen]
 obtain⟨n,hn⟩:∃n,n=AX D:=⟨_,rfl⟩
 rw[<-hn]at hfl ⊢
 obtain⟨z,hz⟩:∃z,z=a+n:=⟨_,rfl⟩
 rw[<-hz]
 obtain⟨t,ht⟩:∃t,t=D.take n:=⟨_,rfl⟩
 rw[<-ht]
 obtain⟨k,hk⟩:∃k,k=Cu D:=⟨_,rfl⟩
 have hkn:k<=n:=by rw[hn,hk];unfold AX;omega
 obtain⟨c0,hc0⟩:∃c,s.data.toList[a]?=some c:=⟨_,Xf ha⟩
 have hD0:D=c0::s.data.toList.drop (a+1):=by
  have:=Xy (l:=s.data.toList) (i:=a) (by omega);rw[hD,this,(Xe.1 hc0).2]
 have ix0:=DM s a c0 hc0
 have htl:t.length=n:=by rw[ht,Yx];omega
 obtain⟨tk,htk⟩:∃tk:Row,tk=if D0 t=0 then tkr 4 t l else tkr 0 [] 0:=⟨_,rfl⟩
 have fin:∀(env:List (Nat×PV)),Aa env 2=some (.ptr 1 0)->Aa env 3=some (.t (iv (D0 t))) ->
   F7 Xa (G q) 1 [.cell 2 true 3,.tmp 3] (λr0 H0 nx0=>r0=PV.t (Dp 4 t l (D0 t))/\H0=[(1,tk),(0,scr s z l)]/\nx0=2) .ret ⟨env,[(1,tk),(0,scr s z l)],2,87⟩:=by
  intro env h2 h3;by_cases h0:D0 t=0
  .rw[zy h0]at htk;refine⟨.inr rfl,_,[.t (.ag (tkc 4 t l)),.t (iv (D0 t))],Sub.refl _,?_,?_,rfl,rfl⟩
   .simp[Ez,h2,h3,htk,Aj,Bi]
   .simp[Dp,h0]
  .rw[zz h0]at htk;refine⟨.inr rfl,_,[.t (.ag (tkc 0 [] 0)),.t (iv (D0 t))],Sub.refl _,?_,?_,rfl,rfl⟩
   .simp[Ez,h2,h3,htk,Aj,Bi]
   .simp[Dp,h0]
 refine AH.keep1 (cs:=scc s z l) (H':=[(1,tk),(0,scr s z l)]) (nx':=2) ?_ rfl;refine rV.callP rfl ?_;(conv in XZ=>cbv);refine Av MD ?_;simp -implicitDefEqProofs;refine Av MD ?_;simp -implicitDefEqProofs [tl1]
 have e45:((c0.toNat:Int)==45)=(c0==45):=by
  by_cases h:c0=45
  .subst h;rfl
  .have:¬c0.toNat=45:=λe=>h (Yy.1 e);rw[beq_eq_false_iff_ne.2 h,zu];omega
 have hk':k=if c0==45 then 1 else 0:=by
  rw[hk,hD0];unfold Cu;cases h:(c0==45)<;>simp[h]
 refine BF (α:=Unit) (λ_=>SFg s a l (a+k)) (λ_=>True) (λ_=>rfl) ?_ ?_
 .refine Ap MD ?_
  cases h45:(c0==45)with
  | true=>
   rw[h45]at hk'
   obtain⟨a1,ha1⟩:∃a1,a1=a+1:=⟨_,rfl⟩
   have e1:Xc.wrap ((a:Int)+1)=(a1:Int):=by rw[ha1];exact AP (by omega) (by omega)
   have st:=λt=>ts1 s a l a1 t
   have:a+k=a1:=by rw[hk',ha1];rfl
   rw[this];simp -implicitDefEqProofs [tl0,tl1,ix0,e45,h45,e1,st];exact Am.mk () trivial (AQ rfl rfl (by simp -implicitDefEqProofs [SFg]) (by simp -implicitDefEqProofs [SFg]))
  | false=>
   rw[h45]at hk'
   have:a+k=a:=by rw[hk'];rfl
   rw[this];simp -implicitDefEqProofs [tl0,tl1,ix0,e45,h45];exact Am.mk () trivial (AQ rfl rfl (by simp -implicitDefEqProofs [SFg]) (by simp -implicitDefEqProofs [SFg]))
 rintro _ -;refine BF (α:=Unit) (λ_=>SFg s a l z) (λ_=>True) (λ_=>rfl) ?_ ?_
 .refine BD ?_;refine D5 (SFg s a l) (λp=>z-p) (InR (a+k) (n-k)) (a+k) (λ_=>rfl) ⟨Xb _,by omega⟩ (Sub.refl _) rfl ?_
  .rintro p ⟨hp1,hp2⟩;refine Ap MD ?_;by_cases hlt:p<s.size
   .obtain⟨c,hc⟩:∃c,s.data.toList[p]?=some c:=⟨_,Xf hlt⟩
    have ix:=DM s p c hc
    have hc':(D.drop k)[p-(a+k)]?=some c:=by rw[hD,Yk,Yk,show a+(k+(p-(a+k)))=p by omega];exact hc
    have hnk:n-k=((D.drop k).takeWhile AR).length:=by rw[hn,hk];unfold AX;omega
    have qd:=JM F9 (c.toNat:Int);rw[Oo]at qd;have ci:=Tm c
    obtain⟨p1,hp1'⟩:∃p1,p1=p+1:=⟨_,rfl⟩
    have e1:Xc.wrap ((p:Int)+1)=(p1:Int):=by rw[hp1'];exact AP (by omega) (by omega)
    have st:=λt=>ts1 s p l p1 t;by_cases hpn:p<z
    .have hd:AR c=true:=Ou (by rw[<-hnk];omega) hc';rw[hd]at qd;simp -implicitDefEqProofs [SFg,tl0,tl1,hlt,ix,ci,Ox,qd,e1,st];exact Am.mk p1 ⟨⟨by omega,by omega⟩,by omega⟩ (AQ rfl rfl (by simp -implicitDefEqProofs [SFg]) (by simp -implicitDefEqProofs [SFg]))
    .have hd:AR c=false:=Ov (by rw[<-hnk,show n-k=p-(a+k)by omega];exact hc');rw[hd]at qd
     have hpz:p=z:=by omega
     subst hpz;simp -implicitDefEqProofs [SFg,tl0,tl1,hlt,ix,ci,Ox,qd];exact Am.mk () trivial (AQ rfl rfl (by simp -implicitDefEqProofs [SFg]) (by simp -implicitDefEqProofs [SFg]))
   .have hpz:p=z:=by omega
    subst hpz;simp -implicitDefEqProofs [SFg,tl0,tl1,hlt];exact Am.mk () trivial (AQ rfl rfl (by simp -implicitDefEqProofs [SFg]) (by simp -implicitDefEqProofs [SFg]))
 rintro _ -;have hsl:=Ot s a z (by omega) (by omega)
 have e3:s.extract a z=bs t:=by
  rw[<-En (s.extract a z),Lib.extract_data,hz,Ya,<-hD,ht]
 rw[e3]at hsl;refine Av MD ?_;simp -implicitDefEqProofs [SFg,tl0,tl1,hsl];refine Ap MD ?_
 have gn:Q7 [.v (.string (bs t))]=some (D9 t):=by
  rw[Q7,D8 (τ:=BU) (x:=bs t) rfl,zy (by show t.toArray.size<=_;simp;omega)]
 by_cases ht45:t=[45]
 .have hE:D0 t=8:=by rw[D0,zy ht45]
  have b1:(t==[45])=true:=by rw[ht45];rfl
  rw[hE]at fin htk;rw[zz (by omega)]at htk;subst htk;rw[hE];simp -implicitDefEqProofs [DN,b1,-Bo,GZ,DW];exact fin _ rfl rfl
 .have hE:D0 t=(Eo t).2:=by rw[D0,zz ht45]
  have b1:(t==[45])=false:=by simpa using ht45
  by_cases h0:(Eo t).2=0
  .rw[hE,h0]at fin htk;rw[zy rfl]at htk;subst htk;rw[hE,h0]
   have b2:((Eo t).2 != 0)=false:=by rw[h0];rfl
   simp -implicitDefEqProofs [DN,b1,Ox,gn,BC,b2,tl2,-Bo,bK,DW];exact fin _ rfl rfl
  .have b2:((Eo t).2 != 0)=true:=by rw[bne_iff_ne];exact h0
   rw[hE]at fin htk;rw[zz h0]at htk;subst htk;rw[hE];simp -implicitDefEqProofs [DN,b1,Ox,gn,BC,b2,-Bo,GZ,DW];exact fin _ rfl rfl
def A9:List UInt8->Nat×Int
 | []=>(0,9)
 | c::r=>if c.toNat=34 then(0,0)else if prt c then((A9 r).1+1,(A9 r).2)else(0,8)
theorem ME:∀l,(A9 l).1<=l.length/\((A9 l).2=0->(A9 l).1<l.length)/\((A9 l).2=0\/(A9 l).2=8\/(A9 l).2=9)
 | []=>by simp[A9]
 | c::r=>by
  obtain⟨h1,h2,h3⟩:=ME r;rw[A9];split
  .simp
  .split
   .refine⟨by simp;omega,λh=>by have:=h2 h;simp;omega,h3⟩
   .simp
structure OkQ (l:List UInt8) (z:Nat) (e:Int) (a p:Nat):Prop where
 lo:a<=p
 le:p<=l.length
 e1:p+(A9 (l.drop p)).1=z
 e2:(A9 (l.drop p)).2=e
def SQ (s:ByteArray) (a l p:Nat):Ad:=⟨[(4,.t (iv (a:Int))),(3,.t (iv 0)),(2,.ptr 1 0),(0,.ptr 0 0)],[(1,tk0),(0,scr s p l)],2,90⟩
theorem xD (s:ByteArray) (a l:Nat) (hs:s.size<=65536) (ha:a<s.size) :
  AH Xa (G q) 93 [.ptr 0 0] [(0,scr s a l)] 1
   (.t (Dp 3 ((s.data.toList.drop (a+1)).take (A9 (s.data.toList.drop (a+1))).1) l (A9 (s.data.toList.drop (a+1))).2))
   [(0,scr s (a+1+(A9 (s.data.toList.drop (a+1))).1+(if(A9 (s.data.toList.drop (a+1))).2=0 then 1 else 0)) l)] 1:=by
 have hlen:s.data.toList.length=s.size:=rfl
 obtain⟨a1,ha1⟩:∃a1,a1=a+1:=⟨_,rfl⟩
 rw[<-ha1]
 obtain⟨D,hD⟩:∃D,D=s.data.toList.drop a1:=⟨_,rfl⟩
 rw[<-hD];obtain⟨hq1,hq2,hq3⟩:=ME D
 have hDl:D.length=s.size-a1:=by rw[hD,Xs,hlen]
 obtain⟨n,hn⟩:∃n,n=(A9 D).1:=⟨_,rfl⟩
 obtain⟨e,he⟩:∃e,e=(A9 D).2:=⟨_,rfl⟩
 rw[<-hn,<-he]at hq2;rw[<-hn]at hq1;rw[<-he]at hq3;rw[<-hn,<-he]
 obtain⟨t,ht⟩:∃t,t=D.take n:=⟨_,rfl⟩
 rw[<-ht]
 obtain⟨z,hz⟩:∃z,z=a1+n:=⟨_,rfl⟩
 rw[<-hz]
 obtain⟨y,hy⟩:∃y,y=z+(if e=0 then 1 else 0):=⟨_,rfl⟩
 rw[<-hy]
 obtain⟨tk,htk⟩:∃tk:Row,tk=if e=0 then tkr 3 t l else tkr 0 [] 0:=⟨_,rfl⟩
 have fin:∀(env:List (Nat×PV)),Aa env 2=some (.ptr 1 0)->Aa env 3=some (.t (iv e)) ->
   F7 Xa (G q) 1 [.cell 2 true 3,.tmp 3] (λr0 H0 nx0=>r0=PV.t (Dp 3 t l e)/\H0=[(1,tk),(0,scr s y l)]/\nx0=2) .ret ⟨env,[(1,tk),(0,scr s y l)],2,90⟩:=by
  intro env h2 h3;by_cases h0:e=0
  .rw[zy h0]at htk;refine⟨.inr rfl,_,[.t (.ag (tkc 3 t l)),.t (iv e)],Sub.refl _,?_,?_,rfl,rfl⟩
   .simp[Ez,h2,h3,htk,Aj,Bi]
   .simp[Dp,h0]
  .rw[zz h0]at htk;refine⟨.inr rfl,_,[.t (.ag (tkc 0 [] 0)),.t (iv e)],Sub.refl _,?_,?_,rfl,rfl⟩
   .simp[Ez,h2,h3,htk,Aj,Bi]
   .simp[Dp,h0]
 refine AH.keep1 (cs:=scc s y l) (H':=[(1,tk),(0,scr s y l)]) (nx':=2) ?_ rfl;refine rW.callP rfl ?_;(conv in YA=>cbv)
 have e0:Xc.wrap ((a:Int)+1)=(a1:Int):=by rw[ha1];exact AP (by omega) (by omega)
 have st0:=λt=>ts1 s a l a1 t;refine Av Ac ?_;simp -implicitDefEqProofs;refine Av Ac ?_;simp -implicitDefEqProofs [tl1,e0,st0];refine Av Ac ?_;simp -implicitDefEqProofs [tl1];refine BF (α:=Unit) (λ_=>SQ s a1 l z) (λ_=>e=9/\z=s.size) (λ_=>rfl) ?_ ?_
 .refine BD ?_;refine D5 (SQ s a1 l) (λp=>s.size-p) (OkQ s.data.toList z e a1) a1 (λ_=>rfl) ⟨Xb _,by omega,by rw[<-hD,<-hn,hz],by rw[<-hD,<-he]⟩ ?_ rfl ?_
  .refine AQ rfl rfl ?_ ?_<;>simp -implicitDefEqProofs [SQ]
  .rintro p ⟨hp0,hp,hp1,hp2⟩;refine Ap Ac ?_;by_cases hlt:p<s.size
   .obtain⟨c,hc⟩:∃c,s.data.toList[p]?=some c:=⟨_,Xf hlt⟩
    have ix:=DM s p c hc
    have hdrop:s.data.toList.drop p=c::s.data.toList.drop (p+1):=by
     have:=Xy (l:=s.data.toList) (i:=p) (by omega);rw[this,(Xe.1 hc).2]
    rw[hdrop,A9]at hp1 hp2
    obtain⟨p1,hp1'⟩:∃p1,p1=p+1:=⟨_,rfl⟩
    rw[<-hp1']at hp1 hp2
    have e1:Xc.wrap ((p:Int)+1)=(p1:Int):=by rw[hp1'];exact AP (by omega) (by omega)
    have st:=λt=>ts1 s p l p1 t
    have b34:((c.toNat:Int)==34)=decide (c.toNat=34):=by
     by_cases h:c.toNat=34
     .rw[h];rfl
     .rw[zx h,zu];omega
    by_cases h34:c.toNat=34
    .rw[zy h34]at hp1 hp2;rw[zw h34]at b34
     have hpz:p=z:=by simpa using hp1
     have he0:e=0:=by simpa using hp2.symm
     rw[zy he0]at htk hy
     have hyp:y=p1:=by omega
     have e2:Xc.wrap ((p1:Int)-1)=(z:Int):=by rw[H9 (by omega) (by omega)];omega
     have hsl:=Ot s a1 z (by omega) (by omega)
     have e3:s.extract a1 z=bs t:=by
      rw[<-En (s.extract a1 z),Lib.extract_data,hz,Ya,<-hD,ht]
     rw[e3]at hsl;subst htk;rw[hyp,he0]at fin;simp -implicitDefEqProofs [SQ,tl0,tl1,tl2,hlt,ix,b34,e1,st,e2,hsl,-Bo,-M3,Q6,DW,hyp,he0];exact fin _ rfl rfl
    .rw[zz h34]at hp1 hp2;rw[zx h34]at b34;have hk:=Tl c
     have bad:prt c=false->p=z/\e=8/\y=p:=by
      intro h;rw[h]at hp1 hp2;simp at hp1 hp2;refine⟨hp1,hp2.symm,?_⟩;rw[zz (by omega)]at hy;omega
     cases t1:decide ((c.toNat:Int)<32)with
     | true=>
      rw[t1]at hk;obtain⟨h1,h2,h3⟩:=bad hk;rw[zz (by omega)]at htk;subst htk;rw[h3,h2]at fin;simp -implicitDefEqProofs [SQ,tl0,tl1,hlt,ix,b34,t1,-Bo,GZ,DW,h3,h2];exact fin _ rfl rfl
     | false=>
      cases t2:decide (126<(c.toNat:Int))with
      | true=>
       rw[t1,t2]at hk;obtain⟨h1,h2,h3⟩:=bad hk;rw[zz (by omega)]at htk;subst htk;rw[h3,h2]at fin;simp -implicitDefEqProofs [SQ,tl0,tl1,hlt,ix,b34,t1,t2,-Bo,GZ,DW,h3,h2];exact fin _ rfl rfl
      | false=>
       rw[t1,t2]at hk;rw[hk]at hp1 hp2;simp only[Yl,Yu,if_true]at hp1 hp2;simp -implicitDefEqProofs [SQ,tl0,tl1,hlt,ix,b34,t1,t2,e1,st];exact Am.mk p1 ⟨⟨by omega,by omega,by omega,hp2⟩,by omega⟩ (AQ rfl rfl (by simp -implicitDefEqProofs [SQ]) (by simp -implicitDefEqProofs [SQ]))
   .have hd0:s.data.toList.drop p=[]:=Yw (by omega);rw[hd0,A9]at hp1 hp2
    have h1:p=z:=by simpa using hp1
    have h2:e=9:=by simpa using hp2.symm
    subst h1;simp -implicitDefEqProofs [SQ,tl0,tl1,hlt];exact Am.mk () ⟨h2,by omega⟩ (AQ rfl rfl (by simp -implicitDefEqProofs [SQ]) (by simp -implicitDefEqProofs [SQ]))
 rintro _ ⟨h9,hzs⟩;refine Ap Ac ?_;rw[zz (by omega)]at htk hy;subst htk
 have hyz:y=z:=by omega
 rw[hyz,h9]at fin;simp -implicitDefEqProofs [SQ,-Bo,GZ,DW,hyz,h9];exact fin _ rfl rfl
def E1:List UInt8:=[40,41,91,93,60,62,123,125,44,46,59,58,61,38,124,47,35,64]
def A8 (D:List UInt8):Nat×Int:=
 if Lib.hasPrefix D [60,33]||Lib.hasPrefix D [33,62]then(2,0)else if(D.head?).any E1.contains then(1,0)else(0,8)
theorem xE (l:List UInt8) (c:UInt8):decide (Lib.indexByte l c<0) = !l.contains c:=by
 have hge:=Lib.indexByte_ge l c;by_cases h:Lib.indexByte l c = -1
 .have:=Th l c h;rw[h]
  have h2:l.contains c=false:=by simpa using this
  rw[h2];rfl
 .obtain⟨w,r,e,_,_⟩:=Ti l c (Lib.indexByte l c).toNat (by omega)
  have h2:l.contains c=true:=by rw[e];simp
  rw[h2,zx (by omega)];rfl
noncomputable def Oy:Tbl:=[(114,M7),(115,Om)]
theorem Q8:Ctx Xa (G q) (orc Oy):=(As.cons vN (.cons vP .nil)).ctx mixed
theorem xF (s:ByteArray) (a l:Nat) (hs:s.size<=65536) (ha:a<s.size) :
  AH Xa (G q) 94 [.ptr 0 0] [(0,scr s a l)] 1
   (.t (Dp 5 ((s.data.toList.drop a).take (A8 (s.data.toList.drop a)).1) l (A8 (s.data.toList.drop a)).2))
   [(0,scr s (a+(A8 (s.data.toList.drop a)).1) l)] 1:=by
 have hlen:s.data.toList.length=s.size:=rfl
 obtain⟨D,hD⟩:∃D,D=s.data.toList.drop a:=⟨_,rfl⟩
 rw[<-hD]
 have hDl:D.length=s.size-a:=by rw[hD,Xs,hlen]
 obtain⟨c0,hc0⟩:∃c,s.data.toList[a]?=some c:=⟨_,Xf ha⟩
 have hD0:D=c0::s.data.toList.drop (a+1):=by
  have:=Xy (l:=s.data.toList) (i:=a) (by omega);rw[hD,this,(Xe.1 hc0).2]
 have ix0:=DM s a c0 hc0
 have hx:(s.extract a s.size).data.toList=D:=by
  rw[Lib.extract_data,<-hD];exact X8 (by omega)
 have hsf:=bI s a (by omega)
 have q1:∀p:ByteArray,M7 [.v (.string (s.extract a s.size)),.v (.string p)]=some (bv (Lib.hasPrefix D p.data.toList)):=by
  intro p;rw[M7,Dz (τ:=BU) (σ:=BU) (x:=s.extract a s.size) (y:=p) rfl rfl,hx]
 have q2:Om [.v (.string ⟨#[40,41,91,93,60,62,123,125,44,46,59,58,61,38,124,47,35,64]⟩),cv c0]=some (iv (Lib.indexByte E1 c0)):=by
  have:(((c0.toNat:Nat):Int)).toNat.toUInt8=c0:=by simp
  simp only[Om,this];rfl
 have hneg:=xE E1 c0;have q11:=q1 ⟨#[60,33]⟩;have q12:=q1 ⟨#[33,62]⟩
 have fin:∀(k':Int) (t':List UInt8) (l' e:Int) (z:Nat) (env:List (Nat×PV)),Dp 5 (D.take (A8 D).1) l (A8 D).2 = .tu [.ag (tkc k' t' l'),iv e]->Aa env 2=some (.ptr 1 0)->Aa env 3=some (.t (iv e)) ->
   F7 Xa (G q) 1 [.cell 2 true 3,.tmp 3] (λr0 H0 nx0=>r0=PV.t (Dp 5 (D.take (A8 D).1) l (A8 D).2)/\H0=[(1,tkr k' t' l'),(0,scr s z l)]/\nx0=2) .ret ⟨env,[(1,tkr k' t' l'),(0,scr s z l)],2,67⟩:=by
  intro k' t' l' e z env h h2 h3;refine⟨.inr rfl,_,[.t (.ag (tkc k' t' l')),.t (iv e)],Sub.refl _,?_,?_,rfl,rfl⟩
  .simp[Ez,h2,h3,Aj,Bi]
  .rw[h];rfl
 have good:∀n:Nat,A8 D=(n,0)->0<n->n<=D.length->∀z,z=a+n->Xc.wrap ((a:Int)+(n:Int))=(z:Int)/\Xc.wrap ((z:Int)-(n:Int))=(a:Int)/\DK (.t (sv s)) (some (.t (iv (a:Int)))) (some (.t (iv (z:Int))))=some (.t (sv (bs (D.take n)))) /\
   Dp 5 (D.take (A8 D).1) l (A8 D).2 = .tu [.ag (tkc 5 (D.take n) l),iv 0]:=by
  intro n hn h0 hle z hz;refine⟨by rw[H9 (by omega) (by omega)];omega,by rw[H9 (by omega) (by omega)];omega,?_,by rw[hn];rfl⟩;rw[Ot s a z (by omega) (by omega)]
  have e3:s.extract a z=bs (D.take n):=by
   rw[<-En (s.extract a z),Lib.extract_data,hz,Ya,<-hD]
  rw[e3]
 have pl:∀x y:UInt8,Lib.hasPrefix D [x,y]=true->2<=D.length:=by
  intro x y h;have:=(Ym.1 h).length_le;simpa using this
 have q11':∀b,Lib.hasPrefix D [60,33]=b->M7 [.v (.string (s.extract a s.size)),.v (.string ⟨#[60,33]⟩)]=some (bv b):=by intro b h;rw[q11,<-h]
 have q12':∀b,Lib.hasPrefix D [33,62]=b->M7 [.v (.string (s.extract a s.size)),.v (.string ⟨#[33,62]⟩)]=some (bv b):=by intro b h;rw[q12,<-h]
 cases p1:Lib.hasPrefix D [60,33]with
 | true=>
  have hS:A8 D=(2,0):=by simp[A8,p1]
  have g1:=q11' _ p1
  obtain⟨z,hz⟩:∃z,z=a+2:=⟨_,rfl⟩
  obtain⟨w1,w2,w3,w4⟩:=good 2 hS (by omega) (pl _ _ p1) z hz;have w1':Xc.wrap ((a:Int)+2)=(z:Int):=w1;have w2':Xc.wrap ((z:Int)-2)=(a:Int):=w2;have st:=λt=>ts1 s a l z t
  have hzz:a+(A8 D).1=z:=by rw[hS];exact hz.symm
  rw[hzz];refine AH.keep1 (cs:=scc s z l) (H':=[(1,tkr 5 (D.take 2) l),(0,scr s z l)]) (nx':=2) ?_ rfl;refine Qo.callP rfl ?_;refine Ap Q8 ?_
  (conv in Of=>cbv);simp -implicitDefEqProofs [tl0,tl1,tl2,hsf,Oy,g1,w1',st,w2',w3,-Bo,-M3,Q6,DW]
  exact fin 5 (D.take 2) l 0 z _ w4 rfl rfl
 | false=>
 have g1:=q11' _ p1
 cases p2:Lib.hasPrefix D [33,62]with
 | true=>
  have hS:A8 D=(2,0):=by simp[A8,p2]
  have g2:=q12' _ p2
  obtain⟨z,hz⟩:∃z,z=a+2:=⟨_,rfl⟩
  obtain⟨w1,w2,w3,w4⟩:=good 2 hS (by omega) (pl _ _ p2) z hz;have w1':Xc.wrap ((a:Int)+2)=(z:Int):=w1;have w2':Xc.wrap ((z:Int)-2)=(a:Int):=w2;have st:=λt=>ts1 s a l z t
  have hzz:a+(A8 D).1=z:=by rw[hS];exact hz.symm
  rw[hzz];refine AH.keep1 (cs:=scc s z l) (H':=[(1,tkr 5 (D.take 2) l),(0,scr s z l)]) (nx':=2) ?_ rfl;refine Qo.callP rfl ?_;refine Ap Q8 ?_
  (conv in Of=>cbv);simp -implicitDefEqProofs [tl0,tl1,tl2,hsf,Oy,g1,g2,w1',st,w2',w3,-Bo,-M3,Q6,DW]
  exact fin 5 (D.take 2) l 0 z _ w4 rfl rfl
 | false=>
 have g2:=q12' _ p2
 cases p3:E1.contains c0 with
 | true=>
  have hS:A8 D=(1,0):=by
   unfold A8;rw[p1,p2,hD0];simp only[Yl,Xk,if_false,Yz,Y0,p3,if_true]
  rw[p3]at hneg;have h3:¬Lib.indexByte E1 c0<0:=of_decide_eq_false hneg
  obtain⟨z,hz⟩:∃z,z=a+1:=⟨_,rfl⟩
  obtain⟨w1,w2,w3,w4⟩:=good 1 hS (by omega) (by rw[hD0];simp) z hz;have w1':Xc.wrap ((a:Int)+1)=(z:Int):=w1;have w2':Xc.wrap ((z:Int)-1)=(a:Int):=w2;have st:=λt=>ts1 s a l z t
  have hzz:a+(A8 D).1=z:=by rw[hS];exact hz.symm
  rw[hzz];refine AH.keep1 (cs:=scc s z l) (H':=[(1,tkr 5 (D.take 1) l),(0,scr s z l)]) (nx':=2) ?_ rfl;refine Qo.callP rfl ?_;refine Ap Q8 ?_
  (conv in Of=>cbv);simp -implicitDefEqProofs [tl0,tl1,tl2,hsf,Oy,g1,g2,ix0,q2,h3,w1',st,w2',w3,-Bo,-M3,Q6,DW]
  exact fin 5 (D.take 1) l 0 z _ w4 rfl rfl
 | false=>
  have hS:A8 D=(0,8):=by
   unfold A8;rw[p1,p2,hD0];simp only[Yl,Xk,if_false,Yz,Y0,p3]
  rw[p3]at hneg;have h3:Lib.indexByte E1 c0<0:=of_decide_eq_true hneg
  have hzz:a+(A8 D).1=a:=by rw[hS];rfl
  have w4:Dp 5 (D.take (A8 D).1) l (A8 D).2 = .tu [.ag (tkc 0 [] 0),iv 8]:=by rw[hS];rfl
  rw[hzz];refine AH.keep1 (cs:=scc s a l) (H':=[(1,tkr 0 [] 0),(0,scr s a l)]) (nx':=2) ?_ rfl;refine Qo.callP rfl ?_;refine Ap Q8 ?_
  (conv in Of=>cbv);simp -implicitDefEqProofs [tl0,tl1,tl2,hsf,Oy,g1,g2,ix0,q2,h3,-Bo,GZ,DW]
  exact fin 0 [] 0 8 a _ w4 rfl rfl
structure Tk where
 k:Int
 t:List UInt8
 e:Int
 n:Nat
def Ax (D:List UInt8):Tk:=
 match D with
 | []=>⟨0,[],8,0⟩
 | c::_=>
  if B7 c then⟨1,D.take (AB false D),if 32<AB false D then 7 else 0,AB false D⟩
  else if Bq c then⟨2,D.take (AB true D),if 32<AB true D then 7 else 0,AB true D⟩
  else if AR c||decide (c.toNat=45)then⟨4,D.take (AX D),D0 (D.take (AX D)),AX D⟩
  else if c.toNat=34 then⟨3,(D.drop 1).take (A9 (D.drop 1)).1,(A9 (D.drop 1)).2,1+(A9 (D.drop 1)).1+(if(A9 (D.drop 1)).2=0 then 1 else 0)⟩
  else⟨5,D.take (A8 D).1,(A8 D).2,(A8 D).1⟩
theorem MF (k:Int) (t:List UInt8) (l e:Int):∃k' t' l',Dp k t l e = .tu [.ag (tkc k' t' l'),iv e]:=by
 by_cases h:e=0
 .exact⟨k,t,l,by rw[Dp,zy h,h]⟩
 .exact⟨0,[],0,by rw[Dp,zz h]⟩
theorem MG {f:Nat} {args:List T} {r:T} {s:ByteArray} {a l a' l':Nat} (h:AH Xa (G q) f (.ptr 0 0::args.map .t) [(0,scr s a l)] 1 (.t r) [(0,scr s a' l')] 1) (t:Row) :
  HOK Xa (G q) f (Fe (.ptr 0 0::args.map .t) [(1,t),(0,scr s a l)] 2 (.t r,[(1,t),(0,scr s a' l')],2)):=by
 refine E0 ?_ ?_
 .exact AH.lift1 (cs:=scc s a l) (args:=args) (cs':=scc s a' l') h (b:=0) (NX:=2) (Hb:=[(1,t),(0,scr s a l)]) rfl (by omega)
 .intro _ b x hb;simp only[Aa]at hb;split at hb
  .omega
  .split at hb
   .omega
   .cases hb
noncomputable def Lm:Tbl:=[(88,GW JK),(90,GW rUp),(91,GW F9)]
theorem MH:As Xa (G q) Lm:=.cons (JL aW) (.cons (JL SZ) (.cons (JL Ta) .nil))
theorem xG (s:ByteArray) (a l:Nat) (hs:s.size<=65536) (ha:a<s.size) :
  AH Xa (G q) 56 [.ptr 0 0] [(0,scr s a l)] 1
   (.t (Dp (Ax (s.data.toList.drop a)).k (Ax (s.data.toList.drop a)).t l (Ax (s.data.toList.drop a)).e))
   [(0,scr s (a+(Ax (s.data.toList.drop a)).n) l)] 1:=by
 have hlen:s.data.toList.length=s.size:=rfl
 obtain⟨D,hD⟩:∃D,D=s.data.toList.drop a:=⟨_,rfl⟩
 obtain⟨c,hc⟩:∃c,s.data.toList[a]?=some c:=⟨_,Xf ha⟩
 have hD0:D=c::s.data.toList.drop (a+1):=by
  have:=Xy (l:=s.data.toList) (i:=a) (by omega);rw[hD,this,(Xe.1 hc).2]
 have hD1:D.drop 1=s.data.toList.drop (a+1):=by rw[hD0];rfl
 have ix:=DM s a c hc;have ci:=Tm c;have c1:=JM JK (c.toNat:Int);have c2:=JM rUp (c.toNat:Int);have c3:=JM F9 (c.toNat:Int);rw[Tb]at c1;rw[Q0]at c2;rw[Oo]at c3;have h1:=λps H nx o=>DL ps H nx o
 have fin:∀(r:T) (k:Int) (t:List UInt8) (z:Nat) (e k':Int) (t':List UInt8) (l':Int) (env:List (Nat×PV)),r=Dp k t l e->Dp k t l e = .tu [.ag (tkc k' t' l'),iv e]->Aa env 2=some (.ptr 1 0)->Aa env 3=some (.t (iv e)) ->
   F7 Xa (G q) 1 [.cell 2 true 3,.tmp 3] (λr0 H0 nx0=>r0=PV.t r/\H0=[(1,tkr k' t' l'),(0,scr s z l)]/\nx0=2) .ret ⟨env,[(1,tkr k' t' l'),(0,scr s z l)],2,51⟩:=by
  intro r k t z e k' t' l' env hr h h2 h3;refine⟨.inr rfl,_,[.t (.ag (tkc k' t' l')),.t (iv e)],Sub.refl _,?_,?_,rfl,rfl⟩
  .simp[Ez,h2,h3,Aj,Bi]
  .rw[hr,h];rfl
 rw[<-hD]
 have hN:Ax D=Ax (c::s.data.toList.drop (a+1)):=by rw[hD0]
 rw[Ax]at hN;rw[<-hD0]at hN
 cases t1:B7 c with
 | true=>
  rw[t1]at c1;rw[zy t1]at hN;have hm:=bL (q:=q) false s a l 1 hs (by omega);rw[<-hD]at hm;rw[hN];simp only
  obtain⟨z,hz⟩:∃z,z=a+AB false D:=⟨_,rfl⟩
  rw[<-hz]at hm ⊢;obtain⟨k',t',l',heq⟩:=MF 1 (D.take (AB false D)) l (if 32<AB false D then 7 else 0);generalize (if 32<AB false D then(7:Int)else 0)=e at hm heq ⊢;generalize D.take (AB false D)=t at hm heq ⊢;have lm:=MG (args:=[iv 1,fv 88]) hm tk0;rw[heq]at lm;have ctx:=MH.ctxH (.cons lm .nil) mixed;refine AH.keep1 (cs:=scc s z l) (H':=[(1,tkr k' t' l'),(0,scr s z l)]) (nx':=2) ?_ rfl;refine M5.callP rfl ?_;refine Ap ctx ?_
  (conv in Lg=>cbv);simp -implicitDefEqProofs [tl0,tl1,ix,ci,Lm,c1,h1,BC,DW]
  exact fin _ _ _ z e k' t' l' _ rfl heq rfl rfl
 | false=>
 rw[t1]at c1;rw[zz (by rw[t1];simp)]at hN
 cases t2:Bq c with
 | true=>
  rw[t2]at c2;rw[zy t2]at hN;have hm:=bL (q:=q) true s a l 2 hs (by omega);rw[<-hD]at hm;rw[hN];simp only
  obtain⟨z,hz⟩:∃z,z=a+AB true D:=⟨_,rfl⟩
  rw[<-hz]at hm ⊢;obtain⟨k',t',l',heq⟩:=MF 2 (D.take (AB true D)) l (if 32<AB true D then 7 else 0);generalize (if 32<AB true D then(7:Int)else 0)=e at hm heq ⊢;generalize D.take (AB true D)=t at hm heq ⊢;have lm:=MG (args:=[iv 2,fv 90]) hm tk0;rw[heq]at lm;have ctx:=MH.ctxH (.cons lm .nil) mixed;refine AH.keep1 (cs:=scc s z l) (H':=[(1,tkr k' t' l'),(0,scr s z l)]) (nx':=2) ?_ rfl;refine M5.callP rfl ?_;refine Ap ctx ?_
  (conv in Lg=>cbv);simp -implicitDefEqProofs [tl0,tl1,ix,ci,Lm,c1,c2,h1,BC,DW]
  exact fin _ _ _ z e k' t' l' _ rfl heq rfl rfl
 | false=>
 rw[t2]at c2;rw[zz (by rw[t2];simp)]at hN
 have b45:((c.toNat:Int)==45)=decide (c.toNat=45):=by
  by_cases h:c.toNat=45
  .rw[h];rfl
  .rw[zx h,zu];omega
 have num:AR c=true\/(AR c=false/\decide (c.toNat=45)=true)->Ax D=⟨4,D.take (AX D),D0 (D.take (AX D)),AX D⟩:=by
  rintro(h | ⟨h,h'⟩)
  .rw[hN,zy (by rw[h];rfl)]
  .rw[hN,zy (by rw[h,h'];rfl)]
 cases t3:AR c with
 | true=>
  rw[t3]at c3;have hm:=bM (q:=q) s a l hs ha;rw[<-hD]at hm;rw[num (.inl t3)];simp only
  obtain⟨z,hz⟩:∃z,z=a+AX D:=⟨_,rfl⟩
  rw[<-hz]at hm ⊢;obtain⟨k',t',l',heq⟩:=MF 4 (D.take (AX D)) l (D0 (D.take (AX D)));generalize D0 (D.take (AX D))=e at hm heq ⊢;generalize D.take (AX D)=t at hm heq ⊢;have lm:=MG (args:=[]) hm tk0;rw[heq]at lm;have ctx:=MH.ctxH (.cons lm .nil) mixed;refine AH.keep1 (cs:=scc s z l) (H':=[(1,tkr k' t' l'),(0,scr s z l)]) (nx':=2) ?_ rfl;refine M5.callP rfl ?_;refine Ap ctx ?_
  (conv in Lg=>cbv);simp -implicitDefEqProofs [tl0,tl1,ix,ci,Lm,c1,c2,c3,h1,BC,DW]
  exact fin _ _ _ z e k' t' l' _ rfl heq rfl rfl
 | false=>
 rw[t3]at c3
 cases t4:decide (c.toNat=45)with
 | true=>
  rw[t4]at b45;have hm:=bM (q:=q) s a l hs ha;rw[<-hD]at hm;rw[num (.inr ⟨t3,t4⟩)];simp only
  obtain⟨z,hz⟩:∃z,z=a+AX D:=⟨_,rfl⟩
  rw[<-hz]at hm ⊢;obtain⟨k',t',l',heq⟩:=MF 4 (D.take (AX D)) l (D0 (D.take (AX D)));generalize D0 (D.take (AX D))=e at hm heq ⊢;generalize D.take (AX D)=t at hm heq ⊢;have lm:=MG (args:=[]) hm tk0;rw[heq]at lm;have ctx:=MH.ctxH (.cons lm .nil) mixed;refine AH.keep1 (cs:=scc s z l) (H':=[(1,tkr k' t' l'),(0,scr s z l)]) (nx':=2) ?_ rfl;refine M5.callP rfl ?_;refine Ap ctx ?_
  (conv in Lg=>cbv);simp -implicitDefEqProofs [tl0,tl1,ix,ci,Lm,c1,c2,c3,b45,h1,BC,DW]
  exact fin _ _ _ z e k' t' l' _ rfl heq rfl rfl
 | false=>
 rw[t4]at b45;rw[t3,t4,zz (by simp)]at hN;by_cases h34:c.toNat=34
 .have b34:((c.toNat:Int)==34)=true:=by rw[h34];rfl
  rw[zy h34]at hN;have hm:=xD (q:=q) s a l hs ha;rw[<-hD1]at hm;rw[hN];simp only
  obtain⟨z,hz⟩:∃z,z=a+(1+(A9 (D.drop 1)).1+(if(A9 (D.drop 1)).2=0 then 1 else 0)):=⟨_,rfl⟩
  rw[show a+1+(A9 (D.drop 1)).1+(if(A9 (D.drop 1)).2=0 then 1 else 0)=z by omega]at hm;rw[<-hz];obtain⟨k',t',l',heq⟩:=MF 3 ((D.drop 1).take (A9 (D.drop 1)).1) l (A9 (D.drop 1)).2;generalize (D.drop 1).take (A9 (D.drop 1)).1=t at hm heq ⊢;clear hz;generalize (A9 (D.drop 1)).2=e at hm heq ⊢;have lm:=MG (args:=[]) hm tk0;rw[heq]at lm;have ctx:=MH.ctxH (.cons lm .nil) mixed;refine AH.keep1 (cs:=scc s z l) (H':=[(1,tkr k' t' l'),(0,scr s z l)]) (nx':=2) ?_ rfl;refine M5.callP rfl ?_;refine Ap ctx ?_
  (conv in Lg=>cbv);simp -implicitDefEqProofs [tl0,tl1,ix,ci,Lm,c1,c2,c3,b45,b34,h1,BC,DW]
  exact fin _ _ _ z e k' t' l' _ rfl heq rfl rfl
 .have b34:((c.toNat:Int)==34)=false:=by rw[zu];omega
  rw[zz h34]at hN;have hm:=xF (q:=q) s a l hs ha;rw[<-hD]at hm;rw[hN];simp only
  obtain⟨z,hz⟩:∃z,z=a+(A8 D).1:=⟨_,rfl⟩
  rw[<-hz]at hm ⊢;obtain⟨k',t',l',heq⟩:=MF 5 (D.take (A8 D).1) l (A8 D).2;generalize (A8 D).2=e at hm heq ⊢;generalize D.take (A8 D).1=t at hm heq ⊢;have lm:=MG (args:=[]) hm tk0;rw[heq]at lm;have ctx:=MH.ctxH (.cons lm .nil) mixed;refine AH.keep1 (cs:=scc s z l) (H':=[(1,tkr k' t' l'),(0,scr s z l)]) (nx':=2) ?_ rfl;refine M5.callP rfl ?_;refine Ap ctx ?_
  (conv in Lg=>cbv);simp -implicitDefEqProofs [tl0,tl1,ix,ci,Lm,c1,c2,c3,b45,b34,h1,BC,DW]
  exact fin _ _ _ z e k' t' l' _ rfl heq rfl rfl
structure Tok where
 k:Int
 t:List UInt8
 l:Nat
def Aw:Enc Tok:=⟨3,λt=>[iv t.k,sv (bs t.t),iv (t.l:Int)],λ_=>rfl,by omega,λa b h=>by
 obtain⟨k,t,l⟩:=a;obtain⟨k',t',l'⟩:=b;injection h with h1 h2;injection h2 with h2 h3;injection h3 with h3;injection h1 with h1;injection h1 with _ h1;injection h2 with h2;injection h2 with h2;injection h3 with h3;injection h3 with _ h3
 have h2':t=t':=by
  have:=congrArg (λb:ByteArray=>b.data.toList) h2;simpa using this
 simp only at h1 h3
 have h3':l=l':=by omega
 rw[h1,h2',h3']⟩
def BM:Nat->List UInt8->Nat->Except (Nat×Int) (List Tok)
 | 0,_,_=>.ok []
 | f+1,D,l=>
  if D.isEmpty then .ok []
  else if(Ax D).e≠0 then .error (l,(Ax D).e)
  else match BM f ((D.drop (Ax D).n).drop (Au false (D.drop (Ax D).n)).1) (l+(Au false (D.drop (Ax D).n)).2)with
   | .error x=>.error x
   | .ok ts=>.ok (⟨(Ax D).k,(Ax D).t,l⟩::ts)
def CZ (D:List UInt8) (l:Nat):Except (Nat×Int) (List Tok):=BM (D.length+1) (D.drop (Au false D).1) (l+(Au false D).2)
def He (out:List Tok):Except (Nat×Int) (List Tok)->Except (Nat×Int) (List Tok)
 | .error x=>.error x
 | .ok ts=>.ok (out++ts)
theorem To (r:Except (Nat×Int) (List Tok)):He [] r=r:=by cases r<;>rfl
theorem Q9:∀(l:List UInt8) (cm:Bool),(Au cm l).2<=(Au cm l).1
 | [],_=>by simp[Au]
 | c::r,cm=>by
  have h1:=Q9 r false;have h2:=Q9 r true;rw[Au];split
  .simp;omega
  .split
   .simp;omega
   .split
    .simp;omega
    .simp
theorem bN (big:Bool) (c:UInt8) (r:List UInt8) (h:BL big c=true):1<=AB big (c::r):=by
 unfold AB;rw[X9,zy h];simp
theorem IR (D:List UInt8) (h0:D.isEmpty=false) (he:(Ax D).e=0):1<=(Ax D).n/\(Ax D).n<=D.length:=by
 cases D with
 | nil=>cases h0
 | cons c r=>
  rw[Ax]at he ⊢;by_cases t1:B7 c=true
  .rw[zy t1];exact⟨bN false c r (by rw[Tn];simp[t1]),IQ _ _⟩
  .rw[zz t1]at he ⊢;by_cases t2:Bq c=true
   .rw[zy t2];exact⟨bN true c r (by rw[Tn];simp[t2]),IQ _ _⟩
   .rw[zz t2]at he ⊢;by_cases t3:(AR c||decide (c.toNat=45))=true
    .rw[zy t3];refine⟨?_,MA _⟩;show 1<=AX (c::r);unfold AX Cu;by_cases h45:c=45
     .subst h45;simp
     .have hd:AR c=true:=by
       rcases Y1.1 t3 with h | h
       .exact h
       .exact absurd (Yy.1 (by have:=of_decide_eq_true h;show c.toNat=45;omega)) h45
      have:((c::r).head?==some 45)=false:=by simpa using h45
      rw[this];simp[X9,hd]
    .rw[zz t3]at he ⊢;by_cases t4:c.toNat=34
     .rw[zy t4]at he ⊢;obtain⟨q1,q2,q3⟩:=ME ((c::r).drop 1);have he':(A9 ((c::r).drop 1)).2=0:=he;have:=q2 he';simp only[he',if_true];simp at this ⊢;omega
     .rw[zz t4]at he ⊢;have he':(A8 (c::r)).2=0:=he;show 1<=(A8 (c::r)).1/\(A8 (c::r)).1<=(c::r).length;unfold A8 at he' ⊢;split
      .rename_i h;refine⟨by omega,?_⟩;rcases Y1.1 h with h | h
       .have:=(Ym.1 h).length_le;simpa using this
       .have:=(Ym.1 h).length_le;simpa using this
      .rename_i h;rw[zz h]at he';split
       .simp
       .rename_i h2;rw[zz h2]at he';cases he'
abbrev KT:=Int×List UInt8
abbrev Res (α:Type):=Except Int (α×Nat)
section
variable (l : List KT)
def Be (p:Nat) (s:List UInt8):Bool:=match l[p]? with
 | some t=>decide (t.1=5)&&decide (t.2=s)
 | none=>false
def AJ (p:Nat) (k:Int):Res ByteArray:=match l[p]? with
 | none=>.error 9
 | some t=>if t.1=k then .ok (bs t.2,p+1)else .error 8
def B6 (p:Nat) (s:List UInt8):Except Int Nat:=if l.length<=p then .error 9 else if Be l p s then .ok (p+1)else .error 8
def E2:Nat->Nat->List ByteArray->Res (List ByteArray)
 | 0,_,_=>.error 0
 | f+1,p,path=>if Be l p [46]then(if 64<=path.length then .error 7 else match AJ l (p+1) 2 with
  | .error e=>.error e
  | .ok (s,p')=>E2 f p' (path++[s]))else .ok (path,p)
def Ff (rec:Nat->Res Ds) (p:Nat):Res Ds:=match AJ l p 2 with
 | .error e=>.error e
 | .ok (s,p1)=>match E2 l (l.length+1) p1 [s]with
  | .error e=>.error e
  | .ok (path,p2)=>match rec p2 with
   | .error e=>.error e
   | .ok (d,p3)=>.ok (.mk 5 ⟨#[]⟩ path [d],p3)
def brS (rec:Nat->Res Ds):Nat->Nat->List Ds->Res (List Ds)
 | 0,_,_=>.error 0
 | f+1,p,parts=>match Ff l rec p with
  | .error e=>.error e
  | .ok (d,p1)=>if Be l p1 [44]then(if 256<=parts.length+1 then .error 7 else brS rec f (p1+1) (parts++[d]))else match B6 l p1 [93]with
   | .error e=>.error e
   | .ok p2=>.ok (parts++[d],p2)
def itS (rec:Nat->Res Ds):Nat->Nat->List Ds->Res (List Ds)
 | 0,_,_=>.error 0
 | f+1,p,kids=>if Be l p [44]then(if 256<=kids.length then .error 7 else match rec (p+1)with
  | .error e=>.error e
  | .ok (d,p')=>itS rec f p' (kids++[d]))else .ok (kids,p)
def Da (s:List UInt8) (op:Int) (kids:List Ds) (p:Nat):Res Ds:=match B6 l p s with
 | .error e=>.error e
 | .ok p'=>.ok (.mk op ⟨#[]⟩ [] kids,p')
def Dq (rec:Nat->Res Ds) (p:Nat):Res Ds:=
 if l.length<=p then .error 9 else if Be l p [62]then Da l [62] 6 [] p else match rec p with
 | .error e=>.error e
 | .ok (d,p1)=>match itS l rec (l.length+1) p1 [d]with
  | .error e=>.error e
  | .ok (kids,p2)=>if Be l p2 [124]then(if 256<=kids.length then .error 7 else match rec (p2+1)with
    | .error e=>.error e
    | .ok (d',p3)=>Da l [62] 7 (kids++[d']) p3)
   else Da l [62] 6 kids p2
def DA (rec:Nat->Res Ds) (p:Nat):Res Ds:=
 if l.length<=p then .error 9 else if Be l p [33,62]then Da l [33,62] 8 [] p else match rec p with
 | .error e=>.error e
 | .ok (d,p1)=>match itS l rec (l.length+1) p1 [d]with
  | .error e=>.error e
  | .ok (kids,p2)=>Da l [33,62] 8 kids p2
def DX (parts:List Ds):Res Ds->Res (List Ds)
 | .error e=>.error e
 | .ok (d,p)=>.ok (parts++[d],p)
def Fv (op:Int):Res ByteArray->Res Ds
 | .error e=>.error e
 | .ok (s,p)=>.ok (.mk op s [] [],p)
def Di (rec:Nat->Res Ds) (p:Nat) (parts:List Ds):Res (List Ds):=match l[p]? with
 | none=>.error 9
 | some t=>
  if t.1=1 then .ok (parts++[.mk 1 (bs t.2) [] []],p+1)
  else if t.1≠5 then .error 8
  else if t.2=[64]then DX parts (Fv 2 (AJ l (p+1) 1))
  else if t.2=[35]then DX parts (Fv 3 (AJ l (p+1) 1))
  else if t.2=[91]then brS l rec (l.length+1) (p+1) parts
  else if t.2=[60]then DX parts (Dq l rec (p+1))
  else if t.2=[60,33]then DX parts (DA l rec (p+1))
  else .error 8
def Fg (rec:Nat->Res Ds):Nat->Nat->List Ds->Res (List Ds)
 | 0,_,_=>.error 0
 | f+1,p,parts=>if Be l p [38]then(if 256<=parts.length then .error 7 else match Di l rec (p+1) parts with
  | .error e=>.error e
  | .ok (parts',p')=>Fg rec f p' parts')else .ok (parts,p)
def Oz (parts:List Ds):Ds:=match parts with
 | [d]=>d
 | parts=>.mk 4 ⟨#[]⟩ [] parts
def AA:Nat->Nat->Res Ds
 | 0,p=>if l.length<=p then .error 9 else .error 7
 | n+1,p=>if l.length<=p then .error 9 else match Di l (AA n) p []with
  | .error e=>.error e
  | .ok (parts,p1)=>match Fg l (AA n) (l.length+1) p1 parts with
   | .error e=>.error e
   | .ok (parts',p2)=>.ok (Oz parts',p2)
end
end Go.Proofs.YtobnacghaamfoaaGreatDoor
namespace Go.Abs
open Go
section
variable {P : Program} {G : A2}
theorem sub_env {B nx n:Nat} {env env':List (Nat×PV)} {H:Ab} (he:∀q∈env',Aa env q.1=some q.2):Sub P G B ⟨env,H,nx,n⟩ ⟨env',H,nx,n⟩:=by
 intro L a w hi;refine⟨L,⟨hi.heap,hi.nx,hi.base,hi.size,hi.defers,λk p h=>hi.env k p (he _ (BK h))⟩,?_,λ_ _=>rfl⟩;exact⟨Xb _,λ_ _ _=>rfl,λ_ h=>h,λ_ h=>.inl h,λg ⟨b,r,h,e⟩=>.inr ⟨b,r,h,e⟩,BS.refl w,Ca.refl w⟩
end
section
variable {α β : Type} {P : Program} {G : A2} {B : Nat}
theorem sub_rowR2 {e:Enc α} {e':Enc β} {ty ty' b c k nx nx' n:Nat} {l:List α} {l':List β} {env env':List (Nat×PV)} {H R:Ab} (h:Ay e ty H k l) (h':Ay e' ty' H c l') (hb:b<nx') (hB:B<=b) (hc:c<nx') (cb:c≠b) (ck:c≠k)
  (hR:∀q∈R,Aa H q.1=some (BE (λx=>if x=b then k else x) q.2)/\q.1<nx'/\q.1≠b/\q.1≠k/\Cm nx' q.2=true)
  (he:∀q∈env',Aa env q.1=some (ren (λx=>if x=b then k else x) q.2)/\under nx' q.2=true) :
  Sub P G B ⟨env,H,nx,n⟩ ⟨env',R++(A4 e' ty' c l'++A4 e ty b l),nx',n⟩:=by
 rw[<-Y3];refine FK h hb hB (λq hq=>?_) he;rcases Xz.1 hq with hq | hq
 .exact hR q hq
 .obtain⟨hn,rfl⟩:=Fc hq;simp only[HG,HH];exact⟨h'.resolve_left hn,hc,cb,ck,trivial⟩
theorem Ay.right {e:Enc α} {ty b:Nat} {H R:Ab} {l:List α} (h:Ay e ty H b l) (hR:∀q∈R,q.1≠b):Ay e ty (R++H) b l:=by
 induction R with
 | nil=>exact h
 | cons q R ih=>exact Ay.cons (ih λx hx=>hR x (X0 _ hx)) (hR q X6)
theorem rowH_ne {e:Enc α} {ty b c:Nat} {l:List α} (h:c≠b):∀q∈A4 e ty c l,q.1≠b:=λq hq=>by
 obtain⟨_,rfl⟩:=Fc hq;exact h
end
theorem app_cells {α:Type} {e:Enc α} {ty ty' by' b k nx:Nat} {H:Ab} {l:List α} {cs:List PV} (h:Ay e ty H b l) (hk:Aa H k=some (.cells ty' cs)) (hc:cs.length=e.z)
  (hb:(l.length+1)*by'<=140737488355328) (hb2:l.length+1<=9223372036854775807) :
  ∃H',Cc ty e.z by' H nx (rowP e b l) (.row k 0 1 e.z)=some (.row nx 0 (l.length+1) e.z,H',nx+1)/\Aa H' nx=some (.cells ty ((l.flatMap e.enc).map .t++cs))/\∀c,c≠nx->c≠b->Aa H' c=Aa H c:=by
 have hs:Ew H e.z (.row k 0 1 e.z)=some (1,cs):=by
  have tk:Ye e.z cs=cs:=X8 (by rw[hc];exact Xb _);simp[Ew,hk,hc,tk]
 cases l with
 | nil=>
  simp only[Y4,Nat.zero_add,Nat.one_mul]at hb hb2;refine⟨(nx,.cells ty cs)::H,?_,by simp[Aa],λc h1 _=>by rw[Az,zz (Ne.symm h1)]⟩;simp[Cc,hs,rowP,hb]
 | cons x l=>
  have h:=h.resolve_left (by simp)
  have hl:(((x::l).flatMap e.enc).map PV.t).length=(x::l).length*e.z:=by rw[Xl,IH]
  refine⟨(nx,.cells ty (((x::l).flatMap e.enc).map .t++cs))::rem H b,?_,by simp[Aa],λc h1 h2=>by rw[Az,zz (Ne.symm h1),CJ,zz h2]⟩;simp only[Cc,hs,rowP,h,rowOf,hl,true_and,zy (And.intro hb hb2)]
theorem rowP_snoc {α:Type} (e:Enc α) (b:Nat) (l:List α) (x:α):rowP e b (l++[x]) = .row b 0 (l.length+1) e.z:=by
 cases l with
 | nil=>rfl
 | cons y l=>simp[rowP]
theorem bO (a b:ByteArray):(!(Op.bytesLess a.toList b.toList||a.toList==b.toList))=Ft b a:=by
 rw[r8,qZ];by_cases e:a=b
 .subst e;simp[XI]
 .rw[zx e,Yj]
  cases h:Ft a b with
  | true=>rw[rB h];rfl
  | false=>rw[rA h e];rfl
@[simp] theorem C3u {Φ:A7} {H:Ab} {nx:Nat} (isB:Bool) (nk:Option NK) (a b:ByteArray):Ai Φ H nx (.bin isB .gtr nk) [.t (.v (.string a)),.t (.v (.string b))]=some (.t (.v (.bool (Ft b a))),H,nx):=by
 rw[<-bO];rfl
@[simp] theorem C3v {Φ:A7} {H:Ab} {nx:Nat} (isB:Bool) (nk:Option NK) (a b:ByteArray):Ai Φ H nx (.bin isB .geq nk) [.t (.v (.string a)),.t (.v (.string b))]=some (.t (.v (.bool (!Ft a b))),H,nx):=rfl
@[simp] theorem C3w {Φ:A7} {H:Ab} {nx:Nat} (isB:Bool) (nk:Option NK) (a b:ByteArray):Ai Φ H nx (.bin isB .leq nk) [.t (.v (.string a)),.t (.v (.string b))]=some (.t (.v (.bool (!Ft b a))),H,nx):=by
 rw[<-bO,Bool.not_not];rfl
section
variable {α : Type} {e : Enc α} {ty b : Nat} {H : Ab} {l : List α}
theorem xH {i:Nat} {x:α} (hx:l[i]?=some x):Bd e.z (.row b 0 l.length e.z) (.t (iv (i:Int)))=some (.ptr b (i*e.z)):=by
 have:rowP e b l = .row b 0 l.length e.z:=by
  cases l with
  | nil=>simp at hx
  | cons y r=>rfl
 rw[<-this];exact rD hx .i64
end
def xI:PV->List Nat
 | .row b _ _ _=>[b]
 | _=>[]
def xJ:List Nat:=[]
def given (m:A3) (s:Ad):List Nat:=match m.k with
 | .call f=>if xJ.contains f then m.xs.flatMap (λx=>xI (x.ev s.env))else []
 | _=>[]
abbrev Bu:=List PanicEntry
def E3 (P:Program) (G:A2) (f:FuncId) (ps:List PV) (H:Ab) (nx:Nat) (ch:Bu) (H':Ab):Prop:=
 KS P f/\∀(L:Loc) (w:World) (us:Array Value),BA P G L H w->L.nx=nx->A5 P L w ps us.toList ->
  Calls P f us w λe w'=>∃L',e = .panicked ch/\BA P G L' H' w'/\L'.nx=nx/\Bh L w L' w'/\Ext L H w L' H' w'
inductive Out where
 | ret (r:PV) (H:Ab) (nx:Nat)
 | pan (ch:Bu)
def Hf (P:Program) (G:A2) (f:FuncId) (ps:List PV) (H:Ab) (nx:Nat):Out->Prop
 | .ret r H' nx'=>AH P G f ps H nx r H' nx'
 | .pan ch=>E3 P G f ps H nx ch []
abbrev Gw:=FuncId->List PV->Ab->Nat->Option Bu
def POK (P:Program) (G:A2) (E:Gw):Prop:=∀f ps H nx ch,E f ps H nx=some ch->E3 P G f ps H nx ch []
def Ln:List PV->Option Bu
 | [.t (.ic t (.v x))]=>some [{ v:=.iface t x,recovered:=false }]
 | [.t (.ic t (.ag [.v x]))]=>some [{ v:=.iface t (.agg #[x]),recovered:=false }]
 | _=>none
def JQ (E:Gw) (H:Ab) (nx:Nat) (k:MK) (ps:List PV):Option Bu:=
 match k with
 | .hcall f=>E f ps H nx
 | .hx .pan=>Ln ps
 | _=>none
def Lo (x:Option Bu) (X:Bu->Prop) (C:Prop):Prop:=
 match x with
 | some ch=>X ch
 | none=>C
@[simp] theorem C3x (ch:Bu) (X:Bu->Prop) (C:Prop):Lo (some ch) X C=X ch:=rfl
@[simp] theorem JR (X:Bu->Prop) (C:Prop):Lo none X C=C:=rfl
def Cv (Φ:A7) (E:Gw):List A3->Ad->(Ad->Prop)->(Bu->Prop)->Prop
 | [],s,K,_=>K s
 | m::r,s,K,X=>NZ (m.wants s.env)
  (Lo (JQ E s.H s.nx m.k (m.xs.map (·.ev s.env))) X (BJ (Ai Φ s.H s.nx m.k (m.xs.map (·.ev s.env))) λq=>Cv Φ E r (s.set m.dst q) K X))
  (Cv Φ E r (s.set m.dst (.t (.v undef),s.H,s.nx)) K X)
def DO (Q:Exit->Ad->Prop) (ch:Bu):Prop:=∀s,Q (.panic ch) s
def CP (Φ:A7) (E:Gw):An->Ad->(Exit->Ad->Prop)->Prop
 | .skip,s,Q=>Q .normal s
 | .ops l,s,Q=>Cv Φ E l s (Q .normal) (DO Q)
 | .draw l,s,Q=>CM Φ l s (Q .normal)
 | .drawG k l,s,Q=>DU Φ k 0 0 [] l s (Q .normal)
 | .seq a b,s,Q=>CP Φ E a s (Gu (λs1=>CP Φ E b s1 Q) Q)
 | .cond c a b,s,Q=>M2 (c.ev s.env) (CP Φ E a s Q) (CP Φ E b s Q)
 | .block id b,s,Q=>CP Φ E b s (FX id Q)
 | .loop _,_,_=>False
 | .exit id,s,Q=>Q (.exit id) s
 | .ret,s,Q=>Q .ret s
 | .scope b,s,Q=>CP Φ E b s (Iz Q)
section
variable {P : Program} {G : A2} {B N : Nat} {Φ : A7} {E : Gw} {Q : Exit -> Ad -> Prop} {s : Ad}
def O0 (P:Program) (G:A2) (B:Nat) (o:Oper) (s:Ad) (ch:Bu):Prop:=
 ∀L a w,Interp P G B L s a w->o.wp P a w (λ_ _=>False) (λe a' w'=>e = .panic ch/\a'=a/\∃L',BA P G L' [] w'/\L'.nx=s.nx/\Bh L w L' w'/\Ext L s.H w L' [] w')
theorem O3 {L:Loc} {H:Ab} {w:World} (h:BA P G L H w):BA P G L [] w/\Ext L H w L [] w:=
 ⟨⟨h.lt,λ_ _ hb=>(by cases hb),λ_ _ hb=>(by cases hb),λ_ _ _ _ hb=>(by cases hb),λ_ _ hb=>(by cases hb),h.glob⟩,
  ⟨Xb _,λ_ _ _=>rfl,λ_ h=>h,λ_ h=>.inl h,λ_ ⟨_,_,hb,_⟩=>(by cases hb),BS.refl w,Ca.refl w⟩⟩
theorem xK {o:Oper} {f:FuncId} {args:Array Operand} {ts:Array TypeId} {ch:Bu} (ho:o.op = .call ⟨.value (.func f),args,ts⟩) (hc:E3 P G f (args.toList.map (s.ev G)) s.H s.nx ch []):O0 P G B o s ch:=λL a w hi=>by
 unfold Oper.wp
 have hr:(execOp a.eval o).run P w = .ok (.enter f (args.map a.eval)) w:=by simp[execOp,ho,resolve,Act.eval,Deferred.ofValue,invoke,hc.1.run]
 rw[hr,Oper.upon_enter];refine(hc.2 L w _ hi.heap hi.nx (PN hi args)).mono ?_;rintro e w' ⟨L',rfl,h1,h2,h3,h4⟩;exact⟨rfl,rfl,L',h1,h2,h3,h4⟩
theorem xL {o:Oper} {x:Operand} {ch:Bu} (ho:o.op = .panic x) (hc:Ln [s.ev G x]=some ch):O0 P G B o s ch:=λL a w hi=>by
 have h:=hi.ev x;generalize s.ev G x=p at h hc;unfold Ln at hc;split at hc
 .rename_i t v e;injection e with e e2;subst e;injection hc with hc;subst hc;simp only[Af,Ao]at h;obtain⟨y,hy,rfl⟩:=h;unfold Oper.wp
  have hr:(execOp a.eval o).run P w = .halt (.panic (.iface t y)) w:=by
   simp[execOp,ho,hy,Instr.panic,goPanic]
  rw[hr];exact⟨rfl,rfl,L,(O3 hi.heap).1,hi.nx,Bh.refl L w,(O3 hi.heap).2⟩
 .rename_i t v e;injection e with e e2;subst e;injection hc with hc;subst hc;simp only[Af,Ao,Bf]at h;obtain⟨y,hy,us,rfl,_,x,xs,e1,rfl,rfl⟩:=h;have e3:us = #[x]:=Array.ext' e1;subst e3;unfold Oper.wp
  have hr:(execOp a.eval o).run P w = .halt (.panic (.iface t (.agg #[x]))) w:=by
   simp[execOp,ho,hy,Instr.panic,goPanic]
  rw[hr];exact⟨rfl,rfl,L,(O3 hi.heap).1,hi.nx,Bh.refl L w,(O3 hi.heap).2⟩
 .cases hc
def Lp (P:Program) (G:A2) (B:Nat) (ops:Array Oper) (l:List Oper) (Q:Exit->Ad->Prop) (s:Ad):Prop:=
 ∀L a w,Interp P G B L s a w->wpList P ops (BT P G B Q L s.H w) l a w
theorem xM {ops:Array Oper} {L L':Loc} {H H':Ab} {w w':World} (hq:∀e a w2,BT P G B Q L' H' w' e a w2->BT P G B Q L H w e a w2):∀(l:List Oper) (a:Act) (w2:World),wpList P ops (BT P G B Q L' H' w') l a w2->wpList P ops (BT P G B Q L H w) l a w2:=by
 intro l
 induction l with
 | nil=>intro a w2 h;exact hq _ _ _ h
 | cons o l ih=>
  intro a w2 h;unfold wpList at h ⊢;split
  .rename_i hw;rw[zy hw]at h;rcases h with h | ⟨h1,a0,w0,h2⟩
   .exact .inl (FY ih hq h)
   .exact .inr ⟨h1,a0,w0,hq _ _ _ h2⟩
  .rename_i hw;rw[zz hw]at h;exact ih _ _ h
theorem xN {ops:Array Oper} {o:Oper} {AU:List Oper} {r:PV} {H':Ab} {nx':Nat} (hw:s.wants ops o=some true) (hd:∀k,o.dst=some k->k<s.n)
  (ho:AOp P G B o s r H' nx') (h:Lp P G B ops AU Q (({ s with H:=H',nx:=nx' }:Ad).put o.dst r)):Lp P G B ops (o::AU) Q s:=λL a w hi=>by
 unfold wpList;rw[zy (hi.wants hw)];refine .inl (FY ?_ (λ_ _ _ h=>h.elim) (ho L a w hi));rintro a' w' ⟨v,L',rfl,hr,hok,rfl,hm,hx⟩;have hp:=h L' _ w' (N5 hi hd hr hok hm);rw[EA]at hp;refine xM ?_ _ _ _ hp;rintro e a w2 ⟨s2,L2,q,hi2,hx2,hb2⟩;exact⟨s2,L2,q,hi2,hx.trans hx2,λb hb=>(hb2 b hb).trans (hm.μ b (Xt hb hi.base))⟩
theorem xO {ops:Array Oper} {o:Oper} {AU:List Oper} (hw:s.wants ops o=some false) (hd:∀k,o.dst=some k->k<s.n)
  (h:Lp P G B ops AU Q (s.put o.dst (.t (.v undef)))):Lp P G B ops (o::AU) Q s:=λL a w hi=>by
 unfold wpList;rw[zz (by rw[hi.wants hw];simp)];have hi':=N5 hi (r:=.t (.v undef)) (v:=undef) hd (by simp only[Af,Ao]) hi.heap (Bh.refl L w)
 have e:({ s with H:=s.H,nx:=L.nx }:Ad)=s:=by rw[hi.nx]
 rw[e]at hi';have:=h L _ w hi';rw[EA]at this;exact this
theorem xP {L L':Loc} {a:Act} {w w':World} {ch:Bu} (hi:Interp P G B L s a w) (h1:BA P G L' [] w') (h2:L'.nx=s.nx) (h3:Bh L w L' w') (h4:Ext L s.H w L' [] w') (hx:DO Q ch):BT P G B Q L s.H w (.panic ch) a w':=
 ⟨⟨[],[],L'.nx,s.n⟩,L',hx _,⟨h1,rfl,by rw[h2,<-hi.nx];exact hi.base,hi.size,hi.defers,λk p hl=>by cases hl⟩,h4,λb hb=>h3.μ b (Xt hb hi.base)⟩
theorem xQ {ops:Array Oper} {o:Oper} {AU:List Oper} {ch:Bu} (hw:s.wants ops o=some true) (ho:O0 P G B o s ch) (hx:DO Q ch):Lp P G B ops (o::AU) Q s:=λL a w hi=>by
 unfold wpList;rw[zy (hi.wants hw)];refine .inl (FY (λ_ _ h=>h.elim) ?_ (ho L a w hi));rintro e a' w' ⟨rfl,rfl,L',h1,h2,h3,h4⟩;exact xP hi h1 h2 h3 h4 hx
theorem xR {id:Nat} {ops:Array Oper} (h:Lp P G B ops ops.toList Q s):Cq P G B (.region id ops false) Q s:=λL a w hi=>
 wp_region_list (h L a w hi)
theorem xS {d:Bool} {o:Op} {k:MK} {xs:List Opd} (hc:opK P G d o=(k,xs)) {H:Ab} {nx:Nat} {ps:List PV} {ch:Bu} (hp:JQ E H nx k ps=some ch) :
  (∃f args ts,o = .call ⟨.value (.func f),args,ts⟩/\k = .hcall f/\xs=args.toList.map (AY G))\/(∃x,o = .panic x/\k = .hx .pan/\xs=[AY G x]):=by
 unfold opK at hc;split at hc
 .rename_i q hq;subst hc;unfold Mq at hq;split at hq
  all_goals (first
   | (injection hq with hq;injection hq with e1 e2;subst e1;subst e2;exact .inr ⟨_,rfl,rfl,rfl⟩)
   | (obtain⟨ks,_,e⟩:=Xm.1 hq;injection e with e1 e2;subst e1;cases hp;done)
   | (split at hq<;>(first | (cases hq;done) | (obtain⟨ks,_,e⟩:=Xm.1 hq;injection e with e1 e2;subst e1;cases hp;done) | (injection hq with hq;injection hq with e1 e2;subst e1;cases hp;done) | (split at hq<;>(first | (cases hq;done) | (injection hq with hq;injection hq with e1 e2;subst e1;cases hp;done))));done)
   | (injection hq with hq;injection hq with e1 e2;subst e1;cases hp;done)
   | (cases hq;done))
 .split at hc
  .split at hc
   .injection hc with e1 e2;subst e1;cases hp
   .injection hc with e1 e2;subst e1;cases hp
  .split at hc
   .rename_i q hq;subst hc;unfold PW at hq;split at hq
    all_goals (first
     | (
      split at hq
      .injection hq with hq;injection hq with e1 e2;subst e1;subst e2;exact .inl ⟨_,_,_,rfl,rfl,rfl⟩
      .injection hq with hq;injection hq with e1 e2;subst e1;cases hp)
     | (injection hq with hq;injection hq with e1 e2;subst e1;cases hp;done)
     | (obtain⟨ks,_,e⟩:=Xm.1 hq;injection e with e1 e2;subst e1;cases hp;done)
     | (cases hq;done)
     | skip)
    all_goals repeat' (first
     | (cases hq;done)
     | (injection hq with hq;injection hq with e1 e2;subst e1;cases hp;done)
     | (obtain⟨ks,_,e⟩:=Xm.1 hq;injection e with e1 e2;subst e1;cases hp;done)
     | split at hq)
   .injection hc with e1 e2;subst e1;cases hp
theorem bP (hE:POK P G E) {d:Bool} {o:Oper} {k:MK} {xs:List Opd} {ch:Bu} (hc:opK P G d o.op=(k,xs)) (hp:JQ E s.H s.nx k (xs.map (·.ev s.env))=some ch):O0 P G B o s ch:=by
 rcases xS hc hp with⟨f,args,ts,ho,rfl,rfl⟩ | ⟨x,ho,rfl,rfl⟩
 .refine xK ho (hE _ _ _ _ _ ?_)
  have:(args.toList.map (AY G)).map (·.ev s.env)=args.toList.map (s.ev G):=by
   rw[Xo];exact List.map_congr_left λx _=>KU G s x
  rw[this]at hp;exact hp
 .refine xL ho ?_;simp only[Xd,Xg,KU]at hp;exact hp
theorem Tp (hΦ:Φ.Sound P G) (hE:POK P G E) {ops:Array Oper}:∀(os:List Oper) {l:List A3} {s:Ad},Fp P G N false ops os l->s.n=N->Cv Φ E l s (Q .normal) (DO Q)->Lp P G B ops os Q s
 | [],l,s,ha,hn,h=>by
  simp only[Fp]at ha;subst ha;exact λL a w hi=>Mg hi h
 | o::AU,l,s,ha,hn,h=>by
  simp only[Fp]at ha;obtain⟨m,l',rfl,hm,hr⟩:=ha;obtain⟨hc,hdst,hd,hw⟩:=NM hm
  have hd':∀k,o.dst=some k->k<s.n:=λk hk=>by rw[hn];exact hd k hk
  simp only[Cv]at h;rw[<-hw s,hdst]at h
  cases hww:s.wants ops o with
  | none=>rw[hww]at h;exact h.elim
  | some b=>
   rw[hww]at h
   cases b with
   | false=>
    simp only[ID,JE]at h;exact xO hww hd' (Tp hΦ hE AU hr (by rw[FZ];exact hn) h)
   | true=>
    simp only[IC]at h
    cases hp:JQ E s.H s.nx m.k (m.xs.map (·.ev s.env))with
    | some ch=>
     rw[hp]at h;exact xQ hww (bP hE hc hp) h
    | none=>
     rw[hp,JR]at h;obtain⟨⟨r,H',nx'⟩,hv,hk⟩:=GT h;rw[JE]at hk;exact xN hww hd' (J8 hΦ hc hv) (Tp hΦ hE AU hr (by rw[FZ];exact hn) hk)
def Tq (n:Nat) (e:Exit) (s:Ad):Prop:=(∀ch,e ≠ .panic ch)->s.n=n
theorem bQ:∀{l:List A3} {s:Ad} {K:Ad->Prop} {X:Bu->Prop},Cv Φ E l s K X->Cv Φ E l s (λs'=>K s'/\s'.n=s.n) X
 | [],s,K,X,h=>⟨h,rfl⟩
 | m::r,s,K,X,h=>by
  have key:∀q:PV×Ab×Nat,Cv Φ E r (s.set m.dst q) K X->Cv Φ E r (s.set m.dst q) (λs'=>K s'/\s'.n=s.n) X:=by
   intro q hq;have:=bQ hq
   have e:(s.set m.dst q).n=s.n:=by unfold Ad.set;cases m.dst<;>rfl
   rw[e]at this;exact this
  simp only[Cv]at h ⊢
  cases hw:m.wants s.env with
  | none=>rw[hw]at h;exact h.elim
  | some b=>
   rw[hw]at h
   cases b with
   | false=>exact key _ h
   | true=>
    simp only[IC]at h ⊢
    cases hp:JQ E s.H s.nx m.k (m.xs.map (·.ev s.env))with
    | some ch=>rw[hp]at h;exact h
    | none=>
     rw[hp,JR]at h;rw[JR];obtain⟨q,hv,hk⟩:=GT h;rw[hv];exact key _ hk
theorem JS (hΦ:Ctx P G Φ) (hE:POK P G E):∀(M:An) {Q:Exit->Ad->Prop} {s:Ad},CP Φ E M s Q->s.n=N->MC P G B N M (λe s'=>Q e s'/\Tq N e s') s
 | .skip,Q,s,h,hn=>λc hc _=>by
  rcases Fb hc with rfl | ⟨l,rfl⟩
  .exact Vv ⟨h,λ_=>hn⟩
  .exact Vw ⟨h,λ_=>hn⟩
 | .ops l,Q,s,h,hn=>λc hc _=>by
  obtain⟨id,ops,rfl,ho⟩:=Fb hc;refine xR (Tp hΦ.sound hE _ (Mv ho) hn ?_);have h2:=bQ h
  have e1:(λs':Ad=>Q .normal s'/\Tq N .normal s')=λs'=>Q .normal s'/\s'.n=s.n:=by
   funext s';refine propext ⟨λh=>⟨h.1,by rw[hn];exact h.2 (λ_ h=>by cases h)⟩,λh=>⟨h.1,λ_=>by rw[<-hn];exact h.2⟩⟩
  have e2:DO (λe s'=>Q e s'/\Tq N e s')=DO Q:=by
   funext ch;refine propext ⟨λh s=>(h s).1,λh s=>⟨h s,λhh=>absurd rfl (hh ch)⟩⟩
  rw[e1,e2];exact h2
 | .draw l,Q,s,h,hn=>by
  obtain⟨e,s',h1,h2⟩:=Gb (Φ:=Φ) (.draw l) (Q:=Q) h;exact Fs hΦ _ h1 ⟨h2,λ_=>(F6 _ h1).trans hn⟩
 | .drawG k l,Q,s,h,hn=>by
  obtain⟨e,s',h1,h2⟩:=Gb (Φ:=Φ) (.drawG k l) (Q:=Q) h;exact Fs hΦ _ h1 ⟨h2,λ_=>(F6 _ h1).trans hn⟩
 | .seq a b,Q,s,h,hn=>by
  refine Mz ((JS hΦ hE a h hn).mono λe s1 q=>?_);cases e
  case normal=>
   have hs:s1.n=N:=q.2 λ_ h=>by cases h
   exact⟨hs,JS hΦ hE b q.1 hs⟩
  all_goals exact q
 | .cond c a b,Q,s,h,hn=>by
  simp only[CP]at h;unfold M2 at h;split at h
  .rename_i hc;exact Cr (t:=true) hc (JS hΦ hE a h hn)
  .rename_i hc;exact Cr (t:=false) hc (JS hΦ hE b h hn)
  .exact h.elim
 | .block id b,Q,s,h,hn=>by
  refine BD ((JS hΦ hE b h hn).mono λe s1 q=>?_);cases e
  case exit i=>
   have hs:s1.n=N:=q.2 λ_ h=>by cases h
   have q1:=q.1;simp only[M1]at q1 ⊢;split at q1
   .rename_i hi;rw[zy hi];exact⟨q1,λ_=>hs⟩
   .rename_i hi;rw[zz hi];exact⟨q1,λ_=>hs⟩
  all_goals exact q
 | .loop _,Q,s,h,_=>h.elim
 | .exit id,Q,s,h,hn=>λc hc _=>by
  have:=Fb hc;simp only at this;subst this;exact Vx ⟨h,λ_=>hn⟩
 | .ret,Q,s,h,hn=>λc hc _=>by
  have:=Fb hc;simp only at this;subst this;exact Vy ⟨h,λ_=>hn⟩
 | .scope b,Q,s,h,hn=>by
  refine WN ((JS hΦ hE b h hn).mono λe s1 q=>?_);cases e
  case goto l=>exact q.1
  all_goals exact q
def MI (P:Program) (G:A2) (B:Nat) (vs:List RV) (o:Out) (e:Exit) (s:Ad):Prop:=
 match o with
 | .ret r H nx=>F7 P G B vs (λr0 H0 nx0=>r0=r/\H0=H/\nx0=nx) e s
 | .pan ch=>e = .panic ch
theorem xT {f:FuncId} {fn:Func} {c:Code} {M:An} {ps:List PV} {H:Ab} {nx:Nat} {ch:Bu} (hf:P.funcs[f]?=some fn) (hb:fn.body=some c) (hname:(fn.name == "runtime.NumGoroutine")=false)
  (hc:comp P G N c=some M) (hN:ps.length+(fn.ntmps-ps.length)=N)
  (h:MC P G nx N M (λe _=>e = .panic ch) ⟨Gt 0 ps,H,nx,N⟩):E3 P G f ps H nx ch []:=by
 refine⟨⟨fn,c,hf,hb,hname⟩,λL w us hok hnx hargs=>calls_of_wp hf hb ?_⟩
 have hlen:us.size=ps.length:=by simpa using hargs.length
 have hi:Interp P G nx L ⟨Gt 0 ps,H,nx,N⟩ { tmps:=us++Y5 (fn.ntmps-us.size) undef,defers:=[] } w:=by
  refine⟨hok,hnx,by rw[hnx];exact Xb _,by simp[hlen,hN],rfl,λk p hl=>?_⟩;simp only[Qi]at hl;obtain⟨_,hk⟩:=NJ _ k 0 p hl;simp only[Nat.sub_zero]at hk;obtain⟨x,hx,hr⟩:=hargs.at_ k hk
  have hx':us[k]?=some x:=by simpa using hx
  have hk':k<us.size:=(Array.getElem?_eq_some_iff.1 hx').1;rw[Y6,Array.getElem?_append_left hk',hx'];exact hr
 refine wp_mono (h c hc rfl L _ w hi) λe a' w' ⟨s1,L1,q,hi1,hx,hμ⟩=>?_;subst q
 have hb1:L.nx<=L1.nx:=by rw[hnx];exact hi1.base
 have hkp:FV L.I L1.I w w':=Ext.keeps hok hx
 have hm:Bh L w { L1 with nx:=L.nx } w':=⟨hkp,Xb _,λb hb=>hμ b (by omega),hx.size,hx.shape⟩
 refine⟨hi1.defers,{ L1 with nx:=L.nx },rfl,⟨hi1.heap.lt,λ_ _ hb=>(by cases hb),λ_ _ hb=>(by cases hb),λ_ _ _ _ hb=>(by cases hb),λ_ _ hb=>(by cases hb),hi1.heap.glob⟩,hnx,hm,?_⟩;exact⟨hx.size,hx.same,hx.more,hx.new,λg ⟨b,r,hb,_⟩=>(by cases hb),hx.shape,hx.outer⟩
theorem A6.callO {f:FuncId} {k:Nat} {M:An} {vs:List RV} (h:A6 P G f k N M vs) {ps:List PV} {H:Ab} {nx:Nat} {o:Out} (hk:ps.length=k)
  (hm:MC P G nx N M (MI P G nx vs o) ⟨Gt 0 ps,H,nx,N⟩):Hf P G f ps H nx o:=by
 cases o with
 | ret r H' nx'=>exact h.callP hk hm
 | pan ch=>
  obtain⟨fn,hf,hn,hb,hr,hN⟩:=h
  cases hbody:fn.body with
  | none=>rw[hbody]at hb;cases hb
  | some c=>
   rw[hbody]at hb;exact xT hf hbody hn hb (by rw[hk];exact hN) hm
theorem E3.lift1 {f:FuncId} {ty:TypeId} {cs args:List T} {ch:Bu} (h:E3 P G f (.ptr 0 0::args.map .t) [(0,.cells ty (cs.map .t))] 1 ch [])
  {b NX:Nat} {Hb:Ab} (hb:Aa Hb b=some (.cells ty (cs.map .t))) (hlt:b<NX):E3 P G f (.ptr b 0::args.map .t) Hb NX ch (rem Hb b):=by
 refine⟨h.1,λL w us hok hnx hargs=>?_⟩
 have one:∀k r,Aa [(0,Row.cells ty (cs.map .t))] k=some r->k=0/\r = .cells ty (cs.map .t):=by
  intro k r hk;simp only[Aa]at hk;split at hk
  .rename_i e;injection hk with hk;exact⟨e.symm,hk.symm⟩
  .cases hk
 have hrow:=hok.rep b _ hb
 have hok0:BA P G ⟨L.I,λ_=>L.μ b,1⟩ [(0,.cells ty (cs.map .t))] w:=by
  refine⟨hok.lt,λk r hk=>?_,λk r hk=>?_,λk k' r r' hk hk' _=>by rw[(one k r hk).1,(one k' r' hk').1],λk r hk=>by rw[(one k r hk).1];exact Yn _,hok.glob⟩
  .obtain⟨rfl,rfl⟩:=one k r hk;obtain⟨arr,ha,hl,hc⟩:=hrow;refine⟨arr,ha,hl,λj c hj=>?_⟩;obtain⟨v,hv,h1,hr⟩:=hc j c hj;refine⟨v,hv,h1,?_⟩;rw[Xj]at hj;obtain⟨c0,_,rfl⟩:=AZ hj;simp only[Af]at hr ⊢;exact hr
  .exact hok.apart b _ hb
 have hargs0:A5 P ⟨L.I,λ_=>L.μ b,1⟩ w (.ptr 0 0::args.map .t) us.toList:=by
  simp only[A5,Af]at hargs ⊢;obtain⟨u,r,e,⟨_,h2⟩,h3⟩:=hargs;refine⟨u,r,e,⟨by omega,h2⟩,?_⟩;clear e
  have:∀(args:List T) (r:List Value),A5 P L w (args.map .t) r->A5 P ⟨L.I,λ_=>L.μ b,1⟩ w (args.map .t) r:=by
   intro args
   induction args with
   | nil=>intro r h;simpa only[Xg,A5]using h
   | cons a args ih=>
    intro r h;simp only[Xd,A5,Af]at h ⊢;obtain⟨x,xs,e,hx,hxs⟩:=h;exact⟨x,xs,e,hx,ih xs hxs⟩
  exact this _ _ h3
 refine(h.2 _ w us hok0 rfl hargs0).mono ?_;rintro e w' ⟨L1,rfl,hok1,hnx1,hm,hx⟩;have mine0:∀g,FW ⟨L.I,λ_=>L.μ b,1⟩ [(0,Row.cells ty (cs.map .t))] g->g=L.μ b:=λg ⟨_,_,_,e⟩=>e.symm
 have hm':Bh L w ⟨L1.I,L.μ,NX⟩ w':=⟨hm.keeps,by rw[hnx];exact Xb _,λ_ _=>rfl,hm.size,hm.shape⟩
 have hsame:∀k r,Aa (rem Hb b) k=some r->Aa Hb k=some r/\L.μ k≠L.μ b:=by
  intro k r hk;rw[CJ]at hk;split at hk
  .cases hk
  .rename_i hne;exact⟨hk,λe=>hne (hok.inj k b r _ hk hb e)⟩
 refine⟨⟨L1.I,L.μ,NX⟩,rfl,⟨hok1.lt,λk r hk=>?_,λk r hk hI=>?_,λk k' r r' hk hk' e=>hok.inj k k' r r' (hsame k r hk).1 (hsame k' r' hk').1 e,λk r hk=>by rw[<-hnx];exact hok.nx k r (hsame k r hk).1,hok1.glob⟩,rfl,hm',?_⟩
 .obtain⟨hk1,hk2⟩:=hsame k r hk;have hr:=hok.rep k r hk1;exact hr.keep hm' (hx.same _ hr.lt λhmn=>hk2 (mine0 _ hmn))
 .obtain⟨hk1,hk2⟩:=hsame k r hk;have hr:=(hok.rep k r hk1).lt;rcases hx.new _ hI with h1 | h1 | h1
  .exact hok.apart k r hk1 h1
  .exact absurd hr (by have h':w.heap.size<=L.μ k:=h1;omega)
  .exact hk2 (mine0 _ h1)
 .refine⟨hx.size,λg hg hmn=>hx.same g hg λh0=>hmn ⟨b,_,hb,(mine0 g h0).symm⟩,hx.more,λg hg=>?_,λg ⟨k,r,hk,e⟩=>.inr ⟨k,r,(hsame k r hk).1,e⟩,hx.shape,hx.outer⟩;rcases hx.new g hg with h1 | h1 | h1
  .exact .inl h1
  .exact .inr (.inl h1)
  .exact .inr (.inr ⟨b,_,hb,(mine0 g h1).symm⟩)
end
section
variable {P : Program} {G : A2} {B N : Nat} {Φ : A7} {E : Gw} {ops : Array Oper} {l : List A3} {π : List Nat} {pa : Nat} {R : List (Nat × Nat)}
structure xU (Φ:A7) (ms:List A3) (R:List (Nat×Nat)) (s:Ad) (pe:Nat) (st:Nat->Ad) (vals:Nat->PV):Prop where
 start:st 0=s
 norm:∀(p:Nat) m,p<pe->ms[p]?=some m->Did Φ (st p) m (vals p) (st (p+1))
 again:∀(p p':Nat) m,p<pe->p'<pe->(p,p')∈R->ms[p]?=some m->Bk Φ (st (p'+1)).H (st (p'+1)).nx m.k (m.xs.map (·.ev (st p).env))=some (vals p)
structure xV (P:Program) (G:A2) (B:Nat) (q:List (Nat×A3)) (pe i0:Nat) (st:Nat->Ad) (vals:Nat->PV) (s:Ad) (L0:Loc) (w0:World) (S:Array Bool) (p0:Nat) (L:Loc) (a:Act) (w:World):Prop where
 le:p0<=pe
 notyet:S.getD i0 false=false
 bound:∀(p:Nat) x,q[p]?=some x->S.getD x.1 false=true->p<pe
 done:∀(p:Nat) x,q[p]?=some x->AC x.2.k=false->(S.getD x.1 false=true ↔ p<p0)
 heap:BA P G L (st p0).H w
 nx:L.nx=(st p0).nx
 base:B<=L.nx
 size:a.tmps.size=s.n
 defers:a.defers=[]
 vals:∀(p:Nat) x,q[p]?=some x->S.getD x.1 false=true->∀k,x.2.dst=some k->Af P L w (vals p) (a.tmps.getD k undef)
 old:∀k u,(∀(p:Nat) x,q[p]?=some x->S.getD x.1 false=true->x.2.dst≠some k)->Aa s.env k=some u->Af P L w u (a.tmps.getD k undef)
 ext:Ext L0 s.H w0 L (st p0).H w
 μ:∀b,b<B->L.μ b=L0.μ b
theorem xW (hmix:P.follows .mixedOrders=true) (hΦ:Φ.Sound P G) {Q:Exit->Ad->Prop} {s:Ad} {st:Nat->Ad} {vals:Nat->PV} {id pe:Nat} {x0:Nat×A3} {ch:Bu}
  (ha0:ops.toList.mapM (EZ P G N true ops)=some l) (hd0:Iy ops l π pa 0 R=true) (hn:s.n=N)
  (hx0:(C4 l π)[pe]?=some x0) (hlate:∀(p:Nat) y,pe<p->(C4 l π)[p]?=some y->((ED ops.toList []).getD y.1 0).testBit x0.1=true) (hk0:AC x0.2.k=false)
  (hrun:xU Φ ((C4 l π).map Prod.snd) R s pe st vals) (hw0:x0.2.wants (st pe).env=some true)
  (hpan:∀(o:Oper) (s':Ad),opK P G true o.op=(x0.2.k,x0.2.xs)->s'.H=(st pe).H->s'.nx=(st pe).nx->x0.2.xs.map (·.ev s'.env)=x0.2.xs.map (·.ev (st pe).env)->O0 P G B o s' ch)
  (hq:DO Q ch):Cq P G B (.region id ops true) Q s:=by
 intro L0 a0 w0 hi0;have ha:=Mv ha0
 have hlen:ops.size=l.length:=by have:=(ha.at_ 0).2;simpa using this
 obtain⟨hd,hql,hnodup⟩:=WD hlen hd0;have h0:=hrun.start;generalize hq':C4 l π=q at *
 have hmem:∀(p:Nat) x,q[p]?=some x->l[x.1]?=some x.2:=by intro p x hx;rw[<-hq']at hx;exact WC l π p x hx
 have hms:∀(p:Nat) x,q[p]?=some x->(q.map Prod.snd)[p]?=some x.2:=by intro p x hx;simp[hx]
 have hpe:pe<q.length:=(Xe.1 hx0).1;have step:∀(p:Nat) x,p<pe->q[p]?=some x->Did Φ (st p) x.2 (vals p) (st (p+1)):=λp x hp hx=>hrun.norm p x.2 hp (hms p x hx)
 have uniq:∀(p p':Nat) x y,q[p]?=some x->q[p']?=some y->x.1=y.1->p=p':=by
  intro p p' x y hx hy e
  have h1:(q.map Prod.fst)[p]?=some x.1:=by simp[hx]
  have h2:(q.map Prod.fst)[p']?=some x.1:=by simp[hy,e]
  have hp:=(Xe.1 h1).1;exact(List.getElem?_inj hp hnodup).1 (h1.trans h2.symm)
 have fresh:∀p,p<=pe->JC (st p):=by
  intro p
  induction p with
  | zero=>intro _;rw[h0];exact λb r hb=>by have:=hi0.heap.nx b r hb;rw[hi0.nx]at this;exact this
  | succ p ih=>
   intro hp;have hx:q[p]?=some q[p]:=Xf (by omega);exact(Qe hΦ (step p _ (by omega) hx) (ih (by omega))).1
 have flat:∀(a b:Nat),a<=b->b<=pe->(∀(p:Nat) x,a<=p->p<b->q[p]?=some x->AC x.2.k=true)->(st b).H=(st a).H/\(st b).nx=(st a).nx:=by
  intro a b hab
  induction b with
  | zero=>
   intro _ _
   have:a=0:=by omega
   subst this;exact⟨rfl,rfl⟩
  | succ b ih=>
   intro hb hno;by_cases e:a=b+1
   .subst e;exact⟨rfl,rfl⟩
   .have hx:q[b]?=some q[b]:=Xf (by omega);have h1:=Qc (step b _ (by omega) hx) (hno b _ (by omega) (by omega) hx);have h2:=ih (by omega) (by omega) (λp x h1 h2 h3=>hno p x h1 (by omega) h3);exact⟨h1.1.trans h2.1,h1.2.trans h2.2⟩
 have nconst:∀p,p<=pe->(st p).n=s.n:=by
  intro p
  induction p with
  | zero=>intro _;rw[h0]
  | succ p ih=>
   intro hp;have hx:q[p]?=some q[p]:=Xf (by omega);rw[(Qb (step p _ (by omega) hx)).2,ih (by omega)]
 have trace:∀(p:Nat),p<=pe->∀k u,Aa (st p).env k=some u->(∃(j:Nat) (y:Nat×A3),j<p/\q[j]?=some y/\y.2.dst=some k/\u=vals j)\/((∀(j:Nat) y,j<p->q[j]?=some y->y.2.dst≠some k)/\Aa s.env k=some u):=by
  intro p
  induction p with
  | zero=>intro _ k u hl;rw[h0]at hl;exact .inr ⟨λj y h=>by omega,hl⟩
  | succ p ih=>
   intro hp k u hl;have hx:q[p]?=some q[p]:=Xf (by omega);rw[(Qb (step p _ (by omega) hx)).1]at hl;rcases Sa hl with⟨e,rfl⟩ | ⟨e,hl'⟩
   .exact .inl ⟨p,_,by omega,hx,e,rfl⟩
   .rcases ih (by omega) k u hl' with⟨j,y,hj,hy,hd,rfl⟩ | ⟨hno,hs⟩
    .exact .inl ⟨j,y,by omega,hy,hd,rfl⟩
    .refine .inr ⟨λj y hj hy=>?_,hs⟩;by_cases ej:j=p
     .subst ej;rw[hx]at hy;injection hy with hy;subst hy;exact e
     .exact hno j y (by omega) hy
 refine wp_region_any hmix ?_
 have main:∀(fuel:Nat) (S:Array Bool) (p0:Nat) (L:Loc) (a:Act) (w:World),S.size=ops.size->Mp ops S->ops.size<=cnt S+fuel ->
   xV P G B q pe x0.1 st vals s L0 w0 S p0 L a w->wpAny P .any ops (BT P G B Q L0 s.H w0) fuel S a w:=by
  have i0lt:x0.1<ops.size:=by have:=(Xe.1 (hmem pe x0 hx0)).1;omega
  intro fuel
  induction fuel with
  | zero=>
   intro S p0 L a w hs hS hc inv;have hall':=S1 (S:=S) (by omega);have:=hall' x0.1 (by omega);rw[inv.notyet]at this;cases this
  | succ fuel ih=>
   intro S p0 L a w hs hS hc inv;refine⟨λhr=>?_,λi hi=>?_⟩
   .exfalso
    have all:∀i,i<ops.size->S.getD i false=true:=by
     intro i
     induction i using Nat.strongRecOn with
     | _ i ihi=>
      intro hi
      cases hS':S.getD i false with
      | true=>rfl
      | false=>
       exfalso
       have:i∈Region.ready .any ops S:=Sz (o:=ops[i]) (Yo hi) (by rw[JB (by omega)];exact hS')
        (λe he hb=>by
         have:=hd.back i _ (Yo hi) e he hb
         exact ihi _ this (by omega))
       rw[hr]at this;cases this
    have:=all x0.1 i0lt;rw[inv.notyet]at this;cases this
   .obtain⟨hi1,hun,o,ho,hp⟩:=NQ hi;rw[JB (by omega)]at hun;obtain⟨p,mi,hx⟩:=hd.all i hi1;have hpl:p<q.length:=(Xe.1 hx).1;obtain⟨mi',hmi',hcomp⟩:=(ha.at_ i).1 o (by simpa using ho)
    have emi:mi'=mi:=by have:=hmem p _ hx;simp only at this;rw[this]at hmi';injection hmi' with h;exact h.symm
    subst emi;obtain⟨hcop,hdst,hdlt,hwants⟩:=NM hcomp;have bef:∀j,((ED ops.toList []).getD i 0).testBit j=true->S.getD j false=true:=λj hb=>PP hS ho hb hp
    have aft:∀j,j<ops.size->((ED ops.toList []).getD j 0).testBit i=true->S.getD j false=false:=by
     intro j hj hb
     cases hSj:S.getD j false with
     | false=>rfl
     | true=>
      have hjo:ops[j]?=some ops[j]:=Yo hj;have:=PP hS hjo hb (hS j _ hjo hSj);rw[this]at hun;cases hun
    have idx:∀(p':Nat) y,q[p']?=some y->y.1<ops.size:=λp' y hy=>by have:=(Xe.1 (hmem p' y hy)).1;omega
    have idx:∀(p':Nat) y,q[p']?=some y->y.1<ops.size:=λp' y hy=>by have:=(Xe.1 (hmem p' y hy)).1;omega
    have hple:p<=pe:=by
     rcases Yb pe p with h | h
     .have:=bef x0.1 (hlate p _ h hx);rw[inv.notyet]at this;cases this
     .exact h
    have hbefore':∀(p':Nat) y,p'<p->q[p']?=some y->AC y.2.k=false->p'<p0:=by
     intro p' y hlt hy hyk;refine(inv.done p' y hy hyk).1 (bef _ ?_);have hok:=hd.pair p' p _ _ hlt hy hx;unfold F4 at hok;simp only[Xi]at hok;have h1:=hok.1.1.1;rw[hyk]at h1;simp only[Yv,Y7,Yc,Xi,decide_eq_true_eq]at h1;rcases h1 with h1 | h1
     .exact h1
     .omega
    have eye:∀k u,k∈mi'.eyes->Aa (st p).env k=some u->Af P L w u (a.tmps.getD k undef):=by
     intro k' u hke hl;rcases trace p hple k' u hl with⟨j,y,hj,hy,hdj,rfl⟩ | ⟨hno,hs'⟩
     .have hok:=hd.pair j p _ _ hj hy hx;unfold F4 at hok;simp only[Xi]at hok;have h2:=hok.1.1.2;rw[hdj]at h2;simp only[Yc,Y8,Xi]at h2;rcases h2 with h2 | ⟨h2,h3⟩
      .exact absurd hke (by simpa using h2)
      .exact inv.vals j _ hy (bef _ h2) k' hdj
     .refine inv.old k' u (λp' y hy hSy hdy=>?_) hs';rcases Nat.lt_trichotomy p' p with hlt | heq | hgt
      .exact hno p' y hlt hy hdy
      .subst heq;rw[hx]at hy;injection hy with hy;subst hy;simp only at hSy;rw[hSy]at hun;cases hun
      .have hok:=hd.pair p p' _ _ hgt hx hy;unfold F4 at hok;simp only[Xi]at hok;have h3:=hok.1.2;rw[hdy]at h3;simp only[Yc,Y8]at h3;rcases h3 with h3 | h3
       .exact absurd hke (by simpa using h3)
       .have:=aft y.1 (idx p' y hy) h3;rw[this]at hSy;cases hSy
    have hi':Interp P G B L ({ ((st p).only mi'.eyes)with H:=(st p0).H,nx:=(st p0).nx }:Ad) a w:=by
     refine⟨inv.heap,inv.nx,inv.base,by show a.tmps.size=(st p).n;rw[nconst p hple];exact inv.size,inv.defers,λk u hl=>?_⟩;have hl':Aa ((st p).only mi'.eyes).env k=some u:=hl;rw[NN]at hl';split at hl'
     .rename_i hke;exact eye k u hke hl'
     .cases hl'
    have hww:({ ((st p).only mi'.eyes)with H:=(st p0).H,nx:=(st p0).nx }:Ad).wants ops o=mi'.wants (st p).env:=by
     rw[hwants];exact VX (st p) mi' mi'.eyes (λ_ h=>h)
    have hev:mi'.xs.map (·.ev ({ ((st p).only mi'.eyes)with H:=(st p0).H,nx:=(st p0).nx }:Ad).env)=mi'.xs.map (·.ev (st p).env):=VW (st p) mi' mi'.eyes (λ_ h=>h);unfold wpOp;rw[ho];simp only;by_cases hpp:p=pe
    .
     subst hpp;rw[hx]at hx0;injection hx0 with hx0;subst hx0
     have hf:=flat p0 p (by
      rcases Yb p p0 with h | h
      .have:=inv.le;omega
      .exact h) (Xb _) (λp' y h1 h2 h3=>by
      cases hyk:AC y.2.k with
      | true=>rfl
      | false=>have:=hbefore' p' y h2 h3 hyk;omega)
     rw[zy (hi'.wants (hww.trans hw0))];have hap:=hpan o ({ ((st p).only mi'.eyes)with H:=(st p0).H,nx:=(st p0).nx }:Ad) hcop hf.1.symm hf.2.symm hev L a w hi';refine .inl (FY (λ_ _ h=>h.elim) ?_ hap);rintro e a' w' ⟨rfl,rfl,L',h1,h2,h3,h4⟩;refine⟨⟨[],[],L'.nx,s.n⟩,L',hq _,⟨h1,rfl,Nat.le_trans inv.base (by rw[h2];exact Nat.le_of_eq inv.nx),inv.size,inv.defers,λk p hl=>by cases hl⟩,inv.ext.trans h4,λb hb=>(h3.μ b (Xt hb inv.base)).trans (inv.μ b hb)⟩
    have hplt:p<pe:=by omega
    have hS':Mp ops (S.setIfInBounds i true):=by
     intro j oj hoj hj e he hb;rw[Ey S i _ (by omega)]at hj ⊢;split
     .rfl
     .split at hj
      .rename_i e1;subst e1;rw[ho]at hoj;injection hoj with hoj;subst hoj;exact hp e he hb
      .exact hS j oj hoj hj e he hb
    have hc':ops.size<=cnt (S.setIfInBounds i true)+fuel:=by rw[S0 (by omega) hun];omega
    have dsts:∀(p':Nat) y k',q[p']?=some y->i≠y.1->y.2.dst=some k'->o.dst≠some k':=by
     intro p' y k' hy e hk;rw[<-hdst];intro hcon
     have epn:p≠p':=λep=>by subst ep;rw[hx]at hy;injection hy with hy;subst hy;exact e rfl
     rcases Nat.lt_or_gt_of_ne epn with hlt | hgt
     .have hok:=hd.pair p p' _ _ hlt hx hy;unfold F4 at hok;simp only[Xi]at hok;have h4:=hok.2;rw[hcon]at h4;simp only[bne_iff_ne]at h4;exact h4 hk
     .have hok:=hd.pair p' p _ _ hgt hy hx;unfold F4 at hok;simp only[Xi]at hok;have h4:=hok.2;rw[hk]at h4;simp only[bne_iff_ne]at h4;exact h4 hcon
    have ine:i≠x0.1:=λe=>hpp (uniq p pe _ _ hx hx0 e)
    have next:∀(p1:Nat) (L':Loc) (w':World) (u:Value),p1<=pe ->
      (∀(p':Nat) y,q[p']?=some y->AC y.2.k=false->((S.setIfInBounds i true).getD y.1 false=true ↔ p'<p1)) ->
      Af P L' w' (vals p) u->BA P G L' (st p1).H w'->L'.nx=(st p1).nx->Bh L w L' w'->Ext L (st p0).H w L' (st p1).H w' ->
      wpAny P .any ops (BT P G B Q L0 s.H w0) fuel (S.setIfInBounds i true) (a.put o.dst u) w':=by
     intro p1 L' w' u hp1 hdone hru hok' hnx' hm' hx';refine ih _ p1 L' _ w' (by simpa using hs) hS' hc' ⟨hp1,?_,λp' y hy hSy=>?_,hdone,hok',hnx',Nat.le_trans inv.base hm'.nx,?_,?_,?_,?_,inv.ext.trans hx',λb hb=>(hm'.μ b (Xt hb inv.base)).trans (inv.μ b hb)⟩
     .rw[Ey S i _ (by omega),zz ine];exact inv.notyet
     .rw[Ey S i _ (by omega)]at hSy;split at hSy
      .rename_i e;have ep:=uniq p p' _ _ hx hy e;omega
      .exact inv.bound p' y hy hSy
     .rw[<-inv.size];cases o.dst<;>simp[Act.put]
     .cases o.dst<;>simp[Act.put,inv.defers]
     .intro p' y hy hSy k' hk;rw[Iq];by_cases e:i=y.1
      .have ep:=uniq p p' _ _ hx hy e;subst ep;rw[hx]at hy;injection hy with hy;subst hy;rw[zy ⟨by rw[<-hdst];exact hk,by rw[inv.size,hn];exact hdlt k' (by rw[<-hdst];exact hk)⟩];exact hru
      .rw[Ey S i _ (by omega),zz e]at hSy;rw[zz (λh=>dsts p' y k' hy e hk h.1)];exact Af.keep hm' _ (inv.vals p' y hy hSy k' hk)
     .intro k' u' hno h0';rw[Iq];have hk:=hno p _ hx (by rw[Ey S i _ (by omega),zy rfl]);rw[zz (λh=>hk (by rw[hdst];exact h.1))];refine Af.keep hm' u' (inv.old k' u' (λp' y hy hSy=>hno p' y hy ?_) h0');rw[Ey S i _ (by omega)];split
      .rfl
      .exact hSy
    have keepdone:AC mi'.k=true->∀(p':Nat) y,q[p']?=some y->AC y.2.k=false->((S.setIfInBounds i true).getD y.1 false=true ↔ p'<p0):=by
     intro hquiet p' y hy hyk;rw[Ey S i _ (by omega)];by_cases e:i=y.1
     .have ep:=uniq p p' _ _ hx hy e;subst ep;rw[hx]at hy;injection hy with hy;subst hy;rw[hquiet]at hyk;cases hyk
     .rw[zz e];exact inv.done p' y hy hyk
    have hdid:=step p _ hplt hx;simp only at hdid;rcases hdid with⟨hquiet,hval,hst⟩ | ⟨hheavy,hwf,hv,hst⟩ | ⟨hheavy,hwt,H',nx',hek,hst⟩
    .unfold JA at hval;split at hval
     .rename_i hwt;rw[zy (hi'.wants (hww.trans hwt))]
      have hval0:Bk Φ (st p0).H (st p0).nx mi'.k (mi'.xs.map (·.ev (st p).env))=some (vals p):=by
       by_cases hpp:p0<=p
       .have hf:=flat p0 p hpp hple (λp' y h1 h2 h3=>by
         cases hyk:AC y.2.k with
         | true=>rfl
         | false=>have:=hbefore' p' y h2 h3 hyk;omega)
        rw[<-hf.1,<-hf.2];exact hval
       .have walk:∀p1,p<=p1->p1<=p0->Bk Φ (st p1).H (st p1).nx mi'.k (mi'.xs.map (·.ev (st p).env))=some (vals p):=by
         intro p1
         induction p1 with
         | zero=>
          intro h _
          have:p=0:=by omega
          subst this;exact hval
         | succ p1 ihp=>
          intro h1 h2;by_cases e:p=p1+1
          .subst e;exact hval
          .have hv1:=ihp (by omega) (by omega);have hle:=inv.le;have hy:q[p1]?=some q[p1]:=Xf (by omega);have hdy:=step p1 _ (by omega) hy
           cases hyk:AC (q[p1]).2.k with
           | true=>
            have:=Qc hdy hyk;rw[this.1,this.2];exact hv1
           | false=>
            by_cases hind:Ix mi'.k=true
            .exact S2 hind hv1
            .have hlt:p<p1:=by
              rcases Yb p p1 with h | h
              .exact h
              .have:p1=p:=by omega
               subst this;rw[hx]at hy;injection hy with hy;rw[<-hy]at hyk;simp only at hyk;rw[hquiet]at hyk;cases hyk
             have hSy:=(inv.done p1 _ hy hyk).2 (by omega);have hok:=hd.pair p p1 _ _ hlt hx hy;unfold F4 at hok;simp only[Xi]at hok;have h1':=hok.1.1.1;simp only[hquiet,hyk,Yi,Y7,Yc,Xi,decide_eq_true_eq]at h1';rcases h1' with(((h | h) | h) | h) | h
             .exact absurd h hind
             .exact Qg ((Qe hΦ hdy (fresh p1 (by omega))).2 (.inl h)) hv1
             .exact hrun.again p p1 mi' hplt (by omega) (by simpa using h) (hms p _ hx)
             .have:=aft _ (idx p1 _ hy) h;rw[this]at hSy;cases hSy
             .omega
        exact walk p0 (by omega) (Xb _)
      have hek':Ai Φ ({ ((st p).only mi'.eyes)with H:=(st p0).H,nx:=(st p0).nx }:Ad).H ({ ((st p).only mi'.eyes)with H:=(st p0).H,nx:=(st p0).nx }:Ad).nx mi'.k (mi'.xs.map (·.ev ({ ((st p).only mi'.eyes)with H:=(st p0).H,nx:=(st p0).nx }:Ad).env))=some (vals p,(st p0).H,(st p0).nx):=by
       rw[hev];exact VV hval0
      have haop:=J8 (B:=B) hΦ hcop hek' L a w hi';refine .inl (FY ?_ (λ_ _ _ h=>h.elim) haop);rintro a' w' ⟨u,L',rfl,hru,hok',hnx',hm',hx'⟩
      exact next p0 L' w' u inv.le (keepdone hquiet) hru hok' hnx' hm' hx'
     .rename_i hwf;rw[zz (by rw[hi'.wants (hww.trans hwf)];simp)];injection hval with hval
      exact next p0 L w undef inv.le (keepdone hquiet) (by rw[<-hval];simp only[Af,Ao]) inv.heap inv.nx (Bh.refl _ _) (Ext.refl _ _ _)
     .cases hval
    all_goals
     have hp0p:p0<=p:=by
      rcases Yb p p0 with h | h
      .have:=(inv.done p _ hx hheavy).2 h;simp only at this;rw[this]at hun;cases hun
      .exact h
     have hf:=flat p0 p hp0p hple (λp' y h1 h2 h3=>by
      cases hyk:AC y.2.k with
      | true=>rfl
      | false=>have:=hbefore' p' y h2 h3 hyk;omega)
     have hdone':∀(p':Nat) y,q[p']?=some y->AC y.2.k=false->((S.setIfInBounds i true).getD y.1 false=true ↔ p'<p+1):=by
      intro p' y hy hyk;rw[Ey S i _ (by omega)];by_cases e:i=y.1
      .have ep:=uniq p p' _ _ hx hy e;subst ep;simp[e]
      .rw[zz e,inv.done p' y hy hyk];constructor
       .intro h;omega
       .intro h
        have:p'≠p:=λep=>by subst ep;rw[hx]at hy;injection hy with hy;subst hy;exact e rfl
        exact hbefore' p' y (by omega) hy hyk
    .rw[zz (by rw[hi'.wants (hww.trans hwf)];simp)]
     have e1:(st (p+1)).H=(st p0).H:=by rw[hst,EA,hf.1]
     have e2:(st (p+1)).nx=(st p0).nx:=by rw[hst,Gn,hf.2]
     exact next (p+1) L w undef (by omega) hdone' (by rw[hv];simp only[Af,Ao]) (by rw[e1];exact inv.heap) (by rw[e2];exact inv.nx) (Bh.refl _ _) (by rw[e1];exact Ext.refl _ _ _)
    .rw[zy (hi'.wants (hww.trans hwt))]
     have hek':Ai Φ ({ ((st p).only mi'.eyes)with H:=(st p0).H,nx:=(st p0).nx }:Ad).H ({ ((st p).only mi'.eyes)with H:=(st p0).H,nx:=(st p0).nx }:Ad).nx mi'.k (mi'.xs.map (·.ev ({ ((st p).only mi'.eyes)with H:=(st p0).H,nx:=(st p0).nx }:Ad).env))=some (vals p,H',nx'):=by
      rw[hev];show Ai Φ (st p0).H (st p0).nx mi'.k _=_;rw[<-hf.1,<-hf.2];exact hek
     have haop:=J8 (B:=B) hΦ hcop hek' L a w hi';refine .inl (FY ?_ (λ_ _ _ h=>h.elim) haop);rintro a' w' ⟨u,L',rfl,hru,hok',hnx',hm',hx'⟩
     have e1:(st (p+1)).H=H':=by rw[hst,EA]
     have e2:(st (p+1)).nx=nx':=by rw[hst,Gn]
     exact next (p+1) L' w' u (by omega) hdone' hru (by rw[e1];exact hok') (by rw[e2];exact hnx') hm' (by rw[e1];exact hx')
 obtain⟨hok,hm,hx⟩:=hi0.heap.of_heap (w':={ w0 with drawn:=w0.drawn+1 }) ⟨rfl,rfl,rfl⟩ rfl
 have hfalse:∀i,(Y5 ops.size false).getD i false=false:=by
  intro i;simp only[Y6,Array.getElem?_replicate];split<;>rfl
 refine main ops.size _ 0 L0 a0 _ (by simp) ?_ (by omega) ⟨Yg _,hfalse _,λp x _ h=>(by rw[hfalse]at h;cases h),?_,by rw[h0];exact hok,by rw[h0];exact hi0.nx,hi0.base,hi0.size,hi0.defers,?_,?_,by rw[h0];exact hx,λ_ _=>rfl⟩
 .intro i o _ h;rw[hfalse]at h;cases h
 .intro p x _ _;rw[hfalse];simp
 .intro p x _ h;rw[hfalse]at h;cases h
 .intro k u _ hu;exact Af.keep hm u (hi0.env k u hu)
end
section
variable {P : Program} {G : A2} {B N : Nat} {Φ : A7} {E : Gw} {Q : Exit -> Ad -> Prop} {s : Ad}
def IU (E:Gw) (s:Ad) (m:A3):Option Bu:=
 match m.k with
 | .hcall f=>match m.wants s.env with
  | some true=>E f (m.xs.map (·.ev s.env)) s.H s.nx
  | _=>none
 | _=>none
def FL (Φ:A7) (E:Gw):Nat->Fa->List GI->Ad->(Ad->Prop)->(Bu->Prop)->Prop
 | _,_,[],s,K,_=>K s
 | n,pd,.o m kp ag::r,s,K,X=>Lo (IU E s m) X (BJ (Gq Φ s m) λq=>FJ Φ pd q.2.1 q.2.2 ag (FL Φ E (n+1) (Gr kp n m s q.1 pd) r (s.set m.dst q) K X))
 | _,_,.g _ _::_,_,_,_=>False
theorem bR:∀(l:List GI) {n:Nat} {pd:Fa} {s:Ad} {K:Ad->Prop} {X:Bu->Prop},FL Φ E n pd l s K X ->
  DU Φ 0 n 0 pd l s K\/∃(pe:Nat) (m:A3) (kp:Bool) (ag:List Nat) (ch:Bu),l[pe]?=some (.o m kp ag)/\DU Φ 0 n 0 pd (l.take pe) s (λs1=>IU E s1 m=some ch)/\X ch
 | [],n,pd,s,K,X,h=>.inl h
 | .g _ _::_,n,pd,s,K,X,h=>h.elim
 | .o m kp ag::r,n,pd,s,K,X,h=>by
  simp only[FL]at h
  cases hp:IU E s m with
  | some ch=>
   rw[hp]at h;exact .inr ⟨0,m,kp,ag,ch,rfl,hp,h⟩
  | none=>
   rw[hp,JR]at h;obtain⟨q,hv,hk⟩:=GT h;obtain⟨h1,h2⟩:=SA hk
   have back:∀C:Prop,C->FJ Φ pd q.2.1 q.2.2 ag C:=by
    intro C hC
    have:∀ks:List Nat,Qa Φ pd q.2.1 q.2.2 ks->FJ Φ pd q.2.1 q.2.2 ks C:=by
     intro ks
     induction ks with
     | nil=>intro _;exact hC
     | cons i r ih=>
      intro hh;obtain⟨x,hx,he⟩:=hh i (by simp);show BJ (Aa pd i) _;rw[hx];exact⟨he,ih λj hj=>hh j (by simp[hj])⟩
    exact this ag h1
   rcases bR r h2 with h3 | ⟨pe,m',kp',ag',ch,h3,h4,h5⟩
   .left;show BJ (Gq Φ s m) _;rw[hv];exact back _ h3
   .right;refine⟨pe+1,m',kp',ag',ch,by simpa using h3,?_,h5⟩;rw[List.take_succ_cons];show BJ (Gq Φ s m) _;rw[hv];exact back _ h4
theorem bS (hΦ:Ctx P G Φ) (hE:POK P G E) {l:List GI} (h:FL Φ E 0 [] l s (Q .normal) (DO Q)):MC P G B N (.drawG 0 l) Q s:=by
 rcases bR l h with h1 | ⟨pe,m,kp,ag,ch,h3,h4,h5⟩
 .exact Ap hΦ h1
 .intro c hc hn;obtain⟨id,ops,lt,π,pa,R,rfl,hl,hd,hsh,he,hlate⟩:=Fb hc;obtain⟨s1,hr,hp⟩:=Qk _ h4;unfold IU at hp;split at hp
  .rename_i f hk;split at hp
   .rename_i hw;have hple:pe<l.length:=(Xe.1 h3).1
    have hshp:KZ pa 0 (R.filter λr=>decide (r.2<pe)) (l.take pe)=true:=by
     unfold KZ at hsh ⊢;rw[Xi]at hsh ⊢;refine⟨Xx.2 λx hx=>?_,Xx.2 λr hr=>?_⟩
     .obtain⟨y,i⟩:=x;rw[Y9]at hx
      have hx':l[i]?=some y:=by
       rw[Yp]at hx;split at hx
       .exact hx
       .cases hx
      exact Xx.1 hsh.1 (y,i) (by rw[Y9];exact hx')
     .obtain⟨h1,h2⟩:=Za.1 hr;have:=Xx.1 hsh.2 r h1;rw[Yp,zy (of_decide_eq_true h2)];exact this
    obtain⟨st,vals,tr⟩:=WL hr hshp
    have hlen:((l.take pe).map GI.mini).length=pe:=by rw[Xl,Yx];omega
    have hpre:∀(p:Nat) m',p<pe->((C4 lt π).map Prod.snd)[p]?=some m'->((l.take pe).map GI.mini)[p]?=some m':=by
     intro p m' hp hm;rw[List.map_take,Yp,zy hp,he];exact hm
    have hstop:=tr.stop;rw[hlen]at hstop
    have hm0:((C4 lt π).map Prod.snd)[pe]?=some m:=by rw[<-he,Xj,h3];rfl
    rw[Xj]at hm0;obtain⟨x0,hx0,e0⟩:=AZ hm0;subst e0
    refine xW (st:=st) (vals:=vals) (pe:=pe) (x0:=x0) hΦ.mix hΦ.sound hl hd hn hx0 (qP hlate hx0 hk) (by rw[hk];rfl)
     ⟨tr.start,λp m' hp hm=>tr.norm p m' (hpre p m' hp hm) (by omega),λp p' m' hp hp' hR hm=>tr.again p p' m' (Za.2 ⟨hR,zw hp'⟩) (hpre p m' hp hm)⟩ (by rw[hstop];exact hw) ?_ h5
    intro o s' hop hH hnx hxs;refine bP hE hop ?_;rw[hH,hnx,hxs,hstop,hk];exact hp
   .cases hp
  .cases hp
theorem Cy (hΦ:Ctx P G Φ) (hE:POK P G E) {a b:An} (hn:s.n=N) (h:CP Φ E a s (Gu (λs1=>MC P G B N b Q s1) Q)):MC P G B N (.seq a b) Q s:=by
 refine Mz ((JS hΦ hE a h hn).mono λe s1 q=>?_);cases e
 case normal=>exact⟨q.2 (λ_ h=>(by cases h)),q.1⟩
 all_goals exact q.1
theorem B9 (hΦ:Ctx P G Φ) (hE:POK P G E) {a:An} (hn:s.n=N) (h:CP Φ E a s Q):MC P G B N a Q s:=(JS hΦ hE a h hn).mono λ_ _ q=>q.1
abbrev Hg:=List (Nat×(List PV->Ab->Nat->Option Bu))
def orE (tbl:Hg):Gw:=λf ps H nx=>match Aa tbl f with
 | some g=>g ps H nx
 | none=>none
@[simp] theorem C3y (k f:Nat) (g:List PV->Ab->Nat->Option Bu) (r:Hg) (ps:List PV) (H:Ab) (nx:Nat):orE ((k,g)::r) f ps H nx=if k=f then g ps H nx else orE r f ps H nx:=by
 unfold orE;rw[Az];by_cases h:k=f
 .rw[zy h,zy h]
 .rw[zz h,zz h]
@[simp] theorem C3z (f:Nat) (ps:List PV) (H:Ab) (nx:Nat):orE [] f ps H nx=none:=rfl
def EOK (P:Program) (G:A2) (f:FuncId) (e:List PV->Ab->Nat->Option Bu):Prop:=∀ps H nx ch,e ps H nx=some ch->E3 P G f ps H nx ch []
def Fh (P:Program) (G:A2) (tbl:Hg):Prop:=∀q∈tbl,EOK P G q.1 q.2
theorem Fh.nil:Fh P G []:=λ_ h=>by cases h
theorem Fh.cons {f:Nat} {e:List PV->Ab->Nat->Option Bu} {r:Hg} (h:EOK P G f e) (hr:Fh P G r):Fh P G ((f,e)::r):=λq hq=>by
 rcases Xn.1 hq with rfl | hq
 .exact h
 .exact hr q hq
theorem Fh.ok {tbl:Hg} (h:Fh P G tbl):POK P G (orE tbl):=λf ps H nx ch hr=>by
 unfold orE at hr;split at hr
 .rename_i g hg;exact h _ (BK hg) ps H nx ch hr
 .cases hr
abbrev IV:=List T->List T->Option (Except Bu (T×List T))
def O4 (sp:IV) (cs ts:List T):Option (T×List T):=match sp cs ts with
 | some (.ok x)=>some x
 | _=>none
def xX (ty:TypeId):Except Bu (T×List T)->Out
 | .ok (r,cs')=>.ret (.t r) [(0,.cells ty (cs'.map .t))] 1
 | .error ch=>.pan ch
def Lq (ty:TypeId) (sp:IV) (ps:List PV) (H:Ab) (nx:Nat):Option Bu:=
 match ps with
 | .ptr b 0::args=>match Aa H b,Eh args with
  | some (.cells ty' cs),some ts=>match Eh cs with
   | some cs'=>if ty'=ty/\b<nx then(match sp cs' ts with
    | some (.error ch)=>some ch
    | _=>none)else none
   | none=>none
  | _,_=>none
 | _=>none
def O5 (P:Program) (G:A2) (f:FuncId) (ty:TypeId) (sp:IV):Prop:=∀cs ts o,sp cs ts=some o->Hf P G f (.ptr 0 0::ts.map .t) [(0,.cells ty (cs.map .t))] 1 (xX ty o)
theorem O5.hok {f:FuncId} {ty:TypeId} {sp:IV} (h:O5 P G f ty sp):HOK P G f (JI ty (O4 sp)):=rE λcs ts r cs' hr=>by
 unfold O4 at hr;split at hr
 .rename_i x hx;injection hr with hr;subst hr;exact h cs ts _ hx
 .cases hr
theorem E3.weak {f:FuncId} {ps:List PV} {H H':Ab} {nx:Nat} {ch:Bu} (h:E3 P G f ps H nx ch H'):E3 P G f ps H nx ch []:=
 ⟨h.1,λL w us h1 h2 h3=>(h.2 L w us h1 h2 h3).mono λe w' ⟨L',e1,e2,e3,e4,e5⟩=>
  ⟨L',e1,(O3 e2).1,e3,e4,⟨e5.size,e5.same,e5.more,e5.new,λ_ ⟨_,_,hb,_⟩=>(by cases hb),e5.shape,e5.outer⟩⟩⟩
theorem O5.eok {f:FuncId} {ty:TypeId} {sp:IV} (h:O5 P G f ty sp):EOK P G f (Lq ty sp):=λps H nx ch hr=>by
 unfold Lq at hr;split at hr
 .rename_i b args;split at hr
  .rename_i ty' cs ts hl ha;split at hr
   .rename_i cs' hc;split at hr
    .rename_i hcond;obtain⟨rfl,hb⟩:=hcond;split at hr
     .rename_i ch' hsp;injection hr with hr;subst hr
      have:=(h cs' ts _ hsp)
      have h1:E3 P G f (.ptr 0 0::ts.map .t) [(0,.cells ty' (cs'.map .t))] 1 ch' []:=this;have h2:=h1.lift1 (b:=b) (NX:=nx) (Hb:=H) (by rw[hl,GO hc]) hb;rw[<-GO ha]at h2;exact h2.weak
     .cases hr
    .cases hr
   .cases hr
  .cases hr
 .cases hr
theorem xY {ty:TypeId} {sp:IV} {b nx:Nat} {H:Ab} {cs ts:List T} {r:T} {cs':List T} (hl:Aa H b=some (.cells ty (cs.map .t))) (hb:b<nx) (ho:sp cs ts=some (.ok (r,cs'))) :
 JI ty (O4 sp) (.ptr b 0::ts.map .t) H nx=some (.t r,upd H b (.cells ty (cs'.map .t)),nx):=rF (o:=(r,cs')) hl hb (by unfold O4;rw[ho])
theorem xZ {ty:TypeId} {sp:IV} {b nx:Nat} {H:Ab} {cs ts:List T} {x:T×List T} (hl:Aa H b=some (.cells ty (cs.map .t))) (ho:sp cs ts=some (.ok x)) :
  Lq ty sp (.ptr b 0::ts.map .t) H nx=none:=by
 simp only[Lq,hl,JF,ho];split<;>rfl
theorem y7 {ty:TypeId} {sp:IV} {b nx:Nat} {H:Ab} {cs ts:List T} {ch:Bu} (hl:Aa H b=some (.cells ty (cs.map .t))) (hb:b<nx) (ho:sp cs ts=some (.error ch)) :
  Lq ty sp (.ptr b 0::ts.map .t) H nx=some ch:=by
 simp only[Lq,hl,JF,hb,and_self,if_true,ho]
end
section
variable {P : Program} {G : A2} {B : Nat} {Φ : A7} {E : Gw} {env : List (Nat × PV)} {H : Ab} {nx n : Nat} {K : Ad -> Prop} {X : Bu -> Prop} {Q : Exit -> Ad -> Prop} {d : Option Nat} {k : MK} {xs : List Opd} {r : List A3}
@[simp] theorem C4a (f:Nat) (ps:List PV):JQ E H nx (.hcall f) ps=E f ps H nx:=rfl
@[simp] theorem C4b (ps:List PV):JQ E H nx (.hx .pan) ps=Ln ps:=rfl
@[simp] theorem C4c (t:Nat) (x:Value):Ln [.t (.ic t (.v x))]=some [{ v:=.iface t x,recovered:=false }]:=rfl
@[simp] theorem C4d (t:Nat) (x:Value):Ln [.t (.ic t (.ag [.v x]))]=some [{ v:=.iface t (.agg #[x]),recovered:=false }]:=rfl
@[simp] theorem C4e (t:Nat) (x:T):exM (.mki t) [.t x]=some (.t (.ic t x)):=rfl
def Cg:MK->Bool
 | .hcall _=>false
 | .hx .pan=>false
 | _=>true
@[simp] theorem C4f:Cg (.mv)=true:=rfl
@[simp] theorem C4g:Cg (.pick)=true:=rfl
@[simp] theorem C4h (isB:Bool) (op:BinOp) (nk:Option NK):Cg (.bin isB op nk)=true:=rfl
@[simp] theorem C4i (op:UnOp):Cg (.un op)=true:=rfl
@[simp] theorem C4j (k:Option IntKind):Cg (.conv k)=true:=rfl
@[simp] theorem C4k (agg:Bool) (n:Nat):Cg (.load agg n)=true:=rfl
@[simp] theorem C4l (off:Nat):Cg (.faddr off)=true:=rfl
@[simp] theorem C4m (off:Nat) (agg:Bool) (n:Nat):Cg (.field off agg n)=true:=rfl
@[simp] theorem C4n (z:Nat):Cg (.iaddr z)=true:=rfl
@[simp] theorem C4o (len:Nat) (z:Nat):Cg (.aaddr len z)=true:=rfl
@[simp] theorem C4p:Cg (.index)=true:=rfl
@[simp] theorem C4q (lo:Bool) (hi:Bool):Cg (.slstr lo hi)=true:=rfl
@[simp] theorem C4r (z:Nat) (lo:Bool) (hi:Bool):Cg (.slice z lo hi)=true:=rfl
@[simp] theorem C4s (i:Nat):Cg (.ext i)=true:=rfl
@[simp] theorem C4t:Cg (.chk)=true:=rfl
@[simp] theorem C4u:Cg (.lenstr)=true:=rfl
@[simp] theorem C4v:Cg (.lensl)=true:=rfl
@[simp] theorem C4w:Cg (.min)=true:=rfl
@[simp] theorem C4x:Cg (.max)=true:=rfl
@[simp] theorem C4y (n:Nat):Cg (.store n)=true:=rfl
@[simp] theorem C4z (e:Nat) (n:Nat) (b:Nat) (zc:List Value):Cg (.make e n b zc)=true:=rfl
@[simp] theorem C5a (e:Nat) (n:Nat) (zc:List Value) (len:Nat) (idx:List Nat):Cg (.bslice e n zc len idx)=true:=rfl
@[simp] theorem C5b (pl:List (Nat×Nat)) (zc:List Value) (idx:List Nat):Cg (.build pl zc idx)=true:=rfl
@[simp] theorem C5c (n:Nat) (zc:List Value) (idx:List Nat):Cg (.barr n zc idx)=true:=rfl
@[simp] theorem C5d (t:Nat):Cg (.box t)=true:=rfl
@[simp] theorem C5e (t:Nat) (zc:List Value):Cg (.alloc t zc)=true:=rfl
@[simp] theorem C5f (e:Nat) (n:Nat) (b:Nat):Cg (.app e n b)=true:=rfl
@[simp] theorem C5g (f:Nat):Cg (.call f)=true:=rfl
@[simp] theorem C5h:Cg (.callv)=true:=rfl
@[simp] theorem C5i (e:Nat) (n:Nat) (zc:List Value) (len:Nat) (idx:List Nat):Cg (.tslice e n zc len idx)=true:=rfl
@[simp] theorem C5j:Cg (.bad)=true:=rfl
@[simp] theorem C5k (e:EK):Cg (.ex e)=true:=rfl
theorem bT {ps:List PV} (h:Cg k=true):JQ E H nx k ps=none:=by
 cases k
 case hx h2=>cases h2<;>first | (cases h;done) | rfl
 all_goals first | (cases h;done) | rfl
@[simp] theorem C5l {s:Ad}:Cv Φ E [] s K X=K s:=rfl
@[simp] theorem C5m (hk:Cg k=true):Cv Φ E (⟨d,k,xs,none⟩::r) ⟨env,H,nx,n⟩ K X=BJ (Ai Φ H nx k (xs.map (·.ev env))) λq=>Cv Φ E r (Ad.set ⟨env,H,nx,n⟩ d q) K X:=by
 simp only[Cv,A3.wants,IC,bT hk,JR]
@[simp] theorem C5n {f:Nat}:Cv Φ E (⟨d,.hcall f,xs,none⟩::r) ⟨env,H,nx,n⟩ K X=Lo (E f (xs.map (·.ev env)) H nx) X (BJ (Ai Φ H nx (.hcall f) (xs.map (·.ev env))) λq=>Cv Φ E r (Ad.set ⟨env,H,nx,n⟩ d q) K X):=rfl
@[simp] theorem C5o:Cv Φ E (⟨d,.hx .pan,xs,none⟩::r) ⟨env,H,nx,n⟩ K X=Lo (Ln (xs.map (·.ev env))) X (BJ (Ai Φ H nx (.hx .pan) (xs.map (·.ev env))) λq=>Cv Φ E r (Ad.set ⟨env,H,nx,n⟩ d q) K X):=rfl
@[simp] theorem C5p {g:Nat} {want:Bool} (h:Aa env g=some (.t (.v (.bool want)))) (hk:Cg k=true) :
  Cv Φ E (⟨d,k,xs,some (g,want)⟩::r) ⟨env,H,nx,n⟩ K X=BJ (Ai Φ H nx k (xs.map (·.ev env))) λq=>Cv Φ E r (Ad.set ⟨env,H,nx,n⟩ d q) K X:=by
 simp only[Cv,A3.wants,h,beq_self_eq_true,IC,bT hk,JR]
theorem bU {g:Nat} {want b:Bool} (h:Aa env g=some (.t (.v (.bool b)))) (hb:(b==want)=false) :
  Cv Φ E (⟨d,k,xs,some (g,want)⟩::r) ⟨env,H,nx,n⟩ K X=Cv Φ E r (Ad.set ⟨env,H,nx,n⟩ d (.t (.v undef),H,nx)) K X:=by
 simp only[Cv,A3.wants,h,hb,ID]
@[simp] theorem C5q {g:Nat} (h:Aa env g=some (.t (.v (.bool false)))) :
 Cv Φ E (⟨d,k,xs,some (g,true)⟩::r) ⟨env,H,nx,n⟩ K X=Cv Φ E r (Ad.set ⟨env,H,nx,n⟩ d (.t (.v undef),H,nx)) K X:=bU h rfl
@[simp] theorem C5r {g:Nat} (h:Aa env g=some (.t (.v (.bool true)))) :
 Cv Φ E (⟨d,k,xs,some (g,false)⟩::r) ⟨env,H,nx,n⟩ K X=Cv Φ E r (Ad.set ⟨env,H,nx,n⟩ d (.t (.v undef),H,nx)) K X:=bU h rfl
@[simp] theorem C5s {g:Nat} {want:Bool} (h:Aa env g=some (.t (.v undef))) :
  Cv Φ E (⟨d,k,xs,some (g,want)⟩::r) ⟨env,H,nx,n⟩ K X=Cv Φ E r (Ad.set ⟨env,H,nx,n⟩ d (.t (.v undef),H,nx)) K X:=by
 simp only[Cv,A3.wants,h,undef,ID]
@[simp] theorem C5t {s:Ad}:CP Φ E .skip s Q=Q .normal s:=rfl
@[simp] theorem C5u {l:List A3}:CP Φ E (.ops l) ⟨env,H,nx,n⟩ Q=Cv Φ E l ⟨env,H,nx,n⟩ (Q .normal) (DO Q):=rfl
@[simp] theorem C5v {l:List A3}:CP Φ E (.draw l) ⟨env,H,nx,n⟩ Q=CM Φ l ⟨env,H,nx,n⟩ (Q .normal):=rfl
@[simp] theorem C5w {κ:Nat} {l:List GI}:CP Φ E (.drawG κ l) ⟨env,H,nx,n⟩ Q=DU Φ κ 0 0 [] l ⟨env,H,nx,n⟩ (Q .normal):=rfl
@[simp] theorem C5x {a b:An}:CP Φ E (.seq a b) ⟨env,H,nx,n⟩ Q=CP Φ E a ⟨env,H,nx,n⟩ (Gu (λs1=>CP Φ E b s1 Q) Q):=rfl
@[simp] theorem C5y {c:Opd} {a b:An} (h:c.ev env = .t (.v (.bool true))):CP Φ E (.cond c a b) ⟨env,H,nx,n⟩ Q=CP Φ E a ⟨env,H,nx,n⟩ Q:=by simp only[CP,h,WV]
@[simp] theorem C5z {c:Opd} {a b:An} (h:c.ev env = .t (.v (.bool false))):CP Φ E (.cond c a b) ⟨env,H,nx,n⟩ Q=CP Φ E b ⟨env,H,nx,n⟩ Q:=by simp only[CP,h,WW]
@[simp] theorem C6a {i:Nat} {a:An}:CP Φ E (.block i a) ⟨env,H,nx,n⟩ Q=CP Φ E a ⟨env,H,nx,n⟩ (FX i Q):=rfl
@[simp] theorem C6b {i:Nat} {s:Ad}:CP Φ E (.exit i) s Q=Q (.exit i) s:=rfl
@[simp] theorem C6c {a:An}:CP Φ E (.scope a) ⟨env,H,nx,n⟩ Q=CP Φ E a ⟨env,H,nx,n⟩ (Iz Q):=rfl
@[simp] theorem C6d {s:Ad}:CP Φ E .ret s Q=Q .ret s:=rfl
@[simp] theorem C6e (K:Ad->Prop) (ch:Bu):DO (Gu K Q) ch=DO Q ch:=rfl
@[simp] theorem C6f (i:Nat) (ch:Bu):DO (FX i Q) ch=DO Q ch:=rfl
@[simp] theorem C6g (ch:Bu):DO (Iz Q) ch=DO Q ch:=rfl
@[simp] theorem C6h {α:Type} (S:α->Ad) (Ok:α->Prop) (ch:Bu):DO (Le P G B S Ok Q) ch=DO Q ch:=rfl
@[simp] theorem C6i (S:Ad) (ch:Bu):DO (Oa P G B S Q) ch=DO Q ch:=rfl
@[simp] theorem C6j (ch:Bu):DO (JG Q) ch=DO Q ch:=rfl
@[simp] theorem C6k (vs:List RV) (o:Out) (ch:Bu):DO (MI P G B vs o) ch=(o = .pan ch):=by
 refine propext ⟨λh=>?_,λh s=>?_⟩
 .have:=h ⟨[],[],0,0⟩
  cases o with
  | ret r H nx=>
   obtain⟨he,_⟩:=(show F7 P G B vs (λr0 H0 nx0=>r0=r/\H0=H/\nx0=nx) (.panic ch) ⟨[],[],0,0⟩from this)
   rcases he with he | he<;>cases he
  | pan c=>
   have e:Exit.panic ch=Exit.panic c:=this;injection e with e;rw[e]
 .subst h;exact rfl
theorem bV {vs:List RV} {r:PV} {H':Ab} {nx':Nat} {e:Exit} {s:Ad} (h:F7 P G B vs (λr0 H0 nx0=>r0=r/\H0=H'/\nx0=nx') e s):MI P G B vs (.ret r H' nx') e s:=h
theorem O6 {vs:List RV} {r:PV} {H':Ab} {nx':Nat} {e:Exit} {s s2:Ad} {rs:List PV} (he:e = .normal\/e = .ret) (hs:Sub P G B s s2) (h1:Ez s2 vs=some rs) (h2:Ei rs=r) (h3:s2.H=H') (h4:s2.nx=nx'):MI P G B vs (.ret r H' nx') e s:=
 ⟨he,s2,rs,hs,h1,h2,h3,h4⟩
end
def IW:MK->Bool
 | .hcall _=>true
 | _=>false
@[simp] theorem C6l:IW .mv=false:=rfl
@[simp] theorem C6m (n:Nat):IW (.faddr n)=false:=rfl
@[simp] theorem C6n (b:Bool) (n:Nat):IW (.load b n)=false:=rfl
@[simp] theorem C6o (b:Bool) (op:BinOp) (nk:Option NK):IW (.bin b op nk)=false:=rfl
@[simp] theorem C6p (e n:Nat) (zc:List Value) (len:Nat) (idx:List Nat):IW (.tslice e n zc len idx)=false:=rfl
@[simp] theorem C6q (e n b:Nat):IW (.app e n b)=false:=rfl
@[simp] theorem C6r (n:Nat):IW (.store n)=false:=rfl
section
variable {α : Type} {P : Program} {G : A2} {B : Nat}
theorem MJ (H:Ab) (F:List Nat) (x:T):BI H F (.t x) = .t x:=rfl
theorem y9 (H:Ab) (F:List Nat) (ty:TypeId) (cs:List T):De H F (.cells ty (cs.map .t)) = .cells ty (cs.map .t):=by
 simp only[De,Xo];rfl
theorem Tr (σ:Nat->Nat):∀cs:List T,Bn σ (cs.map .t)=cs.map .t
 | []=>rfl
 | c::cs=>by simp only[Xd,Bn,Tr σ cs,ren]
theorem Ts (n:Nat):∀cs:List T,B8 n (cs.map .t)=true
 | []=>rfl
 | c::cs=>by simp only[Xd,B8,Ts n cs,under,Bool.and_self]
theorem yA {e:Enc α} {ty ty0 b k nx n:Nat} {l:List α} {env:List (Nat×PV)} {H:Ab} {cs:List T} (h:Ay e ty H b l) (hb0:b≠0) (h0:Aa H 0=some (.cells ty0 (cs.map .t)))
  (hk:Aa env k=some (rowP e b l)) (hB:B<=1):Sub P G B ⟨env,H,nx,n⟩ ⟨[(k,.t (Aq e l))],[(0,.cells ty0 (cs.map .t))],1,n⟩:=by
 have h1:Sub P G B ⟨env,H,nx,n⟩ (Ad.frz ⟨env,H,nx,n⟩ [b]):=M0 [b];refine h1.trans ?_;refine JD (λx=>x) rfl hB (λ_ _=>rfl) (λq hq=>?_) (λq hq=>?_) (λ_ _ _ _ e=>e)
 .simp only[Xp]at hq;subst hq;refine⟨?_,rfl⟩;simp only[Ad.frz,FI,hk,Xq,ren];unfold BI;rw[h.toT]
  have:(GV b l).all ([b].contains ·)=true:=by cases l<;>simp[GV]
  simp only[this,if_true]
 .simp only[Xp]at hq;subst hq;refine⟨?_,by show 0<1;omega,Ts _ _⟩;simp only[Ad.frz,FI];rw[show Aa (Dy H [b]) 0=Aa H 0 by simp only[Dy,Zb,Zc];rw[CJ,zz (Ne.symm hb0)],h0,Xq,y9];simp only[BE,Tr]
end
section
variable {Φ : A7} {E : Gw} {env : List (Nat × PV)} {H : Ab} {nx n j : Nat} {K : Ad -> Prop} {X : Bu -> Prop} {d : Option Nat} {k : MK} {xs : List Opd} {gr : List GI} {pd : Fa} {kp : Bool} {ag : List Nat}
@[simp] theorem C6s {s:Ad}:FL Φ E j pd [] s K X=K s:=rfl
@[simp] theorem C6t (hk:AC k=true) (hc:IW k=false):FL Φ E j pd (.o ⟨d,k,xs,none⟩ kp ag::gr) ⟨env,H,nx,n⟩ K X =
  BJ (Bk Φ H nx k (xs.map (·.ev env))) λv=>FJ Φ pd H nx ag (FL Φ E (j+1) (Gr kp j ⟨d,k,xs,none⟩ ⟨env,H,nx,n⟩ v pd) gr (Ad.set ⟨env,H,nx,n⟩ d (v,H,nx)) K X):=by
 have hp:IU E ⟨env,H,nx,n⟩ ⟨d,k,xs,none⟩=none:=by
  unfold IU;split
  .rename_i f e;simp only at e;subst e;cases hc
  .rfl
 simp only[FL,hp,JR,Gq,hk,if_true,JA,A3.wants,WU]
@[simp] theorem C6u (hk:AC k=false) (hc:IW k=false):FL Φ E j pd (.o ⟨d,k,xs,none⟩ kp ag::gr) ⟨env,H,nx,n⟩ K X =
  BJ (Ai Φ H nx k (xs.map (·.ev env))) λq=>FJ Φ pd q.2.1 q.2.2 ag (FL Φ E (j+1) (Gr kp j ⟨d,k,xs,none⟩ ⟨env,H,nx,n⟩ q.1 pd) gr (Ad.set ⟨env,H,nx,n⟩ d q) K X):=by
 have hp:IU E ⟨env,H,nx,n⟩ ⟨d,k,xs,none⟩=none:=by
  unfold IU;split
  .rename_i f e;simp only at e;subst e;cases hc
  .rfl
 simp only[FL,hp,JR,Gq,hk,Xk,if_false,A3.wants]
@[simp] theorem C6v {f:Nat}:FL Φ E j pd (.o ⟨d,.hcall f,xs,none⟩ kp ag::gr) ⟨env,H,nx,n⟩ K X =
  Lo (E f (xs.map (·.ev env)) H nx) X (BJ (Ai Φ H nx (.hcall f) (xs.map (·.ev env))) λq=>FJ Φ pd q.2.1 q.2.2 ag (FL Φ E (j+1) (Gr kp j ⟨d,.hcall f,xs,none⟩ ⟨env,H,nx,n⟩ q.1 pd) gr (Ad.set ⟨env,H,nx,n⟩ d q) K X)):=by
 have hq:AC (.hcall f)=false:=rfl;simp only[FL,IU,Gq,hq,Xk,if_false,A3.wants]
end
theorem bW {P:Program} {G:A2} {B:Nat} {vs:List RV} {R:PV->Ab->Nat->Prop} {s:Ad} (h:BJ (Ez s vs) λps=>R (Ei ps) s.H s.nx):F7 P G B vs R .ret s:=by
 obtain⟨ps,h1,h2⟩:=GT h;exact⟨.inr rfl,s,ps,Sub.refl s,h1,h2⟩
def Frs (H:Ab) (nx:Nat):Prop:=∀b x,Aa H b=some x->b<nx
theorem Frs.cons {H:Ab} {nx k m:Nat} {r:Row} (h:Frs H nx) (hk:k<m) (hm:nx<=m):Frs ((k,r)::H) m:=λb x hb=>by
 rw[Az]at hb;split at hb
 .omega
 .exact Xt (h b x hb) hm
theorem Frs.upd {H:Ab} {nx k:Nat} {r:Row} (h:Frs H nx):Frs (Abs.upd H k r) nx:=λb x hb=>by
 rw[AN]at hb;split at hb
 .rename_i e;obtain⟨y,hy,_⟩:=Xm.1 hb;subst e;exact h _ _ hy
 .exact h b x hb
theorem Frs.rem {H:Ab} {nx k:Nat} (h:Frs H nx):Frs (rem H k) nx:=λb x hb=>by
 rw[CJ]at hb;split at hb
 .cases hb
 .exact h b x hb
theorem Frs.mono {H:Ab} {nx m:Nat} (h:Frs H nx) (hm:nx<=m):Frs H m:=λb x hb=>Xt (h b x hb) hm
theorem hAt {P:Program} {G:A2} {f:FuncId} {ps:List PV} {H:Ab} {nx:Nat} {r:PV} {H':Ab} {nx':Nat} (h:AH P G f ps H nx r H' nx') (hf:Frs H nx->Frs H' nx') :
 ∃t:List PV->Ab->Nat->Option (PV×Ab×Nat),t ps H nx=some (r,H',nx')/\HOK P G f t:=⟨_,DL _ _ _ _,E0 h hf⟩
section
variable {α : Type} {e : Enc α} {ty b : Nat} {H : Ab} {l : List α}
theorem Frs.appH {nx:Nat} {m:List α} (h:Frs H nx):Frs (Abs.appH e ty H nx b l m) (nx+1):=by
 unfold Abs.appH;split
 .exact h.mono (Yq _)
 .split
  .exact h.cons (Yn _) (Yq _)
  .exact h.rem.cons (Yn _) (Yq _)
theorem MM (e:Enc α) (b:Nat) (l:List α) (h:l≠[]):rowP e b l = .row b 0 l.length e.z:=by
 cases l with
 | nil=>exact absurd rfl h
 | cons x r=>rfl
theorem Fw {b o n:Nat} {t:PV} {ty:Nat} {cs ns:List PV} (h:Aa H b=some (.cells ty cs)) (hn:Bj t=some ns) (hl:ns.length=n) (ho:o+n<=cs.length):AM n H (.ptr b o) t=some (Abs.upd H b (.cells ty (Bp cs o ns))):=by
 simp only[AM,h,hn,hl,ho,and_self,if_true]
end
def B1 (H:Ab) (F:List Nat):Ab:=(Dy H F).map λq=>(q.1,De H F q.2)
theorem Tt:∀(F:List Nat) (H:Ab) (k:Nat),k∉F->Aa (Dy H F) k=Aa H k
 | [],H,k,_=>rfl
 | b::F,H,k,h=>by
  rw[Xn,not_or]at h;show Aa (Dy (rem H b) F) k=_;rw[Tt F _ k h.2,CJ,zz h.1]
theorem QA {H:Ab} {F:List Nat} {c:Nat} {r:Row} (hc:c∉F) (h:Aa H c=some r):Aa (B1 H F) c=some (De H F r):=by
 unfold B1;rw[FI,Tt _ _ _ hc,h];rfl
theorem EI {P:Program} {G:A2} {B nx n:Nat} {env env':List (Nat×PV)} {H:Ab} (F:List Nat) (he:∀q∈env',∃p0,Aa env q.1=some p0/\BI H F p0=q.2):Sub P G B ⟨env,H,nx,n⟩ ⟨env',B1 H F,nx,n⟩:=by
 refine(M0 F).trans ?_;unfold Ad.frz;refine sub_env λq hq=>?_;obtain⟨p0,h1,h2⟩:=he q hq;rw[FI,h1,<-h2];rfl
theorem O7 {P:Program} {G:A2} {B nx nx' n:Nat} {env:List (Nat×PV)} {H:Ab} (h:nx<=nx'):Sub P G B ⟨env,H,nx,n⟩ ⟨env,H,nx',n⟩:=by
 intro L a w hi;have hnx:L.nx=nx:=hi.nx
 have hm:Bh L w { L with nx:=nx' } w:=⟨λb hb=>⟨hb,rfl⟩,by show L.nx<=nx';omega,λ_ _=>rfl,Xb _,BS.refl w⟩
 refine⟨{ L with nx:=nx' },⟨⟨hi.heap.lt,λb r hb=>(hi.heap.rep b r hb).keep hm rfl,hi.heap.apart,hi.heap.inj,λb r hb=>?_,hi.heap.glob⟩,rfl,?_,hi.size,hi.defers,λk p hk=>Af.keep hm p (hi.env k p hk)⟩,?_,λ_ _=>rfl⟩
 .have:=hi.heap.nx b r hb;show b<nx';omega
 .have:=hi.base;show B<=nx';omega
 .exact⟨Xb _,λ_ _ _=>rfl,λ_ h=>h,λ_ h=>.inl h,λg ⟨b,r,h,e⟩=>.inr ⟨b,r,h,e⟩,BS.refl w,Ca.refl w⟩
theorem O8 (H:Ab) (F:List Nat) (x:T):BI H F (.t x) = .t x:=rfl
theorem Lr (H:Ab) (F:List Nat) (b o:Nat):BI H F (.ptr b o) = .ptr b o:=rfl
theorem FM {α:Type} {e:Enc α} {ty b:Nat} {H:Ab} {l:List α} {F:List Nat} (h:Ay e ty H b l) (hb:b∈F):BI H F (rowP e b l) = .t (Aq e l):=by
 unfold BI;rw[h.toT]
 cases l with
 | nil=>rfl
 | cons x r=>simp[GV,hb]
theorem yB {ty:Nat} {H:Ab} {F:List Nat} (cs:List T):De H F (.cells ty (cs.map .t)) = .cells ty (cs.map .t):=by
 simp only[De,Xo];congr 1
end Go.Abs
namespace Go.Proofs.YtobnacghaamfoaaGreatDoor
open Go Go.Abs
structure Dfn where
 name:ByteArray
 strict:Ds
 defaults:List Ds
structure TyD where
 name:ByteArray
 supers:List ByteArray
 feats:List (ByteArray×ByteArray)
structure Afx where
 kind:Int
 pairs:List (ByteArray×ByteArray)
def eFt:Enc (ByteArray×ByteArray):=⟨2,λp=>[sv p.1,sv p.2],λ_=>rfl,by omega,λa b h=>by
 obtain⟨_,_⟩:=a;obtain⟨_,_⟩:=b;injection h with h1 h;injection h with h2 _;injection h1 with h1;injection h1 with h1;injection h2 with h2;injection h2 with h2;simp only at h1 h2
 subst h1;subst h2;rfl⟩
def Dfn.cs (x:Dfn):List T:=sv x.name::(Ba x.strict++[Aq eD x.defaults])
def TyD.cs (x:TyD):List T:=[sv x.name,Aq Ak x.supers,Aq eFt x.feats]
def Afx.cs (x:Afx):List T:=[iv x.kind,Aq eFt x.pairs]
theorem Dfn.len (x:Dfn):x.cs.length=6:=by
 unfold Dfn.cs;rw[Xw,Xh,HJ];rfl
inductive El where
 | imp (s:ByteArray)
 | typ (x:TyD)
 | tmp (x:Dfn)
 | ent (w:List ByteArray) (x:Dfn)
 | lex (a:Afx) (x:Dfn)
 | rul (x:Dfn)
 | roo (x:Dfn)
 | chk (p:List ByteArray)
 | drp (s:ByteArray)
def El.j:El->Nat
 | .imp _=>0
 | .typ _=>1
 | .tmp _=>2
 | .ent _ _=>3
 | .lex _ _=>4
 | .rul _=>5
 | .roo _=>6
 | .chk _=>7
 | .drp _=>8
def El.cs:El->List T
 | .imp s=>[sv s]
 | .typ x=>x.cs
 | .tmp x=>x.cs
 | .ent w x=>Aq Ak w::x.cs
 | .lex a x=>a.cs++x.cs
 | .rul x=>x.cs
 | .roo x=>x.cs
 | .chk p=>[Aq Ak p]
 | .drp s=>[sv s]
def zE:Nat->Nat
 | 0=>1
 | 1=>3
 | 2=>6
 | 3=>7
 | 4=>8
 | 5=>6
 | 6=>6
 | _=>1
theorem yC (j:Nat):0<zE j:=by
 unfold zE;split<;>omega
theorem El.len (x:El):x.cs.length=zE x.j:=by
 cases x<;>simp[El.cs,El.j,zE,Dfn.len,TyD.cs,Afx.cs]
abbrev RwC (z:Nat):={c:List T // c.length=z}
def eRw (j:Nat):Enc (RwC (zE j)):=⟨zE j,Subtype.val,Subtype.property,yC j,λ_ _ h=>Subtype.ext h⟩
def QB (j:Nat) (x:El):Option (RwC (zE j)):=if h:x.j=j then some ⟨x.cs,h▸x.len⟩else none
def AW (j:Nat) (els:List El):List (RwC (zE j)):=els.filterMap (QB j)
theorem bX (j:Nat) (a b:List El):AW j (a++b)=AW j a++AW j b:=List.filterMap_append
theorem bY (x:El):QB x.j x=some ⟨x.cs,x.len⟩:=dif_pos rfl
theorem bZ {j:Nat} {x:El} (h:x.j≠j):QB j x=none:=dif_neg h
theorem c6 (els:List El) (x:El):AW x.j (els++[x])=AW x.j els++[⟨x.cs,x.len⟩]:=by
 rw[bX];show _++Zd _ [x]=_;rw[Yd,bY];rfl
theorem JT {j:Nat} (els:List El) {x:El} (h:x.j≠j):AW j (els++[x])=AW j els:=by
 rw[bX];show _++Zd _ [x]=_;rw[Yd,bZ h];simp
def Cz (j:Nat) (els:List El):Nat:=(els.filter λx=>decide (x.j=j)).length
theorem QC (j:Nat):∀els:List El,(AW j els).length=Cz j els
 | []=>rfl
 | x::r=>by
  have ih:=QC j r;unfold AW Cz at *;by_cases h:x.j=j
  .rw[Yd,Ze,zw h];subst h;rw[bY];simp only[if_true,Xw,ih]
  .rw[Yd,Ze,zx h,bZ h];simp only[ih];rfl
theorem Tu (j:Nat) (a b:List El):Cz j (a++b)=Cz j a+Cz j b:=by
 unfold Cz;rw[List.filter_append,Xh]
structure Md where
 name:ByteArray
 els:List El
def mdC (name:ByteArray) (l:Nat->T):List T:=[sv name,l 0,l 1,l 2,l 3,l 4,l 5,l 6,l 7,l 8]
def Md.cs (m:Md):List T:=mdC m.name λj=>Aq (eRw j) (AW j m.els)
def eMd:Enc (RwC 10):=⟨10,Subtype.val,Subtype.property,by omega,λ_ _ h=>Subtype.ext h⟩
def Md.rw (m:Md):RwC 10:=⟨m.cs,rfl⟩
def Cb (l:List Md):T:=Aq eMd (l.map Md.rw)
variable {q : Gl}
abbrev pc (t:T) (i:Nat):List T:=[t,iv (i:Int)]
abbrev pr (t:T) (i:Nat):Row:=.cells 198 [.t t,.t (iv (i:Int))]
abbrev C7 (e:Int):Bu:=[{ v:=.iface 24 (.int .i64 e),recovered:=false }]
section
variable (t : T) (i j : Nat) (x y : Row)
theorem pl0 (R:Ab):Aj false 1 ((0,pr t i)::R) (.ptr 0 0)=some (.t t):=rfl
theorem pl1 (R:Ab):Aj false 1 ((0,pr t i)::R) (.ptr 0 1)=some (.t (iv (i:Int))):=rfl
theorem pw1 (R:Ab):AM 1 ((0,pr t i)::R) (.ptr 0 1) (.t (iv (j:Int)))=some ((0,pr t j)::R):=rfl
theorem ql0 (R:Ab):Aj false 1 ((1,x)::(0,pr t i)::R) (.ptr 0 0)=some (.t t):=rfl
theorem ql1 (R:Ab):Aj false 1 ((1,x)::(0,pr t i)::R) (.ptr 0 1)=some (.t (iv (i:Int))):=rfl
theorem qw1 (R:Ab):AM 1 ((1,x)::(0,pr t i)::R) (.ptr 0 1) (.t (iv (j:Int)))=some ((1,x)::(0,pr t j)::R):=rfl
end
theorem DY (H:Ab) (a:T) (r:List T):Aj false 1 H (.t (.pt (a::r)))=some (.t a):=rfl
theorem lp3 (H:Ab) (a b c:T) (r:List T):Aj true 3 H (.t (.pt (a::b::c::r)))=some (.t (.ag [a,b,c])):=rfl
def Ge (t:T):Except Int (T×Nat)->Out
 | .ok (r,i)=>.ret (.t r) [(0,pr t i)] 1
 | .error e=>.pan (C7 e)
def PM (P:Program) (G:A2) (t:T) (f:FuncId) (i:Nat) (ts:List T) (o:Except Int (T×Nat)):Prop:=
 Hf P G f (.ptr 0 0::ts.map .t) [(0,pr t i)] 1 (Ge t o)
theorem PM.ret {P:Program} {G:A2} {t:T} {f:FuncId} {i:Nat} {ts:List T} {r:T} {i':Nat} {H':Ab} {nx':Nat} (h:AH P G f (.ptr 0 0::ts.map .t) [(0,pr t i)] 1 (.t r) H' nx') (hl:Aa H' 0=some (pr t i')) :
 PM P G t f i ts (.ok (r,i')):=AH.keep1 (cs:=pc t i') h hl
variable {t : T} {l : List Tok} {i : Nat}
theorem IX (ht:IsS Aw t l) {x:Tok} (hx:l[i]?=some x):∃r,Bd 3 (.t t) (.t (.v (.int .i64 (i:Int))))=some (.t (.pt (iv x.k::sv (bs x.t)::iv (x.l:Int)::r))):=⟨_,ht.iaddr hx .i64⟩
theorem yD (ht:IsS Aw t l) {x:Tok} (hx:l[i]?=some x):PM Xa (G q) t 174 i [] (.ok (.ag (Aw.enc x),i)):=by
 obtain⟨r,hr⟩:=IX ht hx;have hlen:AO (.t t)=some (.t (iv (l.length:Int))):=ht.len
 have hi:¬((l.length:Int)<=(i:Int)):=by have:=(Xe.1 hx).1;omega
 have hi2:¬l.length<=i:=by omega
 refine PM.ret (H':=[(1,.cells 42 [.t (iv x.k),.t (sv (bs x.t)),.t (iv (x.l:Int))]),(0,pr t i)]) (nx':=2) ?_ rfl;refine YN.callP rfl ?_;have ctx:Ctx Xa (G q) (orh [] []):=As.nil.ctxH .nil mixed;refine Ap ctx ?_
 (conv in SJ=>cbv);simp -implicitDefEqProofs [ql0,ql1,DY,lp3,hlen,hr,hi,hi2]
 exact⟨.inr rfl,_,_,Sub.refl _,rfl,rfl,rfl,rfl⟩
abbrev kt (x:Tok):KT:=(x.k,x.t)
theorem Tv {x:Tok} (hx:l[i]?=some x) (s:List UInt8):Be (l.map kt) i s=(decide (x.k=5)&&decide (x.t=s)):=by
 unfold Be;rw[Xj,hx];rfl
theorem Tw (hi:l.length<=i) (s:List UInt8):Be (l.map kt) i s=false:=by
 unfold Be;rw[List.getElem?_eq_none (by simpa using hi)]
theorem yE (ht:IsS Aw t l) (s:ByteArray):PM Xa (G q) t 196 i [sv s] (.ok (bv (Be (l.map kt) i s.data.toList),i)):=by
 refine PM.ret (H':=[(0,pr t i)]) (nx':=1) ?_ rfl;refine sN.callP rfl ?_;have ctx:Ctx Xa (G q) (orh [] []):=As.nil.ctxH .nil mixed;have hlen:AO (.t t)=some (.t (iv (l.length:Int))):=ht.len;by_cases hi:l.length<=i
 .rw[Tw hi]
  have hi1:¬((i:Int)<(l.length:Int)):=by omega
  have hi2:¬i<l.length:=by omega
  refine Ap ctx ?_
  (conv in Qp=>cbv);simp -implicitDefEqProofs [pl0,pl1,DY,hlen,hi1,hi2]
  exact⟨.inr rfl,_,_,Sub.refl _,rfl,rfl,rfl,rfl⟩
 .obtain⟨x,hx⟩:∃x,l[i]?=some x:=⟨_,Xf (by omega)⟩
  rw[Tv hx];obtain⟨r,hr⟩:=IX ht hx
  have hi1:((i:Int)<(l.length:Int)):=by omega
  have hi2:i<l.length:=by omega
  have hts:(x.t==s.toList)=decide (x.t=s.data.toList):=by rw[HI];exact Bool.eq_iff_iff.2 (by simp)
  by_cases h5:x.k=5
  .have hb:(x.k==5)=true:=by rw[h5];rfl
   have hd:decide (x.k=5)=true:=by rw[h5];rfl
   refine Ap ctx ?_
   (conv in Qp=>cbv);simp -implicitDefEqProofs [pl0,pl1,DY,hlen,hi1,hi2,hr,hb,hd,hts]
   exact⟨.inr rfl,_,_,Sub.refl _,rfl,rfl,rfl,rfl⟩
  .have hb:(x.k==5)=false:=by simpa using h5
   have hd:decide (x.k=5)=false:=by simpa using h5
   refine Ap ctx ?_
   (conv in Qp=>cbv);simp -implicitDefEqProofs [pl0,pl1,DY,hlen,hi1,hi2,hr,hb,hd]
   exact⟨.inr rfl,_,_,Sub.refl _,rfl,rfl,rfl,rfl⟩
def c7 (t:T):Except Int (T×Nat)->Except Bu (T×List T)
 | .ok (r,i)=>.ok (r,pc t i)
 | .error e=>.error (C7 e)
abbrev PG:=Nat->List T->Option (Except Int (T×Nat))
noncomputable def pSp (t:T) (g:PG):IV:=open Classical in λcs ts=>match cs with
 | [t',.v (.int .i64 i)]=>if t'=t/\0<=i then(g i.toNat ts).map (c7 t)else none
 | _=>none
theorem Tx (g:PG) (ts:List T):pSp t g (pc t i) ts=(g i ts).map (c7 t):=by
 simp[pSp]
theorem BP {P:Program} {G:A2} {f:FuncId} {g:PG} (h:∀i ts o,g i ts=some o->PM P G t f i ts o):O5 P G f 198 (pSp t g):=λcs ts o ho=>by
 unfold pSp at ho;split at ho
 .rename_i t' i;split at ho
  .rename_i hc;obtain⟨rfl,h0⟩:=hc;obtain⟨o',ho',rfl⟩:=Xm.1 ho;have:=h _ _ _ ho';obtain⟨n,rfl⟩:=Int.eq_ofNat_of_zero_le h0
   cases o' with
   | ok x=>exact this
   | error e=>exact this
  .cases ho
 .cases ho
noncomputable abbrev hP (t:T) (g:PG):=JI 198 (O4 (pSp t g))
noncomputable abbrev eP (t:T) (g:PG):=Lq 198 (pSp t g)
theorem Df {g:PG} {b nx:Nat} {H:Ab} {ts:List T} {r:T} {i':Nat} (hl:Aa H b=some (pr t i)) (hb:b<nx) (ho:g i ts=some (.ok (r,i'))) :
 hP t g (.ptr b 0::ts.map .t) H nx=some (.t r,upd H b (pr t i'),nx):=xY (cs:=pc t i) (cs':=pc t i') hl hb (by rw[Tx,ho];rfl)
theorem Dj {g:PG} {b nx:Nat} {H:Ab} {ts:List T} {x:T×Nat} (hl:Aa H b=some (pr t i)) (ho:g i ts=some (.ok x)) :
 eP t g (.ptr b 0::ts.map .t) H nx=none:=xZ (cs:=pc t i) (x:=(x.1,pc t x.2)) hl (by rw[Tx,ho];rfl)
theorem DP {g:PG} {b nx:Nat} {H:Ab} {ts:List T} {e:Int} (hl:Aa H b=some (pr t i)) (hb:b<nx) (ho:g i ts=some (.error e)) :
 eP t g (.ptr b 0::ts.map .t) H nx=some (C7 e):=y7 (cs:=pc t i) hl hb (by rw[Tx,ho];rfl)
theorem yF (ht:IsS Aw t l) (hi:l.length<=i):PM Xa (G q) t 174 i [] (.error 9):=by
 have hlen:AO (.t t)=some (.t (iv (l.length:Int))):=ht.len
 have hi1:((l.length:Int)<=(i:Int)):=by omega
 refine YN.callO rfl ?_;have ctx:Ctx Xa (G q) (orh [] []):=As.nil.ctxH .nil mixed;refine B9 ctx (Fh.ok .nil) rfl ?_
 (conv in SJ=>cbv);simp -implicitDefEqProofs [ql0,ql1,DY,lp3,hlen,hi,hi1,Ge]
noncomputable def Bw (l:List Tok):PG:=λi ts=>match ts with
 | []=>some (match l[i]? with
  | none=>.error 9
  | some x=>.ok (.ag (Aw.enc x),i))
 | _=>none
theorem JU (ht:IsS Aw t l):∀i ts o,Bw l i ts=some o->PM Xa (G q) t 174 i ts o:=λi ts o h=>by
 unfold Bw at h;split at h
 .injection h with h;subst h
  cases hx:l[i]? with
  | none=>exact yF ht (by simpa using hx)
  | some x=>exact yD ht hx
 .cases h
noncomputable def gIs (l:List Tok):PG:=λi ts=>match ts with
 | [.v (.string s)]=>some (.ok (bv (Be (l.map kt) i s.data.toList),i))
 | _=>none
theorem QD (ht:IsS Aw t l):∀i ts o,gIs l i ts=some o->PM Xa (G q) t 196 i ts o:=λi ts o h=>by
 unfold gIs at h;split at h
 .injection h with h;subst h;exact yE ht _
 .cases h
section
variable (l : List KT)
def Ch {α:Type} (step:Nat->Res α) (sep:List UInt8) (mx:Nat):Nat->Nat->List α->Res (List α)
 | 0,_,_=>.error 0
 | f+1,p,out=>match step p with
  | .error e=>.error e
  | .ok (s,p1)=>if Be l p1 sep then(if mx<=out.length+1 then .error 7 else Ch step sep mx f (p1+1) (out++[s]))else .ok (out++[s],p1)
def HO (p:Nat):Res (List ByteArray):=Ch l (λp=>AJ l p 1) [44] 256 (l.length+1) p []
def ftS (p:Nat):Res (ByteArray×ByteArray):=match AJ l p 2 with
 | .error e=>.error e
 | .ok (s,p1)=>match AJ l p1 1 with
  | .error e=>.error e
  | .ok (v,p2)=>.ok ((s,v),p2)
def HP (p:Nat):Res (List (ByteArray×ByteArray)):=Ch l (ftS l) [44] 256 (l.length+1) p []
def Gx (p:Nat):Res (List ByteArray):=Ch l (λp=>AJ l p 2) [46] 64 (l.length+1) p []
def JV (p:Nat):Res (List Ds):=Ch l (AA l 64) [47] 256 (l.length+1) p []
def C8 {α:Type} (s:List UInt8) (f:Nat->Res (List α)) (p:Nat):Res (List α):=if Be l p s then f (p+1)else .ok ([],p)
def Fi (name:ByteArray) (p:Nat):Res TyD:=match C8 l [60] (HO l) p with
 | .error e=>.error e
 | .ok (su,p1)=>match C8 l [58] (HP l) p1 with
  | .error e=>.error e
  | .ok (fe,p2)=>.ok (⟨name,su,fe⟩,p2)
def Db (name:ByteArray) (p:Nat):Res Dfn:=match B6 l p [61]with
 | .error e=>.error e
 | .ok p1=>match AA l 64 p1 with
  | .error e=>.error e
  | .ok (d,p2)=>match C8 l [47] (JV l) p2 with
   | .error e=>.error e
   | .ok (df,p3)=>.ok (⟨name,d,df⟩,p3)
def DB (p:Nat):Res (ByteArray×ByteArray):=match AJ l p 3 with
 | .error e=>.error e
 | .ok (s,p1)=>match AJ l p1 3 with
  | .error e=>.error e
  | .ok (v,p2)=>.ok ((s,v),p2)
def Hh (p:Nat):Res (List (ByteArray×ByteArray)):=Ch l (DB l) [44] 1000000000 (l.length+1) p []
def Er (k:Int) (p:Nat):Res Afx:=match Hh l p with
 | .error e=>.error e
 | .ok (c,p1)=>.ok (⟨k,c⟩,p1)
def C9 (p:Nat):Res Afx:=match AJ l p 1 with
 | .error e=>.error e
 | .ok (s,p1)=>
  if s=⟨#[110,111,110,101]⟩then .ok (⟨0,[]⟩,p1)
  else if s=⟨#[115,117,102,102,105,120]⟩then Er l 1 p1
  else if s=⟨#[112,114,101,102,105,120]⟩then Er l 2 p1
  else .error 8
end
def FA (s:ByteArray):Except Int (List ByteArray):=match Fu s.data.toList with
 | none=>.error 1
 | some w=>if w=[]then .error 1 else if w.all (λx=>Cx (bs x))then .ok (w.map bs)else .error 1
section
variable (l : List KT)
def DZ (name:ByteArray) (p:Nat):Res El:=match AJ l p 3 with
 | .error e=>.error e
 | .ok (s,p1)=>match FA s with
  | .error e=>.error e
  | .ok w=>match Db l name p1 with
   | .error e=>.error e
   | .ok (d,p2)=>.ok (.ent w d,p2)
def EJ (name:ByteArray) (p:Nat):Res El:=match C9 l p with
 | .error e=>.error e
 | .ok (a,p1)=>match Db l name p1 with
  | .error e=>.error e
  | .ok (d,p2)=>.ok (.lex a d,p2)
def elD (f:Dfn->El) (r:Res Dfn):Res El:=match r with
 | .error e=>.error e
 | .ok (d,p)=>.ok (f d,p)
def Dr (k:Nat) (name:ByteArray) (p:Nat):Res El:=
 if k=2 then .ok (.imp name,p)
 else if k=3 then(match Fi l name p with
  | .error e=>.error e
  | .ok (d,p1)=>.ok (.typ d,p1))
 else if k=5 then DZ l name p
 else if k=6 then EJ l name p
 else if k=4 then elD .tmp (Db l name p)
 else if k=7 then elD .rul (Db l name p)
 else elD .roo (Db l name p)
def elS (k:Nat) (p:Nat):Res El:=
 if k=9 then(match Gx l p with
  | .error e=>.error e
  | .ok (x,p1)=>.ok (.chk x,p1))
 else if k=10 then(match AJ l p 2 with
  | .error e=>.error e
  | .ok (x,p1)=>.ok (.drp x,p1))
 else match AJ l p 1 with
  | .error e=>.error e
  | .ok (name,p1)=>Dr l k name p1
def Fj (s:List UInt8):Nat:=
 if s=[109,111,100,117,108,101]then 1
 else if s=[105,109,112,111,114,116]then 2
 else if s=[116,121,112,101]then 3
 else if s=[116,101,109,112,108,97,116,101]then 4
 else if s=[101,110,116,114,121]then 5
 else if s=[108,101,120,114,117,108,101]then 6
 else if s=[114,117,108,101]then 7
 else if s=[114,111,111,116]then 8
 else if s=[99,104,101,99,107]then 9
 else if s=[100,114,111,112]then 10
 else 0
def D1 (t:KT):Nat:=if t.1=1 then Fj t.2 else 0
inductive Fx where
 | md (name:ByteArray)
 | el (x:El)
def Bs (k:Nat) (p:Nat):Res Fx:=
 if k=1 then(match AJ l p 1 with
  | .error e=>.error e
  | .ok (name,p1)=>.ok (.md name,p1))
 else match elS l k p with
  | .error e=>.error e
  | .ok (x,p1)=>.ok (.el x,p1)
structure Sta where
 fin:List Md
 cur:Option Md
def Sta.all (s:Sta):List Md:=s.fin++s.cur.toList
def Sta.add (s:Sta):Fx->Sta
 | .md n=>⟨s.all,some ⟨n,[]⟩⟩
 | .el x=>⟨s.fin,s.cur.map λm=>⟨m.name,m.els++[x]⟩⟩
def CQ (s:Sta) (k:Nat):Int:=
 if k=0 then 8 else if k=1 then(if 256<=s.all.length then 7 else 0)
 else match s.cur with
  | none=>8
  | some m=>if 256<=Cz (k-2) m.els then 7 else 0
def MN (s:Sta) (t:KT) (p:Nat):Res Fx:=
 if CQ s (D1 t)≠0 then .error (CQ s (D1 t))else match Bs l (D1 t) (p+1)with
 | .error e=>.error e
 | .ok (a,p1)=>match B6 l p1 [59]with
  | .error e=>.error e
  | .ok p2=>.ok (a,p2)
def CR:Nat->Nat->Sta->Except (Nat×Int) Sta
 | 0,_,_=>.error (0,0)
 | f+1,p,s=>match l[p]? with
  | none=>.ok s
  | some t=>match MN l s t p with
   | .error e=>.error (p,e)
   | .ok (a,p1)=>CR f p1 (s.add a)
end
def HQ (r:Except (Nat×Int) (List Md)):T:=match r with
 | .error x=>.tu [Ah,iv (x.1:Int),iv x.2]
 | .ok l=>.tu [Cb l,iv 0,iv 0]
def Cd (s:List UInt8):Except (Nat×Int) (List Md):=
 if 65536<s.length then .error (0,7)else match CZ s 1 with
 | .error x=>.error x
 | .ok ts=>match CR (ts.map kt) (ts.length+1) 0 ⟨[],none⟩with
  | .error x=>.error ((ts[x.1]?.map Tok.l).getD 0,x.2)
  | .ok s=>.ok s.all
section
variable {l : List KT} {rec : Nat -> Res Ds}
def Fwd (l:List KT) (rec:Nat->Res Ds):Prop:=∀p d p',rec p = .ok (d,p')->p<p'/\p'<=l.length
theorem Dc {p p':Nat} {k:Int} {s:ByteArray} (h:AJ l p k = .ok (s,p')):p'=p+1/\p<l.length:=by
 unfold AJ at h;split at h
 .cases h
 .rename_i t ht;have:=(Xe.1 ht).1;split at h
  .injection h with h;injection h with _ h;exact⟨h.symm,this⟩
  .cases h
theorem HR {p p':Nat} {s:List UInt8} (h:B6 l p s = .ok p'):p'=p+1/\p<l.length:=by
 unfold B6 at h;split at h
 .cases h
 .split at h
  .injection h with h;exact⟨h.symm,by omega⟩
  .cases h
theorem DQ {p:Nat} {s:List UInt8} (h:Be l p s=true):p<l.length:=by
 unfold Be at h;split at h
 .rename_i t ht;exact(Xe.1 ht).1
 .cases h
theorem O9:∀(f p:Nat) (path path':List ByteArray) (p':Nat),E2 l f p path = .ok (path',p')->path.length<=64->p<=p'/\(p<=l.length->p'<=l.length)/\path.length<=path'.length/\path'.length<=64
 | 0,p,path,path',p',h,_=>by cases h
 | f+1,p,path,path',p',h,hl=>by
  rw[E2]at h;split at h
  .split at h
   .cases h
   .split at h
    .cases h
    .rename_i s p1 h1;obtain⟨e1,h2⟩:=Dc h1;have ih:=O9 f _ _ _ _ h (by simp;omega);simp only[Xh,X7]at ih;omega
  .injection h with h;injection h with e1 e2;subst e1;subst e2;exact⟨Xb _,λh=>h,Xb _,hl⟩
theorem QE (hr:Fwd l rec) {p p':Nat} {d:Ds} (h:Ff l rec p = .ok (d,p')):p<p'/\p'<=l.length:=by
 unfold Ff at h;split at h
 .cases h
 .rename_i s p1 h1;obtain⟨e1,h2⟩:=Dc h1;split at h
  .cases h
  .rename_i path p2 h3;have h4:=O9 _ _ _ _ _ h3 (by simp);split at h
   .cases h
   .rename_i d' p3 h5;have h6:=hr _ _ _ h5;injection h with h;injection h with _ e;omega
theorem OA (hr:Fwd l rec):∀(f p:Nat) (parts parts':List Ds) (p':Nat),brS l rec f p parts = .ok (parts',p')->p<p'/\p'<=l.length/\parts.length<parts'.length/\(parts.length<=255->parts'.length<=256)
 | 0,p,parts,parts',p',h=>by cases h
 | f+1,p,parts,parts',p',h=>by
  rw[brS]at h;split at h
  .cases h
  .rename_i d p1 h1;have h2:=QE hr h1;split at h
   .split at h
    .cases h
    .have ih:=OA hr f _ _ _ _ h;simp only[Xh,X7]at ih;omega
   .split at h
    .cases h
    .rename_i p2 h3;have h4:=HR h3;injection h with h;injection h with e1 e2;subst e1;subst e2;simp only[Xh,X7];omega
theorem Ls (hr:Fwd l rec):∀(f p:Nat) (kids kids':List Ds) (p':Nat),itS l rec f p kids = .ok (kids',p')->kids.length<=256->p<=p'/\(p<=l.length->p'<=l.length)/\kids.length<=kids'.length/\kids'.length<=256
 | 0,p,kids,kids',p',h,_=>by cases h
 | f+1,p,kids,kids',p',h,hl=>by
  rw[itS]at h;split at h
  .split at h
   .cases h
   .split at h
    .cases h
    .rename_i d p1 h1;have h2:=hr _ _ _ h1;have ih:=Ls hr f _ _ _ _ h (by simp;omega);simp only[Xh,X7]at ih;omega
  .injection h with h;injection h with e1 e2;subst e1;subst e2;exact⟨Xb _,λh=>h,Xb _,hl⟩
theorem IY {s:List UInt8} {op:Int} {kids:List Ds} {p p':Nat} {d:Ds} (h:Da l s op kids p = .ok (d,p')):p'=p+1/\p<l.length:=by
 unfold Da at h;split at h
 .cases h
 .rename_i p1 h1;injection h with h;injection h with _ e;have:=HR h1;omega
theorem Tz (hr:Fwd l rec) {p p':Nat} {d:Ds} (h:Dq l rec p = .ok (d,p')):p<p'/\p'<=l.length:=by
 unfold Dq at h;split at h
 .cases h
 .split at h
  .have:=IY h;omega
  .split at h
   .cases h
   .rename_i d1 p1 h1;have h2:=hr _ _ _ h1;split at h
    .cases h
    .rename_i kids p2 h3;have h4:=Ls hr _ _ _ _ _ h3 (by simp);split at h
     .split at h
      .cases h
      .split at h
       .cases h
       .rename_i d3 p3 h5;have h6:=hr _ _ _ h5;have:=IY h;omega
     .have:=IY h;omega
theorem T9 (hr:Fwd l rec) {p p':Nat} {d:Ds} (h:DA l rec p = .ok (d,p')):p<p'/\p'<=l.length:=by
 unfold DA at h;split at h
 .cases h
 .split at h
  .have:=IY h;omega
  .split at h
   .cases h
   .rename_i d1 p1 h1;have h2:=hr _ _ _ h1;split at h
    .cases h
    .rename_i kids p2 h3;have h4:=Ls hr _ _ _ _ _ h3 (by simp);have:=IY h;omega
theorem QF {parts parts':List Ds} {p p':Nat} {r:Res Ds} (hr:∀d p',r = .ok (d,p')->p<p'/\p'<=l.length) (h:DX parts r = .ok (parts',p')):p<p'/\p'<=l.length/\parts'.length=parts.length+1:=by
 unfold DX at h;split at h
 .cases h
 .rename_i d p1;injection h with h;injection h with e1 e2;subst e1;subst e2;have:=hr _ _ rfl;exact⟨this.1,this.2,by simp⟩
theorem c8 {op k:Int} {p p':Nat} {d:Ds} (h:Fv op (AJ l p k) = .ok (d,p')):p'=p+1/\p<l.length:=by
 unfold Fv at h;split at h
 .cases h
 .rename_i s p1 h1;injection h with h;injection h with _ e;have:=Dc h1;omega
theorem JW (hr:Fwd l rec) {p p':Nat} {parts parts':List Ds} (h:Di l rec p parts = .ok (parts',p')):p<p'/\p'<=l.length/\parts.length<parts'.length/\(parts.length<=255->parts'.length<=256):=by
 unfold Di at h;split at h
 .cases h
 .rename_i t ht;have hp:=(Xe.1 ht).1;split at h
  .injection h with h;injection h with e1 e2;subst e1;subst e2;simp only[Xh,X7];omega
  .split at h
   .cases h
   .split at h
    .have:=QF (l:=l) (p:=p+1) (λd p' h=>by have:=c8 h;omega) h;omega
    .split at h
     .have:=QF (l:=l) (p:=p+1) (λd p' h=>by have:=c8 h;omega) h;omega
     .split at h
      .have:=OA hr _ _ _ _ _ h;omega
      .split at h
       .have:=QF (l:=l) (p:=p+1) (λd p' h=>Tz hr h) h;omega
       .split at h
        .have:=QF (l:=l) (p:=p+1) (λd p' h=>T9 hr h) h;omega
        .cases h
theorem OB (hr:Fwd l rec):∀(f p:Nat) (parts parts':List Ds) (p':Nat),Fg l rec f p parts = .ok (parts',p')->parts.length<=256->p<=p'/\(p<=l.length->p'<=l.length)/\parts.length<=parts'.length/\parts'.length<=256
 | 0,p,parts,parts',p',h,_=>by cases h
 | f+1,p,parts,parts',p',h,hl=>by
  rw[Fg]at h;split at h
  .split at h
   .cases h
   .split at h
    .cases h
    .rename_i parts1 p1 h1;have h2:=JW hr h1;have ih:=OB hr f _ _ _ _ h (by omega);omega
  .injection h with h;injection h with e1 e2;subst e1;subst e2;exact⟨Xb _,λh=>h,Xb _,hl⟩
theorem DR:∀n,Fwd l (AA l n)
 | 0=>λp d p' h=>by
  rw[AA]at h;split at h<;>cases h
 | n+1=>λp d p' h=>by
  rw[AA]at h;split at h
  .cases h
  .split at h
   .cases h
   .rename_i parts p1 h1;have h2:=JW (DR n) h1;split at h
    .cases h
    .rename_i parts' p2 h3;have h4:=OB (DR n) _ _ _ _ _ h3 (h2.2.2.2 (by simp));injection h with h;injection h with _ e;omega
end
def Fy (op:Int):Bool:=decide (op=1)||decide (op=2)||decide (op=3)
def Es (op:Int) (kids:List Ds):Bool:=
 if Fy op then decide (kids.length=0)
 else if op=5 then decide (kids.length=1)
 else if op=7 then decide (2<=kids.length)
 else if op=4 then decide (2<=kids.length) && !(kids.any λk=>decide (k.op=4))
 else true
def HS (op:Int) (name:ByteArray) (path:List ByteArray) (kids:List Ds):Bool:=
 (if Fy op then AD false name else decide (name.size=0))&&(decide (op=5)==decide (0<path.length))&&path.all (AD true)&&Es op kids
def E4 (op:Int) (name:ByteArray) (path:List ByteArray) (kids:List Ds):Int:=
 if op<1\/8<op then 14 else if HS op name path kids then 0 else 1
mutual
def Bb:Ds->Nat->Int
 | .mk op name path kids,lv=>if 64<lv\/64<path.length\/256<kids.length then 7 else if E4 op name path kids≠0 then E4 op name path kids
  else DS kids (if op=4 then lv else lv+1)
def DS:List Ds->Nat->Int
 | [],_=>0
 | d::r,lv=>if Bb d lv≠0 then Bb d lv else DS r lv
end
inductive Small:Ds->Prop where
 | mk (op:Int) (name:ByteArray) (path:List ByteArray) (kids:List Ds):name.size<=60->path.length<=80->(∀s∈path,s.size<=60)->kids.length<=400->(∀k∈kids,Small k)->Small (.mk op name path kids)
mutual
def JX:Ds->Nat
 | .mk _ _ _ kids=>FN kids+1
def FN:List Ds->Nat
 | []=>0
 | d::r=>JX d+FN r
end
variable {q : Gl} {t : T} {l : List Tok} {i : Nat}
theorem xl0 (k v:Int) (s:List UInt8) (R:Ab):Aj false 1 ((1,tkr k s v)::R) (.ptr 1 0)=some (.t (iv k)):=rfl
theorem xl1 (k v:Int) (s:List UInt8) (R:Ab):Aj false 1 ((1,tkr k s v)::R) (.ptr 1 1)=some (.t (sv (bs s))):=rfl
def CD {α:Type} (f:α->T):Except Int (α×Nat)->Except Int (T×Nat)
 | .ok (x,i)=>.ok (f x,i)
 | .error e=>.error e
noncomputable def ctP (l:List Tok) (t:T):EF:=[(174,hP t (Bw l)),(196,hP t (gIs l))]
noncomputable def MO (l:List Tok) (t:T):Hg:=[(174,eP t (Bw l)),(196,eP t (gIs l))]
theorem IZ (ht:IsS Aw t l):Ctx Xa (G q) (orh [] (ctP l t)):=As.nil.ctxH (.cons (BP (JU ht)).hok (.cons (BP (QD ht)).hok .nil)) mixed
theorem OC (ht:IsS Aw t l):POK Xa (G q) (orE (MO l t)):=Fh.ok (.cons (BP (JU ht)).eok (.cons (BP (QD ht)).eok .nil))
theorem Gy:(l.map kt)[i]?=(l[i]?).map kt:=Xj ..
theorem yG (ht:IsS Aw t l) (k:Int) (hi:i<4611686018427387904):PM Xa (G q) t 192 i [iv k] (CD sv (AJ (l.map kt) i k)):=by
 cases hx:l[i]? with
 | none=>
  have e1:AJ (l.map kt) i k = .error 9:=by unfold AJ;rw[Gy,hx];rfl
  rw[e1];refine SK.callO rfl ?_;refine B9 (IZ ht) (OC ht) rfl ?_;have h1:∀R:Ab,eP t (Bw l) [.ptr 0 0] ((0,pr t i)::R) 1=some (C7 9):=λR=>DP (ts:=[]) rfl (by omega) (by simp[Bw,hx])
  (conv in Qr=>cbv);simp -implicitDefEqProofs [MO,ctP,h1,CD,Ge]
 | some x=>
  have h1:hP t (Bw l) [.ptr 0 0] [(0,pr t i)] 1=some (.t (.ag (Aw.enc x)),[(0,pr t i)],1):=Df (ts:=[]) rfl (by omega) (by simp[Bw,hx]);have h2:eP t (Bw l) [.ptr 0 0] [(0,pr t i)] 1=none:=Dj (ts:=[]) (x:=(.ag (Aw.enc x),i)) rfl (by simp[Bw,hx]);by_cases hk:x.k=k
  .have e1:AJ (l.map kt) i k = .ok (bs x.t,i+1):=by unfold AJ;rw[Gy,hx];simp[hk]
   rw[e1]
   have hkn:(x.k != k)=false:=by simpa using hk
   have e2:Xc.wrap ((i:Int)+1)=((i+1:Nat):Int):=AP (by omega) (by omega);refine PM.ret (H':=[(1,.cells 42 [.t (iv x.k),.t (sv (bs x.t)),.t (iv (x.l:Int))]),(0,pr t (i+1))]) (nx':=2) ?_ rfl;refine SK.callP rfl ?_;refine Ap (IZ ht) ?_
   (conv in Qr=>cbv);simp -implicitDefEqProofs [ctP,h1,hkn,e2,Aw,DW,xl0,xl1,ql1,qw1]
   exact⟨.inr rfl,_,_,Sub.refl _,rfl,rfl,rfl,rfl⟩
  .have e1:AJ (l.map kt) i k = .error 8:=by unfold AJ;rw[Gy,hx];simp[hk]
   have hkn:(x.k != k)=true:=by simpa using hk
   rw[e1];refine SK.callO rfl ?_;refine B9 (IZ ht) (OC ht) rfl ?_
   (conv in Qr=>cbv);simp -implicitDefEqProofs [MO,ctP,h1,h2,hkn,CD,Ge,Aw,DW,xl0,xl1]
theorem cA (H:Ab) (hl:Aa H 0=some (pr t i)) {nx:Nat} (hb:0<nx) (s:ByteArray):hP t (gIs l) [.ptr 0 0,.t (sv s)] H nx=some (.t (bv (Be (l.map kt) i s.data.toList)),upd H 0 (pr t i),nx):=
 Df (ts:=[sv s]) hl hb rfl
theorem cB (H:Ab) (hl:Aa H 0=some (pr t i)) {nx:Nat} (s:ByteArray):eP t (gIs l) [.ptr 0 0,.t (sv s)] H nx=none:=
 Dj (ts:=[sv s]) (x:=(bv (Be (l.map kt) i s.data.toList),i)) hl rfl
def skR:Except Int Nat->Except Int (T×Nat)
 | .ok p=>.ok (.tu [],p)
 | .error e=>.error e
theorem yH (ht:IsS Aw t l) (s:ByteArray) (hi:i<4611686018427387904):PM Xa (G q) t 206 i [sv s] (skR (B6 (l.map kt) i s.data.toList)):=by
 cases hx:l[i]? with
 | none=>
  have hge:l.length<=i:=by simpa using hx
  have e1:B6 (l.map kt) i s.data.toList = .error 9:=by unfold B6;rw[zy (by simpa using hge)]
  rw[e1];refine SL.callO rfl ?_;refine B9 (IZ ht) (OC ht) rfl ?_;have h1:eP t (Bw l) [.ptr 0 0] [(0,pr t i)] 1=some (C7 9):=DP (ts:=[]) rfl (by omega) (by simp[Bw,hx])
  (conv in Qs=>cbv);simp -implicitDefEqProofs [MO,ctP,h1,skR,Ge]
 | some x=>
  have hlt:¬(l.map kt).length<=i:=by have:=(Xe.1 hx).1;simpa using this
  have h1:hP t (Bw l) [.ptr 0 0] [(0,pr t i)] 1=some (.t (.ag (Aw.enc x)),[(0,pr t i)],1):=Df (ts:=[]) rfl (by omega) (by simp[Bw,hx]);have h2:eP t (Bw l) [.ptr 0 0] [(0,pr t i)] 1=none:=Dj (ts:=[]) (x:=(.ag (Aw.enc x),i)) rfl (by simp[Bw,hx]);have h3:=cA (l:=l) [(0,pr t i)] rfl (nx:=1) (by omega) s;have h4:=cB (l:=l) [(0,pr t i)] rfl (nx:=1) s
  cases hs:Be (l.map kt) i s.data.toList with
  | true=>
   have e1:B6 (l.map kt) i s.data.toList = .ok (i+1):=by unfold B6;rw[zz hlt,hs];rfl
   have e2:Xc.wrap ((i:Int)+1)=((i+1:Nat):Int):=AP (by omega) (by omega);rw[e1];rw[hs]at h3;refine PM.ret (H':=[(0,pr t (i+1))]) (nx':=1) ?_ rfl;refine SL.callP rfl ?_;refine Ap (IZ ht) ?_
   (conv in Qs=>cbv);simp -implicitDefEqProofs [ctP,h1,h3,e2,pl1,pw1]
   exact⟨.inl rfl,_,_,Sub.refl _,rfl,rfl,rfl,rfl⟩
  | false=>
   have e1:B6 (l.map kt) i s.data.toList = .error 8:=by unfold B6;rw[zz hlt,hs];rfl
   rw[e1];rw[hs]at h3;refine SL.callO rfl ?_;refine B9 (IZ ht) (OC ht) rfl ?_
   (conv in Qs=>cbv);simp -implicitDefEqProofs [MO,ctP,h1,h2,h3,h4,skR,Ge]
def Gf (b:Bool) (n most:Int) (i:Nat):Except Int (T×Nat):=if b then(if most<=n then .error 7 else .ok (bv true,i+1))else .ok (bv false,i)
theorem yI (ht:IsS Aw t l) (s:ByteArray) (n most:Int) (hi:i<4611686018427387904):PM Xa (G q) t 176 i [sv s,iv n,iv most] (Gf (Be (l.map kt) i s.data.toList) n most i):=by
 have h3:=cA (l:=l) [(0,pr t i)] rfl (nx:=1) (by omega) s;have h4:=cB (l:=l) [(0,pr t i)] rfl (nx:=1) s
 cases hs:Be (l.map kt) i s.data.toList with
 | false=>
  rw[hs]at h3;refine PM.ret (H':=[(0,pr t i)]) (nx':=1) ?_ rfl;refine SM.callP rfl ?_;refine Ap (IZ ht) ?_
  (conv in Qt=>cbv);simp -implicitDefEqProofs [ctP,h3]
  exact⟨.inr rfl,_,_,Sub.refl _,rfl,rfl,rfl,rfl⟩
 | true=>
  rw[hs]at h3;unfold Gf;rw[zy rfl];by_cases hm:most<=n
  .rw[zy hm];refine SM.callO rfl ?_;refine B9 (IZ ht) (OC ht) rfl ?_
   (conv in Qt=>cbv);simp -implicitDefEqProofs [MO,ctP,h3,h4,hm,Ge]
  .rw[zz hm];have e2:Xc.wrap ((i:Int)+1)=((i+1:Nat):Int):=AP (by omega) (by omega);refine PM.ret (H':=[(0,pr t (i+1))]) (nx':=1) ?_ rfl;refine SM.callP rfl ?_;refine Ap (IZ ht) ?_
   (conv in Qt=>cbv);simp -implicitDefEqProofs [ctP,h3,hm,e2,pl1,pw1]
   exact⟨.inr rfl,_,_,Sub.refl _,rfl,rfl,rfl,rfl⟩
noncomputable def HT (l:List Tok):PG:=λi ts=>match ts with
 | [.v (.int .i64 k)]=>if i<4611686018427387904 then some (CD sv (AJ (l.map kt) i k))else none
 | _=>none
theorem QG (ht:IsS Aw t l):∀i ts o,HT l i ts=some o->PM Xa (G q) t 192 i ts o:=λi ts o h=>by
 unfold HT at h;split at h
 .split at h
  .injection h with h;subst h;exact yG ht _ (by assumption)
  .cases h
 .cases h
noncomputable def FO (l:List Tok):PG:=λi ts=>match ts with
 | [.v (.string s)]=>if i<4611686018427387904 then some (skR (B6 (l.map kt) i s.data.toList))else none
 | _=>none
theorem QH (ht:IsS Aw t l):∀i ts o,FO l i ts=some o->PM Xa (G q) t 206 i ts o:=λi ts o h=>by
 unfold FO at h;split at h
 .split at h
  .injection h with h;subst h;exact yH ht _ (by assumption)
  .cases h
 .cases h
noncomputable def Cw (l:List Tok):PG:=λi ts=>match ts with
 | [.v (.string s),.v (.int .i64 n),.v (.int .i64 m)]=>if i<4611686018427387904 then some (Gf (Be (l.map kt) i s.data.toList) n m i)else none
 | _=>none
theorem JY (ht:IsS Aw t l):∀i ts o,Cw l i ts=some o->PM Xa (G q) t 176 i ts o:=λi ts o h=>by
 unfold Cw at h;split at h
 .split at h
  .injection h with h;subst h;exact yI ht _ _ _ (by assumption)
  .cases h
 .cases h
variable {q : Gl} {t : T} {l : List Tok} {i : Nat}
abbrev dT (d:Ds):T:=.ag (Ba d)
theorem bsD (d:Ds) (b:Nat):EE 57 4 [.int .i64 0,.string ⟨#[]⟩,.slice none 0 0,.slice none 0 0] 1 [(0,.t (dT d))] b=some (.row b 0 1 4,.cells 57 ((Ba d).map .t)):=by
 cases d;rw[dT,Ba];rfl
noncomputable def Dt (l:List Tok) (n:Nat):PG:=λi ts=>match ts with
 | [.v (.int .i64 v)]=>if v=65-(n:Int)/\i<=l.length then some (CD dT (AA (l.map kt) n i))else none
 | _=>none
theorem QI {n:Nat} (hi:i<=l.length):Dt l n i [iv (65-(n:Int))]=some (CD dT (AA (l.map kt) n i)):=zy ⟨rfl,hi⟩
abbrev EL (q:Gl) (t:T) (l:List Tok) (n:Nat):Prop:=∀i ts o,Dt l n i ts=some o->PM Xa (G q) t 156 i ts o
def DC (L:List KT) (n i:Nat):Res (List Ds):=match AA L n i with
 | .error e=>.error e
 | .ok (d,p)=>itS L (AA L n) (L.length+1) p [d]
noncomputable def ctI (l:List Tok) (t:T) (n:Nat):EF:=[(176,hP t (Cw l)),(156,hP t (Dt l n))]
noncomputable def ceI (l:List Tok) (t:T) (n:Nat):Hg:=[(176,eP t (Cw l)),(156,eP t (Dt l n))]
theorem Lu (ht:IsS Aw t l) {n:Nat} (hD:EL q t l n):Ctx Xa (G q) (orh [] (ctI l t n)):=As.nil.ctxH (.cons (BP (JY ht)).hok (.cons (BP hD).hok .nil)) mixed
theorem Lv (ht:IsS Aw t l) {n:Nat} (hD:EL q t l n):POK Xa (G q) (orE (ceI l t n)):=Fh.ok (.cons (BP (JY ht)).eok (.cons (BP hD).eok .nil))
structure It where
 f:Nat
 p:Nat
 kids:List Ds
def SIt (t:T) (v:Int) (a:It):Ad:=⟨[(5,rowP eD 1 a.kids),(1,.t (iv v)),(0,.ptr 0 0)],[(0,pr t a.p)]++A4 eD 57 1 a.kids,2,23⟩
structure yJ (L:List KT) (n:Nat) (R:Res (List Ds)) (a:It):Prop where
 le:a.p<=L.length
 fu:L.length-a.p<a.f
 kl:a.kids.length<=1000
 eq:itS L (AA L n) a.f a.p a.kids=R
def OD (t:T) (b:Bool):Res (List Ds)->Out
 | .error e=>.pan (C7 e)
 | .ok (kids,p)=>bif b then .ret (rowP eD 1 kids) ([(0,pr t p)]++A4 eD 57 1 kids) 2 else .ret (.t (Aq eD kids)) [(0,pr t p)] 1
theorem cC (rows:Bool) (ht:IsS Aw t l) (hlim:l.length<=1000000) {n:Nat} (hD:EL q t l n) (hF:Fwd (l.map kt) (AA (l.map kt) n)) (hn:n<=64) (hi:i<=l.length) :
  Hf Xa (G q) 207 [.ptr 0 0,.t (iv (64-(n:Int)))] [(0,pr t i)] 1 (OD t rows (DC (l.map kt) n i)):=by
 obtain⟨L,hL⟩:∃L,L=l.map kt:=⟨_,rfl⟩
 have hLl:L.length=l.length:=by rw[hL,Xl]
 rw[<-hL]at hF;rw[<-hL]
 have ev:Xc.wrap (64-(n:Int)+1)=65-(n:Int):=by
  rw[H9 (by omega) (by omega)];omega
 have gd:∀{p:Nat},p<=l.length->Dt l n p [iv (65-(n:Int))]=some (CD dT (AA L n p)):=λhp=>by rw[QI hp,hL]
 refine sR.callO rfl ?_;(conv in YP=>cbv);refine Cy (Lu ht hD) (Lv ht hD) rfl ?_;simp -implicitDefEqProofs;refine Cy (Lu ht hD) (Lv ht hD) rfl ?_
 cases hd:AA L n i with
 | error e=>
  have e1:DC L n i = .error e:=by unfold DC;rw[hd]
  rw[e1];have h1:eP t (Dt l n) [.ptr 0 0,.t (iv (65-(n:Int)))] [(0,pr t i)] 1=some (C7 e):=DP (ts:=[iv (65-(n:Int))]) rfl (by omega) (by rw[gd hi,hd];rfl);simp -implicitDefEqProofs [ctI,ceI,ev,h1,OD]
 | ok x=>
  obtain⟨d,p0⟩:=x;have hf0:=hF i d p0 hd;rw[hLl]at hf0
  obtain⟨R,hR⟩:∃R,R=itS L (AA L n) (L.length+1) p0 [d]:=⟨_,rfl⟩
  have e1:DC L n i=R:=by unfold DC;rw[hd];exact hR.symm
  rw[e1];have h1:hP t (Dt l n) [.ptr 0 0,.t (iv (65-(n:Int)))] [(0,pr t i)] 1=some (.t (dT d),[(0,pr t p0)],1):=Df (ts:=[iv (65-(n:Int))]) rfl (by omega) (by rw[gd hi,hd];rfl);have h2:eP t (Dt l n) [.ptr 0 0,.t (iv (65-(n:Int)))] [(0,pr t i)] 1=none:=Dj (ts:=[iv (65-(n:Int))]) (x:=(dT d,p0)) rfl (by rw[gd hi,hd];rfl);simp -implicitDefEqProofs [ctI,ceI,ev,h1,h2,bsD];refine BF (α:=It) (SIt t (64-(n:Int))) (λa=>R = .ok (a.kids,a.p)) (λ_=>rfl) ?_ ?_
  .refine BD ?_;refine D5 (SIt t (64-(n:Int))) (λa=>a.f) (yJ L n R) ⟨L.length+1,p0,[d]⟩ (λ_=>rfl) ⟨by show p0<=_;omega,by show L.length-p0<L.length+1;omega,by simp,hR.symm⟩ ?_ rfl ?_
   .exact FK (k:=1) (.inr (by simp[rowOf,Aa,eD])) (by omega) (by omega) (by simp -implicitDefEqProofs [BE,Bn,ren,Cm,B8,under]) (by simp -implicitDefEqProofs [rowP,ren,under,eD])
   .rintro⟨f,p,kids⟩ ⟨hp,hfu,hkl,heq⟩;simp only at hp hfu hkl heq;rw[hLl]at hp hfu
    obtain⟨f',rfl⟩:∃f',f=f'+1:=⟨f-1,by omega⟩
    rw[itS]at heq
    obtain⟨H0,hH0⟩:∃H0,H0=[(0,pr t p)]++A4 eD 57 1 kids:=⟨_,rfl⟩
    have hu0:∀p',upd H0 0 (pr t p')=[(0,pr t p')]++A4 eD 57 1 kids:=λp'=>by rw[hH0];simp[upd]
    have hl0:Aa H0 0=some (pr t p):=by rw[hH0];rfl
    have hlen:AO (rowP eD 1 kids)=some (.t (iv (kids.length:Int))):=HD eD 1 kids
    have gm:Cw l p [sv ⟨#[44]⟩,iv (kids.length:Int),iv 256]=some (Gf (Be L p [44]) (kids.length:Int) 256 p):=by rw[hL];exact zy (by omega)
    cases hs:Be L p [44]with
    | false=>
     rw[hs]at gm;rw[hs]at heq;simp only[Xk,if_false]at heq;have m1:=Df (t:=t) (g:=Cw l) (b:=0) (nx:=2) (H:=H0) hl0 (by omega) (gm.trans rfl:_=some (.ok (bv false,p)));have m2:=Dj (t:=t) (g:=Cw l) (b:=0) (nx:=2) (H:=H0) hl0 (gm.trans rfl:_=some (.ok (bv false,p)));rw[hu0]at m1;rw[hH0]at m1 m2;simp only[Xd,Xg,Xu,Xv]at m1 m2;refine B9 (Lu ht hD) (Lv ht hD) rfl ?_;simp -implicitDefEqProofs [SIt,ctI,ceI,hlen,m1,m2];refine Am.mk ⟨f',p,kids⟩ heq.symm ?_;exact FK (k:=1) ((Ay.head' eD 57 1 kids).cons (by omega)) (by omega) (by omega) (by simp -implicitDefEqProofs [BE,Bn,ren,Cm,B8,under]) (by simp -implicitDefEqProofs [Ek,Em,ren,under])
    | true=>
     rw[hs]at gm;rw[hs]at heq;simp only[if_true]at heq
     have hpl:p<l.length:=by have:=DQ hs;omega
     by_cases hbig:256<=kids.length
     .rw[zy hbig]at heq
      have gm':Cw l p [sv ⟨#[44]⟩,iv (kids.length:Int),iv 256]=some (.error 7):=by rw[gm,Gf,zy rfl,zy (by omega)]
      have m3:=DP (t:=t) (g:=Cw l) (b:=0) (nx:=2) (H:=H0) hl0 (by omega) gm';rw[hH0]at m3;simp only[Xd,Xg,Xu,Xv]at m3;refine B9 (Lu ht hD) (Lv ht hD) rfl ?_;rw[<-heq];simp -implicitDefEqProofs [SIt,ctI,ceI,hlen,m3,OD]
     .rw[zz hbig]at heq
      have gm':Cw l p [sv ⟨#[44]⟩,iv (kids.length:Int),iv 256]=some (.ok (bv true,p+1)):=by rw[gm,Gf,zy rfl,zz (by omega)]
      have m1:=Df (t:=t) (g:=Cw l) (b:=0) (nx:=2) (H:=H0) hl0 (by omega) gm';have m2:=Dj (t:=t) (g:=Cw l) (b:=0) (nx:=2) (H:=H0) hl0 gm';rw[hu0]at m1;rw[hH0]at m1 m2;simp only[Xd,Xg,Xu,Xv]at m1 m2;have hl1:Aa ((0,pr t (p+1))::A4 eD 57 1 kids) 0=some (pr t (p+1)):=rfl
      cases hd2:AA L n (p+1)with
      | error e=>
       rw[hd2]at heq;simp only at heq;have m3:=DP (t:=t) (g:=Dt l n) (b:=0) (nx:=2) hl1 (by omega) (by rw[gd (by omega),hd2];rfl);simp only[Xd,Xg]at m3;refine B9 (Lu ht hD) (Lv ht hD) rfl ?_;rw[<-heq];simp -implicitDefEqProofs [SIt,ctI,ceI,hlen,m1,m2,ev,m3,OD]
      | ok x=>
       obtain⟨d2,p2⟩:=x;rw[hd2]at heq;simp only at heq;have hf2:=hF _ _ _ hd2;rw[hLl]at hf2;have m3:=Df (t:=t) (g:=Dt l n) (b:=0) (nx:=2) (r:=dT d2) (i':=p2) hl1 (by omega) (by rw[gd (by omega),hd2];rfl);have m4:=Dj (t:=t) (g:=Dt l n) (b:=0) (nx:=2) (x:=(dT d2,p2)) hl1 (by rw[gd (by omega),hd2];rfl);simp only[Xd,Xg]at m3 m4
       have hu1:upd ((0,pr t (p+1))::A4 eD 57 1 kids) 0 (pr t p2)=(0,pr t p2)::A4 eD 57 1 kids:=by simp[upd]
       rw[hu1]at m3;have r0':Ay eD 57 ((2,.cells 57 ((Ba d2).map .t))::(0,pr t p2)::A4 eD 57 1 kids) 1 kids:=((Ay.head' eD 57 1 kids).cons (k:=0) (by omega)).cons (k:=2) (by omega);obtain⟨b2,H2,n2,ap2,r2,ne2,hle2,hold,hb2⟩:=M4 (e:=eD) (ty:=57) (by':=72) (nx:=3) (m:=[d2]) r0' (Lf (e:=eD) (b:=2) (ty:=57) d2 rfl) (by simp;omega) (by simp;omega);have ap2':Cc 57 4 72 ((2,.cells 57 ((Ba d2).map .t))::(0,pr t p2)::A4 eD 57 1 kids) 3 (rowP eD 1 kids) (.row 2 0 1 4)=some (rowP eD b2 (kids++[d2]),H2,n2):=ap2;have hl2:Aa H2 0=some (pr t p2):=(hold 0 (by omega) (by omega)).trans rfl;refine B9 (Lu ht hD) (Lv ht hD) rfl ?_;simp -implicitDefEqProofs [SIt,ctI,ceI,hlen,m1,m2,ev,m3,m4,bsD,ap2'];refine Am.mk ⟨f',p2,kids++[d2]⟩ ⟨⟨by show p2<=_;omega,by show L.length-p2<f';omega,by simp;omega,heq⟩,by show f'<f'+1;omega⟩ ?_;exact FK (k:=b2) r2 (by omega) (by omega) (by simp -implicitDefEqProofs [BE,Bn,ren,Cm,B8,under,hl2];omega) (by simp -implicitDefEqProofs [Ek,Em,ren,under])
  .rintro⟨f,p,kids⟩ hR2;simp only at hR2;rw[hR2];refine B9 (Lu ht hD) (Lv ht hD) rfl ?_;simp -implicitDefEqProofs [SIt,OD]
   cases rows with
   | true=>exact O6 (rs:=[rowP eD 1 kids]) (.inr rfl) (Sub.refl _) rfl rfl rfl rfl
   | false=>
   exact O6 (rs:=[.t (Aq eD kids)]) (.inr rfl) (yA (k:=4) (b:=1) (l:=kids) (cs:=pc t p) ((Ay.head' eD 57 1 kids).cons (by omega)) (by omega) rfl (by simp -implicitDefEqProofs) (Xb _)) (by simp -implicitDefEqProofs) rfl rfl rfl
theorem yK (ht:IsS Aw t l) (hlim:l.length<=1000000) {n:Nat} (hD:EL q t l n) (hF:Fwd (l.map kt) (AA (l.map kt) n)) (hn:n<=64) (hi:i<=l.length) :
  PM Xa (G q) t 207 i [iv (64-(n:Int))] (CD (Aq eD) (DC (l.map kt) n i)):=by
 have h:=cC (q:=q) false ht hlim hD hF hn hi;unfold PM
 cases hh:DC (l.map kt) n i with
 | error e=>rw[hh]at h;exact h
 | ok x=>rw[hh]at h;exact h
theorem yL (ht:IsS Aw t l) (hlim:l.length<=1000000) {n:Nat} (hD:EL q t l n) (hF:Fwd (l.map kt) (AA (l.map kt) n)) (hn:n<=64) (hi:i<=l.length) {kids:List Ds} {p:Nat} (hs:DC (l.map kt) n i = .ok (kids,p)) :
  AH Xa (G q) 207 [.ptr 0 0,.t (iv (64-(n:Int)))] [(0,pr t i)] 1 (rowP eD 1 kids) ([(0,pr t p)]++A4 eD 57 1 kids) 2:=by
 have h:=cC (q:=q) true ht hlim hD hF hn hi;rw[hs]at h;exact h
variable {q : Gl} {t : T} {l : List Tok} {i : Nat}
section
variable (a b c d x : T) (y z u v : PV) (X : Row) (R H : Ab)
theorem sd2:AM 4 ((2,.cells 57 [y,z,u,v])::R) (.ptr 2 0) (.t (.ag [a,b,c,d]))=some ((2,.cells 57 [.t a,.t b,.t c,.t d])::R):=rfl
theorem ld4:Aj true 4 ((2,.cells 57 [.t a,.t b,.t c,.t d])::R) (.ptr 2 0)=some (.t (.ag [a,b,c,d])):=rfl
theorem sd1:AM 4 ((2,X)::(1,.cells 57 [y,z,u,v])::R) (.ptr 1 0) (.t (.ag [a,b,c,d]))=some ((2,X)::(1,.cells 57 [.t a,.t b,.t c,.t d])::R):=rfl
theorem cD (kids:List Ds):AM 1 ((2,.cells 57 [.t a,.t b,.t c,.t d])::R) (.ptr 2 3) (.t (Aq eD kids))=some ((2,.cells 57 [.t a,.t b,.t c,.t (Aq eD kids)])::R):=by cases kids<;>rfl
theorem bd1 {Φ:A7} {nx:Nat} (k:Int):Ai Φ H nx (.build [(0,1),(1,1),(2,1),(3,1)] [.int .i64 0,.string ⟨#[]⟩,.slice none 0 0,.slice none 0 0] [0]) [.t (iv k)]=some (.t (.ag [iv k,sv ⟨#[]⟩,Ah,Ah]),H,nx):=rfl
end
theorem cE {L:List KT} {n i p:Nat} {kids:List Ds} (hF:Fwd L (AA L n)) (h:DC L n i = .ok (kids,p)):i<p/\p<=L.length/\kids.length<=256:=by
 unfold DC at h
 cases hd:AA L n i with
 | error e=>rw[hd]at h;cases h
 | ok x=>
  obtain⟨d,p0⟩:=x;rw[hd]at h;have h1:=hF i d p0 hd;have h2:=Ls hF _ _ _ _ _ h (by simp);omega
noncomputable def Gz (l:List Tok) (n:Nat):PG:=λi ts=>match ts with
 | [.v (.int .i64 v)]=>if v=64-(n:Int)/\i<=l.length then some (CD (Aq eD) (DC (l.map kt) n i))else none
 | _=>none
theorem cF {n:Nat} (hi:i<=l.length):Gz l n i [iv (64-(n:Int))]=some (CD (Aq eD) (DC (l.map kt) n i)):=zy ⟨rfl,hi⟩
theorem cG (ht:IsS Aw t l) (hlim:l.length<=1000000) {n:Nat} (hD:EL q t l n) (hF:Fwd (l.map kt) (AA (l.map kt) n)) (hn:n<=64) :
  ∀i ts o,Gz l n i ts=some o->PM Xa (G q) t 207 i ts o:=λi ts o h=>by
 unfold Gz at h;split at h
 .split at h
  .rename_i hc;obtain⟨rfl,hi⟩:=hc;injection h with h;subst h;exact yK ht hlim hD hF hn hi
  .cases h
 .cases h
noncomputable def ctL (l:List Tok) (t:T) (n:Nat):EF:=[(174,hP t (Bw l)),(196,hP t (gIs l)),(206,hP t (FO l)),(176,hP t (Cw l)),(207,hP t (Gz l n)),(156,hP t (Dt l n))]
noncomputable def ceL (l:List Tok) (t:T) (n:Nat):Hg:=[(174,eP t (Bw l)),(196,eP t (gIs l)),(206,eP t (FO l)),(176,eP t (Cw l)),(207,eP t (Gz l n)),(156,eP t (Dt l n))]
section
variable {n : Nat} (ht : IsS Aw t l) (hlim : l.length <= 1000000) (hD : EL q t l n) (hF : Fwd (l.map kt) (AA (l.map kt) n)) (hn : n <= 64)
include ht hlim hD hF hn
theorem cH:Ctx Xa (G q) (orh [] (ctL l t n)):=
 As.nil.ctxH (.cons (BP (JU ht)).hok (.cons (BP (QD ht)).hok (.cons (BP (QH ht)).hok (.cons (BP (JY ht)).hok (.cons (BP (cG ht hlim hD hF hn)).hok (.cons (BP hD).hok .nil)))))) mixed
theorem cI:POK Xa (G q) (orE (ceL l t n)):=
 Fh.ok (.cons (BP (JU ht)).eok (.cons (BP (QD ht)).eok (.cons (BP (QH ht)).eok (.cons (BP (JY ht)).eok (.cons (BP (cG ht hlim hD hF hn)).eok (.cons (BP hD).eok .nil))))))
theorem yM (hi:i<=l.length):PM Xa (G q) t 195 i [iv (64-(n:Int))] (CD dT (DA (l.map kt) (AA (l.map kt) n) i)):=by
 have C:=cH ht hlim hD hF hn;have E:=cI ht hlim hD hF hn
 obtain⟨L,hL⟩:∃L,L=l.map kt:=⟨_,rfl⟩
 have hLl:L.length=l.length:=by rw[hL,Xl]
 have hgi:∀p,p<=l.length->Gz l n p [iv (64-(n:Int))]=some (CD (Aq eD) (DC L n p)):=λp hp=>by rw[cF hp,hL]
 rw[<-hL]
 cases hx:l[i]? with
 | none=>
  have hge:l.length<=i:=by simpa using hx
  have e1:DA L (AA L n) i = .error 9:=by unfold DA;rw[zy (by omega)]
  rw[e1];have h1:∀R:Row,eP t (Bw l) [.ptr 0 0] [(1,R),(0,pr t i)] 2=some (C7 9):=λR=>DP (ts:=[]) rfl (by omega) (by simp[Bw,hx]);refine Oh.callO rfl ?_;refine B9 C E rfl ?_
  (conv in M6=>cbv);simp -implicitDefEqProofs [ctL,ceL,h1,CD,Ge]
 | some x=>
  have hlt:i<l.length:=(Xe.1 hx).1
  obtain⟨Z,hZ⟩:∃Z:Row,Z = .cells 57 [.t (iv 0),.t (sv ⟨#[]⟩),.t Ah,.t Ah]:=⟨_,rfl⟩
  have h1:hP t (Bw l) [.ptr 0 0] [(1,.cells 57 [.t (iv 0),.t (sv ⟨#[]⟩),.t Ah,.t Ah]),(0,pr t i)] 2=some (.t (.ag (Aw.enc x)),[(1,.cells 57 [.t (iv 0),.t (sv ⟨#[]⟩),.t Ah,.t Ah]),(0,pr t i)],2):=Df (ts:=[]) rfl (by omega) (by simp[Bw,hx]);have h2:eP t (Bw l) [.ptr 0 0] [(1,.cells 57 [.t (iv 0),.t (sv ⟨#[]⟩),.t Ah,.t Ah]),(0,pr t i)] 2=none:=Dj (ts:=[]) (x:=(.ag (Aw.enc x),i)) rfl (by simp[Bw,hx]);have hu:∀(X Y:Row) (p p':Nat),upd [(2,X),(1,Y),(0,pr t p)] 0 (pr t p')=[(2,X),(1,Y),(0,pr t p')]:=λ_ _ _ _=>rfl
  have h3:∀X Y:Row,hP t (gIs l) [.ptr 0 0,.t (sv ⟨#[33,62]⟩)] [(2,X),(1,Y),(0,pr t i)] 3=some (.t (bv (Be L i [33,62])),[(2,X),(1,Y),(0,pr t i)],3):=λX Y=>by
   rw[hL];exact Df (ts:=[sv ⟨#[33,62]⟩]) rfl (by omega) rfl
  have h4:∀X Y:Row,eP t (gIs l) [.ptr 0 0,.t (sv ⟨#[33,62]⟩)] [(2,X),(1,Y),(0,pr t i)] 3=none:=λX Y=>
   Dj (ts:=[sv ⟨#[33,62]⟩]) (x:=(bv (Be (l.map kt) i [33,62]),i)) rfl rfl
  have h5:∀(X Y:Row) p,p<=l.length->∀p',B6 L p [33,62] = .ok p'->hP t (FO l) [.ptr 0 0,.t (sv ⟨#[33,62]⟩)] [(2,X),(1,Y),(0,pr t p)] 3=some (.t (.tu []),[(2,X),(1,Y),(0,pr t p')],3):=λX Y p hp p' h=>by
   rw[hL]at h;exact Df (ts:=[sv ⟨#[33,62]⟩]) rfl (by omega) ((zy (by omega)).trans (by show some (skR (B6 (l.map kt) p [33,62]))=_;rw[h];rfl))
  have h6:∀(X Y:Row) p,p<=l.length->∀e,B6 L p [33,62] = .error e->eP t (FO l) [.ptr 0 0,.t (sv ⟨#[33,62]⟩)] [(2,X),(1,Y),(0,pr t p)] 3=some (C7 e):=λX Y p hp e h=>by
   rw[hL]at h;exact DP (ts:=[sv ⟨#[33,62]⟩]) rfl (by omega) ((zy (by omega)).trans (by show some (skR (B6 (l.map kt) p [33,62]))=_;rw[h];rfl))
  cases hs:Be L i [33,62]with
  | true=>
   have hsk:B6 L i [33,62] = .ok (i+1):=by unfold B6;rw[zz (by omega),zy hs]
   have e1:DA L (AA L n) i = .ok (.mk 8 ⟨#[]⟩ [] [],i+1):=by unfold DA;rw[zz (by omega),zy hs,Da,hsk]
   have h5':=λX Y=>h5 X Y i hi _ hsk;rw[e1];rw[hs]at h3;refine PM.ret (H':=[(2,.cells 57 [.t (iv 8),.t (sv ⟨#[]⟩),.t Ah,.t Ah]),(1,.cells 57 [.t (iv 8),.t (sv ⟨#[]⟩),.t Ah,.t Ah]),(0,pr t (i+1))]) (nx':=3) ?_ rfl;refine Oh.callP rfl ?_;refine Ap C ?_
   (conv in M6=>cbv);simp -implicitDefEqProofs [ctL,h1,-Bo,bd1,sd2,h3,h5',ld4,sd1]
   exact⟨.inr rfl,_,_,Sub.refl _,rfl,by rw[dT,II];rfl,rfl,rfl⟩
  | false=>
   have e0:DA L (AA L n) i=match DC L n i with
     | .error e=>.error e
     | .ok (kids,p2)=>Da L [33,62] 8 kids p2:=by
    unfold DA DC;rw[zz (by omega),hs,zz (by simp)];cases AA L n i<;>rfl
   rw[hs]at h3
   cases hit:DC L n i with
   | error e=>
    rw[hit]at e0;simp only at e0;rw[e0]
    have h7:∀X Y:Row,eP t (Gz l n) [.ptr 0 0,.t (iv (64-(n:Int)))] [(2,X),(1,Y),(0,pr t i)] 3=some (C7 e):=λX Y=>
     DP (ts:=[iv (64-(n:Int))]) rfl (by omega) (by rw[hgi i hi,hit];rfl)
    refine Oh.callO rfl ?_;refine B9 C E rfl ?_
    (conv in M6=>cbv);simp -implicitDefEqProofs [ctL,ceL,h1,h2,-Bo,bd1,sd2,h3,h4,h7,CD,Ge]
   | ok y=>
    obtain⟨kids,p2⟩:=y;rw[hit]at e0;simp only at e0;rw[e0]
    have hp2:p2<=l.length:=by
     rw[<-hLl];exact(cE (by rw[hL];exact hF) hit).2.1
    have h7:∀X Y:Row,hP t (Gz l n) [.ptr 0 0,.t (iv (64-(n:Int)))] [(2,X),(1,Y),(0,pr t i)] 3=some (.t (Aq eD kids),[(2,X),(1,Y),(0,pr t p2)],3):=λX Y=>
     Df (ts:=[iv (64-(n:Int))]) rfl (by omega) (by rw[hgi i hi,hit];rfl)
    have h8:∀X Y:Row,eP t (Gz l n) [.ptr 0 0,.t (iv (64-(n:Int)))] [(2,X),(1,Y),(0,pr t i)] 3=none:=λX Y=>
     Dj (ts:=[iv (64-(n:Int))]) (x:=(Aq eD kids,p2)) rfl (by rw[hgi i hi,hit];rfl)
    cases hsk:B6 L p2 [33,62]with
    | error e=>
     have e1:Da L [33,62] 8 kids p2 = .error e:=by rw[Da,hsk]
     rw[e1];have h6':=λX Y=>h6 X Y p2 hp2 _ hsk;refine Oh.callO rfl ?_;refine B9 C E rfl ?_
     (conv in M6=>cbv);simp -implicitDefEqProofs [ctL,ceL,h1,h2,-Bo,bd1,sd2,cD,h3,h4,h6',h7,h8,CD,Ge]
    | ok p3=>
     have e1:Da L [33,62] 8 kids p2 = .ok (.mk 8 ⟨#[]⟩ [] kids,p3):=by rw[Da,hsk]
     have h5':=λX Y=>h5 X Y p2 hp2 _ hsk;rw[e1];refine PM.ret (H':=[(2,.cells 57 [.t (iv 8),.t (sv ⟨#[]⟩),.t Ah,.t (Aq eD kids)]),(1,.cells 57 [.t (iv 8),.t (sv ⟨#[]⟩),.t Ah,.t (Aq eD kids)]),(0,pr t p3)]) (nx':=3) ?_ rfl;refine Oh.callP rfl ?_;refine Ap C ?_
     (conv in M6=>cbv);simp -implicitDefEqProofs [ctL,h1,-Bo,bd1,sd2,cD,h3,h7,h5',ld4,sd1]
     exact⟨.inr rfl,_,_,Sub.refl _,rfl,by rw[dT,II];rfl,rfl,rfl⟩
end
variable {q : Gl} {t : T} {l : List Tok} {i : Nat}
theorem yN (ht:IsS Aw t l) (hlim:l.length<=1000000) {n:Nat} (hD:EL q t l n) (hF:Fwd (l.map kt) (AA (l.map kt) n)) (hn:n<=64) (hi:i<=l.length) {kids:List Ds} {p:Nat} (hs:DC (l.map kt) n i = .ok (kids,p)) (hne:kids≠[]) (X Y:Row) :
  HOK Xa (G q) 207 (Fe [.ptr 0 0,.t (iv (64-(n:Int)))] [(2,X),(1,Y),(0,pr t i)] 3 (rowP eD 3 kids,[(3,rowOf eD 57 kids),(2,X),(1,Y),(0,pr t p)],4)):=by
 refine E0 ?_ ?_
 .have h:=yL (q:=q) ht hlim hD hF hn hi hs
  have h2:=h.lift (λb=>b) 3 [(2,X),(1,Y),(0,pr t i)] [(3,rowOf eD 57 kids),(2,X),(1,Y),(0,pr t p)] (λb hb=>by omega) (λb c _ _ e=>e) (by omega)
   (λq hq=>by
    simp only[Xp]at hq;subst hq
    exact⟨by simp[Aa,BE,Bn,ren],by show 0<1;omega,by simp[Cm,B8,under]⟩)
   (by simp[B8,under]) (Em _ _ _ _ (by omega))
   (λq hq=>by
    rcases Xz.1 hq with hq | hq
    .simp only[Xp]at hq;subst hq;exact⟨by show 0<2;omega,by simp[Cm,B8,under]⟩
    .obtain⟨_,rfl⟩:=Fc hq
     exact⟨by show 1<2;omega,HH _ _ _ _⟩)
   (λb x hb=>by
    simp only[Aa]at hb;split at hb
    .rename_i e;injection hb with hb;subst hb;refine .inl ⟨1,rowOf eD 57 kids,?_,?_,?_⟩
     .exact(Ay.head' eD 57 1 kids).cons (k:=0) (by omega) |>.resolve_left hne
     .simp[CO];omega
     .rw[HG]
    .split at hb
     .rename_i e;injection hb with hb;subst hb;refine .inr ⟨by simp[Aa,<-e],λb0 x0 h0=>?_⟩;simp only[Aa]at h0;split at h0
      .omega
      .cases h0
     .split at hb
      .rename_i e;injection hb with hb;subst hb;refine .inr ⟨by simp[Aa,<-e],λb0 x0 h0=>?_⟩;simp only[Aa]at h0;split at h0
       .omega
       .cases h0
      .split at hb
       .rename_i e;injection hb with hb;subst hb;refine .inl ⟨0,pr t p,rfl,by simp[CO];omega,by simp[BE,Bn,ren]⟩
       .cases hb)
  have e1:ren (CO (λb=>b) 1 3) (rowP eD 1 kids)=rowP eD 3 kids:=by rw[Ek];rfl
  rw[e1]at h2;exact h2
 .intro _ b x hb;simp only[Aa]at hb;split at hb
  .omega
  .split at hb
   .omega
   .split at hb
    .omega
    .split at hb
     .omega
     .cases hb
theorem cJ {P:Program} {G:A2} {B b3 nx n p:Nat} {env:List (Nat×PV)} {H:Ab} {a b c:T} {kids:List Ds} {y0 y1 y2 y3:T} (hB:B<=3) (hr:Ay eD 57 H b3 kids) (hb:2<b3)
  (h2:Aa H 2=some (.cells 57 [.t a,.t b,.t c,rowP eD b3 kids])) (h1:Aa H 1=some (.cells 57 [.t y0,.t y1,.t y2,.t y3])) (h0:Aa H 0=some (pr t p))
  (e5:Aa env 5=some (.ptr 2 0)) (e4:Aa env 4=some (.ptr 1 0)) (e0:Aa env 0=some (.ptr 0 0)) :
  Sub P G B ⟨env,H,nx,n⟩ ⟨[(5,.ptr 2 0),(4,.ptr 1 0),(0,.ptr 0 0)],[(2,.cells 57 [.t a,.t b,.t c,.t (Aq eD kids)]),(1,.cells 57 [.t y0,.t y1,.t y2,.t y3]),(0,pr t p)],3,n⟩:=by
 have h3:Sub P G B ⟨env,H,nx,n⟩ (Ad.frz ⟨env,H,nx,n⟩ [b3]):=M0 [b3];refine h3.trans (JD (λx=>x) rfl hB (λ_ _=>rfl) (λq hq=>?_) (λq hq=>?_) (λ_ _ _ _ e=>e))
 .simp only[Ad.frz,FI];simp only[Xn,Yr,or_false]at hq;rcases hq with rfl | rfl | rfl
  .rw[e5];exact⟨rfl,rfl⟩
  .rw[e4];exact⟨rfl,rfl⟩
  .rw[e0];exact⟨rfl,rfl⟩
 .have hl:∀k,k≠b3->Aa (Dy H [b3]) k=Aa H k:=λk hk=>by
   simp only[Dy,Zb,Zc];rw[CJ,zz hk]
  have hf:BI H [b3] (rowP eD b3 kids) = .t (Aq eD kids):=by
   unfold BI;rw[hr.toT]
   have:(GV b3 kids).all ([b3].contains ·)=true:=by cases kids<;>simp[GV]
   simp only[this,if_true]
  simp only[Ad.frz,FI];simp only[Xn,Yr,or_false]at hq;rcases hq with rfl | rfl | rfl
  .refine⟨?_,by show 2<3;omega,rfl⟩;rw[hl 2 (by omega),h2,Xq];simp only[De,Xd,Xg,MJ,hf,BE,Bn,ren]
  .refine⟨?_,by show 1<3;omega,rfl⟩;rw[hl 1 (by omega),h1,Xq];simp only[De,Xd,Xg,MJ,BE,Bn,ren]
  .refine⟨?_,by show 0<3;omega,rfl⟩;rw[hl 0 (by omega),h0,Xq];simp only[De,Xd,Xg,MJ,BE,Bn,ren]
variable {q : Gl} {t : T} {l : List Tok} {i : Nat}
section
variable (a b c d : T) (X : Row) (R H : Ab) (kids : List Ds) (b3 : Nat)
theorem yO:AM 1 ((3,X)::(2,.cells 57 [.t a,.t b,.t c,.t d])::R) (.ptr 2 3) (rowP eD b3 kids)=some ((3,X)::(2,.cells 57 [.t a,.t b,.t c,rowP eD b3 kids])::R):=by cases kids<;>rfl
theorem OE:Aj false 1 ((3,X)::(2,.cells 57 [.t a,.t b,.t c,rowP eD b3 kids])::R) (.ptr 2 3)=some (rowP eD b3 kids):=by cases kids<;>rfl
theorem yP (k:Int) (w:PV):AM 1 ((3,X)::(2,.cells 57 [.t a,.t b,.t c,w])::R) (.ptr 2 0) (.t (iv k))=some ((3,X)::(2,.cells 57 [.t (iv k),.t b,.t c,w])::R):=rfl
end
theorem tsD (d:Ds):KY 57 4 [.int .i64 0,.string ⟨#[]⟩,.slice none 0 0,.slice none 0 0] 1 [(0,.t (dT d))]=some (.t (.sl 1 (Ba d))):=by
 cases d;rw[dT,Ba];rfl
theorem yQ {H:Ab} {b ty:Nat} {x0 x1 x2 x3:PV} (h:Aa H b=some (.cells ty [x0,x1,x2,x3])) (k b4:Nat) (kids:List Ds):AM 1 H (.ptr b 3) (rowP eD b4 kids)=some (upd H b (.cells ty [x0,x1,x2,rowP eD b4 kids])):=by
 cases kids<;>simp only[AM,rowP,h]<;>rfl
structure Lt where
 op:Int
 kids:List Ds
 p:Nat
abbrev zD:Row:=.cells 57 [.t (iv 0),.t (sv ⟨#[]⟩),.t Ah,.t Ah]
def SLt (t:T) (a:Lt):Ad:=⟨[(5,.ptr 2 0),(4,.ptr 1 0),(0,.ptr 0 0)],[(2,.cells 57 [.t (iv a.op),.t (sv ⟨#[]⟩),.t Ah,.t (Aq eD a.kids)]),(1,zD),(0,pr t a.p)],3,34⟩
def outL (t:T):Res Ds->Out
 | .error e=>.pan (C7 e)
 | .ok (d,p)=>.ret (.t (dT d)) [(2,.cells 57 ((Ba d).map .t)),(1,.cells 57 ((Ba d).map .t)),(0,pr t p)] 3
theorem yR {L:List KT} {n i p:Nat} {kids:List Ds} (h:DC L n i = .ok (kids,p)):kids≠[]:=by
 unfold DC at h
 cases hd:AA L n i with
 | error e=>rw[hd]at h;cases h
 | ok x=>
  rw[hd]at h
  have key:∀(f p:Nat) (ks ks':List Ds) (p':Nat),itS L (AA L n) f p ks = .ok (ks',p')->ks≠[]->ks'≠[]:=by
   intro f
   induction f with
   | zero=>intro p ks ks' p' h;cases h
   | succ f ih=>
    intro p ks ks' p' h hk;rw[itS]at h;split at h
    .split at h
     .cases h
     .split at h
      .cases h
      .exact ih _ _ _ _ h (by simp)
    .injection h with h;injection h with e1 _;subst e1;exact hk
  exact key _ _ _ _ _ h (by simp)
theorem PM.outL {P:Program} {G:A2} {f:FuncId} {ts:List T} {R:Res Ds} (h:Hf P G f (.ptr 0 0::ts.map .t) [(0,pr t i)] 1 (outL t R)):PM P G t f i ts (CD dT R):=by
 cases R with
 | error e=>exact h
 | ok x=>exact PM.ret h rfl
section
variable {n : Nat} (ht : IsS Aw t l) (hlim : l.length <= 1000000) (hD : EL q t l n) (hF : Fwd (l.map kt) (AA (l.map kt) n)) (hn : n <= 64)
include ht hlim hD hF hn
theorem yS (hi:i<=l.length):PM Xa (G q) t 194 i [iv (64-(n:Int))] (CD dT (Dq (l.map kt) (AA (l.map kt) n) i)):=by
 have C:=cH ht hlim hD hF hn;have E:=cI ht hlim hD hF hn
 obtain⟨L,hL⟩:∃L,L=l.map kt:=⟨_,rfl⟩
 have hLl:L.length=l.length:=by rw[hL,Xl]
 have hgi:∀p,p<=l.length->Gz l n p [iv (64-(n:Int))]=some (CD (Aq eD) (DC L n p)):=λp hp=>by rw[cF hp,hL]
 have gd:∀{p:Nat},p<=l.length->Dt l n p [iv (65-(n:Int))]=some (CD dT (AA L n p)):=λhp=>by rw[QI hp,hL]
 rw[<-hL]
 cases hx:l[i]? with
 | none=>
  have hge:l.length<=i:=by simpa using hx
  have e1:Dq L (AA L n) i = .error 9:=by unfold Dq;rw[zy (by omega)]
  rw[e1];have h1:∀R:Row,eP t (Bw l) [.ptr 0 0] [(1,R),(0,pr t i)] 2=some (C7 9):=λR=>DP (ts:=[]) rfl (by omega) (by simp[Bw,hx]);refine YQ.callO rfl ?_;(conv in SO=>cbv);refine Cy C E rfl ?_;simp -implicitDefEqProofs;refine Cy C E rfl ?_;simp -implicitDefEqProofs [ctL,ceL,h1,CD,Ge]
 | some x=>
  have hlt:i<l.length:=(Xe.1 hx).1;have h1:hP t (Bw l) [.ptr 0 0] [(1,zD),(0,pr t i)] 2=some (.t (.ag (Aw.enc x)),[(1,zD),(0,pr t i)],2):=Df (ts:=[]) rfl (by omega) (by simp[Bw,hx]);have h2:eP t (Bw l) [.ptr 0 0] [(1,zD),(0,pr t i)] 2=none:=Dj (ts:=[]) (x:=(.ag (Aw.enc x),i)) rfl (by simp[Bw,hx])
  have h3:∀X Y:Row,hP t (gIs l) [.ptr 0 0,.t (sv ⟨#[62]⟩)] [(2,X),(1,Y),(0,pr t i)] 3=some (.t (bv (Be L i [62])),[(2,X),(1,Y),(0,pr t i)],3):=λX Y=>by
   rw[hL];exact Df (ts:=[sv ⟨#[62]⟩]) rfl (by omega) rfl
  have h4:∀X Y:Row,eP t (gIs l) [.ptr 0 0,.t (sv ⟨#[62]⟩)] [(2,X),(1,Y),(0,pr t i)] 3=none:=λX Y=>
   Dj (ts:=[sv ⟨#[62]⟩]) (x:=(bv (Be (l.map kt) i [62]),i)) rfl rfl
  have h5:∀(X Y:Row) p nx,0<nx->p<=l.length->∀p',B6 L p [62] = .ok p'->hP t (FO l) [.ptr 0 0,.t (sv ⟨#[62]⟩)] [(2,X),(1,Y),(0,pr t p)] nx=some (.t (.tu []),[(2,X),(1,Y),(0,pr t p')],nx):=λX Y p nx hnx hp p' h=>by
   rw[hL]at h;exact Df (ts:=[sv ⟨#[62]⟩]) rfl hnx ((zy (by omega)).trans (by show some (skR (B6 (l.map kt) p [62]))=_;rw[h];rfl))
  have h6:∀(X Y:Row) p nx,0<nx->p<=l.length->∀e,B6 L p [62] = .error e->eP t (FO l) [.ptr 0 0,.t (sv ⟨#[62]⟩)] [(2,X),(1,Y),(0,pr t p)] nx=some (C7 e):=λX Y p nx hnx hp e h=>by
   rw[hL]at h;exact DP (ts:=[sv ⟨#[62]⟩]) rfl hnx ((zy (by omega)).trans (by show some (skR (B6 (l.map kt) p [62]))=_;rw[h];rfl))
  have e0:Be L i [62]=false->Dq L (AA L n) i=match DC L n i with
    | .error e=>.error e
    | .ok (kids,p2)=>if Be L p2 [124]then(if 256<=kids.length then .error 7 else match AA L n (p2+1)with
      | .error e=>.error e
      | .ok (d',p3)=>Da L [62] 7 (kids++[d']) p3)
     else Da L [62] 6 kids p2:=λhs=>by
   unfold Dq DC;rw[zz (by omega),hs,zz (by simp)];cases AA L n i<;>rfl
  obtain⟨R,hR⟩:∃R,R=Dq L (AA L n) i:=⟨_,rfl⟩
  rw[<-hR]at e0 ⊢;refine PM.outL (YQ.callO rfl ?_);(conv in SO=>cbv);refine Cy C E rfl ?_;simp -implicitDefEqProofs;refine Cy C E rfl ?_;simp -implicitDefEqProofs [ctL,ceL,h1,h2];refine Cy C E rfl ?_;simp -implicitDefEqProofs [-Bo,bd1,sd2];refine BF (α:=Lt) (SLt t) (λa=>R=Da L [62] a.op a.kids a.p/\a.p<=l.length) (λ_=>rfl) ?_ ?_
  .cases hs:Be L i [62]with
   | true=>
    have e1:R=Da L [62] 6 [] i:=by rw[hR];unfold Dq;rw[zz (by omega),zy hs]
    rw[hs]at h3;refine B9 C E rfl ?_;simp -implicitDefEqProofs [ctL,ceL,h3,h4];exact Am.mk ⟨6,[],i⟩ ⟨e1,hi⟩ (AQ rfl rfl (by simp -implicitDefEqProofs [SLt]) (by simp -implicitDefEqProofs [SLt];rfl))
   | false=>
    have e0:=e0 hs;rw[hs]at h3;refine Cy C E rfl ?_;simp -implicitDefEqProofs [ctL,ceL,h3,h4];refine Cr (t:=true) rfl ?_;simp only[if_true]
    cases hit:DC L n i with
    | error e=>
     rw[hit]at e0;simp only at e0;rw[e0]
     have h7:∀X Y:Row,eP t (Gz l n) [.ptr 0 0,.t (iv (64-(n:Int)))] [(2,X),(1,Y),(0,pr t i)] 3=some (C7 e):=λX Y=>
      DP (ts:=[iv (64-(n:Int))]) rfl (by omega) (by rw[hgi i hi,hit];rfl)
     refine Cy C E rfl ?_;simp -implicitDefEqProofs [ctL,ceL,h7,outL]
    | ok y=>
     obtain⟨kids,p2⟩:=y;rw[hit]at e0;simp only at e0;have hfw:=cE (by rw[hL];exact hF) hit;rw[hLl]at hfw;obtain⟨hip,hp2,hkl⟩:=hfw;have hne:kids≠[]:=yR hit;have hlift:=λX Y=>yN (q:=q) ht hlim hD hF hn hi (by rw[<-hL];exact hit) hne X Y
     have h8:∀X Y:Row,eP t (Gz l n) [.ptr 0 0,.t (iv (64-(n:Int)))] [(2,X),(1,Y),(0,pr t i)] 3=none:=λX Y=>
      Dj (ts:=[iv (64-(n:Int))]) (x:=(Aq eD kids,p2)) rfl (by rw[hgi i hi,hit];rfl)
     have CI:=As.nil.ctxH (.cons (hlift (.cells 57 [.t (iv 6),.t (sv ⟨#[]⟩),.t Ah,.t Ah]) zD) .nil) mixed;have ho:=λo=>DL [.ptr 0 0,.t (iv (64-(n:Int)))] [(2,.cells 57 [.t (iv 6),.t (sv ⟨#[]⟩),.t Ah,.t Ah]),(1,zD),(0,pr t i)] 3 o;refine Cy CI E rfl ?_;simp -implicitDefEqProofs [ceL,h8,ho,yO]
     obtain⟨H3,hH3⟩:∃H3:Ab,H3=[(3,rowOf eD 57 kids),(2,.cells 57 [.t (iv 6),.t (sv ⟨#[]⟩),.t Ah,rowP eD 3 kids]),(1,zD),(0,pr t p2)]:=⟨_,rfl⟩
     have hl0:Aa H3 0=some (pr t p2):=by rw[hH3];rfl
     have hu:∀p',upd H3 0 (pr t p')=[(3,rowOf eD 57 kids),(2,.cells 57 [.t (iv 6),.t (sv ⟨#[]⟩),.t Ah,rowP eD 3 kids]),(1,zD),(0,pr t p')]:=λp'=>by rw[hH3];rfl
     have hlen:AO (rowP eD 3 kids)=some (.t (iv (kids.length:Int))):=HD eD 3 kids
     have gm:Cw l p2 [sv ⟨#[124]⟩,iv (kids.length:Int),iv 256]=some (Gf (Be L p2 [124]) (kids.length:Int) 256 p2):=by rw[hL];exact zy (by omega)
     cases hs2:Be L p2 [124]with
     | false=>
      rw[hs2]at gm e0;simp only[Xk,if_false]at e0;have m1:=Df (t:=t) (g:=Cw l) (b:=0) (nx:=4) (H:=H3) hl0 (by omega) (gm.trans rfl:_=some (.ok (bv false,p2)));have m2:=Dj (t:=t) (g:=Cw l) (b:=0) (nx:=4) (H:=H3) hl0 (gm.trans rfl:_=some (.ok (bv false,p2)));rw[hu]at m1;rw[hH3]at m1 m2;simp only[Xd,Xg]at m1 m2;refine B9 C E rfl ?_;simp -implicitDefEqProofs [ctL,ceL,OE,hlen,m1,m2];refine Am.mk ⟨6,kids,p2⟩ ⟨e0,hp2⟩ ?_;exact cJ (b3:=3) (by omega) (.inr rfl) (by omega) rfl rfl rfl rfl rfl rfl
     | true=>
      rw[hs2]at gm e0;simp only[if_true]at e0
      have hpl:p2<l.length:=by have:=DQ hs2;omega
      by_cases hbig:256<=kids.length
      .rw[zy hbig]at e0
       have gm':Cw l p2 [sv ⟨#[124]⟩,iv (kids.length:Int),iv 256]=some (.error 7):=by rw[gm,Gf,zy rfl,zy (by omega)]
       have m3:=DP (t:=t) (g:=Cw l) (b:=0) (nx:=4) (H:=H3) hl0 (by omega) gm';rw[hH3]at m3;simp only[Xd,Xg]at m3;rw[e0];refine Cy C E rfl ?_;simp -implicitDefEqProofs [ceL,OE,hlen,m3,outL]
      .rw[zz hbig]at e0
       have gm':Cw l p2 [sv ⟨#[124]⟩,iv (kids.length:Int),iv 256]=some (.ok (bv true,p2+1)):=by rw[gm,Gf,zy rfl,zz (by omega)]
       have m1:=Df (t:=t) (g:=Cw l) (b:=0) (nx:=4) (H:=H3) hl0 (by omega) gm';have m2:=Dj (t:=t) (g:=Cw l) (b:=0) (nx:=4) (H:=H3) hl0 gm';rw[hu]at m1;rw[hH3]at m1 m2;simp only[Xd,Xg]at m1 m2;refine Cy C E rfl ?_;simp -implicitDefEqProofs [ctL,ceL,OE,hlen,m1,m2];refine Cr (t:=true) rfl ?_;simp only[if_true];refine Cy C E rfl ?_;simp -implicitDefEqProofs [yP]
       obtain⟨H4,hH4⟩:∃H4:Nat->Ab,H4=λp=>[(3,rowOf eD 57 kids),(2,.cells 57 [.t (iv 7),.t (sv ⟨#[]⟩),.t Ah,rowP eD 3 kids]),(1,zD),(0,pr t p)]:=⟨_,rfl⟩
       have hk0:∀p,Aa (H4 p) 0=some (pr t p):=λp=>by rw[hH4];rfl
       have hk:∀p p',upd (H4 p) 0 (pr t p')=H4 p':=λp p'=>by rw[hH4];rfl
       have ev:Xc.wrap (64-(n:Int)+1)=65-(n:Int):=by
        rw[H9 (by omega) (by omega)];omega
       cases hd2:AA L n (p2+1)with
       | error e=>
        rw[hd2]at e0;simp only at e0;have m3:=DP (t:=t) (g:=Dt l n) (b:=0) (nx:=4) (hk0 (p2+1)) (by omega) (by rw[gd (by omega),hd2];rfl);rw[hH4]at m3;simp only[Xd,Xg]at m3;rw[e0];refine bS C E ?_;simp -implicitDefEqProofs [ctL,ceL,OE,ev,m3,outL]
       | ok y=>
        obtain⟨d2,p3⟩:=y;rw[hd2]at e0;simp only at e0;have hf2:=hF _ _ _ (by rw[<-hL];exact hd2);rw[<-hL,hLl]at hf2;have m3:=Df (t:=t) (g:=Dt l n) (b:=0) (nx:=4) (r:=dT d2) (i':=p3) (hk0 (p2+1)) (by omega) (by rw[gd (by omega),hd2];rfl);have m4:=Dj (t:=t) (g:=Dt l n) (b:=0) (nx:=4) (x:=(dT d2,p3)) (hk0 (p2+1)) (by rw[gd (by omega),hd2];rfl);rw[hk]at m3;have r3:Ay eD 57 (H4 p3) 3 kids:=.inr (by rw[hH4];rfl);obtain⟨b4,H5,n5,ap,r5,ne5,hle5,hold,hb5⟩:=M4 (e:=eD) (ty:=57) (by':=72) (nx:=4) (m:=[d2]) (src:=.t (.sl 1 (Ba d2))) r3 (Ql (e:=eD) (l:=[d2]) (.inr (by simp[slT,eD]))) (by simp;omega) (by simp;omega);have ap':Cc 57 4 72 (H4 p3) 4 (rowP eD 3 kids) (.t (.sl 1 (Ba d2)))=some (rowP eD b4 (kids++[d2]),H5,n5):=ap;have hl2:Aa H5 2=some (.cells 57 [.t (iv 7),.t (sv ⟨#[]⟩),.t Ah,rowP eD 3 kids]):=(hold 2 (by omega) (by omega)).trans (by rw[hH4];rfl);have hl1:Aa H5 1=some zD:=(hold 1 (by omega) (by omega)).trans (by rw[hH4];rfl);have hl0':Aa H5 0=some (pr t p3):=(hold 0 (by omega) (by omega)).trans (hk0 p3);have st:=yQ hl2 3 b4 (kids++[d2]);rw[hH4]at m3 m4 ap';simp only[Xd,Xg]at m3 m4 ap';refine bS C E ?_;simp -implicitDefEqProofs [ctL,ceL,OE,ev,m3,m4,tsD,ap',st];refine Am.mk ⟨7,kids++[d2],p3⟩ ⟨e0,hf2.2⟩ ?_
        have lk:∀k,k≠2->Aa (upd H5 2 (.cells 57 [.t (iv 7),.t (sv ⟨#[]⟩),.t Ah,rowP eD b4 (kids++[d2])])) k=Aa H5 k:=λk hk=>by rw[AN,zz hk]
        exact cJ (b3:=b4) (by omega) (r5.imp id λh=>by rw[lk _ (by omega)];exact h) (by omega) (by rw[AN,zy rfl,hl2];rfl) (by rw[lk _ (by omega),hl1]) (by rw[lk _ (by omega),hl0']) rfl rfl rfl
  .rintro⟨op,kids,p⟩ ⟨hR2,hp⟩;simp only at hR2 hp
   cases hsk:B6 L p [62]with
   | error e=>
    rw[Da,hsk]at hR2;simp only at hR2;rw[hR2];have h6':=λX Y=>h6 X Y p 3 (by omega) hp _ hsk;refine B9 C E rfl ?_;simp -implicitDefEqProofs [SLt,ctL,ceL,h6',outL]
   | ok p3=>
    rw[Da,hsk]at hR2;simp only at hR2;rw[hR2];have h5':=λX Y=>h5 X Y p 3 (by omega) hp _ hsk;refine Ap C ?_;simp -implicitDefEqProofs [SLt,ctL,h5',ld4,sd1]
    have ed:(Ba (.mk op ⟨#[]⟩ [] kids)).map PV.t=[.t (iv op),.t (sv ⟨#[]⟩),.t Ah,.t (Aq eD kids)]:=by rw[II];rfl
    exact bV ⟨.inr rfl,_,_,Sub.refl _,rfl,by rw[dT,II];rfl,by rw[ed],rfl⟩
end
end Go.Proofs.YtobnacghaamfoaaGreatDoor
namespace Go.Abs
open Go
section
variable {P : Program} {G : A2}
theorem E3.lift {f:FuncId} {ps:List PV} {H:Ab} {nx:Nat} {ch:Bu} (h:E3 P G f ps H nx ch []) (σ:Nat->Nat) (NX:Nat) (Hb:Ab)
  (hσ:∀b,b<nx->σ b<NX) (hinj:∀b c,b<nx->c<nx->σ b=σ c->b=c)
  (hH:∀q∈H,Aa Hb (σ q.1)=some (BE σ q.2)/\q.1<nx/\Cm nx q.2=true) (hps:B8 nx ps=true) :
  E3 P G f (Bn σ ps) Hb NX ch []:=by
 refine⟨h.1,λL w us hok hnx hargs=>?_⟩
 let L0:Loc:=⟨L.I,λb=>L.μ (σ b),nx⟩
 have hok0:BA P G L0 H w:=by
  refine⟨hok.lt,λb x hb=>?_,λb x hb=>?_,λb b' x x' hb hb' e=>?_,λb x hb=>(hH _ (BK hb)).2.1,hok.glob⟩
  .obtain⟨h1,h2,h3⟩:=hH _ (BK hb);have:=hok.rep _ _ h1
   cases x with
   | cells ty cs=>
    obtain⟨arr,ha,hl,hc⟩:=this;refine⟨arr,ha,by rw[NV]at hl;exact hl,λj c hj=>?_⟩;obtain⟨v,hv,h1v,hrv⟩:=hc j (ren σ c) (by rw[NT,hj];rfl);exact⟨v,hv,h1v,I7 c (NU h3 hj) hrv⟩
   | iter t pos=>exact this
   | map kk es=>exact this
   | lp l x k p=>exact⟨this.1,this.2.1,I7 p h3 this.2.2⟩
   | blk l o=>exact this
  .exact hok.apart _ _ (hH _ (BK hb)).1
  .exact hinj b b' (hH _ (BK hb)).2.1 (hH _ (BK hb')).2.1 (hok.inj _ _ _ _ (hH _ (BK hb)).1 (hH _ (BK hb')).1 e)
 have mine0:∀g,FW L0 H g->FW L Hb g:=λg ⟨b,x,hb,e⟩=>⟨σ b,_,(hH _ (BK hb)).1,e⟩
 refine(h.2 L0 w us hok0 rfl (Lb ps hps hargs)).mono ?_;rintro e w' ⟨L1,rfl,hok1,hnx1,hm1,hx1⟩
 have hmono:Bh L w ⟨L1.I,L.μ,NX⟩ w':=⟨hm1.keeps,by rw[hnx];exact Xb _,λ_ _=>rfl,hm1.size,hm1.shape⟩
 refine⟨⟨L1.I,L.μ,NX⟩,rfl,⟨hok1.lt,λ_ _ hb=>(by cases hb),λ_ _ hb=>(by cases hb),λ_ _ _ _ hb=>(by cases hb),λ_ _ hb=>(by cases hb),hok1.glob⟩,rfl,hmono,?_⟩;refine⟨hx1.size,λg hg hm=>hx1.same g hg (λh2=>hm (mine0 g h2)),hx1.more,λg hg=>?_,λg ⟨b,x,hb,_⟩=>(by cases hb),hx1.shape,hx1.outer⟩;rcases hx1.new g hg with h2 | h2 | h2
 .exact .inl h2
 .exact .inr (.inl h2)
 .exact .inr (.inr (mine0 g h2))
noncomputable def OG (ps0:List PV) (H0:Ab) (nx0:Nat) (ch:Bu) (ps:List PV) (H:Ab) (nx:Nat):Option Bu:=
 open Classical in if ps = ps0 /\ H = H0 /\ nx = nx0 then some ch else none
theorem TA (ps:List PV) (H:Ab) (nx:Nat) (ch:Bu):OG ps H nx ch ps H nx=some ch:=by
 unfold OG;rw[zy ⟨rfl,rfl,rfl⟩]
theorem yT {f:FuncId} {ps:List PV} {H:Ab} {nx:Nat} {ch:Bu} (h:E3 P G f ps H nx ch []):EOK P G f (OG ps H nx ch):=λps1 H1 nx1 ch1 h1=>by
 unfold OG at h1;split at h1
 .rename_i hc;obtain⟨rfl,rfl,rfl⟩:=hc;injection h1 with h1;subst h1;exact h
 .cases h1
noncomputable def hO (ps0:List PV) (H0:Ab) (nx0:Nat):Out->List PV->Ab->Nat->Option (PV×Ab×Nat)
 | .ret r H' nx'=>Fe ps0 H0 nx0 (r,H',nx')
 | .pan _=>λ_ _ _=>none
noncomputable def eO (ps0:List PV) (H0:Ab) (nx0:Nat):Out->List PV->Ab->Nat->Option Bu
 | .ret _ _ _=>λ_ _ _=>none
 | .pan ch=>OG ps0 H0 nx0 ch
def cK (nx0:Nat) (H0:Ab):Out->Prop
 | .ret _ H' nx'=>(∀b x,Aa H0 b=some x->b<nx0)->∀b x,Aa H' b=some x->b<nx'
 | .pan _=>True
theorem TB {f:FuncId} {ps:List PV} {H:Ab} {nx:Nat} {o:Out} (h:Hf P G f ps H nx o) (hf:cK nx H o):HOK P G f (hO ps H nx o):=by
 cases o with
 | ret r H' nx'=>exact E0 h hf
 | pan ch=>exact⟨λ_ _ _ _ _ _ h=>(by cases h),λ_ _ _ _ _ _ h=>(by cases h)⟩
theorem TC {f:FuncId} {ps:List PV} {H:Ab} {nx:Nat} {o:Out} (h:Hf P G f ps H nx o):EOK P G f (eO ps H nx o):=by
 cases o with
 | ret r H' nx'=>exact λ_ _ _ _ h=>(by cases h)
 | pan ch=>exact yT h
end
end Go.Abs
namespace Go.Proofs.YtobnacghaamfoaaGreatDoor
open Go Go.Abs
variable {q : Gl} {t : T} {l : List Tok} {i : Nat}
theorem app_cells {α:Type} {e:Enc α} {ty ty' by' b k nx:Nat} {H:Ab} {l:List α} {cs:List PV} (h:Ay e ty H b l) (hk:Aa H k=some (.cells ty' cs)) (hc:cs.length=e.z)
  (hb:(l.length+1)*by'<=140737488355328) (hb2:l.length+1<=9223372036854775807) :
  ∃H',Cc ty e.z by' H nx (rowP e b l) (.row k 0 1 e.z)=some (.row nx 0 (l.length+1) e.z,H',nx+1)/\Aa H' nx=some (.cells ty ((l.flatMap e.enc).map .t++cs))/\∀c,c≠nx->c≠b->Aa H' c=Aa H c:=by
 have hs:Ew H e.z (.row k 0 1 e.z)=some (1,cs):=by
  have tk:Ye e.z cs=cs:=X8 (by rw[hc];exact Xb _);simp[Ew,hk,hc,tk]
 cases l with
 | nil=>
  simp only[Y4,Nat.zero_add,Nat.one_mul]at hb hb2;refine⟨(nx,.cells ty cs)::H,?_,by simp[Aa],λc h1 _=>by rw[Az,zz (Ne.symm h1)]⟩;simp[Cc,hs,rowP,hb]
 | cons x l=>
  have h:=h.resolve_left (by simp)
  have hl:(((x::l).flatMap e.enc).map PV.t).length=(x::l).length*e.z:=by rw[Xl,IH]
  refine⟨(nx,.cells ty (((x::l).flatMap e.enc).map .t++cs))::rem H b,?_,by simp[Aa],λc h1 h2=>by rw[Az,zz (Ne.symm h1),CJ,zz h2]⟩;simp only[Cc,hs,rowP,h,rowOf,hl,true_and,zy (And.intro hb hb2)]
theorem rowP_snoc {α:Type} (e:Enc α) (b:Nat) (l:List α) (x:α):rowP e b (l++[x]) = .row b 0 (l.length+1) e.z:=by
 cases l with
 | nil=>rfl
 | cons y l=>simp[rowP]
theorem yU {H:Ab} {F:List Nat} {b o n z:Nat} (hb:b∉F):BI H F (.row b o n z) = .row b o n z:=by
 unfold BI;split
 .rename_i x F' hx;simp only[toT]at hx;split at hx
  .split at hx
   .obtain⟨ts,_,e⟩:=AZ hx;injection e with e1 e2;subst e2;rw[zz];simpa using hb
   .cases hx
  .cases hx
 .rfl
theorem TD {α:Type} {e:Enc α} {ty b:Nat} {H:Ab} {F:List Nat} {l:List α} (h:Ay e ty H b l) (hb:b∈F):BI H F (rowP e b l) = .t (Aq e l):=by
 unfold BI;rw[h.toT]
 have:(GV b l).all (F.contains ·)=true:=by cases l<;>simp[GV,hb]
 simp only[this,if_true]
theorem look_remAll':∀(F:List Nat) (H:Ab) (k:Nat),k∉F->Aa (Dy H F) k=Aa H k
 | [],_,_,_=>rfl
 | b::F,H,k,hk=>by
  have e:Aa (Dy H (b::F)) k=Aa (Dy (rem H b) F) k:=rfl;rw[e,look_remAll' F _ _ (λh=>hk (X0 _ h)),CJ,zz (λe=>hk (by rw[e];exact X6))]
theorem OH {H:Ab} {F:List Nat} {k:Nat} {r:Row} (h:Aa H k=some r) (hk:k∉F):Aa ((Dy H F).map λq=>(q.1,De H F q.2)) k=some (De H F r):=by
 rw[FI,look_remAll' F H k hk,h,Xq]
theorem yV {B nx n p kn kd:Nat} {v:Int} {env:List (Nat×PV)} {H:Ab} {l:List Ds} {path:List ByteArray} {d:Ds} (hB:B<=2)
  (hn:Aa H kn=some (.cells 57 ((l.flatMap eD.enc).map .t++[.t (iv 5),.t (sv ⟨#[]⟩),rowP Ak 3 path,.row kd 0 1 4])))
  (h3:Ay Ak 9 H 3 path) (hd:Aa H kd=some (rowOf eD 57 [d])) (h0:Aa H 0=some (pr t p)) (k1:3<kn) (k2:3<kd) (k3:kn≠kd)
  (e1:Aa env 1=some (.row kn 0 (l.length+1) 4)) (e2:Aa env 2=some (.t (iv v))) (e0:Aa env 0=some (.ptr 0 0)) :
  Sub Xa (G q) B ⟨env,H,nx,n⟩ ⟨[(2,.t (iv v)),(1,rowP eD 2 (l++[.mk 5 ⟨#[]⟩ path [d]])),(0,.ptr 0 0)],[(0,pr t p)]++A4 eD 57 2 (l++[.mk 5 ⟨#[]⟩ path [d]]),3,n⟩:=by
 have hs:Sub Xa (G q) B ⟨env,H,nx,n⟩ (Ad.frz ⟨env,H,nx,n⟩ [3,kd]):=M0 [3,kd]
 have n1:kn∉[3,kd]:=by simp;omega
 have n0:0∉[3,kd]:=by simp;omega
 refine hs.trans (FK (k:=kn) (R:=[(0,pr t p)]) (.inr ?_) (by omega) hB ?_ ?_)
 .refine(OH hn n1).trans ?_;have f1:BI H [3,kd] (rowP Ak 3 path) = .t (Aq Ak path):=TD h3 (by simp);have f2:BI H [3,kd] (.row kd 0 1 4) = .t (Aq eD [d]):=TD (e:=eD) (ty:=57) (b:=kd) (l:=[d]) (.inr hd) (by simp)
  have f3:∀cs:List T,(cs.map PV.t).map (BI H [3,kd])=cs.map PV.t:=λcs=>by rw[Xo];rfl
  simp only[De,List.map_append,f3,Xd,Xg,f1,f2,MJ,rowOf,List.flatMap_append,Zf,List.flatMap_nil,Zh];show _=some (Row.cells _ (_++(Ba (.mk 5 ⟨#[]⟩ path [d])).map PV.t));rw[II];rfl
 .intro x hx;simp only[Xp]at hx;subst hx;refine⟨(OH h0 n0).trans ?_,by show 0<3;omega,by show 0≠2;omega,by show 0≠kn;omega,rfl⟩;simp only[De,Xd,Xg,MJ,BE,Bn,ren]
 .intro x hx;simp only[Ad.frz,FI];simp only[Xn,Yr,or_false]at hx;rcases hx with rfl | rfl | rfl
  .rw[e2];exact⟨rfl,rfl⟩
  .refine⟨?_,Em _ _ _ _ (by omega)⟩;rw[e1,Xq,yU n1,Ek,zy rfl,rowP_snoc];rfl
  .rw[e0];exact⟨by simp[BI,toT,ren],rfl⟩
def EM (t:T):Res (List Ds)->Out
 | .error e=>.pan (C7 e)
 | .ok (parts,p)=>.ret (rowP eD 2 parts) ([(0,pr t p)]++A4 eD 57 2 parts) 3
abbrev KM (q:Gl) (t:T) (f:FuncId) (i:Nat) (parts:List Ds) (lv:Int) (r:Res (List Ds)):Prop:=
 Hf Xa (G q) f [.ptr 0 0,rowP eD 1 parts,.t (iv lv)] ([(0,pr t i)]++A4 eD 57 1 parts) 2 (EM t r)
def FB (t:T) (H:Ab) (b NX:Nat) (parts parts':List Ds) (p:Nat):Ab:=(NX,rowOf eD 57 parts')::upd (if parts.isEmpty then H else rem H b) 0 (pr t p)
def Ja (t:T) (H:Ab) (b NX:Nat) (parts:List Ds):Res (List Ds)->Out
 | .error e=>.pan (C7 e)
 | .ok (parts',p)=>.ret (rowP eD NX parts') (FB t H b NX parts parts' p) (NX+1)
theorem KM.lift {f:FuncId} {parts:List Ds} {lv:Int} {r:Res (List Ds)} (h:KM q t f i parts lv r) {H:Ab} {b NX:Nat} (h0:Aa H 0=some (pr t i)) (hb:Ay eD 57 H b parts) (hb0:0<b) (hlt:b<NX)
  (hne:∀parts' p,r = .ok (parts',p)->parts'≠[]):Hf Xa (G q) f [.ptr 0 0,rowP eD b parts,.t (iv lv)] H NX (Ja t H b NX parts r):=by
 obtain⟨σ,hσ⟩:∃σ:Nat->Nat,σ=λx=>if x=1 then b else x:=⟨_,rfl⟩
 have s0:σ 0=0:=by rw[hσ];rfl
 have s1:σ 1=b:=by rw[hσ];rfl
 have a1:∀x,x<2->σ x<NX:=λx hx=>by
  obtain rfl | rfl:x=0\/x=1:=by omega
  .rw[s0];omega
  .rw[s1];exact hlt
 have a2:∀x y,x<2->y<2->σ x=σ y->x=y:=λx y hx hy e=>by
  obtain rfl | rfl:x=0\/x=1:=by omega
  .obtain rfl | rfl:y=0\/y=1:=by omega
   .rfl
   .rw[s0,s1]at e;omega
  .obtain rfl | rfl:y=0\/y=1:=by omega
   .rw[s0,s1]at e;omega
   .rfl
 have a3:∀x∈[(0,pr t i)]++A4 eD 57 1 parts,Aa H (σ x.1)=some (BE σ x.2)/\x.1<2/\Cm 2 x.2=true:=λx hx=>by
  rcases Xz.1 hx with hx | hx
  .simp only[Xp]at hx;subst hx;refine⟨?_,by show 0<2;omega,rfl⟩;show Aa H (σ 0)=_;rw[s0,h0];rfl
  .obtain⟨hn,rfl⟩:=Fc hx;refine⟨?_,by show 1<2;omega,HH _ _ _ _⟩;show Aa H (σ 1)=_;rw[s1,HG];exact hb.resolve_left hn
 have a4:B8 2 [.ptr 0 0,rowP eD 1 parts,.t (iv lv)]=true:=by simp[B8,under,Em]
 have ea:Bn σ [.ptr 0 0,rowP eD 1 parts,.t (iv lv)]=[.ptr 0 0,rowP eD b parts,.t (iv lv)]:=by simp only[Bn,ren,Ek,s0,s1]
 cases r with
 | error e=>
  have h2:=E3.lift (show E3 _ _ _ _ _ _ _ _ from h) σ NX H a1 a2 a3 a4;rw[ea]at h2;exact h2
 | ok x=>
  obtain⟨parts',p⟩:=x;have hp':=hne _ _ rfl
  have h2:=AH.lift (show AH _ _ _ _ _ _ _ _ _ from h) σ NX H (FB t H b NX parts parts' p) a1 a2 (by omega) a3 a4 (Em _ _ _ _ (by omega))
   (λx hx=>by
    rcases Xz.1 hx with hx | hx
    .simp only[Xp]at hx;subst hx;exact⟨by show 0<3;omega,rfl⟩
    .obtain⟨_,rfl⟩:=Fc hx
     exact⟨by show 2<3;omega,HH _ _ _ _⟩)
   (λk x hk=>by
    unfold FB at hk;rw[Az]at hk;split at hk
    .rename_i e;injection hk with hk;subst hk;refine .inl ⟨2,rowOf eD 57 parts',?_,by simp[CO,<-e],by rw[HG]⟩
     exact(Ay.head' eD 57 2 parts').cons (k:=0) (by omega) |>.resolve_left hp'
    .rw[AN]at hk;split at hk
     .rename_i e;refine .inl ⟨0,pr t p,rfl,by rw[e];simp[CO,s0],?_⟩;obtain⟨_,_,rfl⟩:=AZ hk;rfl
     .rename_i hk0;refine .inr ?_
      cases parts with
      | nil=>
       refine⟨hk,λb0 x0 h0=>?_⟩;simp only[A4,Zh,Aa]at h0;split at h0
       .rename_i e;rw[<-e,s0];exact λe=>hk0 e.symm
       .cases h0
      | cons y r=>
       simp only[List.isEmpty_cons,Xk,if_false]at hk;rw[CJ]at hk;split at hk
       .cases hk
       .rename_i hkb;refine⟨hk,λb0 x0 h0=>?_⟩;simp only[A4,Xu,Xv,Aa]at h0;split at h0
        .rename_i e;rw[<-e,s0];exact λe=>hk0 e.symm
        .split at h0
         .rename_i e;rw[<-e,s1];exact λe=>hkb e.symm
         .cases h0)
  rw[ea]at h2
  have e2:ren (CO σ 2 NX) (rowP eD 2 parts')=rowP eD NX parts':=by rw[Ek];rfl
  rw[e2]at h2;exact h2
theorem TE {H:Ab} {b NX p:Nat} {parts parts':List Ds}:Ay eD 57 (FB t H b NX parts parts' p) NX parts':=.inr (by unfold FB;rw[Az,zy rfl])
theorem TF {H:Ab} {b NX p:Nat} {parts parts':List Ds} {R:Row} (h0:Aa H 0=some R) (hb:0<b) (hn:0<NX):Aa (FB t H b NX parts parts' p) 0=some (pr t p):=by
 unfold FB;rw[Az,zz (by omega),AN,zy rfl];split
 .rw[h0];rfl
 .rw[CJ,zz (by omega),h0];rfl
theorem cL {H:Ab} {b NX p k:Nat} {parts parts':List Ds} (h0:k≠0) (hb:k≠b\/parts=[]) (hn:k≠NX):Aa (FB t H b NX parts parts' p) k=Aa H k:=by
 unfold FB;rw[Az,zz (Ne.symm hn),AN,zz h0];rcases hb with hb | rfl
 .split
  .rfl
  .rw[CJ,zz hb]
 .rfl
theorem TG {H:Ab} {b NX:Nat} {parts:List Ds} {r:Res (List Ds)} (h0:0<NX):cK NX H (Ja t H b NX parts r):=by
 cases r with
 | error e=>trivial
 | ok x=>
  intro hf k y hk;unfold FB at hk;rw[Az]at hk;split at hk
  .omega
  .rw[AN]at hk;split at hk
   .omega
   .split at hk
    .have:=hf k y hk;omega
    .rw[CJ]at hk;split at hk
     .cases hk
     .have:=hf k y hk;omega
variable {q : Gl} {t : T} {l : List Tok} {i : Nat}
section
variable {α β : Type} {P : Program} {G : A2} {B : Nat}
theorem sub_rowR2 {e:Enc α} {e':Enc β} {ty ty' b c k nx nx' n:Nat} {l:List α} {l':List β} {env env':List (Nat×PV)} {H R:Ab} (h:Ay e ty H k l) (h':Ay e' ty' H c l') (hb:b<nx') (hB:B<=b) (hc:c<nx') (cb:c≠b) (ck:c≠k)
  (hR:∀q∈R,Aa H q.1=some (BE (λx=>if x=b then k else x) q.2)/\q.1<nx'/\q.1≠b/\q.1≠k/\Cm nx' q.2=true)
  (he:∀q∈env',Aa env q.1=some (ren (λx=>if x=b then k else x) q.2)/\under nx' q.2=true) :
  Sub P G B ⟨env,H,nx,n⟩ ⟨env',R++(A4 e' ty' c l'++A4 e ty b l),nx',n⟩:=by
 rw[<-Y3];refine FK h hb hB (λq hq=>?_) he;rcases Xz.1 hq with hq | hq
 .exact hR q hq
 .obtain⟨hn,rfl⟩:=Fc hq;simp only[HG,HH];exact⟨h'.resolve_left hn,hc,cb,ck,trivial⟩
theorem sub_env {nx n:Nat} {env env':List (Nat×PV)} {H:Ab} (he:∀q∈env',Aa env q.1=some q.2):Sub P G B ⟨env,H,nx,n⟩ ⟨env',H,nx,n⟩:=by
 intro L a w hi;refine⟨L,⟨hi.heap,hi.nx,hi.base,hi.size,hi.defers,λk p h=>hi.env k p (he _ (BK h))⟩,?_,λ_ _=>rfl⟩;exact⟨Xb _,λ_ _ _=>rfl,λ_ h=>h,λ_ h=>.inl h,λg ⟨b,r,h,e⟩=>.inr ⟨b,r,h,e⟩,BS.refl w,Ca.refl w⟩
theorem Ay.right {e:Enc α} {ty b:Nat} {H R:Ab} {l:List α} (h:Ay e ty H b l) (hR:∀q∈R,q.1≠b):Ay e ty (R++H) b l:=by
 induction R with
 | nil=>exact h
 | cons q R ih=>exact Ay.cons (ih λx hx=>hR x (X0 _ hx)) (hR q X6)
theorem rowH_ne {e:Enc α} {ty b c:Nat} {l:List α} (h:c≠b):∀q∈A4 e ty c l,q.1≠b:=λq hq=>by
 obtain⟨_,rfl⟩:=Fc hq;exact h
end
section
variable {L : List KT} (hL : L = l.map kt) (hlim : l.length <= 1000000) {H : Ab} {p nx : Nat} (h0 : Aa H 0 = some (pr t p)) (hnx : 0 < nx) (hp : p <= l.length)
include hL hlim h0 hp
omit h0 in
theorem TH (k:Int):HT l p [iv k]=some (CD sv (AJ L p k)):=by rw[hL];exact zy (by omega)
include hnx in
theorem QJ {k:Int} {s:ByteArray} {p':Nat} (h:AJ L p k = .ok (s,p')):hP t (HT l) [.ptr 0 0,.t (iv k)] H nx=some (.t (sv s),upd H 0 (pr t p'),nx):=
 Df (ts:=[iv k]) h0 hnx (by rw[TH hL hlim hp,h];rfl)
theorem QK {k:Int} {s:ByteArray} {p':Nat} (h:AJ L p k = .ok (s,p')):eP t (HT l) [.ptr 0 0,.t (iv k)] H nx=none:=
 Dj (ts:=[iv k]) (x:=(sv s,p')) h0 (by rw[TH hL hlim hp,h];rfl)
include hnx in
theorem QL {k e:Int} (h:AJ L p k = .error e):eP t (HT l) [.ptr 0 0,.t (iv k)] H nx=some (C7 e):=
 DP (ts:=[iv k]) h0 hnx (by rw[TH hL hlim hp,h];rfl)
omit h0 in
theorem OI (s:ByteArray) (n m:Int):Cw l p [sv s,iv n,iv m]=some (Gf (Be L p s.data.toList) n m p):=by rw[hL];exact zy (by omega)
include hnx in
theorem TI {s:ByteArray} {n m:Int} (h:Be L p s.data.toList=false):hP t (Cw l) [.ptr 0 0,.t (sv s),.t (iv n),.t (iv m)] H nx=some (.t (bv false),upd H 0 (pr t p),nx):=
 Df (ts:=[sv s,iv n,iv m]) h0 hnx (by rw[OI hL hlim hp,h];rfl)
theorem TJ {s:ByteArray} {n m:Int} (h:Be L p s.data.toList=false):eP t (Cw l) [.ptr 0 0,.t (sv s),.t (iv n),.t (iv m)] H nx=none:=
 Dj (ts:=[sv s,iv n,iv m]) (x:=(bv false,p)) h0 (by rw[OI hL hlim hp,h];rfl)
include hnx in
theorem TK {s:ByteArray} {n m:Int} (h:Be L p s.data.toList=true) (hm:¬m<=n):hP t (Cw l) [.ptr 0 0,.t (sv s),.t (iv n),.t (iv m)] H nx=some (.t (bv true),upd H 0 (pr t (p+1)),nx):=
 Df (ts:=[sv s,iv n,iv m]) h0 hnx (by rw[OI hL hlim hp,h,Gf,zy rfl,zz hm])
theorem TL {s:ByteArray} {n m:Int} (h:Be L p s.data.toList=true) (hm:¬m<=n):eP t (Cw l) [.ptr 0 0,.t (sv s),.t (iv n),.t (iv m)] H nx=none:=
 Dj (ts:=[sv s,iv n,iv m]) (x:=(bv true,p+1)) h0 (by rw[OI hL hlim hp,h,Gf,zy rfl,zz hm])
include hnx in
theorem TM {s:ByteArray} {n m:Int} (h:Be L p s.data.toList=true) (hm:m<=n):eP t (Cw l) [.ptr 0 0,.t (sv s),.t (iv n),.t (iv m)] H nx=some (C7 7):=
 DP (ts:=[sv s,iv n,iv m]) h0 hnx (by rw[OI hL hlim hp,h,Gf,zy rfl,zy hm])
omit h0 in
theorem TN (s:ByteArray):FO l p [sv s]=some (skR (B6 L p s.data.toList)):=by rw[hL];exact zy (by omega)
include hnx in
theorem yW {s:ByteArray} {p':Nat} (h:B6 L p s.data.toList = .ok p'):hP t (FO l) [.ptr 0 0,.t (sv s)] H nx=some (.t (.tu []),upd H 0 (pr t p'),nx):=
 Df (ts:=[sv s]) h0 hnx (by rw[TN hL hlim hp,h];rfl)
theorem yX {s:ByteArray} {p':Nat} (h:B6 L p s.data.toList = .ok p'):eP t (FO l) [.ptr 0 0,.t (sv s)] H nx=none:=
 Dj (ts:=[sv s]) (x:=(.tu [],p')) h0 (by rw[TN hL hlim hp,h];rfl)
include hnx in
theorem yY {s:ByteArray} {e:Int} (h:B6 L p s.data.toList = .error e):eP t (FO l) [.ptr 0 0,.t (sv s)] H nx=some (C7 e):=
 DP (ts:=[sv s]) h0 hnx (by rw[TN hL hlim hp,h];rfl)
omit hlim h0 in
theorem TO (n:Nat):Dt l n p [iv (65-(n:Int))]=some (CD dT (AA L n p)):=by rw[QI hp,hL]
omit hlim in
include hnx in
theorem yZ {n:Nat} {d:Ds} {p':Nat} (h:AA L n p = .ok (d,p')):hP t (Dt l n) [.ptr 0 0,.t (iv (65-(n:Int)))] H nx=some (.t (dT d),upd H 0 (pr t p'),nx):=
 Df (ts:=[iv (65-(n:Int))]) h0 hnx (by rw[TO hL hp,h];rfl)
omit hlim in
theorem z7 {n:Nat} {d:Ds} {p':Nat} (h:AA L n p = .ok (d,p')):eP t (Dt l n) [.ptr 0 0,.t (iv (65-(n:Int)))] H nx=none:=
 Dj (ts:=[iv (65-(n:Int))]) (x:=(dT d,p')) h0 (by rw[TO hL hp,h];rfl)
omit hlim in
include hnx in
theorem z8 {n:Nat} {e:Int} (h:AA L n p = .error e):eP t (Dt l n) [.ptr 0 0,.t (iv (65-(n:Int)))] H nx=some (C7 e):=
 DP (ts:=[iv (65-(n:Int))]) h0 hnx (by rw[TO hL hp,h];rfl)
end
section
variable (a b c d : PV) (H : Ab)
theorem bsS (s:ByteArray) (k:Nat):EE 9 1 [.string ⟨#[]⟩] 1 [(0,.t (sv s))] k=some (.row k 0 1 1,.cells 9 [.t (sv s)]):=rfl
theorem bsA (k:Nat):EE 57 4 [.int .i64 0,.string ⟨#[]⟩,.slice none 0 0,.slice none 0 0] 1 [(0,.ag [a,b,c,d])] k=some (.row k 0 1 4,.cells 57 [a,b,c,d]):=rfl
theorem bdP {Φ:A7} {nx k:Nat} {path:List ByteArray} (h:path≠[]):Ai Φ H nx (.build [(0,1),(1,1),(2,1),(3,1)] [.int .i64 0,.string ⟨#[]⟩,.slice none 0 0,.slice none 0 0] [0,2,3]) [.t (iv 5),rowP Ak 3 path,.row k 0 1 4] =
  some (.ag [.t (iv 5),.t (sv ⟨#[]⟩),rowP Ak 3 path,.row k 0 1 4],H,nx):=by
 cases path with
 | nil=>exact absurd rfl h
 | cons x r=>rfl
end
variable {q : Gl}
abbrev Dd (op:Int) (name:ByteArray) (tp tk:T):Row:=.cells 57 [.t (iv op),.t (sv name),.t tp,.t tk]
theorem HU (op:Int) (name:ByteArray) (tp tk:T):Bj (.t (.ag [iv op,sv name,tp,tk]))=some [.t (iv op),.t (sv name),.t tp,.t tk]:=rfl
section
variable (H R : Ab) (op : Int) (name : ByteArray) (tp tk : T)
theorem dl0:Aj false 1 ((0,Dd op name tp tk)::R) (.ptr 0 0)=some (.t (iv op)):=rfl
theorem dl1:Aj false 1 ((0,Dd op name tp tk)::R) (.ptr 0 1)=some (.t (sv name)):=rfl
theorem dl2:Aj false 1 ((0,Dd op name tp tk)::R) (.ptr 0 2)=some (.t tp):=rfl
theorem dl3:Aj false 1 ((0,Dd op name tp tk)::R) (.ptr 0 3)=some (.t tk):=rfl
theorem dl4:Aj true 4 ((0,Dd op name tp tk)::R) (.ptr 0 0)=some (.t (.ag [iv op,sv name,tp,tk])):=rfl
end
theorem lh1 (H:Ab) (a:T) (r:List T):Aj false 1 H (.t (.pt (a::r)))=some (.t a):=rfl
theorem zA {tp:T} {path:List ByteArray} (h:IsS Ak tp path) {i:Nat} {s:ByteArray} (hx:path[i]?=some s):∃r,Bd 1 (.t tp) (.t (.v (.int .i64 (i:Int))))=some (.t (.pt (sv s::r))):=⟨_,h.iaddr hx .i64⟩
theorem OJ {tk:T} {kids:List Ds} (h:IsK tk kids) {i:Nat} {x:Ds} (hx:kids[i]?=some x):∃p c,Bd 4 (.t tk) (.t (.v (.int .i64 (i:Int))))=some (.t (.pt p))/\(∀H,Aj true 4 H (.t (.pt p))=some (.t (.ag c)))/\BG x c:=by
 obtain⟨ci,r,h1,h2⟩:=h.iaddr hx .i64;refine⟨_,ci,h1,λH=>?_,h2⟩;have:=h2.len;simp only[Aj,Xh,this,if_true];rw[zy (by omega),show(4:Nat)=ci.length by omega,List.take_left]
def JZ (n:Nat) (t u:T) (j:Nat):Ad:=⟨[(5,.t (iv (j:Int))),(1,.t u),(0,.t t)],[],0,n⟩
def Kb (n:Nat) (t u:T):Ad:=⟨[(1,.t u),(0,.t t)],[],0,n⟩
theorem AL:Ctx Xa (G q) (orc []):=As.nil.ctx mixed
theorem zB {t u:T} {l:List ByteArray} (ht:IsS Ak t l) (hu:IsS Ak u l) (hb:l.length<=9223372036854775806):A1 Xa (G q) 20 [t,u] (· = bv true):=by
 refine rO.call rfl ?_;(conv in XR=>cbv);have l1:=ht.len;have l2:=hu.len;refine Av AL ?_;simp -implicitDefEqProofs;refine Av AL ?_;simp -implicitDefEqProofs [l1,l2];refine BF (α:=Unit) (λ_=>Kb 26 t u) (λ_=>True) (λ_=>rfl) ?_ ?_
 .refine Av AL ?_;simp -implicitDefEqProofs;refine BD ?_;refine Gv (JZ 26 t u) l.length (λ_=>rfl) ?_ rfl ?_ ?_
  .refine AQ rfl rfl ?_ ?_<;>simp -implicitDefEqProofs [JZ]
  .intro j hj;refine Ap AL ?_
   obtain⟨x,hx⟩:∃x,l[j]?=some x:=⟨_,Xf hj⟩
   have i1:Bd 1 (.t t) (.t (iv (j:Int)))=some (.t (.pt (Ak.enc x++AU Ak l j))):=ht.iaddr hx .i64;have i2:Bd 1 (.t u) (.t (iv (j:Int)))=some (.t (.pt (Ak.enc x++AU Ak l j))):=hu.iaddr hx .i64;have ld:Aj false 1 [] (.t (.pt (Ak.enc x++AU Ak l j)))=some (.t (sv x)):=rfl;have e1:Xc.wrap ((j:Int)+1)=((j+1:Nat):Int):=AP (by omega) (by omega);simp -implicitDefEqProofs [JZ,l1,hj,i1,i2,ld,e1];refine AQ rfl rfl ?_ ?_<;>simp -implicitDefEqProofs
  .refine Ap AL ?_;simp -implicitDefEqProofs [JZ,l1];exact Am.mk () trivial (AQ rfl rfl (by simp -implicitDefEqProofs [Kb]) (by simp -implicitDefEqProofs [Kb]))
 .rintro _ _;refine Ap AL ?_;simp -implicitDefEqProofs [Kb]
noncomputable def Kc (ts:List T):Option T:=g2 (tSl Ak) (tSl Ak) (λa b=>open Classical in if a=b/\a.length<=9223372036854775806 then some (bv true)else none) ts
theorem OK:GOK Xa (G q) 20 Kc:=
 Do λa b x y r ha hb hr=>by
  split at hr
  .rename_i hc;obtain⟨rfl,hl⟩:=hc;injection hr with hr;subst hr;exact zB ha hb hl
  .cases hr
theorem Lw {t u:T} {l:List ByteArray} (ht:IsS Ak t l) (hu:IsS Ak u l) (hl:l.length<=9223372036854775806):Kc [t,u]=some (bv true):=by
 show g2 _ _ _ _=_;rw[Dz (τ:=tSl Ak) (σ:=tSl Ak) ht hu,zy ⟨rfl,hl⟩]
def eR (z:Nat) (h:0<z):Enc (RwC z):=⟨z,Subtype.val,Subtype.property,h,λ_ _ h=>Subtype.ext h⟩
abbrev eR6:Enc (RwC 6):=eR 6 (by omega)
abbrev eR3:Enc (RwC 3):=eR 3 (by omega)
abbrev eR7:Enc (RwC 7):=eR 7 (by omega)
abbrev eR8:Enc (RwC 8):=eR 8 (by omega)
abbrev eR1:Enc (RwC 1):=eR 1 (by omega)
def rwD (d:Dfn):RwC 6:=⟨d.cs,d.len⟩
def rwT (x:TyD):RwC 3:=⟨x.cs,rfl⟩
def rwE (p:List ByteArray×Dfn):RwC 7:=⟨Aq Ak p.1::p.2.cs,by rw[Xw,p.2.len]⟩
def rwL (p:Afx×Dfn):RwC 8:=⟨p.1.cs++p.2.cs,by rw[Xh,p.2.len];rfl⟩
def rwK (p:List ByteArray):RwC 1:=⟨[Aq Ak p],rfl⟩
def rwS (s:ByteArray):RwC 1:=⟨[sv s],rfl⟩
theorem cM {α β:Type} (e:Enc α) (e':Enc β) (f:α->β) (h:∀x,e'.enc (f x)=e.enc x) (l:List α):Aq e' (l.map f)=Aq e l:=by
 cases l with
 | nil=>rfl
 | cons x r=>
  simp only[Aq,Xd,slT,Xw,Xl,Zf,List.flatMap_map,h]
def IsL {α:Type} (z:Nat) (h:0<z) (R:α->List T->Prop) (t:T) (l:List α):Prop:=∃L:List (α×RwC z),L.map (·.1)=l/\IsS (eR z h) t (L.map (·.2))/\∀p∈L,R p.1 p.2.1
section
variable {α : Type} {z : Nat} {h : 0 < z} {R : α -> List T -> Prop} {t : T} {l : List α}
theorem IsL.len (H:IsL z h R t l):AO (.t t)=some (.t (iv (l.length:Int))):=by
 obtain⟨L,rfl,h1,_⟩:=H;rw[h1.len,Xl,Xl]
theorem IsL.iaddr (H:IsL z h R t l) {j:Nat} {x:α} (hx:l[j]?=some x):∃c r,Bd z (.t t) (.t (iv (j:Int)))=some (.t (.pt (c++r)))/\R x c/\c.length=z:=by
 obtain⟨L,rfl,h1,h2⟩:=H;rw[Xj]at hx;obtain⟨p,hp,rfl⟩:=Xm.1 hx
 have h3:(L.map (·.2))[j]?=some p.2:=by rw[Xj,hp];rfl
 exact⟨p.2.1,_,h1.iaddr h3 .i64,h2 p (Yh hp),p.2.2⟩
theorem IsL.map (f:α->RwC z) (l:List α) (hf:∀x∈l,R x (f x).1):IsL z h R (Aq (eR z h) (l.map f)) l:=by
 refine⟨l.map λx=>(x,f x),by rw[Xo];exact List.map_id' l,by rw[Xo];exact IsS.tree (eR z h) (l.map f),λp hp=>?_⟩;obtain⟨x,hx,rfl⟩:=Zi.1 hp;exact hf x hx
theorem IsL.uniq (hu:∀a b c,R a c->R b c->a=b) {t:T} {l m:List α} (H:IsL z h R t l) (H':IsL z h R t m):l=m:=by
 obtain⟨L,rfl,h1,h2⟩:=H;obtain⟨L',rfl,h1',h2'⟩:=H';have he:=(tSl (eR z h)).uniq _ _ _ h1 h1';clear h1 h1'
 induction L generalizing L' with
 | nil=>
  cases L' with
  | nil=>rfl
  | cons _ _=>simp at he
 | cons p L ih=>
  cases L' with
  | nil=>simp at he
  | cons p' L'=>
   simp only[Xd,Xr.injEq]at he ⊢;refine⟨hu _ _ _ (h2 p X6) (he.1▸h2' p' X6),ih (λq hq=>h2 q (X0 _ hq)) L' (λq hq=>h2' q (X0 _ hq)) he.2⟩
end
def Dk (d:Dfn) (c:List T):Prop:=∃cd tk,c=sv d.name::(cd++[tk])/\BG d.strict cd/\IsK tk d.defaults
def FP (x:TyD) (c:List T):Prop:=∃ts tf,c=[sv x.name,ts,tf]/\IsS Ak ts x.supers/\IsS eFt tf x.feats
def EN (a:Afx) (c:List T):Prop:=∃t,c=[iv a.kind,t]/\IsS eFt t a.pairs
def G3 (p:List ByteArray×Dfn) (c:List T):Prop:=∃t cd,c=t::cd/\IsS Ak t p.1/\Dk p.2 cd
def G4 (p:Afx×Dfn) (c:List T):Prop:=∃ca cd,c=ca++cd/\EN p.1 ca/\Dk p.2 cd
def Kd (p:List ByteArray) (c:List T):Prop:=∃t,c=[t]/\IsS Ak t p
theorem Dk.six {d:Dfn} {c:List T} (h:Dk d c):∃a1 a2 a3 a4 tk,c=[sv d.name,a1,a2,a3,a4,tk]/\BG d.strict [a1,a2,a3,a4]/\IsK tk d.defaults:=by
 obtain⟨cd,tk,rfl,h1,h2⟩:=h;have hl:=h1.len
 match cd,hl with
 | [a1,a2,a3,a4],_=>exact⟨a1,a2,a3,a4,tk,rfl,h1,h2⟩
theorem Dk.uniq (a b:Dfn) (c:List T) (h:Dk a c) (h':Dk b c):a=b:=by
 obtain⟨a1,a2,a3,a4,tk,rfl,h1,h2⟩:=h.six;obtain⟨b1,b2,b3,b4,tk',e,h1',h2'⟩:=h'.six;simp only[Xr.injEq,and_true]at e;obtain⟨e0,rfl,rfl,rfl,rfl,rfl⟩:=e;have e1:=BG.uniq _ _ _ h1 h1';have e2:=tK.uniq _ _ _ h2 h2';injection e0 with e0;injection e0 with e0;obtain⟨an,a2,ad⟩:=a;obtain⟨bn,b2,bd⟩:=b;simp only at e0 e1 e2;rw[e0,e1,e2]
theorem FP.uniq (a b:TyD) (c:List T) (h:FP a c) (h':FP b c):a=b:=by
 obtain⟨ts,tf,rfl,h1,h2⟩:=h;obtain⟨ts',tf',e,h1',h2'⟩:=h';simp only[Xr.injEq,and_true]at e;obtain⟨e0,rfl,rfl⟩:=e;have e1:=(tSl Ak).uniq _ _ _ h1 h1';have e2:=(tSl eFt).uniq _ _ _ h2 h2';injection e0 with e0;injection e0 with e0;obtain⟨an,a2,ad⟩:=a;obtain⟨bn,b2,bd⟩:=b;simp only at e0 e1 e2;rw[e0,e1,e2]
theorem EN.uniq (a b:Afx) (c:List T) (h:EN a c) (h':EN b c):a=b:=by
 obtain⟨t,rfl,h1⟩:=h;obtain⟨t',e,h1'⟩:=h';simp only[Xr.injEq,and_true]at e;obtain⟨e0,rfl⟩:=e;have e1:=(tSl eFt).uniq _ _ _ h1 h1';injection e0 with e0;injection e0 with _ e0;obtain⟨ak,ap⟩:=a;obtain⟨bk,bp⟩:=b;simp only at e0 e1;rw[e0,e1]
theorem G3.uniq (a b:List ByteArray×Dfn) (c:List T) (h:G3 a c) (h':G3 b c):a=b:=by
 obtain⟨t,cd,rfl,h1,h2⟩:=h;obtain⟨t',cd',e,h1',h2'⟩:=h';simp only[Xr.injEq]at e;obtain⟨rfl,rfl⟩:=e;exact Prod.ext ((tSl Ak).uniq _ _ _ h1 h1') (Dk.uniq _ _ _ h2 h2')
theorem G4.uniq (a b:Afx×Dfn) (c:List T) (h:G4 a c) (h':G4 b c):a=b:=by
 obtain⟨ca,cd,rfl,h1,h2⟩:=h;obtain⟨ca',cd',e,h1',h2'⟩:=h'
 have hl:ca.length=ca'.length:=by
  obtain⟨_,rfl,_⟩:=h1;obtain⟨_,rfl,_⟩:=h1';rfl
 obtain⟨rfl,rfl⟩:=List.append_inj e hl;exact Prod.ext (EN.uniq _ _ _ h1 h1') (Dk.uniq _ _ _ h2 h2')
theorem Kd.uniq (a b:List ByteArray) (c:List T) (h:Kd a c) (h':Kd b c):a=b:=by
 obtain⟨t,rfl,h1⟩:=h;obtain⟨t',e,h1'⟩:=h';simp only[Xr.injEq,and_true]at e;subst e;exact(tSl Ak).uniq _ _ _ h1 h1'
theorem Dk.cs (d:Dfn):Dk d d.cs:=⟨_,_,rfl,BG.enc d.strict,IsK.tree d.defaults⟩
theorem FP.cs (x:TyD):FP x x.cs:=⟨_,_,rfl,IsS.tree Ak x.supers,IsS.tree eFt x.feats⟩
theorem EN.cs (a:Afx):EN a a.cs:=⟨_,rfl,IsS.tree eFt a.pairs⟩
theorem G3.cs (p:List ByteArray×Dfn):G3 p (rwE p).1:=⟨_,_,rfl,IsS.tree Ak p.1,Dk.cs p.2⟩
theorem G4.cs (p:Afx×Dfn):G4 p (rwL p).1:=⟨_,_,rfl,EN.cs p.1,Dk.cs p.2⟩
theorem Kd.cs (p:List ByteArray):Kd p (rwK p).1:=⟨_,rfl,IsS.tree Ak p⟩
def tDf:Ty Dfn:=⟨λt d=>∃c,t = .ag c/\Dk d c,λt a b ⟨c,e,h⟩ ⟨c',e',h'⟩=>by
 rw[e]at e';injection e' with e';subst e';exact Dk.uniq a b c h h'⟩
def tTy:Ty TyD:=⟨λt d=>∃c,t = .ag c/\FP d c,λt a b ⟨c,e,h⟩ ⟨c',e',h'⟩=>by
 rw[e]at e';injection e' with e';subst e';exact FP.uniq a b c h h'⟩
def tAf:Ty Afx:=⟨λt d=>∃c,t = .ag c/\EN d c,λt a b ⟨c,e,h⟩ ⟨c',e',h'⟩=>by
 rw[e]at e';injection e' with e';subst e';exact EN.uniq a b c h h'⟩
def tEn:Ty (List ByteArray×Dfn):=⟨λt d=>∃c,t = .ag c/\G3 d c,λt a b ⟨c,e,h⟩ ⟨c',e',h'⟩=>by
 rw[e]at e';injection e' with e';subst e';exact G3.uniq a b c h h'⟩
def tLx:Ty (Afx×Dfn):=⟨λt d=>∃c,t = .ag c/\G4 d c,λt a b ⟨c,e,h⟩ ⟨c',e',h'⟩=>by
 rw[e]at e';injection e' with e';subst e';exact G4.uniq a b c h h'⟩
abbrev Jb:=IsL 6 (by omega) Dk
abbrev Lx:=IsL 3 (by omega) FP
abbrev zC:=IsL 7 (by omega) G3
abbrev zF:=IsL 8 (by omega) G4
abbrev zG:=IsL 1 (by omega) Kd
structure ML where
 name:ByteArray
 imps:List ByteArray
 typs:List TyD
 tmps:List Dfn
 ents:List (List ByteArray×Dfn)
 lexs:List (Afx×Dfn)
 ruls:List Dfn
 roos:List Dfn
 chks:List (List ByteArray)
 drps:List ByteArray
structure zH (m:ML) (c:List T) (t0 t1 t2 t3 t4 t5 t6 t7 t8:T):Prop where
 c:c=[sv m.name,t0,t1,t2,t3,t4,t5,t6,t7,t8]
 h0:IsS Ak t0 m.imps
 h1:Lx t1 m.typs
 h2:Jb t2 m.tmps
 h3:zC t3 m.ents
 h4:zF t4 m.lexs
 h5:Jb t5 m.ruls
 h6:Jb t6 m.roos
 h7:zG t7 m.chks
 h8:IsS Ak t8 m.drps
def Cn (m:ML) (c:List T):Prop:=∃t0 t1 t2 t3 t4 t5 t6 t7 t8,zH m c t0 t1 t2 t3 t4 t5 t6 t7 t8
theorem Cn.uniq (a b:ML) (c:List T) (h:Cn a c) (h':Cn b c):a=b:=by
 obtain⟨t0,t1,t2,t3,t4,t5,t6,t7,t8,⟨rfl,k0,k1,k2,k3,k4,k5,k6,k7,k8⟩⟩:=h;obtain⟨s0,s1,s2,s3,s4,s5,s6,s7,s8,⟨e,j0,j1,j2,j3,j4,j5,j6,j7,j8⟩⟩:=h';simp only[Xr.injEq,and_true]at e;obtain⟨e,rfl,rfl,rfl,rfl,rfl,rfl,rfl,rfl,rfl⟩:=e;injection e with e;injection e with e;have e0:=(tSl Ak).uniq _ _ _ k0 j0;have e1:=IsL.uniq FP.uniq k1 j1;have e2:=IsL.uniq Dk.uniq k2 j2;have e3:=IsL.uniq G3.uniq k3 j3;have e4:=IsL.uniq G4.uniq k4 j4;have e5:=IsL.uniq Dk.uniq k5 j5;have e6:=IsL.uniq Dk.uniq k6 j6;have e7:=IsL.uniq Kd.uniq k7 j7;have e8:=(tSl Ak).uniq _ _ _ k8 j8;obtain⟨n,a0,a1,a2,a3,a4,a5,a6,a7,a8⟩:=a;obtain⟨n',b0,b1,b2,b3,b4,b5,b6,b7,b8⟩:=b;simp only at e e0 e1 e2 e3 e4 e5 e6 e7 e8;rw[e,e0,e1,e2,e3,e4,e5,e6,e7,e8]
def tMl:Ty ML:=⟨λt d=>∃c,t = .ag c/\Cn d c,λt a b ⟨c,e,h⟩ ⟨c',e',h'⟩=>by
 rw[e]at e';injection e' with e';subst e';exact Cn.uniq a b c h h'⟩
abbrev DD:=IsL 10 (by omega) Cn
def El.i?:El->Option ByteArray | .imp s=>some s | _=>none
def El.t?:El->Option TyD | .typ s=>some s | _=>none
def El.m?:El->Option Dfn | .tmp s=>some s | _=>none
def El.e?:El->Option (List ByteArray×Dfn) | .ent w s=>some (w,s) | _=>none
def El.l?:El->Option (Afx×Dfn) | .lex w s=>some (w,s) | _=>none
def El.r?:El->Option Dfn | .rul s=>some s | _=>none
def El.o?:El->Option Dfn | .roo s=>some s | _=>none
def El.c?:El->Option (List ByteArray) | .chk s=>some s | _=>none
def El.d?:El->Option ByteArray | .drp s=>some s | _=>none
def Md.ml (m:Md):ML:=⟨m.name,m.els.filterMap El.i?,m.els.filterMap El.t?,m.els.filterMap El.m?,m.els.filterMap El.e?,m.els.filterMap El.l?,m.els.filterMap El.r?,m.els.filterMap El.o?,m.els.filterMap El.c?,m.els.filterMap El.d?⟩
theorem Jc {α:Type} (j:Nat) (g:El->Option α) (f:α->RwC (zE j)) (hg:∀x,QB j x=(g x).map f) (els:List El):AW j els=(els.filterMap g).map f:=by
 unfold AW;rw[List.map_filterMap];congr 1;funext x;exact hg x
def ML.cs (m:ML):List T:=[sv m.name,Aq Ak m.imps,Aq eR3 (m.typs.map rwT),Aq eR6 (m.tmps.map rwD),Aq eR7 (m.ents.map rwE),Aq eR8 (m.lexs.map rwL),Aq eR6 (m.ruls.map rwD),Aq eR6 (m.roos.map rwD),Aq eR1 (m.chks.map rwK),Aq Ak m.drps]
theorem Md.cs_ml (m:Md):m.cs=m.ml.cs:=by
 have e0:Aq (eRw 0) (AW 0 m.els)=Aq Ak m.ml.imps:=by
  rw[Jc 0 El.i? rwS (λx=>by cases x<;>rfl)];exact cM Ak (eRw 0) rwS (λ_=>rfl) _
 have e1:Aq (eRw 1) (AW 1 m.els)=Aq eR3 (m.ml.typs.map rwT):=by
  rw[Jc 1 El.t? rwT (λx=>by cases x<;>rfl)];rfl
 have e2:Aq (eRw 2) (AW 2 m.els)=Aq eR6 (m.ml.tmps.map rwD):=by
  rw[Jc 2 El.m? rwD (λx=>by cases x<;>rfl)];rfl
 have e3:Aq (eRw 3) (AW 3 m.els)=Aq eR7 (m.ml.ents.map rwE):=by
  rw[Jc 3 El.e? rwE (λx=>by cases x<;>rfl)];rfl
 have e4:Aq (eRw 4) (AW 4 m.els)=Aq eR8 (m.ml.lexs.map rwL):=by
  rw[Jc 4 El.l? rwL (λx=>by cases x<;>rfl)];rfl
 have e5:Aq (eRw 5) (AW 5 m.els)=Aq eR6 (m.ml.ruls.map rwD):=by
  rw[Jc 5 El.r? rwD (λx=>by cases x<;>rfl)];rfl
 have e6:Aq (eRw 6) (AW 6 m.els)=Aq eR6 (m.ml.roos.map rwD):=by
  rw[Jc 6 El.o? rwD (λx=>by cases x<;>rfl)];rfl
 have e7:Aq (eRw 7) (AW 7 m.els)=Aq eR1 (m.ml.chks.map rwK):=by
  rw[Jc 7 El.c? rwK (λx=>by cases x<;>rfl)];rfl
 have e8:Aq (eRw 8) (AW 8 m.els)=Aq Ak m.ml.drps:=by
  rw[Jc 8 El.d? rwS (λx=>by cases x<;>rfl)];exact cM Ak (eRw 8) rwS (λ_=>rfl) _
 unfold Md.cs mdC ML.cs;show [_,Aq (eRw 0) (AW 0 m.els),Aq (eRw 1) (AW 1 m.els),Aq (eRw 2) (AW 2 m.els),Aq (eRw 3) (AW 3 m.els),Aq (eRw 4) (AW 4 m.els),Aq (eRw 5) (AW 5 m.els),Aq (eRw 6) (AW 6 m.els),Aq (eRw 7) (AW 7 m.els),Aq (eRw 8) (AW 8 m.els)]=_;rw[e0,e1,e2,e3,e4,e5,e6,e7,e8];rfl
theorem Cn.cs (m:ML):Cn m m.cs:=⟨_,_,_,_,_,_,_,_,_,⟨rfl,IsS.tree Ak _,IsL.map rwT _ λx _=>FP.cs x,IsL.map rwD _ λx _=>Dk.cs x,IsL.map rwE _ λx _=>G3.cs x,IsL.map rwL _ λx _=>G4.cs x,IsL.map rwD _ λx _=>Dk.cs x,IsL.map rwD _ λx _=>Dk.cs x,IsL.map rwK _ λx _=>Kd.cs x,IsS.tree Ak _⟩⟩
theorem Cn.md (m:Md):Cn m.ml m.cs:=by rw[m.cs_ml];exact Cn.cs m.ml
theorem DD.mds (l:List Md):DD (Cb l) (l.map Md.ml):=⟨l.map λm=>(m.ml,m.rw),by simp,by unfold Cb;rw[Xo];exact IsS.tree eMd (l.map Md.rw),λp hp=>by
 obtain⟨x,hx,rfl⟩:=Zi.1 hp
 exact Cn.md x⟩
theorem eq2 (a b:ByteArray):Ex [.s,.s] [sv a,sv b] [sv a,sv b]=some true:=by
 simp[Ex]
def SSa (H:Ab) (nx n j:Nat) (c:Nat):Ad:=⟨[(j,.t (iv (c:Int))),(3,.ptr 1 0),(2,.ptr 0 0)],H,nx,n⟩
theorem zI {a:Afx} {c c':List T} (hca:EN a c) (hcb:EN a c') (hl:a.pairs.length<=1000000):A1 Xa (G q) 13 [.ag c,.ag c'] (· = bv true):=by
 obtain⟨E,rfl,hf⟩:=hca;obtain⟨E',rfl,hf'⟩:=hcb;have l2:AO (.t E)=some (.t (iv (a.pairs.length:Int))):=hf.len;have l2':AO (.t E')=some (.t (iv (a.pairs.length:Int))):=hf'.len;have hc:Bj (.t (.ag [iv a.kind,E]))=some [.t (iv a.kind),.t E]:=rfl;have hc':Bj (.t (.ag [iv a.kind,E']))=some [.t (iv a.kind),.t E']:=rfl
 obtain⟨H,hH⟩:∃H:Ab,H=[(1,.cells 29 [.t (iv a.kind),.t E']),(0,.cells 29 [.t (iv a.kind),.t E])]:=⟨_,rfl⟩
 have q0:Aj false 1 H (.ptr 0 0)=some (.t (iv a.kind)):=by rw[hH];rfl
 have q1:Aj false 1 H (.ptr 0 1)=some (.t E):=by rw[hH];rfl
 have q2:Aj false 1 H (.ptr 1 0)=some (.t (iv a.kind)):=by rw[hH];rfl
 have q3:Aj false 1 H (.ptr 1 1)=some (.t E'):=by rw[hH];rfl
 have ldp:∀(x y:T) (r:List T),Aj true 2 H (.t (.pt (x::y::r)))=some (.t (.ag [x,y])):=λx y r=>rfl;refine uH.call rfl ?_;(conv in aB=>cbv);refine Av AL ?_;simp -implicitDefEqProofs [hc,hc'];refine MC.sub (s':=⟨[(3,.ptr 1 0),(2,.ptr 0 0)],H,2,38⟩) (by rw[hH];exact sub_env (by simp -implicitDefEqProofs)) rfl ?_;refine Av AL ?_;simp -implicitDefEqProofs [q0,q1,q2,q3,l2,l2'];refine BF (α:=Unit) (λ_=>⟨[(3,.ptr 1 0),(2,.ptr 0 0)],H,2,38⟩) (λ_=>True) (λ_=>rfl) ?_ ?_
 .refine Av AL ?_;simp -implicitDefEqProofs;refine BD ?_;refine Gv (SSa H 2 38 5) a.pairs.length (λ_=>rfl) ?_ rfl ?_ ?_
  .exact sub_env (by simp -implicitDefEqProofs [SSa])
  .intro k hk
   obtain⟨y,hy⟩:∃y,a.pairs[k]?=some y:=⟨_,Xf hk⟩
   have i2:Bd 2 (.t E) (.t (iv (k:Int)))=some (.t (.pt (sv y.1::sv y.2::AU eFt a.pairs k))):=hf.iaddr hy .i64;have i2':Bd 2 (.t E') (.t (iv (k:Int)))=some (.t (.pt (sv y.1::sv y.2::AU eFt a.pairs k))):=hf'.iaddr hy .i64;have e2:Xc.wrap ((k:Int)+1)=((k+1:Nat):Int):=AP (by omega) (by omega);refine Ap AL ?_;simp -implicitDefEqProofs [SSa,q1,q3,l2,hk,i2,i2',ldp,eq2,e2];exact sub_env (by simp -implicitDefEqProofs)
  .refine Ap AL ?_;simp -implicitDefEqProofs [SSa,q1,l2];exact Am.mk () trivial (sub_env (by simp -implicitDefEqProofs))
 .rintro _ _;refine Ap AL ?_;simp -implicitDefEqProofs
noncomputable def OL (ts:List T):Option T:=g2 tAf tAf (λa b=>open Classical in if a=b/\a.pairs.length<=1000000 then some (bv true)else none) ts
theorem TP {a:Afx} {c c':List T} (h:EN a c) (h':EN a c') (hl:a.pairs.length<=1000000):OL [.ag c,.ag c']=some (bv true):=by
 show g2 _ _ _ _=_;rw[Dz (τ:=tAf) (σ:=tAf) ⟨c,rfl,h⟩ ⟨c',rfl,h'⟩,zy ⟨rfl,hl⟩]
theorem cN:GOK Xa (G q) 13 OL:=Do λa b x y r ha hb hr=>by
 split at hr
 .rename_i hc;obtain⟨rfl,h1⟩:=hc;injection hr with hr;subst hr;obtain⟨c,rfl,hcx⟩:=ha;obtain⟨c',rfl,hcx'⟩:=hb;exact zI hcx hcx' h1
 .cases hr
end Go.Proofs.YtobnacghaamfoaaGreatDoor
