/- Auxiliary facts. -/
import Derived.Test.YtobnacghaamfoaaGreatDoorVHQ10
import Derived.Test.YtobnacghaamfoaaGreatDoorVHQ09
import Derived.Test.YtobnacghaamfoaaGreatDoorVHQ11
set_option linter.unusedSimpArgs false
set_option maxRecDepth 100000
set_option maxHeartbeats 0
set_option linter.unusedVariables false
open Go.Proofs.Tryz renaming prog->Xa,func129->Xj
open Bool renaming and_false->Xb,and_eq_true->Xe
open List renaming getElem?_eq_some_iff->Xc,getElem?_eq_getElem->Xd,all_eq_true->Xf,getElem_of_mem->Xg,mem_of_getElem?->Xl
open Nat renaming zero_le->Xh,lt_of_lt_of_le->Xk
open Array renaming getElem?_push_lt->Xi
namespace Go.Proofs.YtobnacghaamfoaaGreatDoor
open Go Go.Abs Go.RowKit
abbrev bs (l:List UInt8):ByteArray:=⟨l.toArray⟩
theorem GZ (s:ByteArray):bs s.data.toList=s:=by cases s;simp[bs]
section
variable {q : Gl}
theorem Nr {w w':World} (h:w'=w):Below w.heap.size w w':=by subst h;exact Below.refl _ _
theorem rT (w:World) (e:TypeId) (t:ByteArray):Below w.heap.size w (Lib.bytesWorld w e t):=by
 unfold Lib.bytesWorld World.freeze;rw[zz (by decide)];have e:∀o,(w.drew.alloc o).heap=w.heap.push o:=λ_=>rfl;refine⟨rfl,rfl,rfl,?_,λj hj=>?_⟩
 .simp only[Array.size_modify,e,Array.size_push];omega
 .simp only[e];rw[Array.getElem?_modify,zz (by omega),Xi hj];simp[hj]
noncomputable def LJ:List T->Option T:=g2 BX BX λs p=>some (bv (Lib.hasPrefix s.data.toList p.data.toList))
theorem rU:GOK Xa (G q) 114 LJ:=DY λa b s p r ha hb hr=>by
 have e1:a = .v (.string s):=ha;have e2:b = .v (.string p):=hb;subst e1;subst e2;injection hr with hr;subst hr
 exact AA.lib (vs:=[.string s,.string p]) ⟨_,(Tryz.f114.body).get!,Tryz.func114,by kernel_rfl,by kernel_rfl⟩ λI w _=>(Tryz.strings_HasPrefix s p w).mono λe w' h=>⟨h.1,Nr h.2⟩
noncomputable def Ph:List T->Option T:=g2 BX BX λs p=>some (sv (bs (Lib.trimPrefix s.data.toList p.data.toList)))
theorem rV:GOK Xa (G q) 127 Ph:=DY λa b s p r ha hb hr=>by
 have e1:a = .v (.string s):=ha;have e2:b = .v (.string p):=hb;subst e1;subst e2;injection hr with hr;subst hr
 exact AA.lib (vs:=[.string s,.string p]) ⟨_,(Tryz.f127.body).get!,Tryz.func127,by kernel_rfl,by kernel_rfl⟩ λI w _=>(Tryz.strings_TrimPrefix s p w).mono λe w' h=>⟨h.1,Nr h.2⟩
def Ns:List T->Option T
 | [.v (.string s),.v (.int .u8 c)]=>some (iv (Lib.indexByte s.data.toList c.toNat.toUInt8))
 | _=>none
theorem rW:GOK Xa (G q) 115 Ns:=λargs r hr=>by
 unfold Ns at hr;split at hr
 .rename_i s c;injection hr with hr;subst hr
  exact AA.lib (vs:=[.string s,.int .u8 c]) ⟨_,(Tryz.f115.body).get!,Tryz.func115,by kernel_rfl,by kernel_rfl⟩ λI w _=>(Tryz.strings_IndexByte s c w).mono λe w' h=>⟨h.1,Nr h.2⟩
 .cases hr
noncomputable def Pi:List T->Option T:=g2 BX BX λs c=>if s.size<=9223372036854775807/\c.size<100/\c.data.toList.all (λb=>decide (b.toNat<128))=true then some (sv (bs (Lib.trimS s.data.toList c.data.toList)))else none
theorem rX:GOK Xa (G q) 128 Pi:=DY λa b s c r ha hb hr=>by
 have e1:a = .v (.string s):=ha;have e2:b = .v (.string c):=hb;subst e1;subst e2;split at hr
 .rename_i h;injection hr with hr;subst hr;exact AA.lib (vs:=[.string s,.string c]) ⟨_,(Tryz.f128.body).get!,Tryz.func128,by kernel_rfl,by kernel_rfl⟩ λI w _=>(Any.strings_Trim_laid Tryz.lays160 (by kernel_rfl) s c w h.1 (by omega) (ascii_of_all h.2.2)).mono λe w' h=>h
 .cases hr
noncomputable def Nt:List T->Option T:=g1 BX λs=>if s.size<=281474976710656 then(match Lib.atoiAll s.data.toList with
 | .ok v=>some (.tu [iv v,.v .nilIface])
 | .range=>some (.tu [iv (Lib.atoiSat s.data.toList),.ic 210 (.pt [])])
 | _=>none)else none
theorem rY:GOK Xa (G q) 129 Nt:=GX λa s r ha hr=>by
 have e1:a = .v (.string s):=ha;subst e1;split at hr
 .rename_i hlim;split at hr
  .rename_i v hv;injection hr with hr;subst hr;refine⟨⟨_,(Tryz.f129.body).get!,Xj,by kernel_rfl,by kernel_rfl⟩,λI w us hlt hG hargs=>?_⟩
   have e:us = #[.string s]:=by
    have:=Nq (vs:=[.string s]) hargs;cases us;simp_all
   subst e;refine(Tryz.strconv_Atoi_ok s (by omega) v hv w).mono λe w' h=>?_
   have hb:Below w.heap.size w w':=by
    rcases h.2 with h2 | ⟨t,rfl⟩
    .exact Nr h2
    .exact rT w 5 t
   exact⟨_,_,I,h.1,rfl,by simp[An,Ba],⟨hb.os,hb.tape,hb.output⟩,hb.size,hb.block,λ_ h=>h,λ_ h=>.inl h,λg hg=>Xk (hlt g hg) hb.size⟩
  .rename_i hv;injection hr with hr;subst hr;refine⟨⟨_,(Tryz.f129.body).get!,Xj,by kernel_rfl,by kernel_rfl⟩,λI w us hlt hG hargs=>?_⟩
   have e:us = #[.string s]:=by
    have:=Nq (vs:=[.string s]) hargs;cases us;simp_all
   subst e
   have hvar:w.var? Xa "strconv.ErrRange" = some #[.iface q.tr q.pr]:=rR (vs:=[.iface q.tr q.pr]) (by kernel_rfl) (hG 2 [.v (.iface q.tr q.pr)] rfl).2
   refine(Tryz.strconv_Atoi_range_var s hlim hv q.tr q.pr w hvar).mono λe w' h=>?_;obtain⟨N,he,hN,hw',hb⟩:=h;have hN':=(Array.getElem?_eq_some_iff.1 hw').1;refine⟨_,_,λg=>I g\/g=N,he,rfl,?_,⟨hb.os,hb.tape,hb.output⟩,hb.size,hb.block,λ_ h=>.inl h,λg h=>?_,λg hg=>?_⟩
   .simp only[An,Ba,Bq];exact⟨_,rfl,_,_,rfl,rfl,_,_,rfl,⟨_,rfl,N,0,rfl,.inr rfl,trivial⟩,rfl⟩
   .rcases h with h | rfl
    .exact .inl h
    .exact .inr hN
   .rcases hg with hg | rfl
    .exact Xk (hlt g hg) hb.size
    .exact hN'
  .cases hr
 .cases hr
theorem YD (l:List ByteArray):l.flatMap Aj.enc=l.map λx=>.v (.string x):=by
 induction l with
 | nil=>rfl
 | cons x l ih=>rw[List.flatMap_cons,List.map_cons,ih];rfl
noncomputable def Pj:List T->Option T:=g2 BX BX λs p=>if s.size<4294967281/\1<=p.size then some (slT Aj (Lib.splitB p 0 (Lib.countB s p) s))else none
theorem rZ:GOK Xa (G q) 116 Pj:=DY λa b s p r ha hb hr=>by
 have e1:a = .v (.string s):=ha;have e2:b = .v (.string p):=hb;subst e1;subst e2;split at hr
 .rename_i h;injection hr with hr;subst hr;refine⟨⟨_,(Tryz.f116.body).get!,Tryz.func116,by kernel_rfl,by kernel_rfl⟩,λI w us hlt hG hargs=>?_⟩
  have e:us = #[.string s,.string p]:=by
   have:=Nq (vs:=[.string s,.string p]) hargs;cases us;simp_all
  subst e
  have hm:w.cell? ⟨0,0,none⟩=some (.int .i64 q.m):=by
   obtain⟨x,hx,_,hr⟩:=(hG 0 [.v (.int .i64 q.m)] rfl).2.1.at_ 0 (c:=.v (.int .i64 q.m)) rfl;simp only[An]at hr;subst hr;simpa using hx
  refine(Tryz.strings_Split s p q.m w h.1 hm h.2).mono λe w' h'=>?_;obtain⟨he,rfl⟩:=h';have hlen:=Lib.splitB_all p h.2 0 _ s rfl;generalize Lib.splitB p 0 (Lib.countB s p) s=l at he hlen ⊢;have ea:∀o,(w.alloc o).heap=w.heap.push o:=λ_=>rfl;refine⟨_,_,λg=>I g\/g=w.heap.size,he,rfl,?_,⟨rfl,rfl,rfl⟩,by rw[ea];simp,λg hg=>?_,λ_ h=>.inl h,λg h=>?_,λg hg=>?_⟩
  .simp only[slT,An,hlen];refine⟨⟨w.heap.size,0,none⟩,_,rfl,Nat.le_refl _,.inr ⟨rfl,.inr rfl,Bq.mk λk c hk=>?_⟩⟩;rw[YD,List.getElem?_map]at hk;obtain⟨x,hx,rfl⟩:=Option.map_eq_some_iff.1 hk;refine⟨.string x,?_,rfl,by simp only[An]⟩;simp only[World.cell?,ea,Array.getElem?_push_size];simp[hx]
  .rw[ea,Xi hg];simp[hg]
  .rcases h with h | rfl
   .exact .inl h
   .exact .inr (Nat.le_refl _)
  .rcases hg with hg | rfl
   .have:=hlt g hg;rw[ea];simp;omega
   .rw[ea];simp
 .cases hr
end
open Go Go.Abs
variable {q : Gl}
theorem mixed:Xa.follows .mixedOrders=true:=by kernel_rfl
theorem Af:Ctx Xa (G q) (orc []):=A5.nil.ctx mixed
abbrev cv (c:UInt8):T:=.v (.int .u8 (c.toNat:Int))
def AQ (c:UInt8):Bool:=decide (48<=c.toNat)&&decide (c.toNat<=57)
def Bw (c:UInt8):Bool:=decide (65<=c.toNat)&&decide (c.toNat<=90)
def BS (c:UInt8):Bool:=decide (97<=c.toNat)&&decide (c.toNat<=122)
def Pk:Ty UInt8:=⟨λt c=>t=cv c,λt a b h h'=>by
 rw[h]at h';injection h' with h';injection h' with _ h'
 exact UInt8.toNat_inj.1 (by omega)⟩
theorem YE (c:UInt8):AA Xa (G q) 87 [cv c] (· = bv (AQ c)):=by
 refine oD.runs Af rfl ?_;by_cases h1:48<=c.toNat
 .have h1':(48:Int)<=(c.toNat:Int):=by omega
  have e:decide ((c.toNat:Int)<=57)=decide (c.toNat<=57):=by congr 1;apply propext;omega
  (conv in Ru=>cbv);simp -implicitDefEqProofs [AQ,h1,h1',e]
 .have h1':¬(48:Int)<=(c.toNat:Int):=by omega
  (conv in Ru=>cbv);simp -implicitDefEqProofs [AQ,h1,h1']
theorem YF (c:UInt8):AA Xa (G q) 49 [cv c] (· = bv (Bw c)):=by
 refine o9.runs Af rfl ?_;by_cases h1:65<=c.toNat
 .have h1':(65:Int)<=(c.toNat:Int):=by omega
  have e:decide ((c.toNat:Int)<=90)=decide (c.toNat<=90):=by congr 1;apply propext;omega
  (conv in Rq=>cbv);simp -implicitDefEqProofs [Bw,h1,h1',e]
 .have h1':¬(65:Int)<=(c.toNat:Int):=by omega
  (conv in Rq=>cbv);simp -implicitDefEqProofs [Bw,h1,h1']
theorem YG (c:UInt8):AA Xa (G q) 48 [cv c] (· = bv (BS c)):=by
 refine oK.runs Af rfl ?_;by_cases h1:97<=c.toNat
 .have h1':(97:Int)<=(c.toNat:Int):=by omega
  have e:decide ((c.toNat:Int)<=122)=decide (c.toNat<=122):=by congr 1;apply propext;omega
  (conv in Rx=>cbv);simp -implicitDefEqProofs [BS,h1,h1',e]
 .have h1':¬(97:Int)<=(c.toNat:Int):=by omega
  (conv in Rx=>cbv);simp -implicitDefEqProofs [BS,h1,h1']
noncomputable def Jg (f:UInt8->Bool):List T->Option T:=g1 Pk λc=>some (bv (f c))
theorem LK {F:Nat} {f:UInt8->Bool} (h:∀c,AA Xa (G q) F [cv c] (· = bv (f c))):GOK Xa (G q) F (Jg f):=
 GX λa x r ha hr=>by
  have e:a=cv x:=ha;injection hr with hr;subst hr;subst e;exact h x
theorem Jh (f:UInt8->Bool) (c:UInt8):Jg f [cv c]=some (bv (f c)):=HY (τ:=Pk) rfl
noncomputable def tbc:Tbl:=[(87,Jg AQ),(49,Jg Bw),(48,Jg BS)]
theorem Dg:Ctx Xa (G q) (orc tbc):=(A5.cons (LK YE) (.cons (LK YF) (.cons (LK YG) .nil))).ctx mixed
def CJ (big:Bool) (c:UInt8):Bool:=AQ c||decide (c.toNat=45)||(big&&Bw c)||(!big&&BS c)
theorem s9 (c:UInt8) (big:Bool):AA Xa (G q) 86 [cv c,bv big] (· = bv (CJ big c)):=by
 refine oH.runs Dg rfl ?_
 have e45:((c.toNat:Int)==45)=decide (c.toNat=45):=by
  by_cases h:c.toNat=45
  .rw[h];rfl
  .rw[zx h,zu];omega
 have q1:=Jh AQ c;have q2:=Jh Bw c;have q3:=Jh BS c
 cases hd:AQ c<;>cases h4:decide (c.toNat=45)<;>cases big<;>cases hu:Bw c<;>cases hl:BS c <;>
  (conv in V7=>cbv)<;>simp -implicitDefEqProofs [tbc,q1,q2,q3,e45,hd,h4,hu,hl,CJ]
noncomputable def tbp:Tbl:=[(87,Jg AQ),(86,g2 Pk OU λc b=>some (bv (CJ b c)))]
theorem Pl:Ctx Xa (G q) (orc tbp):=(A5.cons (LK YE) (.cons (DY λa b x y r ha hb hr=>by
 have e1:a=cv x:=ha;have e2:b=bv y:=hb;injection hr with hr;subst hr;subst e1;subst e2
 exact s9 x y) .nil)).ctx mixed
def Be (big:Bool) (s:ByteArray):Bool:=
 match s.data.toList with
 | []=>false
 | c::r=>decide (s.size<=32) && !AQ c && !decide (c.toNat=45)&&(c::r).all (CJ big)
theorem Dw (s:ByteArray) (j:Nat) (c:UInt8) (h:s.data.toList[j]?=some c):Lv (.t (sv s)) (.t (iv (j:Int)))=some (.t (cv c)):=by
 have hj:j<s.data.size:=by
  have:=(Xc.1 h).1;simpa using this
 have:s[j]?=some c:=by
  have h2:s.data[j]?=some c:=by simpa using h
  have h3:j<s.size:=hj;rw[getElem?_pos s j h3];rw[getElem?_pos s.data j hj]at h2;exact h2
 simp[Lv,this]
abbrev rv (c:Int):T:=.v (.int .i32 c)
def Ji (c:Int):Bool:=decide (97<=c)&&decide (c<=122)
def rUp (c:Int):Bool:=decide (65<=c)&&decide (c<=90)
def EW (c:Int):Bool:=decide (48<=c)&&decide (c<=57)
def YH:Ty Int:=⟨λt n=>t=rv n,λt a b h h'=>by rw[h]at h';injection h' with h';injection h'⟩
theorem YI (c:Int):AA Xa (G q) 88 [rv c] (· = bv (Ji c)):=by
 refine nZ.runs Af rfl ?_;by_cases h1:97<=c<;>(conv in V3=>cbv)<;>simp -implicitDefEqProofs [Ji,h1]
theorem RI (c:Int):AA Xa (G q) 90 [rv c] (· = bv (rUp c)):=by
 refine o8.runs Af rfl ?_;by_cases h1:65<=c<;>(conv in V4=>cbv)<;>simp -implicitDefEqProofs [rUp,h1]
theorem RJ (c:Int):AA Xa (G q) 91 [rv c] (· = bv (EW c)):=by
 refine oG.runs Af rfl ?_;by_cases h1:48<=c<;>(conv in V6=>cbv)<;>simp -implicitDefEqProofs [EW,h1]
noncomputable def G5 (f:Int->Bool):List T->Option T:=g1 YH λc=>some (bv (f c))
theorem Jj {F:Nat} {f:Int->Bool} (h:∀c,AA Xa (G q) F [rv c] (· = bv (f c))):GOK Xa (G q) F (G5 f):=
 GX λa x r ha hr=>by
  have e:a=rv x:=ha;injection hr with hr;subst hr;subst e;exact h x
theorem Jk (f:Int->Bool) (c:Int):G5 f [rv c]=some (bv (f c)):=HY (τ:=YH) rfl
abbrev fv (F:Nat):T:=.v (.func (.func F) #[] #[])
theorem sB (f:Int->Bool) (c:Int) (H:Ab) (nx:Nat):HX (G5 f) [.t (rv c)] H nx=some (.t (bv (f c)),H,nx):=by
 simp[HX,Jk]
theorem RK (c:UInt8):Ji (c.toNat:Int)=BS c:=by
 unfold Ji BS;congr 1
 .congr 1;apply propext;omega
 .congr 1;apply propext;omega
theorem Nu (c:UInt8):rUp (c.toNat:Int)=Bw c:=by
 unfold rUp Bw;congr 1
 .congr 1;apply propext;omega
 .congr 1;apply propext;omega
theorem Nv (c:UInt8):EW (c.toNat:Int)=AQ c:=by
 unfold EW AQ;congr 1
 .congr 1;apply propext;omega
 .congr 1;apply propext;omega
def DD (big:Bool) (i:Nat) (c:UInt8):Bool:=(if big then Bw c else BS c)||(decide (i≠0)&&(AQ c||decide (c.toNat=45)))
theorem Pm (big:Bool) (s:ByteArray):Be big s=true ↔ 1<=s.size/\s.size<=32/\∀(i:Nat) c,s.data.toList[i]?=some c->DD big i c=true:=by
 have hlen:s.data.toList.length=s.size:=rfl;unfold Be
 cases hl:s.data.toList with
 | nil=>rw[hl]at hlen;simp at hlen;simp;omega
 | cons c r=>
  rw[hl]at hlen;simp only[List.length_cons]at hlen
  have part:∀x,CJ big x=(AQ x||decide (x.toNat=45)||if big then Bw x else BS x):=by
   intro x;cases big<;>simp[CJ]
  have disj:∀x,(if big then Bw x else BS x)=true->AQ x=false/\x.toNat≠45:=by
   intro x hx;cases big<;>simp[Bw,BS,AQ]at hx ⊢ <;> omega
  simp only[Xe,decide_eq_true_eq,Bool.not_eq_true',Xf,decide_eq_false_iff_not];constructor
  .rintro⟨⟨⟨h1,h2⟩,h3⟩,h4⟩;refine⟨by omega,h1,λi x hx=>?_⟩;have hp:=h4 x (Xl hx);rw[part]at hp
   cases i with
   | zero=>
    simp at hx;subst hx;simp[DD];simpa[h2,h3]using hp
   | succ i=>
    simp[DD];simp at hp;rcases hp with(h | h) | h
    .exact .inr (.inl h)
    .exact .inr (.inr h)
    .exact .inl h
  .rintro⟨_,h1,h2⟩
   have h0:(if big then Bw c else BS c)=true:=by
    have:=h2 0 c rfl;simp[DD]at this;cases big<;>simpa using this
   obtain⟨d1,d2⟩:=disj c h0;refine⟨⟨⟨h1,d1⟩,d2⟩,λx hx=>?_⟩;obtain⟨i,hi,e⟩:=Xg hx;have:=h2 i x (by rw[Xd hi,e]);rw[part];simp[DD]at this ⊢;rcases this with h | ⟨_,h | h⟩
   .exact .inr h
   .exact .inl (.inl h)
   .exact .inl (.inr h)
theorem YJ (s:ByteArray) (j:Nat) (c:UInt8) (h:s.data.toList[j]?=some c) (ha:c.toNat<128):Utf8.decode s j=(c.toNat,1):=by
 have hj:j<s.size:=by have:=(Xc.1 h).1;simpa using this
 have e:s[j]'hj=c:=by
  have:=(Xc.1 h).2;show s.data[j]=c;simpa using this
 have:=decode_ascii s j hj (by rw[e];exact ha);rw[e]at this;exact this
theorem YK (s:ByteArray) (j:Nat) (c:UInt8) (h:s.data.toList[j]?=some c) (ha:¬c.toNat<128):128<=(Utf8.decode s j).1:=by
 have hj:j<s.size:=by have:=(Xc.1 h).1;simpa using this
 have e:s.get! (j+0)=c:=by
  have e1:s[j]'hj=c:=by
   have:=(Xc.1 h).2;show s.data[j]=c;simpa using this
  rw[<-e1];show s.get! j=_;simp[ByteArray.get!,getElem!_pos,hj];rfl
 unfold Utf8.decode;simp only[e,ha,if_false]
 repeat' split
 all_goals (first | (simp only[Utf8.runeError];omega) | (rename_i h;simp only[ge_iff_le,decide_eq_true_eq,Xe]at h;omega) | skip)
theorem YL {H:Ab} {nx b:Nat} {s:ByteArray} {pos:Nat} (hl:Aa H b=some (.iter s pos)) (hp:pos<s.size) :
  hxM .next H nx [.ptr b 0]=some (.t (.tu [.v (.bool true),.v (.int .i64 pos),.v (.int .i32 (Utf8.decode s pos).1)]),upd H b (.iter s (pos+(Utf8.decode s pos).2)),nx):=by
 simp only[hxM,hl,hp,if_true]
theorem YM {H:Ab} {nx b:Nat} {s:ByteArray} {pos:Nat} (hl:Aa H b=some (.iter s pos)) (hp:¬pos<s.size) :
  hxM .next H nx [.ptr b 0]=some (.t (.tu [.v (.bool false)]),H,nx):=by
 simp only[hxM,hl,hp,if_false]
def He (big:Bool):Nat:=if big then 90 else 88
def Ic (big:Bool) (c:Int):Bool:=if big then rUp c else Ji c
theorem sC (big:Bool):GOK Xa (G q) (He big) (G5 (Ic big)):=by
 cases big
 .exact Jj YI
 .exact Jj RI
noncomputable def tbF:Tbl:=[(91,G5 EW)]
noncomputable def hbF (big:Bool):Ez:=[(He big,HX (G5 (Ic big)))]
theorem G6 (big:Bool):Ctx Xa (G q) (orh tbF (hbF big)):=(A5.cons (Jj RJ) .nil).ctxH (.cons (sC big).hok .nil) mixed
def SF (big:Bool) (s:ByteArray) (j:Nat):Ac:=⟨[(16,.ptr 0 0),(1,.t (fv (He big))),(0,.t (sv s))],[(0,.iter s j)],1,38⟩
theorem YN (big:Bool) (H:Ab) (nx:Nat) (c:Int):HW (hbF big) (He big) [.t (rv c)] H nx=some (.t (bv (Ic big c)),H,nx):=by
 simp only[hbF,mW,if_true,sB]
def RL (big:Bool) (s:ByteArray) (j:Nat):Prop:=j<=s.size/\∀(i:Nat) c,i<j->s.data.toList[i]?=some c->DD big i c=true
theorem YO (big:Bool) (s:ByteArray) (hs:s.size<=9223372036854775807):AA Xa (G q) 104 [sv s,fv (He big)] (· = bv (Be big s)):=by
 refine nY.call rfl ?_;(conv in V2=>cbv);have hlen:s.data.toList.length=s.size:=rfl;refine Az (G6 big) ?_;simp -implicitDefEqProofs;by_cases h0:s.size=0
 .have h0':((s.size:Int)==0)=true:=by rw[h0];rfl
  have hn:Be big s=false:=by
   cases h:Be big s with
   | false=>rfl
   | true=>have:=(Pm big s).1 h;omega
  refine Aw (G6 big) ?_;simp -implicitDefEqProofs [h0',hn]
 have h0':((s.size:Int)==0)=false:=by rw[zu];omega
 by_cases h1:32<s.size
 .have h1':(32:Int)<(s.size:Int):=by omega
  have hn:Be big s=false:=by
   cases h:Be big s with
   | false=>rfl
   | true=>have:=(Pm big s).1 h;omega
  refine Aw (G6 big) ?_;simp -implicitDefEqProofs [h0',h1',hn]
 have h1':¬(32:Int)<(s.size:Int):=by omega
 refine Az (G6 big) ?_;simp -implicitDefEqProofs [h0',h1']
 have no:∀(j:Nat) c,s.data.toList[j]?=some c->DD big j c=false->Be big s=false:=by
  intro j c hc hk
  cases h:Be big s with
  | false=>rfl
  | true=>rw[((Pm big s).1 h).2.2 j c hc]at hk;cases hk
 refine BM (α:=Unit) (λ_=>SF big s s.size) (λ_=>Be big s=true) (λ_=>rfl) ?_ ?_
 .refine Az (G6 big) ?_;simp -implicitDefEqProofs;refine BI ?_;refine CV (SF big s) (λj=>s.size-j) (λj=>RL big s j) 0 (λ_=>rfl) ⟨Xh _,λi c h=>by omega⟩ ?_ rfl ?_
  .refine AJ rfl rfl ?_ ?_<;>simp -implicitDefEqProofs [SF]
  .rintro j ⟨hj,hok⟩;refine Aw (G6 big) ?_;by_cases hlt:j<s.size
   .obtain⟨c,hc⟩:∃c,s.data.toList[j]?=some c:=⟨_,Xd hlt⟩
    have hnx:=YL (H:=(SF big s j).H) (nx:=1) (b:=0) (s:=s) (pos:=j) rfl hlt;simp only[SF]at hnx;have cvF:=λH nx c=>YN big H nx c;have qd:=λc=>Jk EW c
    have lr:Ic big (c.toNat:Int)=(if big then Bw c else BS c):=by
     unfold Ic;cases big
     .exact RK c
     .exact Nu c
    by_cases ha:c.toNat<128
    .have hd:=YJ s j c hc ha;rw[hd]at hnx
     have go:DD big j c=true->Aq Xa (G q) 0 (SF big s) (λa'=>RL big s a'/\s.size-a'<s.size-j) (SF big s (j+1)):=by
      intro hk;refine Aq.mk (j+1) ⟨⟨hlt,λi x hi hx=>?_⟩,by omega⟩ (Sub.refl _);by_cases e:i=j
      .subst e;rw[hc]at hx;injection hx with hx;subst hx;exact hk
      .exact hok i x (by omega) hx
     have fin:∀s1:Ac,Sub Xa (G q) 0 s1 (SF big s (j+1))->DD big j c=true->Aq Xa (G q) 0 (SF big s) (λa'=>RL big s a'/\s.size-a'<s.size-j) s1:=by
      intro s1 h1 hk;obtain⟨a,h2,h3⟩:=go hk;exact⟨a,h2,h1.trans h3⟩
     cases hL:(if big then Bw c else BS c:Bool)with
     | true=>
      have hk:DD big j c=true:=by simp[DD,hL]
      rw[hL]at lr;simp -implicitDefEqProofs [SF,hnx,Bv,cvF,lr];refine fin _ ?_ hk;refine AJ rfl rfl ?_ ?_<;>simp -implicitDefEqProofs [SF,upd]
     | false=>
      rw[hL]at lr;by_cases hj0:j=0
      .have hk:DD big j c=false:=by simp[DD,hL,hj0]
       have hz:((j:Int)==0)=true:=by rw[hj0];rfl
       simp -implicitDefEqProofs [SF,hnx,Bv,cvF,lr,hz,no j c hc hk]
      .have hz:((j:Int)==0)=false:=by rw[zu];omega
       cases hD:AQ c with
       | true=>
        have hk:DD big j c=true:=by simp[DD,hL,hj0,hD]
        have hD':EW (c.toNat:Int)=true:=by rw[Nv,hD]
        simp -implicitDefEqProofs [SF,hnx,Bv,cvF,lr,hz,tbF,qd,hD'];refine fin _ ?_ hk;refine AJ rfl rfl ?_ ?_<;>simp -implicitDefEqProofs [SF,upd]
       | false=>
        have hD':EW (c.toNat:Int)=false:=by rw[Nv,hD]
        by_cases h45:c.toNat=45
        .have hk:DD big j c=true:=by simp[DD,hL,hj0,hD,h45]
         have h4:((c.toNat:Int) != 45)=false:=by rw[h45];rfl
         simp -implicitDefEqProofs [SF,hnx,Bv,cvF,lr,hz,tbF,qd,hD',h4];refine fin _ ?_ hk;refine AJ rfl rfl ?_ ?_<;>simp -implicitDefEqProofs [SF,upd]
        .have hk:DD big j c=false:=by simp[DD,hL,hj0,hD,h45]
         have h4:((c.toNat:Int) != 45)=true:=by rw[bne_iff_ne];omega
         simp -implicitDefEqProofs [SF,hnx,Bv,cvF,lr,hz,tbF,qd,hD',h4,no j c hc hk]
    .have hd:=YK s j c hc ha
     obtain⟨r,hr⟩:∃r:Nat,r=(Utf8.decode s j).1:=⟨_,rfl⟩
     rw[<-hr]at hd
     have lr:Ic big (r:Int)=false:=by
      unfold Ic rUp Ji;have h1:decide ((r:Int)<=90)=false:=zx (by omega);have h2:decide ((r:Int)<=122)=false:=zx (by omega);cases big<;>simp only[h1,h2,Xb,if_true,Bool.false_eq_true,if_false]
     have hD':EW (r:Int)=false:=by
      unfold EW;have h1:decide ((r:Int)<=57)=false:=zx (by omega);rw[h1,Xb]
     have h4:((r:Int) != 45)=true:=by rw[bne_iff_ne];omega
     have hk:DD big j c=false:=by
      have h1:Bw c=false:=by unfold Bw;rw[zx (by omega:¬c.toNat<=90),Xb]
      have h2:BS c=false:=by unfold BS;rw[zx (by omega:¬c.toNat<=122),Xb]
      have h3:AQ c=false:=by unfold AQ;rw[zx (by omega:¬c.toNat<=57),Xb]
      have h5:decide (c.toNat=45)=false:=zx (by omega);unfold DD;rw[h1,h2,h3,h5];cases big<;>simp
     by_cases hj0:j=0
     .have hz:((j:Int)==0)=true:=by rw[hj0];rfl
      simp -implicitDefEqProofs [SF,hnx,Bv,cvF,<-hr,lr,hz,no j c hc hk]
     .have hz:((j:Int)==0)=false:=by rw[zu];omega
      simp -implicitDefEqProofs [SF,hnx,Bv,cvF,<-hr,lr,hz,tbF,qd,hD',h4,no j c hc hk]
   .have hover:=YM (H:=(SF big s j).H) (nx:=1) (b:=0) (s:=s) (pos:=j) rfl hlt;simp only[SF]at hover;simp -implicitDefEqProofs [SF,hover,Bv]
    have e:j=s.size:=by omega
    subst e;refine Aq.mk () ((Pm big s).2 ⟨by omega,by omega,λi c hc=>hok i c ?_ hc⟩) (AJ rfl rfl (by simp -implicitDefEqProofs) (by simp -implicitDefEqProofs));have:=(Xc.1 hc).1;omega
 .rintro _ hn;refine Aw (G6 big) ?_;simp -implicitDefEqProofs [SF,hn]
abbrev lim:Nat:=9223372036854775807
noncomputable def Ki:List T->Option T
 | [a,.v (.func (.func F) ⟨[]⟩ ⟨[]⟩)]=>(BX.dec a).bind λs=>if s.size<=lim then(if F=88 then some (bv (Be false s))else if F=90 then some (bv (Be true s))else none)else none
 | _=>none
theorem sE:GOK Xa (G q) 104 Ki:=λargs r hr=>by
 unfold Ki at hr;split at hr
 .rename_i a F;obtain⟨s,hs,hr2⟩:=Option.bind_eq_some_iff.1 hr;have e:a=sv s:=Ty.is_dec hs;subst e;split at hr2
  .rename_i hl;split at hr2
   .rename_i e;subst e;injection hr2 with hr2;subst hr2;exact YO false s hl
   .split at hr2
    .rename_i e;subst e;injection hr2 with hr2;subst hr2;exact YO true s hl
    .cases hr2
  .cases hr2
 .cases hr
theorem sF (s:ByteArray) (hs:s.size<=lim):Ki [sv s,fv 88]=some (bv (Be false s)):=by
 have e:=Ty.dec_is (τ:=BX) (t:=sv s) (a:=s) rfl;simp[Ki,e,hs]
theorem sG (s:ByteArray) (hs:s.size<=lim):Ki [sv s,fv 90]=some (bv (Be true s)):=by
 have e:=Ty.dec_is (τ:=BX) (t:=sv s) (a:=s) rfl;simp[Ki,e,hs]
noncomputable def hbN:Ez:=[(104,HX Ki)]
theorem YP:Ctx Xa (G q) (orh [] hbN):=A5.nil.ctxH (.cons sE.hok .nil) mixed
theorem sH (s:ByteArray) (hs:s.size<=lim):AA Xa (G q) 64 [sv s] (· = bv (Be false s)):=by
 refine nM.runs YP rfl ?_
 (conv in Vs=>cbv);simp -implicitDefEqProofs [hbN,HX,sF s hs]
theorem sI (s:ByteArray) (hs:s.size<=lim):AA Xa (G q) 105 [sv s] (· = bv (Be true s)):=by
 refine nO.runs YP rfl ?_
 (conv in Vt=>cbv);simp -implicitDefEqProofs [hbN,HX,sG s hs]
def okW (c:UInt8):Bool:=decide (33<=c.toNat)&&decide (c.toNat<=126) && !Bw c && !decide (c.toNat=34) && !decide (c.toNat=92)
def CG (s:ByteArray):Bool:=decide (1<=s.size)&&decide (s.size<=32)&&s.data.toList.all okW
noncomputable def tbW:Tbl:=[(90,G5 rUp)]
theorem Kj:Ctx Xa (G q) (orc tbW):=(A5.cons (Jj RI) .nil).ctx mixed
def SW (s:ByteArray) (j:Nat):Ac:=⟨[(14,.ptr 0 0),(0,.t (sv s))],[(0,.iter s j)],1,36⟩
def OkW (s:ByteArray) (j:Nat):Prop:=j<=s.size/\∀(i:Nat) c,i<j->s.data.toList[i]?=some c->okW c=true
theorem G7 {s:ByteArray} {j:Nat} {c:UInt8} (hc:s.data.toList[j]?=some c) (hk:okW c=false):CG s=false:=by
 cases h:CG s with
 | false=>rfl
 | true=>
  simp only[CG,Xe,Xf]at h;rw[h.2 c (Xl hc)]at hk;cases hk
theorem YQ (c:UInt8):okW c = !(decide ((c.toNat:Int)<33)||decide (126<(c.toNat:Int))||rUp (c.toNat:Int)||((c.toNat:Int)==34)||((c.toNat:Int)==92)):=by
 have e1:decide ((c.toNat:Int)<33) = !decide (33<=c.toNat):=by
  by_cases h:33<=c.toNat
  .rw[zw h,zx (by omega)];rfl
  .rw[zx h,zw (by omega)];rfl
 have e2:decide (126<(c.toNat:Int)) = !decide (c.toNat<=126):=by
  by_cases h:c.toNat<=126
  .rw[zw h,zx (by omega)];rfl
  .rw[zx h,zw (by omega)];rfl
 have e3:((c.toNat:Int)==34)=decide (c.toNat=34):=by
  by_cases h:c.toNat=34
  .rw[h];rfl
  .rw[zx h,zu];omega
 have e4:((c.toNat:Int)==92)=decide (c.toNat=92):=by
  by_cases h:c.toNat=92
  .rw[h];rfl
  .rw[zx h,zu];omega
 rw[e1,e2,e3,e4,Nu];unfold okW;cases decide (33<=c.toNat)<;>cases decide (c.toNat<=126)<;>cases Bw c<;>cases decide (c.toNat=34)<;>cases decide (c.toNat=92)<;>rfl
theorem sJ (s:ByteArray) (hs:s.size<=lim):AA Xa (G q) 99 [sv s] (· = bv (CG s)):=by
 refine nP.call rfl ?_;(conv in Vu=>cbv);have hlen:s.data.toList.length=s.size:=rfl;refine Az Kj ?_;simp -implicitDefEqProofs;by_cases h0:s.size=0
 .have h0':((s.size:Int)==0)=true:=by rw[h0];rfl
  have hn:CG s=false:=by unfold CG;rw[zx (by omega)];rfl
  refine Aw Kj ?_;simp -implicitDefEqProofs [h0',hn]
 have h0':((s.size:Int)==0)=false:=by rw[zu];omega
 by_cases h1:32<s.size
 .have h1':(32:Int)<(s.size:Int):=by omega
  have hn:CG s=false:=by unfold CG;rw[zx (by omega:¬s.size<=32),Xb];rfl
  refine Aw Kj ?_;simp -implicitDefEqProofs [h0',h1',hn]
 have h1':¬(32:Int)<(s.size:Int):=by omega
 refine Az Kj ?_;simp -implicitDefEqProofs [h0',h1'];refine BM (α:=Unit) (λ_=>SW s s.size) (λ_=>CG s=true) (λ_=>rfl) ?_ ?_
 .refine Az Kj ?_;simp -implicitDefEqProofs;refine BI ?_;refine CV (SW s) (λj=>s.size-j) (λj=>OkW s j) 0 (λ_=>rfl) ⟨Xh _,λi c h=>by omega⟩ ?_ rfl ?_
  .refine AJ rfl rfl ?_ ?_<;>simp -implicitDefEqProofs [SW]
  .rintro j ⟨hj,hok⟩;refine Aw Kj ?_;by_cases hlt:j<s.size
   .obtain⟨c,hc⟩:∃c,s.data.toList[j]?=some c:=⟨_,Xd hlt⟩
    have hnx:=YL (H:=(SW s j).H) (nx:=1) (b:=0) (s:=s) (pos:=j) rfl hlt;simp only[SW]at hnx;have qd:=λc=>Jk rUp c;by_cases ha:c.toNat<128
    .have hd:=YJ s j c hc ha;rw[hd]at hnx;have hk:=YQ c
     have fin:∀s1:Ac,Sub Xa (G q) 0 s1 (SW s (j+1))->okW c=true->Aq Xa (G q) 0 (SW s) (λa'=>OkW s a'/\s.size-a'<s.size-j) s1:=by
      intro s1 h1 hk;refine Aq.mk (j+1) ⟨⟨hlt,λi x hi hx=>?_⟩,by omega⟩ h1;by_cases e:i=j
      .subst e;rw[hc]at hx;injection hx with hx;subst hx;exact hk
      .exact hok i x (by omega) hx
     cases t1:decide ((c.toNat:Int)<33)with
     | true=>rw[t1]at hk;simp -implicitDefEqProofs [SW,hnx,Bv,t1,G7 hc hk]
     | false=>
      cases t2:decide (126<(c.toNat:Int))with
      | true=>rw[t1,t2]at hk;simp -implicitDefEqProofs [SW,hnx,Bv,t1,t2,G7 hc hk]
      | false=>
       cases t3:rUp (c.toNat:Int)with
       | true=>rw[t1,t2,t3]at hk;simp -implicitDefEqProofs [SW,hnx,Bv,t1,t2,tbW,qd,t3,G7 hc hk]
       | false=>
        cases t4:((c.toNat:Int)==34)with
        | true=>rw[t1,t2,t3,t4]at hk;simp -implicitDefEqProofs [SW,hnx,Bv,t1,t2,tbW,qd,t3,t4,G7 hc hk]
        | false=>
         cases t5:((c.toNat:Int)==92)with
         | true=>rw[t1,t2,t3,t4,t5]at hk;simp -implicitDefEqProofs [SW,hnx,Bv,t1,t2,tbW,qd,t3,t4,t5,G7 hc hk]
         | false=>
          rw[t1,t2,t3,t4,t5]at hk;simp -implicitDefEqProofs [SW,hnx,Bv,t1,t2,tbW,qd,t3,t4,t5];refine fin _ ?_ hk;refine AJ rfl rfl ?_ ?_<;>simp -implicitDefEqProofs [SW,upd]
    .have hd:=YK s j c hc ha
     obtain⟨r,hr⟩:∃r:Nat,r=(Utf8.decode s j).1:=⟨_,rfl⟩
     rw[<-hr]at hd;have t1:decide ((r:Int)<33)=false:=zx (by omega);have t2:decide (126<(r:Int))=true:=zw (by omega)
     have hk:okW c=false:=by unfold okW;rw[zx (by omega:¬c.toNat<=126),Xb];rfl
     simp -implicitDefEqProofs [SW,hnx,Bv,<-hr,t1,t2,G7 hc hk]
   .have hover:=YM (H:=(SW s j).H) (nx:=1) (b:=0) (s:=s) (pos:=j) rfl hlt;simp only[SW]at hover;simp -implicitDefEqProofs [SW,hover,Bv]
    have e:j=s.size:=by omega
    subst e;refine Aq.mk () ?_ (AJ rfl rfl (by simp -implicitDefEqProofs) (by simp -implicitDefEqProofs));simp only[CG,Xe,decide_eq_true_eq,Xf];refine⟨⟨by omega,by omega⟩,λx hx=>?_⟩;obtain⟨i,hi,e⟩:=Xg hx;exact hok i x (by omega) (by rw[Xd hi,e])
 .rintro _ hn;refine Aw Kj ?_;simp -implicitDefEqProofs [SW,hn]
def SRW (s:ByteArray) (j:Nat):Ac:=⟨[(3,.t (iv (j:Int))),(0,.t (sv s))],[],0,46⟩
theorem sK (s:ByteArray) (hs:s.size<=lim):AA Xa (G q) 135 [sv s] (· = bv (CG s)):=by
 refine nQ.call rfl ?_;(conv in Vv=>cbv);have hlen:s.data.toList.length=s.size:=rfl;refine Az Dg ?_;simp -implicitDefEqProofs;by_cases h0:s.size=0
 .have h0':(s.size:Int)<1:=by omega
  have hn:CG s=false:=by unfold CG;rw[zx (by omega)];rfl
  refine Aw Dg ?_;simp -implicitDefEqProofs [h0',hn]
 have h0':¬(s.size:Int)<1:=by omega
 by_cases h1:32<s.size
 .have h1':(32:Int)<(s.size:Int):=by omega
  have hn:CG s=false:=by unfold CG;rw[zx (by omega:¬s.size<=32),Xb];rfl
  refine Aw Dg ?_;simp -implicitDefEqProofs [h0',h1',hn]
 have h1':¬(32:Int)<(s.size:Int):=by omega
 refine Az Dg ?_;simp -implicitDefEqProofs [h0',h1'];refine BM (α:=Unit) (λ_=>SRW s s.size) (λ_=>CG s=true) (λ_=>rfl) ?_ ?_
 .refine Az Dg ?_;simp -implicitDefEqProofs;refine BI ?_;refine CV (SRW s) (λj=>s.size-j) (λj=>OkW s j) 0 (λ_=>rfl) ⟨Xh _,λi c h=>by omega⟩ ?_ rfl ?_
  .refine AJ rfl rfl ?_ ?_<;>simp -implicitDefEqProofs [SRW]
  .rintro j ⟨hj,hok⟩;refine Aw Dg ?_;by_cases hlt:j<s.size
   .obtain⟨c,hc⟩:∃c,s.data.toList[j]?=some c:=⟨_,Xd hlt⟩
    have hlt':(j:Int)<(s.size:Int):=by omega
    have ix:=Dw s j c hc;have e1:IntKind.i64.wrap ((j:Int)+1)=((j+1:Nat):Int):=AH (by omega) (by omega);have qu:=Jh Bw c;have hk:=YQ c;rw[Nu]at hk
    have fin:∀s1:Ac,Sub Xa (G q) 0 s1 (SRW s (j+1))->okW c=true->Aq Xa (G q) 0 (SRW s) (λa'=>OkW s a'/\s.size-a'<s.size-j) s1:=by
     intro s1 h1 hk;refine Aq.mk (j+1) ⟨⟨hlt,λi x hi hx=>?_⟩,by omega⟩ h1;by_cases e:i=j
     .subst e;rw[hc]at hx;injection hx with hx;subst hx;exact hk
     .exact hok i x (by omega) hx
    cases t1:decide ((c.toNat:Int)<33)with
    | true=>rw[t1]at hk;simp -implicitDefEqProofs [SRW,hlt,ix,t1,G7 hc hk]
    | false=>
     cases t2:decide (126<(c.toNat:Int))with
     | true=>rw[t1,t2]at hk;simp -implicitDefEqProofs [SRW,hlt,ix,t1,t2,G7 hc hk]
     | false=>
      cases t3:Bw c with
      | true=>rw[t1,t2,t3]at hk;simp -implicitDefEqProofs [SRW,hlt,ix,t1,t2,tbc,qu,t3,G7 hc hk]
      | false=>
       cases t4:((c.toNat:Int)==34)with
       | true=>rw[t1,t2,t3,t4]at hk;simp -implicitDefEqProofs [SRW,hlt,ix,t1,t2,tbc,qu,t3,t4,G7 hc hk]
       | false=>
        cases t5:((c.toNat:Int)==92)with
        | true=>rw[t1,t2,t3,t4,t5]at hk;simp -implicitDefEqProofs [SRW,hlt,ix,t1,t2,tbc,qu,t3,t4,t5,G7 hc hk]
        | false=>
         rw[t1,t2,t3,t4,t5]at hk;simp -implicitDefEqProofs [SRW,hlt,ix,t1,t2,tbc,qu,t3,t4,t5,e1];refine fin _ ?_ hk;refine AJ rfl rfl ?_ ?_<;>simp -implicitDefEqProofs [SRW]
   .have e:j=s.size:=by omega
    subst e;simp -implicitDefEqProofs [SRW];refine Aq.mk () ?_ (AJ rfl rfl (by simp -implicitDefEqProofs) (by simp -implicitDefEqProofs));simp only[CG,Xe,decide_eq_true_eq,Xf];refine⟨⟨by omega,by omega⟩,λx hx=>?_⟩;obtain⟨i,hi,e⟩:=Xg hx;exact hok i x (by omega) (by rw[Xd hi,e])
 .rintro _ hn;refine Aw Dg ?_;simp -implicitDefEqProofs [SRW,hn]
end Go.Proofs.YtobnacghaamfoaaGreatDoor
