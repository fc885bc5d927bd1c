/- Auxiliary facts. -/
import Derived.Test.YtobnacghaamfoaaGreatDoorVGQ18
import Derived.Test.YtobnacghaamfoaaGreatDoorVGQ11
import Derived.Test.YtobnacghaamfoaaGreatDoorVGQ19
set_option linter.unusedSimpArgs false
set_option maxRecDepth 100000
set_option maxHeartbeats 0
set_option linter.unusedVariables false
open Go.Proofs.Tryz renaming prog->Xa,func129->Xh
open Bool renaming and_false->Xb,and_eq_true->Xd
open List renaming getElem?_eq_some_iff->Xc,getElem?_eq_getElem->Xe,all_eq_true->Xf,mem_of_getElem?->Xj,getElem_of_mem->Xk
open Array renaming getElem?_push_lt->Xg
open Nat renaming lt_of_lt_of_le->Xi
namespace Go.Proofs.YtobnacghaamfoaaGreatDoor
open Go Go.Abs Go.RowKit
abbrev bs (l:List UInt8):ByteArray:=⟨l.toArray⟩
theorem En (s:ByteArray):bs s.data.toList=s:=by cases s;simp[bs]
section
variable {q : Gl}
theorem Ol {w w':World} (h:w'=w):Below w.heap.size w w':=by subst h;exact Below.refl _ _
theorem vM (w:World) (e:TypeId) (t:ByteArray):Below w.heap.size w (Lib.bytesWorld w e t):=by
 unfold Lib.bytesWorld World.freeze;rw[zz (by decide)];have e:∀o,(w.drew.alloc o).heap=w.heap.push o:=λ_=>rfl;refine⟨rfl,rfl,rfl,?_,λj hj=>?_⟩
 .simp only[Array.size_modify,e,Array.size_push];omega
 .simp only[e];rw[Array.getElem?_modify,zz (by omega),Xg hj];simp[hj]
noncomputable def M7:List T->Option T:=g2 BU BU λs p=>some (bv (Lib.hasPrefix s.data.toList p.data.toList))
theorem vN:GOK Xa (G q) 114 M7:=Do λa b s p r ha hb hr=>by
 have e1:a = .v (.string s):=ha;have e2:b = .v (.string p):=hb;subst e1;subst e2;injection hr with hr;subst hr
 exact A1.lib (vs:=[.string s,.string p]) ⟨_,(Tryz.f114.body).get!,Tryz.func114,by kernel_rfl,by kernel_rfl⟩ λI w _=>(Tryz.strings_HasPrefix s p w).mono λe w' h=>⟨h.1,Ol h.2⟩
noncomputable def Qx:List T->Option T:=g2 BU BU λs p=>some (sv (bs (Lib.trimPrefix s.data.toList p.data.toList)))
theorem vO:GOK Xa (G q) 127 Qx:=Do λa b s p r ha hb hr=>by
 have e1:a = .v (.string s):=ha;have e2:b = .v (.string p):=hb;subst e1;subst e2;injection hr with hr;subst hr
 exact A1.lib (vs:=[.string s,.string p]) ⟨_,(Tryz.f127.body).get!,Tryz.func127,by kernel_rfl,by kernel_rfl⟩ λI w _=>(Tryz.strings_TrimPrefix s p w).mono λe w' h=>⟨h.1,Ol h.2⟩
def Om:List T->Option T
 | [.v (.string s),.v (.int .u8 c)]=>some (iv (Lib.indexByte s.data.toList c.toNat.toUInt8))
 | _=>none
theorem vP:GOK Xa (G q) 115 Om:=λargs r hr=>by
 unfold Om at hr;split at hr
 .rename_i s c;injection hr with hr;subst hr
  exact A1.lib (vs:=[.string s,.int .u8 c]) ⟨_,(Tryz.f115.body).get!,Tryz.func115,by kernel_rfl,by kernel_rfl⟩ λI w _=>(Tryz.strings_IndexByte s c w).mono λe w' h=>⟨h.1,Ol h.2⟩
 .cases hr
noncomputable def Qy:List T->Option T:=g2 BU BU λs c=>if s.size<=9223372036854775807/\c.size<100/\c.data.toList.all (λb=>decide (b.toNat<128))=true then some (sv (bs (Lib.trimS s.data.toList c.data.toList)))else none
theorem vQ:GOK Xa (G q) 128 Qy:=Do λa b s c r ha hb hr=>by
 have e1:a = .v (.string s):=ha;have e2:b = .v (.string c):=hb;subst e1;subst e2;split at hr
 .rename_i h;injection hr with hr;subst hr;exact A1.lib (vs:=[.string s,.string c]) ⟨_,(Tryz.f128.body).get!,Tryz.func128,by kernel_rfl,by kernel_rfl⟩ λI w _=>(Any.strings_Trim_laid Tryz.lays160 (by kernel_rfl) s c w h.1 (by omega) (ascii_of_all h.2.2)).mono λe w' h=>h
 .cases hr
noncomputable def On:List T->Option T:=g1 BU λs=>if s.size<=281474976710656 then(match Lib.atoiAll s.data.toList with
 | .ok v=>some (.tu [iv v,.v .nilIface])
 | .range=>some (.tu [iv (Lib.atoiSat s.data.toList),.ic 210 (.pt [])])
 | _=>none)else none
theorem vR:GOK Xa (G q) 129 On:=D6 λa s r ha hr=>by
 have e1:a = .v (.string s):=ha;subst e1;split at hr
 .rename_i hlim;split at hr
  .rename_i v hv;injection hr with hr;subst hr;refine⟨⟨_,(Tryz.f129.body).get!,Xh,by kernel_rfl,by kernel_rfl⟩,λI w us hlt hG hargs=>?_⟩
   have e:us = #[.string s]:=by
    have:=Oj (vs:=[.string s]) hargs;cases us;simp_all
   subst e;refine(Tryz.strconv_Atoi_ok s (by omega) v hv w).mono λe w' h=>?_
   have hb:Below w.heap.size w w':=by
    rcases h.2 with h2 | ⟨t,rfl⟩
    .exact Ol h2
    .exact vM w 5 t
   exact⟨_,_,I,h.1,rfl,by simp[Ao,Bf],⟨hb.os,hb.tape,hb.output⟩,hb.size,hb.block,λ_ h=>h,λ_ h=>.inl h,λg hg=>Xi (hlt g hg) hb.size⟩
  .rename_i hv;injection hr with hr;subst hr;refine⟨⟨_,(Tryz.f129.body).get!,Xh,by kernel_rfl,by kernel_rfl⟩,λI w us hlt hG hargs=>?_⟩
   have e:us = #[.string s]:=by
    have:=Oj (vs:=[.string s]) hargs;cases us;simp_all
   subst e
   have hvar:w.var? Xa "strconv.ErrRange" = some #[.iface q.tr q.pr]:=vK (vs:=[.iface q.tr q.pr]) (by kernel_rfl) (hG 2 [.v (.iface q.tr q.pr)] rfl).2
   refine(Tryz.strconv_Atoi_range_var s hlim hv q.tr q.pr w hvar).mono λe w' h=>?_;obtain⟨N,he,hN,hw',hb⟩:=h;have hN':=(Array.getElem?_eq_some_iff.1 hw').1;refine⟨_,_,λg=>I g\/g=N,he,rfl,?_,⟨hb.os,hb.tape,hb.output⟩,hb.size,hb.block,λ_ h=>.inl h,λg h=>?_,λg hg=>?_⟩
   .simp only[Ao,Bf,Bv];exact⟨_,rfl,_,_,rfl,rfl,_,_,rfl,⟨_,rfl,N,0,rfl,.inr rfl,trivial⟩,rfl⟩
   .rcases h with h | rfl
    .exact .inl h
    .exact .inr hN
   .rcases hg with hg | rfl
    .exact Xi (hlt g hg) hb.size
    .exact hN'
  .cases hr
 .cases hr
theorem aU (l:List ByteArray):l.flatMap Ak.enc=l.map λx=>.v (.string x):=by
 induction l with
 | nil=>rfl
 | cons x l ih=>rw[List.flatMap_cons,List.map_cons,ih];rfl
noncomputable def Qz:List T->Option T:=g2 BU BU λs p=>if s.size<4294967281/\1<=p.size then some (slT Ak (Lib.splitB p 0 (Lib.countB s p) s))else none
theorem vT:GOK Xa (G q) 116 Qz:=Do λa b s p r ha hb hr=>by
 have e1:a = .v (.string s):=ha;have e2:b = .v (.string p):=hb;subst e1;subst e2;split at hr
 .rename_i h;injection hr with hr;subst hr;refine⟨⟨_,(Tryz.f116.body).get!,Tryz.func116,by kernel_rfl,by kernel_rfl⟩,λI w us hlt hG hargs=>?_⟩
  have e:us = #[.string s,.string p]:=by
   have:=Oj (vs:=[.string s,.string p]) hargs;cases us;simp_all
  subst e
  have hm:w.cell? ⟨0,0,none⟩=some (.int .i64 q.m):=by
   obtain⟨x,hx,_,hr⟩:=(hG 0 [.v (.int .i64 q.m)] rfl).2.1.at_ 0 (c:=.v (.int .i64 q.m)) rfl;simp only[Ao]at hr;subst hr;simpa using hx
  refine(Tryz.strings_Split s p q.m w h.1 hm h.2).mono λe w' h'=>?_;obtain⟨he,rfl⟩:=h';have hlen:=Lib.splitB_all p h.2 0 _ s rfl;generalize Lib.splitB p 0 (Lib.countB s p) s=l at he hlen ⊢;have ea:∀o,(w.alloc o).heap=w.heap.push o:=λ_=>rfl;refine⟨_,_,λg=>I g\/g=w.heap.size,he,rfl,?_,⟨rfl,rfl,rfl⟩,by rw[ea];simp,λg hg=>?_,λ_ h=>.inl h,λg h=>?_,λg hg=>?_⟩
  .simp only[slT,Ao,hlen];refine⟨⟨w.heap.size,0,none⟩,_,rfl,Nat.le_refl _,.inr ⟨rfl,.inr rfl,Bv.mk λk c hk=>?_⟩⟩;rw[aU,List.getElem?_map]at hk;obtain⟨x,hx,rfl⟩:=Option.map_eq_some_iff.1 hk;refine⟨.string x,?_,rfl,by simp only[Ao]⟩;simp only[World.cell?,ea,Array.getElem?_push_size];simp[hx]
  .rw[ea,Xg hg];simp[hg]
  .rcases h with h | rfl
   .exact .inl h
   .exact .inr (Nat.le_refl _)
  .rcases hg with hg | rfl
   .have:=hlt g hg;rw[ea];simp;omega
   .rw[ea];simp
 .cases hr
end
open Go Go.Abs
variable {q : Gl}
theorem mixed:Xa.follows .mixedOrders=true:=by kernel_rfl
theorem Ac:Ctx Xa (G q) (orc []):=As.nil.ctx mixed
abbrev cv (c:UInt8):T:=.v (.int .u8 (c.toNat:Int))
def AR (c:UInt8):Bool:=decide (48<=c.toNat)&&decide (c.toNat<=57)
def Bq (c:UInt8):Bool:=decide (65<=c.toNat)&&decide (c.toNat<=90)
def B7 (c:UInt8):Bool:=decide (97<=c.toNat)&&decide (c.toNat<=122)
def BL (big:Bool) (c:UInt8):Bool:=AR c||decide (c.toNat=45)||(big&&Bq c)||(!big&&B7 c)
def AD (big:Bool) (s:ByteArray):Bool:=
 match s.data.toList with
 | []=>false
 | c::r=>decide (s.size<=32) && !AR c && !decide (c.toNat=45)&&(c::r).all (BL big)
theorem DM (s:ByteArray) (j:Nat) (c:UInt8) (h:s.data.toList[j]?=some c):Ms (.t (sv s)) (.t (iv (j:Int)))=some (.t (cv c)):=by
 have hj:j<s.data.size:=by
  have:=(Xc.1 h).1;simpa using this
 have:s[j]?=some c:=by
  have h2:s.data[j]?=some c:=by simpa using h
  have h3:j<s.size:=hj;rw[getElem?_pos s j h3];rw[getElem?_pos s.data j hj]at h2;exact h2
 simp[Ms,this]
abbrev rv (c:Int):T:=.v (.int .i32 c)
def JK (c:Int):Bool:=decide (97<=c)&&decide (c<=122)
def rUp (c:Int):Bool:=decide (65<=c)&&decide (c<=90)
def F9 (c:Int):Bool:=decide (48<=c)&&decide (c<=57)
def aV:Ty Int:=⟨λt n=>t=rv n,λt a b h h'=>by rw[h]at h';injection h' with h';injection h'⟩
theorem aW (c:Int):A1 Xa (G q) 88 [rv c] (· = bv (JK c)):=by
 refine rR.runs Ac rfl ?_;by_cases h1:97<=c<;>(conv in XU=>cbv)<;>simp -implicitDefEqProofs [JK,h1]
theorem SZ (c:Int):A1 Xa (G q) 90 [rv c] (· = bv (rUp c)):=by
 refine rS.runs Ac rfl ?_;by_cases h1:65<=c<;>(conv in XV=>cbv)<;>simp -implicitDefEqProofs [rUp,h1]
theorem Ta (c:Int):A1 Xa (G q) 91 [rv c] (· = bv (F9 c)):=by
 refine rU.runs Ac rfl ?_;by_cases h1:48<=c<;>(conv in XX=>cbv)<;>simp -implicitDefEqProofs [F9,h1]
noncomputable def GW (f:Int->Bool):List T->Option T:=g1 aV λc=>some (bv (f c))
theorem JL {F:Nat} {f:Int->Bool} (h:∀c,A1 Xa (G q) F [rv c] (· = bv (f c))):GOK Xa (G q) F (GW f):=
 D6 λa x r ha hr=>by
  have e:a=rv x:=ha;injection hr with hr;subst hr;subst e;exact h x
theorem JM (f:Int->Bool) (c:Int):GW f [rv c]=some (bv (f c)):=D8 (τ:=aV) rfl
abbrev fv (F:Nat):T:=.v (.func (.func F) #[] #[])
theorem vU (f:Int->Bool) (c:Int) (H:Ab) (nx:Nat):Ct (GW f) [.t (rv c)] H nx=some (.t (bv (f c)),H,nx):=by
 simp[Ct,JM]
theorem Tb (c:UInt8):JK (c.toNat:Int)=B7 c:=by
 unfold JK B7;congr 1
 .congr 1;apply propext;omega
 .congr 1;apply propext;omega
theorem Q0 (c:UInt8):rUp (c.toNat:Int)=Bq c:=by
 unfold rUp Bq;congr 1
 .congr 1;apply propext;omega
 .congr 1;apply propext;omega
theorem Oo (c:UInt8):F9 (c.toNat:Int)=AR c:=by
 unfold F9 AR;congr 1
 .congr 1;apply propext;omega
 .congr 1;apply propext;omega
def DV (big:Bool) (i:Nat) (c:UInt8):Bool:=(if big then Bq c else B7 c)||(decide (i≠0)&&(AR c||decide (c.toNat=45)))
theorem Q2 (big:Bool) (s:ByteArray):AD big s=true ↔ 1<=s.size/\s.size<=32/\∀(i:Nat) c,s.data.toList[i]?=some c->DV big i c=true:=by
 have hlen:s.data.toList.length=s.size:=rfl;unfold AD
 cases hl:s.data.toList with
 | nil=>rw[hl]at hlen;simp at hlen;simp;omega
 | cons c r=>
  rw[hl]at hlen;simp only[List.length_cons]at hlen
  have part:∀x,BL big x=(AR x||decide (x.toNat=45)||if big then Bq x else B7 x):=by
   intro x;cases big<;>simp[BL]
  have disj:∀x,(if big then Bq x else B7 x)=true->AR x=false/\x.toNat≠45:=by
   intro x hx;cases big<;>simp[Bq,B7,AR]at hx ⊢ <;> omega
  simp only[Xd,decide_eq_true_eq,Bool.not_eq_true',Xf,decide_eq_false_iff_not];constructor
  .rintro⟨⟨⟨h1,h2⟩,h3⟩,h4⟩;refine⟨by omega,h1,λi x hx=>?_⟩;have hp:=h4 x (Xj hx);rw[part]at hp
   cases i with
   | zero=>
    simp at hx;subst hx;simp[DV];simpa[h2,h3]using hp
   | succ i=>
    simp[DV];simp at hp;rcases hp with(h | h) | h
    .exact .inr (.inl h)
    .exact .inr (.inr h)
    .exact .inl h
  .rintro⟨_,h1,h2⟩
   have h0:(if big then Bq c else B7 c)=true:=by
    have:=h2 0 c rfl;simp[DV]at this;cases big<;>simpa using this
   obtain⟨d1,d2⟩:=disj c h0;refine⟨⟨⟨h1,d1⟩,d2⟩,λx hx=>?_⟩;obtain⟨i,hi,e⟩:=Xk hx;have:=h2 i x (by rw[Xe hi,e]);rw[part];simp[DV]at this ⊢;rcases this with h | ⟨_,h | h⟩
   .exact .inr h
   .exact .inl (.inl h)
   .exact .inl (.inr h)
theorem aX (s:ByteArray) (j:Nat) (c:UInt8) (h:s.data.toList[j]?=some c) (ha:c.toNat<128):Utf8.decode s j=(c.toNat,1):=by
 have hj:j<s.size:=by have:=(Xc.1 h).1;simpa using this
 have e:s[j]'hj=c:=by
  have:=(Xc.1 h).2;show s.data[j]=c;simpa using this
 have:=decode_ascii s j hj (by rw[e];exact ha);rw[e]at this;exact this
theorem aY (s:ByteArray) (j:Nat) (c:UInt8) (h:s.data.toList[j]?=some c) (ha:¬c.toNat<128):128<=(Utf8.decode s j).1:=by
 have hj:j<s.size:=by have:=(Xc.1 h).1;simpa using this
 have e:s.get! (j+0)=c:=by
  have e1:s[j]'hj=c:=by
   have:=(Xc.1 h).2;show s.data[j]=c;simpa using this
  rw[<-e1];show s.get! j=_;simp[ByteArray.get!,getElem!_pos,hj];rfl
 unfold Utf8.decode;simp only[e,ha,if_false]
 repeat' split
 all_goals (first | (simp only[Utf8.runeError];omega) | (rename_i h;simp only[ge_iff_le,decide_eq_true_eq,Xd]at h;omega) | skip)
theorem aZ {H:Ab} {nx b:Nat} {s:ByteArray} {pos:Nat} (hl:Aa H b=some (.iter s pos)) (hp:pos<s.size) :
  hxM .next H nx [.ptr b 0]=some (.t (.tu [.v (.bool true),.v (.int .i64 pos),.v (.int .i32 (Utf8.decode s pos).1)]),upd H b (.iter s (pos+(Utf8.decode s pos).2)),nx):=by
 simp only[hxM,hl,hp,if_true]
theorem bA {H:Ab} {nx b:Nat} {s:ByteArray} {pos:Nat} (hl:Aa H b=some (.iter s pos)) (hp:¬pos<s.size) :
  hxM .next H nx [.ptr b 0]=some (.t (.tu [.v (.bool false)]),H,nx):=by
 simp only[hxM,hl,hp,if_false]
def HN (big:Bool):Nat:=if big then 90 else 88
def IL (big:Bool) (c:Int):Bool:=if big then rUp c else JK c
theorem vV (big:Bool):GOK Xa (G q) (HN big) (GW (IL big)):=by
 cases big
 .exact JL aW
 .exact JL SZ
noncomputable def tbF:Tbl:=[(91,GW F9)]
noncomputable def hbF (big:Bool):EF:=[(HN big,Ct (GW (IL big)))]
theorem GX (big:Bool):Ctx Xa (G q) (orh tbF (hbF big)):=(As.cons (JL Ta) .nil).ctxH (.cons (vV big).hok .nil) mixed
def SF (big:Bool) (s:ByteArray) (j:Nat):Ad:=⟨[(16,.ptr 0 0),(1,.t (fv (HN big))),(0,.t (sv s))],[(0,.iter s j)],1,38⟩
theorem bB (big:Bool) (H:Ab) (nx:Nat) (c:Int):IG (hbF big) (HN big) [.t (rv c)] H nx=some (.t (bv (IL big c)),H,nx):=by
 simp only[hbF,qX,if_true,vU]
def Tc (big:Bool) (s:ByteArray) (j:Nat):Prop:=j<=s.size/\∀(i:Nat) c,i<j->s.data.toList[i]?=some c->DV big i c=true
theorem bC (big:Bool) (s:ByteArray) (hs:s.size<=9223372036854775807):A1 Xa (G q) 104 [sv s,fv (HN big)] (· = bv (AD big s)):=by
 refine rQ.call rfl ?_;(conv in XT=>cbv);have hlen:s.data.toList.length=s.size:=rfl;refine Av (GX big) ?_;simp -implicitDefEqProofs;by_cases h0:s.size=0
 .have h0':((s.size:Int)==0)=true:=by rw[h0];rfl
  have hn:AD big s=false:=by
   cases h:AD big s with
   | false=>rfl
   | true=>have:=(Q2 big s).1 h;omega
  refine Ap (GX big) ?_;simp -implicitDefEqProofs [h0',hn]
 have h0':((s.size:Int)==0)=false:=by rw[zu];omega
 by_cases h1:32<s.size
 .have h1':(32:Int)<(s.size:Int):=by omega
  have hn:AD big s=false:=by
   cases h:AD big s with
   | false=>rfl
   | true=>have:=(Q2 big s).1 h;omega
  refine Ap (GX big) ?_;simp -implicitDefEqProofs [h0',h1',hn]
 have h1':¬(32:Int)<(s.size:Int):=by omega
 refine Av (GX big) ?_;simp -implicitDefEqProofs [h0',h1']
 have no:∀(j:Nat) c,s.data.toList[j]?=some c->DV big j c=false->AD big s=false:=by
  intro j c hc hk
  cases h:AD big s with
  | false=>rfl
  | true=>rw[((Q2 big s).1 h).2.2 j c hc]at hk;cases hk
 refine BF (α:=Unit) (λ_=>SF big s s.size) (λ_=>AD big s=true) (λ_=>rfl) ?_ ?_
 .refine Av (GX big) ?_;simp -implicitDefEqProofs;refine BD ?_;refine D5 (SF big s) (λj=>s.size-j) (λj=>Tc big s j) 0 (λ_=>rfl) ⟨Nat.zero_le _,λi c h=>by omega⟩ ?_ rfl ?_
  .refine AQ rfl rfl ?_ ?_<;>simp -implicitDefEqProofs [SF]
  .rintro j ⟨hj,hok⟩;refine Ap (GX big) ?_;by_cases hlt:j<s.size
   .obtain⟨c,hc⟩:∃c,s.data.toList[j]?=some c:=⟨_,Xe hlt⟩
    have hnx:=aZ (H:=(SF big s j).H) (nx:=1) (b:=0) (s:=s) (pos:=j) rfl hlt;simp only[SF]at hnx;have cvF:=λH nx c=>bB big H nx c;have qd:=λc=>JM F9 c
    have lr:IL big (c.toNat:Int)=(if big then Bq c else B7 c):=by
     unfold IL;cases big
     .exact Tb c
     .exact Q0 c
    by_cases ha:c.toNat<128
    .have hd:=aX s j c hc ha;rw[hd]at hnx
     have go:DV big j c=true->Am Xa (G q) 0 (SF big s) (λa'=>Tc big s a'/\s.size-a'<s.size-j) (SF big s (j+1)):=by
      intro hk;refine Am.mk (j+1) ⟨⟨hlt,λi x hi hx=>?_⟩,by omega⟩ (Sub.refl _);by_cases e:i=j
      .subst e;rw[hc]at hx;injection hx with hx;subst hx;exact hk
      .exact hok i x (by omega) hx
     have fin:∀s1:Ad,Sub Xa (G q) 0 s1 (SF big s (j+1))->DV big j c=true->Am Xa (G q) 0 (SF big s) (λa'=>Tc big s a'/\s.size-a'<s.size-j) s1:=by
      intro s1 h1 hk;obtain⟨a,h2,h3⟩:=go hk;exact⟨a,h2,h1.trans h3⟩
     cases hL:(if big then Bq c else B7 c:Bool)with
     | true=>
      have hk:DV big j c=true:=by simp[DV,hL]
      rw[hL]at lr;simp -implicitDefEqProofs [SF,hnx,BC,cvF,lr];refine fin _ ?_ hk;refine AQ rfl rfl ?_ ?_<;>simp -implicitDefEqProofs [SF,upd]
     | false=>
      rw[hL]at lr;by_cases hj0:j=0
      .have hk:DV big j c=false:=by simp[DV,hL,hj0]
       have hz:((j:Int)==0)=true:=by rw[hj0];rfl
       simp -implicitDefEqProofs [SF,hnx,BC,cvF,lr,hz,no j c hc hk]
      .have hz:((j:Int)==0)=false:=by rw[zu];omega
       cases hD:AR c with
       | true=>
        have hk:DV big j c=true:=by simp[DV,hL,hj0,hD]
        have hD':F9 (c.toNat:Int)=true:=by rw[Oo,hD]
        simp -implicitDefEqProofs [SF,hnx,BC,cvF,lr,hz,tbF,qd,hD'];refine fin _ ?_ hk;refine AQ rfl rfl ?_ ?_<;>simp -implicitDefEqProofs [SF,upd]
       | false=>
        have hD':F9 (c.toNat:Int)=false:=by rw[Oo,hD]
        by_cases h45:c.toNat=45
        .have hk:DV big j c=true:=by simp[DV,hL,hj0,hD,h45]
         have h4:((c.toNat:Int) != 45)=false:=by rw[h45];rfl
         simp -implicitDefEqProofs [SF,hnx,BC,cvF,lr,hz,tbF,qd,hD',h4];refine fin _ ?_ hk;refine AQ rfl rfl ?_ ?_<;>simp -implicitDefEqProofs [SF,upd]
        .have hk:DV big j c=false:=by simp[DV,hL,hj0,hD,h45]
         have h4:((c.toNat:Int) != 45)=true:=by rw[bne_iff_ne];omega
         simp -implicitDefEqProofs [SF,hnx,BC,cvF,lr,hz,tbF,qd,hD',h4,no j c hc hk]
    .have hd:=aY s j c hc ha
     obtain⟨r,hr⟩:∃r:Nat,r=(Utf8.decode s j).1:=⟨_,rfl⟩
     rw[<-hr]at hd
     have lr:IL big (r:Int)=false:=by
      unfold IL rUp JK;have h1:decide ((r:Int)<=90)=false:=zx (by omega);have h2:decide ((r:Int)<=122)=false:=zx (by omega);cases big<;>simp only[h1,h2,Xb,if_true,Bool.false_eq_true,if_false]
     have hD':F9 (r:Int)=false:=by
      unfold F9;have h1:decide ((r:Int)<=57)=false:=zx (by omega);rw[h1,Xb]
     have h4:((r:Int) != 45)=true:=by rw[bne_iff_ne];omega
     have hk:DV big j c=false:=by
      have h1:Bq c=false:=by unfold Bq;rw[zx (by omega:¬c.toNat<=90),Xb]
      have h2:B7 c=false:=by unfold B7;rw[zx (by omega:¬c.toNat<=122),Xb]
      have h3:AR c=false:=by unfold AR;rw[zx (by omega:¬c.toNat<=57),Xb]
      have h5:decide (c.toNat=45)=false:=zx (by omega);unfold DV;rw[h1,h2,h3,h5];cases big<;>simp
     by_cases hj0:j=0
     .have hz:((j:Int)==0)=true:=by rw[hj0];rfl
      simp -implicitDefEqProofs [SF,hnx,BC,cvF,<-hr,lr,hz,no j c hc hk]
     .have hz:((j:Int)==0)=false:=by rw[zu];omega
      simp -implicitDefEqProofs [SF,hnx,BC,cvF,<-hr,lr,hz,tbF,qd,hD',h4,no j c hc hk]
   .have hover:=bA (H:=(SF big s j).H) (nx:=1) (b:=0) (s:=s) (pos:=j) rfl hlt;simp only[SF]at hover;simp -implicitDefEqProofs [SF,hover,BC]
    have e:j=s.size:=by omega
    subst e;refine Am.mk () ((Q2 big s).2 ⟨by omega,by omega,λi c hc=>hok i c ?_ hc⟩) (AQ rfl rfl (by simp -implicitDefEqProofs) (by simp -implicitDefEqProofs));have:=(Xc.1 hc).1;omega
 .rintro _ hn;refine Ap (GX big) ?_;simp -implicitDefEqProofs [SF,hn]
abbrev lim:Nat:=9223372036854775807
noncomputable def Lj:List T->Option T
 | [a,.v (.func (.func F) ⟨[]⟩ ⟨[]⟩)]=>(BU.dec a).bind λs=>if s.size<=lim then(if F=88 then some (bv (AD false s))else if F=90 then some (bv (AD true s))else none)else none
 | _=>none
theorem vX:GOK Xa (G q) 104 Lj:=λargs r hr=>by
 unfold Lj at hr;split at hr
 .rename_i a F;obtain⟨s,hs,hr2⟩:=Option.bind_eq_some_iff.1 hr;have e:a=sv s:=Ty.is_dec hs;subst e;split at hr2
  .rename_i hl;split at hr2
   .rename_i e;subst e;injection hr2 with hr2;subst hr2;exact bC false s hl
   .split at hr2
    .rename_i e;subst e;injection hr2 with hr2;subst hr2;exact bC true s hl
    .cases hr2
  .cases hr2
 .cases hr
theorem vY (s:ByteArray) (hs:s.size<=lim):Lj [sv s,fv 88]=some (bv (AD false s)):=by
 have e:=Ty.dec_is (τ:=BU) (t:=sv s) (a:=s) rfl;simp[Lj,e,hs]
theorem vZ (s:ByteArray) (hs:s.size<=lim):Lj [sv s,fv 90]=some (bv (AD true s)):=by
 have e:=Ty.dec_is (τ:=BU) (t:=sv s) (a:=s) rfl;simp[Lj,e,hs]
noncomputable def hbN:EF:=[(104,Ct Lj)]
theorem bD:Ctx Xa (G q) (orh [] hbN):=As.nil.ctxH (.cons vX.hok .nil) mixed
theorem wA (s:ByteArray) (hs:s.size<=lim):A1 Xa (G q) 64 [sv s] (· = bv (AD false s)):=by
 refine rJ.runs bD rfl ?_
 (conv in XN=>cbv);simp -implicitDefEqProofs [hbN,Ct,vY s hs]
theorem wB (s:ByteArray) (hs:s.size<=lim):A1 Xa (G q) 105 [sv s] (· = bv (AD true s)):=by
 refine rK.runs bD rfl ?_
 (conv in XO=>cbv);simp -implicitDefEqProofs [hbN,Ct,vZ s hs]
def okW (c:UInt8):Bool:=decide (33<=c.toNat)&&decide (c.toNat<=126) && !Bq c && !decide (c.toNat=34) && !decide (c.toNat=92)
def Cx (s:ByteArray):Bool:=decide (1<=s.size)&&decide (s.size<=32)&&s.data.toList.all okW
noncomputable def tbW:Tbl:=[(90,GW rUp)]
theorem Lk:Ctx Xa (G q) (orc tbW):=(As.cons (JL SZ) .nil).ctx mixed
def SW (s:ByteArray) (j:Nat):Ad:=⟨[(14,.ptr 0 0),(0,.t (sv s))],[(0,.iter s j)],1,36⟩
def OkW (s:ByteArray) (j:Nat):Prop:=j<=s.size/\∀(i:Nat) c,i<j->s.data.toList[i]?=some c->okW c=true
theorem M8 {s:ByteArray} {j:Nat} {c:UInt8} (hc:s.data.toList[j]?=some c) (hk:okW c=false):Cx s=false:=by
 cases h:Cx s with
 | false=>rfl
 | true=>
  simp only[Cx,Xd,Xf]at h;rw[h.2 c (Xj hc)]at hk;cases hk
theorem wC (c:UInt8):okW c = !(decide ((c.toNat:Int)<33)||decide (126<(c.toNat:Int))||rUp (c.toNat:Int)||((c.toNat:Int)==34)||((c.toNat:Int)==92)):=by
 have e1:decide ((c.toNat:Int)<33) = !decide (33<=c.toNat):=by
  by_cases h:33<=c.toNat
  .rw[zw h,zx (by omega)];rfl
  .rw[zx h,zw (by omega)];rfl
 have e2:decide (126<(c.toNat:Int)) = !decide (c.toNat<=126):=by
  by_cases h:c.toNat<=126
  .rw[zw h,zx (by omega)];rfl
  .rw[zx h,zw (by omega)];rfl
 have e3:((c.toNat:Int)==34)=decide (c.toNat=34):=by
  by_cases h:c.toNat=34
  .rw[h];rfl
  .rw[zx h,zu];omega
 have e4:((c.toNat:Int)==92)=decide (c.toNat=92):=by
  by_cases h:c.toNat=92
  .rw[h];rfl
  .rw[zx h,zu];omega
 rw[e1,e2,e3,e4,Q0];unfold okW;cases decide (33<=c.toNat)<;>cases decide (c.toNat<=126)<;>cases Bq c<;>cases decide (c.toNat=34)<;>cases decide (c.toNat=92)<;>rfl
theorem wD (s:ByteArray) (hs:s.size<=lim):A1 Xa (G q) 99 [sv s] (· = bv (Cx s)):=by
 refine rL.call rfl ?_;(conv in XP=>cbv);have hlen:s.data.toList.length=s.size:=rfl;refine Av Lk ?_;simp -implicitDefEqProofs;by_cases h0:s.size=0
 .have h0':((s.size:Int)==0)=true:=by rw[h0];rfl
  have hn:Cx s=false:=by unfold Cx;rw[zx (by omega)];rfl
  refine Ap Lk ?_;simp -implicitDefEqProofs [h0',hn]
 have h0':((s.size:Int)==0)=false:=by rw[zu];omega
 by_cases h1:32<s.size
 .have h1':(32:Int)<(s.size:Int):=by omega
  have hn:Cx s=false:=by unfold Cx;rw[zx (by omega:¬s.size<=32),Xb];rfl
  refine Ap Lk ?_;simp -implicitDefEqProofs [h0',h1',hn]
 have h1':¬(32:Int)<(s.size:Int):=by omega
 refine Av Lk ?_;simp -implicitDefEqProofs [h0',h1'];refine BF (α:=Unit) (λ_=>SW s s.size) (λ_=>Cx s=true) (λ_=>rfl) ?_ ?_
 .refine Av Lk ?_;simp -implicitDefEqProofs;refine BD ?_;refine D5 (SW s) (λj=>s.size-j) (λj=>OkW s j) 0 (λ_=>rfl) ⟨Nat.zero_le _,λi c h=>by omega⟩ ?_ rfl ?_
  .refine AQ rfl rfl ?_ ?_<;>simp -implicitDefEqProofs [SW]
  .rintro j ⟨hj,hok⟩;refine Ap Lk ?_;by_cases hlt:j<s.size
   .obtain⟨c,hc⟩:∃c,s.data.toList[j]?=some c:=⟨_,Xe hlt⟩
    have hnx:=aZ (H:=(SW s j).H) (nx:=1) (b:=0) (s:=s) (pos:=j) rfl hlt;simp only[SW]at hnx;have qd:=λc=>JM rUp c;by_cases ha:c.toNat<128
    .have hd:=aX s j c hc ha;rw[hd]at hnx;have hk:=wC c
     have fin:∀s1:Ad,Sub Xa (G q) 0 s1 (SW s (j+1))->okW c=true->Am Xa (G q) 0 (SW s) (λa'=>OkW s a'/\s.size-a'<s.size-j) s1:=by
      intro s1 h1 hk;refine Am.mk (j+1) ⟨⟨hlt,λi x hi hx=>?_⟩,by omega⟩ h1;by_cases e:i=j
      .subst e;rw[hc]at hx;injection hx with hx;subst hx;exact hk
      .exact hok i x (by omega) hx
     cases t1:decide ((c.toNat:Int)<33)with
     | true=>rw[t1]at hk;simp -implicitDefEqProofs [SW,hnx,BC,t1,M8 hc hk]
     | false=>
      cases t2:decide (126<(c.toNat:Int))with
      | true=>rw[t1,t2]at hk;simp -implicitDefEqProofs [SW,hnx,BC,t1,t2,M8 hc hk]
      | false=>
       cases t3:rUp (c.toNat:Int)with
       | true=>rw[t1,t2,t3]at hk;simp -implicitDefEqProofs [SW,hnx,BC,t1,t2,tbW,qd,t3,M8 hc hk]
       | false=>
        cases t4:((c.toNat:Int)==34)with
        | true=>rw[t1,t2,t3,t4]at hk;simp -implicitDefEqProofs [SW,hnx,BC,t1,t2,tbW,qd,t3,t4,M8 hc hk]
        | false=>
         cases t5:((c.toNat:Int)==92)with
         | true=>rw[t1,t2,t3,t4,t5]at hk;simp -implicitDefEqProofs [SW,hnx,BC,t1,t2,tbW,qd,t3,t4,t5,M8 hc hk]
         | false=>
          rw[t1,t2,t3,t4,t5]at hk;simp -implicitDefEqProofs [SW,hnx,BC,t1,t2,tbW,qd,t3,t4,t5];refine fin _ ?_ hk;refine AQ rfl rfl ?_ ?_<;>simp -implicitDefEqProofs [SW,upd]
    .have hd:=aY s j c hc ha
     obtain⟨r,hr⟩:∃r:Nat,r=(Utf8.decode s j).1:=⟨_,rfl⟩
     rw[<-hr]at hd;have t1:decide ((r:Int)<33)=false:=zx (by omega);have t2:decide (126<(r:Int))=true:=zw (by omega)
     have hk:okW c=false:=by unfold okW;rw[zx (by omega:¬c.toNat<=126),Xb];rfl
     simp -implicitDefEqProofs [SW,hnx,BC,<-hr,t1,t2,M8 hc hk]
   .have hover:=bA (H:=(SW s j).H) (nx:=1) (b:=0) (s:=s) (pos:=j) rfl hlt;simp only[SW]at hover;simp -implicitDefEqProofs [SW,hover,BC]
    have e:j=s.size:=by omega
    subst e;refine Am.mk () ?_ (AQ rfl rfl (by simp -implicitDefEqProofs) (by simp -implicitDefEqProofs));simp only[Cx,Xd,decide_eq_true_eq,Xf];refine⟨⟨by omega,by omega⟩,λx hx=>?_⟩;obtain⟨i,hi,e⟩:=Xk hx;exact hok i x (by omega) (by rw[Xe hi,e])
 .rintro _ hn;refine Ap Lk ?_;simp -implicitDefEqProofs [SW,hn]
end Go.Proofs.YtobnacghaamfoaaGreatDoor
