/- Auxiliary facts. -/
import Derived.Test.YtmgjopafgboljaaGreatDoorVFQ14
import Derived.Test.YtmgjopafgboljaaGreatDoorVFQ11
set_option linter.unusedSimpArgs false
set_option maxRecDepth 100000
set_option maxHeartbeats 0
set_option linter.unusedVariables false
open Go.Proofs.Tryz renaming prog->Xc,func126->Xg
open List renaming getElem?_eq_some_iff->Xd,getElem?_eq_getElem->Xf,length_cons->Xi,all_eq_true->Xj,mem_of_getElem?->Xk
open Bool renaming and_false->Xe,and_eq_true->Xl
open Nat renaming lt_of_lt_of_le->Xh
namespace Go.Proofs.YtmgjopafgboljaaGreatDoor
open Go Go.Abs Go.RowKit
abbrev bs (l:List UInt8):ByteArray:=⟨l.toArray⟩
section
variable {q : Gl}
theorem ND {w w':World} (h:w'=w):Below w.heap.size w w':=by subst h;exact Below.refl _ _
theorem lW (w:World) (e:TypeId) (t:ByteArray):Below w.heap.size w (Lib.bytesWorld w e t):=by
 unfold Lib.bytesWorld World.freeze;rw[zw (by decide)];have e:∀o,(w.drew.alloc o).heap=w.heap.push o:=λ_=>rfl;refine⟨rfl,rfl,rfl,?_,λj hj=>?_⟩
 .simp only[Array.size_modify,e,Array.size_push];omega
 .simp only[e];rw[Array.getElem?_modify,zw (by omega),Array.getElem?_push_lt hj];simp[hj]
theorem lX (w:World) (k:Nat) (os:Array Obj):Below w.heap.size w (Sort.grow (w.drewN k) os):=by
 refine⟨rfl,rfl,rfl,by simp[Sort.grow,World.drewN],λj hj=>?_⟩;simp only[Sort.grow,World.drewN];rw[Array.getElem?_append_left hj]
noncomputable def NF:List T->Option T:=g2 CX CX λs p=>some (sv (bs (Lib.trimPrefix s.data.toList p.data.toList)))
theorem lY:GOK Xc (G q) 124 NF:=Ib λa b s p r ha hb hr=>by
 have e1:a = .v (.string s):=ha;have e2:b = .v (.string p):=hb;subst e1;subst e2;injection hr with hr;subst hr
 exact Bc.lib (vs:=[.string s,.string p]) ⟨_,(Tryz.f124.body).get!,Tryz.func124,by kernel_rfl,by kernel_rfl⟩ λI w _=>(Tryz.strings_TrimPrefix s p w).mono λe w' h=>⟨h.1,ND h.2⟩
def PK:List T->Option T
 | [.v (.string s),.v (.int .u8 c)]=>some (iv (Lib.indexByte s.data.toList c.toNat.toUInt8))
 | _=>none
theorem mA:GOK Xc (G q) 122 PK:=λargs r hr=>by
 unfold PK at hr;split at hr
 .rename_i s c;injection hr with hr;subst hr
  exact Bc.lib (vs:=[.string s,.int .u8 c]) ⟨_,(Tryz.f122.body).get!,Tryz.func122,by kernel_rfl,by kernel_rfl⟩ λI w _=>(Tryz.strings_IndexByte s c w).mono λe w' h=>⟨h.1,ND h.2⟩
 .cases hr
noncomputable def NG:List T->Option T:=g2 CX CX λs c=>if s.size<=9223372036854775807/\c.size<100/\c.data.toList.all (λb=>decide (b.toNat<128))=true then some (sv (bs (Lib.trimS s.data.toList c.data.toList)))else none
theorem mB:GOK Xc (G q) 125 NG:=Ib λa b s c r ha hb hr=>by
 have e1:a = .v (.string s):=ha;have e2:b = .v (.string c):=hb;subst e1;subst e2;split at hr
 .rename_i h;injection hr with hr;subst hr;exact Bc.lib (vs:=[.string s,.string c]) ⟨_,(Tryz.f125.body).get!,Tryz.func125,by kernel_rfl,by kernel_rfl⟩ λI w _=>(Any.strings_Trim_laid Tryz.lays160 (by kernel_rfl) s c w h.1 (by omega) (ascii_of_all h.2.2)).mono λe w' h=>h
 .cases hr
noncomputable def NH:List T->Option T:=g1 Nk λn=>if -9223372036854775808<=n/\n<=9223372036854775807 then some (sv (bs (Lib.itoa n)))else none
theorem mC:GOK Xc (G q) 82 NH:=JJ λa n r ha hr=>by
 have e1:a = .v (.int .i64 n):=ha;subst e1;split at hr
 .rename_i h;injection hr with hr;subst hr;refine Bc.lib (vs:=[.int .i64 n]) ⟨_,(Tryz.f82.body).get!,Tryz.func82,by kernel_rfl,by kernel_rfl⟩ λI w hG=>?_
  have ht:Lib.TabIs Xc w "internal/strconv.uint64pow10" .u64 Lib.pow10Tab:=by
   have:=(hG 1 (LD.map λn=>.v (.int .u64 n)) rfl).2
   have e:(LD.map λn=>T.v (.int .u64 n))=(LD.map λn=>Value.int .u64 n).map .v:=by rw[List.map_map];rfl
   rw[e]at this;exact Sk (by kernel_rfl) this
  refine(Tryz.strconv_Itoa n h.1 h.2 w ht).mono λe w' h=>⟨h.1,?_⟩
  obtain⟨k,os,rfl⟩:=h.2;exact lX w k os
 .cases hr
noncomputable def LF:List T->Option T:=g1 CX λs=>if s.size<=281474976710656 then(match Lib.atoiAll s.data.toList with
 | .ok v=>some (.tu [iv v,.v .nilIface])
 | .range=>some (.tu [iv (Lib.atoiSat s.data.toList),.ic 196 (.pt [])])
 | _=>none)else none
theorem mD:GOK Xc (G q) 126 LF:=JJ λa s r ha hr=>by
 have e1:a = .v (.string s):=ha;subst e1;split at hr
 .rename_i hlim;split at hr
  .rename_i v hv;injection hr with hr;subst hr;refine⟨⟨_,(Tryz.f126.body).get!,Xg,by kernel_rfl,by kernel_rfl⟩,λI w us hlt hG hargs=>?_⟩
   have e:us = #[.string s]:=by
    have:=MJ (vs:=[.string s]) hargs;cases us;simp_all
   subst e;refine(Tryz.strconv_Atoi_ok s (by omega) v hv w).mono λe w' h=>?_
   have hb:Below w.heap.size w w':=by
    rcases h.2 with h2 | ⟨t,rfl⟩
    .exact ND h2
    .exact lW w 5 t
   exact⟨_,_,I,h.1,rfl,by simp[AA,AX],⟨hb.os,hb.tape,hb.output⟩,hb.size,hb.block,λ_ h=>h,λ_ h=>.inl h,λg hg=>Xh (hlt g hg) hb.size⟩
  .rename_i hv;injection hr with hr;subst hr;refine⟨⟨_,(Tryz.f126.body).get!,Xg,by kernel_rfl,by kernel_rfl⟩,λI w us hlt hG hargs=>?_⟩
   have e:us = #[.string s]:=by
    have:=MJ (vs:=[.string s]) hargs;cases us;simp_all
   subst e
   have hvar:w.var? Xc "strconv.ErrRange" = some #[.iface q.tr q.pr]:=Sk (vs:=[.iface q.tr q.pr]) (by kernel_rfl) (hG 3 [.v (.iface q.tr q.pr)] rfl).2
   refine(Tryz.strconv_Atoi_range_var s hlim hv q.tr q.pr w hvar).mono λe w' h=>?_;obtain⟨N,he,hN,hw',hb⟩:=h;have hN':=(Array.getElem?_eq_some_iff.1 hw').1;refine⟨_,_,λg=>I g\/g=N,he,rfl,?_,⟨hb.os,hb.tape,hb.output⟩,hb.size,hb.block,λ_ h=>.inl h,λg h=>?_,λg hg=>?_⟩
   .simp only[AA,AX,Bs];exact⟨_,rfl,_,_,rfl,rfl,_,_,rfl,⟨_,rfl,N,0,rfl,.inr rfl,trivial⟩,rfl⟩
   .rcases h with h | rfl
    .exact .inl h
    .exact .inr hN
   .rcases hg with hg | rfl
    .exact Xh (hlt g hg) hb.size
    .exact hN'
  .cases hr
 .cases hr
theorem mE (l:List ByteArray):l.flatMap Ar.enc=l.map λx=>.v (.string x):=by
 induction l with
 | nil=>rfl
 | cons x l ih=>rw[List.flatMap_cons,List.map_cons,ih];rfl
end
open Go Go.Abs
variable {q : Gl}
theorem mixed:Xc.follows .mixedOrders=true:=by kernel_rfl
theorem JQ:Ctx Xc (G q) (orc []):=AB.nil.ctx mixed
abbrev cv (c:UInt8):T:=.v (.int .u8 (c.toNat:Int))
def Bd (c:UInt8):Bool:=decide (48<=c.toNat)&&decide (c.toNat<=57)
def DL (c:UInt8):Bool:=decide (65<=c.toNat)&&decide (c.toNat<=90)
def DM (c:UInt8):Bool:=decide (97<=c.toNat)&&decide (c.toNat<=122)
def LG:Ty UInt8:=⟨λt c=>t=cv c,λt a b h h'=>by
 rw[h]at h';injection h' with h';injection h' with _ h'
 exact UInt8.toNat_inj.1 (by omega)⟩
theorem Uz (c:UInt8):Bc Xc (G q) 127 [cv c] (· = bv (Bd c)):=by
 refine lD.runs JQ rfl ?_;by_cases h1:48<=c.toNat
 .have h1':(48:Int)<=(c.toNat:Int):=by omega
  have e:decide ((c.toNat:Int)<=57)=decide (c.toNat<=57):=by congr 1;apply propext;omega
  (conv in PH=>cbv);simp -implicitDefEqProofs [Bd,h1,h1',e]
 .have h1':¬(48:Int)<=(c.toNat:Int):=by omega
  (conv in PH=>cbv);simp -implicitDefEqProofs [Bd,h1,h1']
theorem mF (c:UInt8):Bc Xc (G q) 151 [cv c] (· = bv (DL c)):=by
 refine lE.runs JQ rfl ?_;by_cases h1:65<=c.toNat
 .have h1':(65:Int)<=(c.toNat:Int):=by omega
  have e:decide ((c.toNat:Int)<=90)=decide (c.toNat<=90):=by congr 1;apply propext;omega
  (conv in PI=>cbv);simp -implicitDefEqProofs [DL,h1,h1',e]
 .have h1':¬(65:Int)<=(c.toNat:Int):=by omega
  (conv in PI=>cbv);simp -implicitDefEqProofs [DL,h1,h1']
theorem mG (c:UInt8):Bc Xc (G q) 152 [cv c] (· = bv (DM c)):=by
 refine lF.runs JQ rfl ?_;by_cases h1:97<=c.toNat
 .have h1':(97:Int)<=(c.toNat:Int):=by omega
  have e:decide ((c.toNat:Int)<=122)=decide (c.toNat<=122):=by congr 1;apply propext;omega
  (conv in PJ=>cbv);simp -implicitDefEqProofs [DM,h1,h1',e]
 .have h1':¬(97:Int)<=(c.toNat:Int):=by omega
  (conv in PJ=>cbv);simp -implicitDefEqProofs [DM,h1,h1']
noncomputable def JR (f:UInt8->Bool):List T->Option T:=g1 LG λc=>some (bv (f c))
theorem NI {F:Nat} {f:UInt8->Bool} (h:∀c,Bc Xc (G q) F [cv c] (· = bv (f c))):GOK Xc (G q) F (JR f):=
 JJ λa x r ha hr=>by
  have e:a=cv x:=ha;injection hr with hr;subst hr;subst e;exact h x
theorem LH (f:UInt8->Bool) (c:UInt8):JR f [cv c]=some (bv (f c)):=JK (τ:=LG) rfl
noncomputable def tbc:Tbl:=[(127,JR Bd),(151,JR DL),(152,JR DM)]
theorem Fv:Ctx Xc (G q) (orc tbc):=(AB.cons (NI Uz) (.cons (NI mF) (.cons (NI mG) .nil))).ctx mixed
def Et (big:Bool) (c:UInt8):Bool:=Bd c||decide (c.toNat=45)||(big&&DL c)||(!big&&DM c)
theorem mH (c:UInt8) (big:Bool):Bc Xc (G q) 129 [cv c,bv big] (· = bv (Et big c)):=by
 refine lG.runs Fv rfl ?_
 have e45:((c.toNat:Int)==45)=decide (c.toNat=45):=by
  by_cases h:c.toNat=45
  .rw[h];rfl
  .rw[zt h,zp];omega
 have q1:=LH Bd c;have q2:=LH DL c;have q3:=LH DM c
 cases hd:Bd c<;>cases h4:decide (c.toNat=45)<;>cases big<;>cases hu:DL c<;>cases hl:DM c <;>
  (conv in Un=>cbv)<;>simp -implicitDefEqProofs [tbc,q1,q2,q3,e45,hd,h4,hu,hl,Et]
noncomputable def tbp:Tbl:=[(127,JR Bd),(129,g2 LG L5 λc b=>some (bv (Et b c)))]
theorem G7:Ctx Xc (G q) (orc tbp):=(AB.cons (NI Uz) (.cons (Ib λa b x y r ha hb hr=>by
 have e1:a=cv x:=ha;have e2:b=bv y:=hb;injection hr with hr;subst hr;subst e1;subst e2
 exact mH x y) .nil)).ctx mixed
def AN (big:Bool) (s:ByteArray):Bool:=
 match s.data.toList with
 | []=>false
 | c::r=>decide (s.size<=32) && !Bd c && !decide (c.toNat=45)&&(c::r).all (Et big)
def IV (s:ByteArray) (big:Bool) (j:Nat):Am:=⟨[(5,.t (iv (j:Int))),(1,.t (bv big)),(0,.t (sv s))],[],0,36⟩
theorem Ij (s:ByteArray) (j:Nat) (c:UInt8) (h:s.data.toList[j]?=some c):HR (.t (sv s)) (.t (iv (j:Int)))=some (.t (cv c)):=by
 have hj:j<s.data.size:=by
  have:=(Xd.1 h).1;simpa using this
 have:s[j]?=some c:=by
  have h2:s.data[j]?=some c:=by simpa using h
  have h3:j<s.size:=hj;rw[getElem?_pos s j h3];rw[getElem?_pos s.data j hj]at h2;exact h2
 simp[HR,this]
theorem mI (s:ByteArray) (big:Bool) (hs:s.size<=9223372036854775807):Bc Xc (G q) 104 [sv s,bv big] (· = bv (AN big s)):=by
 refine lH.call rfl ?_;(conv in Uo=>cbv);refine Ao G7 ?_;simp -implicitDefEqProofs;have hlen:s.data.toList.length=s.size:=rfl
 cases hl:s.data.toList with
 | nil=>
  rw[hl]at hlen
  have h0:(s.size:Int)<1:=by simp at hlen;omega
  refine A8 G7 ?_;simp -implicitDefEqProofs [h0,AN,hl]
 | cons c r=>
  rw[hl]at hlen;simp only[Xi]at hlen
  have h0:¬(s.size:Int)<1:=by omega
  have hx0:s.data.toList[0]?=some c:=by rw[hl];rfl
  have i0:=Ij s 0 c hx0;simp only[Int.natCast_zero]at i0;have qd:=LH Bd c;by_cases h1:32<s.size
  .have h1':(32:Int)<(s.size:Int):=by omega
   have hz:decide (s.size<=32)=false:=zt (by omega);refine A8 G7 ?_;simp -implicitDefEqProofs [h0,h1,h1',AN,hl,hz]
  .have h1':¬(32:Int)<(s.size:Int):=by omega
   have hz:decide (s.size<=32)=true:=zq (by omega)
   cases hd:Bd c with
   | true=>
    refine A8 G7 ?_;simp -implicitDefEqProofs [h0,h1,h1',i0,tbp,qd,hd,AN,hl]
   | false=>
    by_cases h4:c.toNat=45
    .have h4':((c.toNat:Int)==45)=true:=by rw[h4];rfl
     refine A8 G7 ?_;simp -implicitDefEqProofs [h0,h1,h1',i0,tbp,qd,hd,h4',AN,hl,h4]
    .have h4':((c.toNat:Int)==45)=false:=by rw[zp];omega
     refine Ao G7 ?_;simp -implicitDefEqProofs [h0,h1,h1',i0,tbp,qd,hd,h4']
     obtain⟨n,hn⟩:∃n,n=s.data.toList.findIdx λc=>!Et big c:=⟨_,rfl⟩
     have hle:n<=s.size:=by rw[hn];exact jP _ _
     have hres:AN big s=decide (n=s.size):=by
      have:AN big s=(s.data.toList).all (Et big):=by
       unfold AN;rw[hl];simp only[hz,hd,h4,decide_false,Bool.not_false,Bool.true_and]
      rw[this];by_cases e:n=s.size
      .rw[zq e,Xj];intro x hx;have:=jQ (p:=λc=>!Et big c) (l:=s.data.toList) (by rw[<-hn,e];rfl) x hx;simpa using this
      .rw[zt e,List.all_eq_false];obtain⟨x,hx,hp⟩:=TN (p:=λc=>!Et big c) (l:=s.data.toList) (by rw[<-hn];show n<s.size;omega);exact⟨x,Xk hx,by simpa using hp⟩
     rw[hres];refine AZ (λ_:Unit=>IV s big s.size) (λ_=>n=s.size) (λ_=>rfl) ?_ ?_
     .refine Ao G7 ?_;simp -implicitDefEqProofs;refine AY ?_;refine jA (IV s big) n (λ_=>rfl) ?_ rfl ?_ ?_
      .refine CN rfl rfl ?_ ?_<;>simp -implicitDefEqProofs [IV]
      .intro j hj;refine A8 G7 ?_
       have hjs:j<s.size:=by omega
       obtain⟨x,hx⟩:∃x,s.data.toList[j]?=some x:=⟨_,Xf hjs⟩
       have hp:=TM (p:=λc=>!Et big c) (by rw[<-hn];exact hj) hx
       have hp':Et big x=true:=by simpa using hp
       have e1:IntKind.i64.wrap ((j:Int)+1)=((j+1:Nat):Int):=Bb (by omega) (by omega);have q:=Hn (τ:=LG) (σ:=L5) (f:=λc b=>some (bv (Et b c))) (a:=cv x) (b:=bv big) rfl rfl;simp -implicitDefEqProofs [IV,hjs,Ij s j x hx,tbp,q,hp',e1];refine CN rfl rfl ?_ ?_<;>simp -implicitDefEqProofs
      .refine A8 G7 ?_;by_cases e:n=s.size
       .subst e;simp -implicitDefEqProofs [IV];exact A4.mk () trivial (CN rfl rfl (by simp -implicitDefEqProofs) (by simp -implicitDefEqProofs))
       .have hjs:n<s.size:=by omega
        obtain⟨x,hx,hp⟩:=TN (p:=λc=>!Et big c) (l:=s.data.toList) (by rw[<-hn];exact hjs);rw[<-hn]at hx
        have hp':Et big x=false:=by simpa using hp
        have q:=Hn (τ:=LG) (σ:=L5) (f:=λc b=>some (bv (Et b c))) (a:=cv x) (b:=bv big) rfl rfl;simp -implicitDefEqProofs [IV,hjs,Ij s n x hx,tbp,q,hp',e]
     .rintro _ e;refine A8 G7 ?_;simp -implicitDefEqProofs [IV,e]
abbrev rv (c:Int):T:=.v (.int .i32 c)
def JS (c:Int):Bool:=decide (97<=c)&&decide (c<=122)
def rUp (c:Int):Bool:=decide (65<=c)&&decide (c<=90)
def G9 (c:Int):Bool:=decide (48<=c)&&decide (c<=57)
def U0:Ty Int:=⟨λt n=>t=rv n,λt a b h h'=>by rw[h]at h';injection h' with h';injection h'⟩
theorem mJ (c:Int):Bc Xc (G q) 102 [rv c] (· = bv (JS c)):=by
 refine lI.runs JQ rfl ?_;by_cases h1:97<=c<;>(conv in Up=>cbv)<;>simp -implicitDefEqProofs [JS,h1]
theorem mK (c:Int):Bc Xc (G q) 103 [rv c] (· = bv (rUp c)):=by
 refine lJ.runs JQ rfl ?_;by_cases h1:65<=c<;>(conv in Uq=>cbv)<;>simp -implicitDefEqProofs [rUp,h1]
theorem mL (c:Int):Bc Xc (G q) 128 [rv c] (· = bv (G9 c)):=by
 refine lK.runs JQ rfl ?_;by_cases h1:48<=c<;>(conv in Ur=>cbv)<;>simp -implicitDefEqProofs [G9,h1]
noncomputable def JT (f:Int->Bool):List T->Option T:=g1 U0 λc=>some (bv (f c))
theorem PL {F:Nat} {f:Int->Bool} (h:∀c,Bc Xc (G q) F [rv c] (· = bv (f c))):GOK Xc (G q) F (JT f):=
 JJ λa x r ha hr=>by
  have e:a=rv x:=ha;injection hr with hr;subst hr;subst e;exact h x
theorem U1 (f:Int->Bool) (c:Int):JT f [rv c]=some (bv (f c)):=JK (τ:=U0) rfl
abbrev fv (F:Nat):T:=.v (.func (.func F) #[] #[])
theorem mM (f:Int->Bool) (c:Int) (H:Ak) (nx:Nat):Hl (JT f) [.t (rv c)] H nx=some (.t (bv (f c)),H,nx):=by
 simp[Hl,U1]
theorem mN (c:UInt8):JS (c.toNat:Int)=DM c:=by
 unfold JS DM;congr 1
 .congr 1;apply propext;omega
 .congr 1;apply propext;omega
theorem mO (c:UInt8):rUp (c.toNat:Int)=DL c:=by
 unfold rUp DL;congr 1
 .congr 1;apply propext;omega
 .congr 1;apply propext;omega
theorem U2 (c:UInt8):G9 (c.toNat:Int)=Bd c:=by
 unfold G9 Bd;congr 1
 .congr 1;apply propext;omega
 .congr 1;apply propext;omega
def D8 (big:Bool) (i:Nat) (c:UInt8):Bool:=(if big then DL c else DM c)||(decide (i≠0)&&(Bd c||decide (c.toNat=45)))
theorem NJ (big:Bool) (s:ByteArray):AN big s=true ↔ 1<=s.size/\s.size<=32/\∀(i:Nat) c,s.data.toList[i]?=some c->D8 big i c=true:=by
 have hlen:s.data.toList.length=s.size:=rfl;unfold AN
 cases hl:s.data.toList with
 | nil=>rw[hl]at hlen;simp at hlen;simp;omega
 | cons c r=>
  rw[hl]at hlen;simp only[Xi]at hlen
  have part:∀x,Et big x=(Bd x||decide (x.toNat=45)||if big then DL x else DM x):=by
   intro x;cases big<;>simp[Et]
  have disj:∀x,(if big then DL x else DM x)=true->Bd x=false/\x.toNat≠45:=by
   intro x hx;cases big<;>simp[DL,DM,Bd]at hx ⊢ <;> omega
  simp only[Xl,decide_eq_true_eq,Bool.not_eq_true',Xj,decide_eq_false_iff_not];constructor
  .rintro⟨⟨⟨h1,h2⟩,h3⟩,h4⟩;refine⟨by omega,h1,λi x hx=>?_⟩;have hp:=h4 x (Xk hx);rw[part]at hp
   cases i with
   | zero=>
    simp at hx;subst hx;simp[D8];simpa[h2,h3]using hp
   | succ i=>
    simp[D8];simp at hp;rcases hp with(h | h) | h
    .exact .inr (.inl h)
    .exact .inr (.inr h)
    .exact .inl h
  .rintro⟨_,h1,h2⟩
   have h0:(if big then DL c else DM c)=true:=by
    have:=h2 0 c rfl;simp[D8]at this;cases big<;>simpa using this
   obtain⟨d1,d2⟩:=disj c h0;refine⟨⟨⟨h1,d1⟩,d2⟩,λx hx=>?_⟩;obtain⟨i,hi,e⟩:=List.getElem_of_mem hx;have:=h2 i x (by rw[Xf hi,e]);rw[part];simp[D8]at this ⊢;rcases this with h | ⟨_,h | h⟩
   .exact .inr h
   .exact .inl (.inl h)
   .exact .inl (.inr h)
theorem mP (s:ByteArray) (j:Nat) (c:UInt8) (h:s.data.toList[j]?=some c) (ha:c.toNat<128):Utf8.decode s j=(c.toNat,1):=by
 have hj:j<s.size:=by have:=(Xd.1 h).1;simpa using this
 have e:s[j]'hj=c:=by
  have:=(Xd.1 h).2;show s.data[j]=c;simpa using this
 have:=decode_ascii s j hj (by rw[e];exact ha);rw[e]at this;exact this
theorem mQ (s:ByteArray) (j:Nat) (c:UInt8) (h:s.data.toList[j]?=some c) (ha:¬c.toNat<128):128<=(Utf8.decode s j).1:=by
 have hj:j<s.size:=by have:=(Xd.1 h).1;simpa using this
 have e:s.get! (j+0)=c:=by
  have e1:s[j]'hj=c:=by
   have:=(Xd.1 h).2;show s.data[j]=c;simpa using this
  rw[<-e1];show s.get! j=_;simp[ByteArray.get!,getElem!_pos,hj];rfl
 unfold Utf8.decode;simp only[e,ha,if_false]
 repeat' split
 all_goals (first | (simp only[Utf8.runeError];omega) | (rename_i h;simp only[ge_iff_le,decide_eq_true_eq,Xl]at h;omega) | skip)
theorem mR {H:Ak} {nx b:Nat} {s:ByteArray} {pos:Nat} (hl:Aj H b=some (.iter s pos)) (hp:pos<s.size) :
  hxM .next H nx [.ptr b 0]=some (.t (.tu [.v (.bool true),.v (.int .i64 pos),.v (.int .i32 (Utf8.decode s pos).1)]),upd H b (.iter s (pos+(Utf8.decode s pos).2)),nx):=by
 simp only[hxM,hl,hp,if_true]
theorem mS {H:Ak} {nx b:Nat} {s:ByteArray} {pos:Nat} (hl:Aj H b=some (.iter s pos)) (hp:¬pos<s.size) :
  hxM .next H nx [.ptr b 0]=some (.t (.tu [.v (.bool false)]),H,nx):=by
 simp only[hxM,hl,hp,if_false]
def LI (big:Bool):Nat:=if big then 103 else 102
def IW (big:Bool) (c:Int):Bool:=if big then rUp c else JS c
theorem mT (big:Bool):GOK Xc (G q) (LI big) (JT (IW big)):=by
 cases big
 .exact PL mJ
 .exact PL mK
noncomputable def tbF:Tbl:=[(128,JT G9)]
noncomputable def hbF (big:Bool):FS:=[(LI big,Hl (JT (IW big)))]
theorem IX (big:Bool):Ctx Xc (G q) (orh tbF (hbF big)):=(AB.cons (PL mL) .nil).ctxH (.cons (mT big).hok .nil) mixed
def SF (big:Bool) (s:ByteArray) (j:Nat):Am:=⟨[(16,.ptr 0 0),(1,.t (fv (LI big))),(0,.t (sv s))],[(0,.iter s j)],1,38⟩
theorem mU (big:Bool) (H:Ak) (nx:Nat) (c:Int):Hk (hbF big) (LI big) [.t (rv c)] H nx=some (.t (bv (IW big c)),H,nx):=by
 simp only[hbF,j9,if_true,mM]
def PM (big:Bool) (s:ByteArray) (j:Nat):Prop:=j<=s.size/\∀(i:Nat) c,i<j->s.data.toList[i]?=some c->D8 big i c=true
theorem U3 (big:Bool) (s:ByteArray) (hs:s.size<=9223372036854775807):Bc Xc (G q) 101 [sv s,fv (LI big)] (· = bv (AN big s)):=by
 refine lL.call rfl ?_;(conv in Us=>cbv);have hlen:s.data.toList.length=s.size:=rfl;refine Ao (IX big) ?_;simp -implicitDefEqProofs;by_cases h0:s.size=0
 .have h0':((s.size:Int)==0)=true:=by rw[h0];rfl
  have hn:AN big s=false:=by
   cases h:AN big s with
   | false=>rfl
   | true=>have:=(NJ big s).1 h;omega
  refine A8 (IX big) ?_;simp -implicitDefEqProofs [h0',hn]
 have h0':((s.size:Int)==0)=false:=by rw[zp];omega
 by_cases h1:32<s.size
 .have h1':(32:Int)<(s.size:Int):=by omega
  have hn:AN big s=false:=by
   cases h:AN big s with
   | false=>rfl
   | true=>have:=(NJ big s).1 h;omega
  refine A8 (IX big) ?_;simp -implicitDefEqProofs [h0',h1',hn]
 have h1':¬(32:Int)<(s.size:Int):=by omega
 refine Ao (IX big) ?_;simp -implicitDefEqProofs [h0',h1']
 have no:∀(j:Nat) c,s.data.toList[j]?=some c->D8 big j c=false->AN big s=false:=by
  intro j c hc hk
  cases h:AN big s with
  | false=>rfl
  | true=>rw[((NJ big s).1 h).2.2 j c hc]at hk;cases hk
 refine AZ (α:=Unit) (λ_=>SF big s s.size) (λ_=>AN big s=true) (λ_=>rfl) ?_ ?_
 .refine Ao (IX big) ?_;simp -implicitDefEqProofs;refine AY ?_;refine Bj (SF big s) (λj=>s.size-j) (λj=>PM big s j) 0 (λ_=>rfl) ⟨Nat.zero_le _,λi c h=>by omega⟩ ?_ rfl ?_
  .refine CN rfl rfl ?_ ?_<;>simp -implicitDefEqProofs [SF]
  .rintro j ⟨hj,hok⟩;refine A8 (IX big) ?_;by_cases hlt:j<s.size
   .obtain⟨c,hc⟩:∃c,s.data.toList[j]?=some c:=⟨_,Xf hlt⟩
    have hnx:=mR (H:=(SF big s j).H) (nx:=1) (b:=0) (s:=s) (pos:=j) rfl hlt;simp only[SF]at hnx;have cvF:=λH nx c=>mU big H nx c;have qd:=λc=>U1 G9 c
    have lr:IW big (c.toNat:Int)=(if big then DL c else DM c):=by
     unfold IW;cases big
     .exact mN c
     .exact mO c
    by_cases ha:c.toNat<128
    .have hd:=mP s j c hc ha;rw[hd]at hnx
     have go:D8 big j c=true->A4 Xc (G q) 0 (SF big s) (λa'=>PM big s a'/\s.size-a'<s.size-j) (SF big s (j+1)):=by
      intro hk;refine A4.mk (j+1) ⟨⟨hlt,λi x hi hx=>?_⟩,by omega⟩ (Sub.refl _);by_cases e:i=j
      .subst e;rw[hc]at hx;injection hx with hx;subst hx;exact hk
      .exact hok i x (by omega) hx
     have fin:∀s1:Am,Sub Xc (G q) 0 s1 (SF big s (j+1))->D8 big j c=true->A4 Xc (G q) 0 (SF big s) (λa'=>PM big s a'/\s.size-a'<s.size-j) s1:=by
      intro s1 h1 hk;obtain⟨a,h2,h3⟩:=go hk;exact⟨a,h2,h1.trans h3⟩
     cases hL:(if big then DL c else DM c:Bool)with
     | true=>
      have hk:D8 big j c=true:=by simp[D8,hL]
      rw[hL]at lr;simp -implicitDefEqProofs [SF,hnx,B5,cvF,lr];refine fin _ ?_ hk;refine CN rfl rfl ?_ ?_<;>simp -implicitDefEqProofs [SF,upd]
     | false=>
      rw[hL]at lr;by_cases hj0:j=0
      .have hk:D8 big j c=false:=by simp[D8,hL,hj0]
       have hz:((j:Int)==0)=true:=by rw[hj0];rfl
       simp -implicitDefEqProofs [SF,hnx,B5,cvF,lr,hz,no j c hc hk]
      .have hz:((j:Int)==0)=false:=by rw[zp];omega
       cases hD:Bd c with
       | true=>
        have hk:D8 big j c=true:=by simp[D8,hL,hj0,hD]
        have hD':G9 (c.toNat:Int)=true:=by rw[U2,hD]
        simp -implicitDefEqProofs [SF,hnx,B5,cvF,lr,hz,tbF,qd,hD'];refine fin _ ?_ hk;refine CN rfl rfl ?_ ?_<;>simp -implicitDefEqProofs [SF,upd]
       | false=>
        have hD':G9 (c.toNat:Int)=false:=by rw[U2,hD]
        by_cases h45:c.toNat=45
        .have hk:D8 big j c=true:=by simp[D8,hL,hj0,hD,h45]
         have h4:((c.toNat:Int) != 45)=false:=by rw[h45];rfl
         simp -implicitDefEqProofs [SF,hnx,B5,cvF,lr,hz,tbF,qd,hD',h4];refine fin _ ?_ hk;refine CN rfl rfl ?_ ?_<;>simp -implicitDefEqProofs [SF,upd]
        .have hk:D8 big j c=false:=by simp[D8,hL,hj0,hD,h45]
         have h4:((c.toNat:Int) != 45)=true:=by rw[bne_iff_ne];omega
         simp -implicitDefEqProofs [SF,hnx,B5,cvF,lr,hz,tbF,qd,hD',h4,no j c hc hk]
    .have hd:=mQ s j c hc ha
     obtain⟨r,hr⟩:∃r:Nat,r=(Utf8.decode s j).1:=⟨_,rfl⟩
     rw[<-hr]at hd
     have lr:IW big (r:Int)=false:=by
      unfold IW rUp JS;have h1:decide ((r:Int)<=90)=false:=zt (by omega);have h2:decide ((r:Int)<=122)=false:=zt (by omega);cases big<;>simp only[h1,h2,Xe,if_true,Bool.false_eq_true,if_false]
     have hD':G9 (r:Int)=false:=by
      unfold G9;have h1:decide ((r:Int)<=57)=false:=zt (by omega);rw[h1,Xe]
     have h4:((r:Int) != 45)=true:=by rw[bne_iff_ne];omega
     have hk:D8 big j c=false:=by
      have h1:DL c=false:=by unfold DL;rw[zt (by omega:¬c.toNat<=90),Xe]
      have h2:DM c=false:=by unfold DM;rw[zt (by omega:¬c.toNat<=122),Xe]
      have h3:Bd c=false:=by unfold Bd;rw[zt (by omega:¬c.toNat<=57),Xe]
      have h5:decide (c.toNat=45)=false:=zt (by omega);unfold D8;rw[h1,h2,h3,h5];cases big<;>simp
     by_cases hj0:j=0
     .have hz:((j:Int)==0)=true:=by rw[hj0];rfl
      simp -implicitDefEqProofs [SF,hnx,B5,cvF,<-hr,lr,hz,no j c hc hk]
     .have hz:((j:Int)==0)=false:=by rw[zp];omega
      simp -implicitDefEqProofs [SF,hnx,B5,cvF,<-hr,lr,hz,tbF,qd,hD',h4,no j c hc hk]
   .have hover:=mS (H:=(SF big s j).H) (nx:=1) (b:=0) (s:=s) (pos:=j) rfl hlt;simp only[SF]at hover;simp -implicitDefEqProofs [SF,hover,B5]
    have e:j=s.size:=by omega
    subst e;refine A4.mk () ((NJ big s).2 ⟨by omega,by omega,λi c hc=>hok i c ?_ hc⟩) (CN rfl rfl (by simp -implicitDefEqProofs) (by simp -implicitDefEqProofs));have:=(Xd.1 hc).1;omega
 .rintro _ hn;refine A8 (IX big) ?_;simp -implicitDefEqProofs [SF,hn]
abbrev lim:Nat:=9223372036854775807
noncomputable def IY:List T->Option T
 | [a,.v (.func (.func F) ⟨[]⟩ ⟨[]⟩)]=>(CX.dec a).bind λs=>if s.size<=lim then(if F=102 then some (bv (AN false s))else if F=103 then some (bv (AN true s))else none)else none
 | _=>none
theorem mV:GOK Xc (G q) 101 IY:=λargs r hr=>by
 unfold IY at hr;split at hr
 .rename_i a F;obtain⟨s,hs,hr2⟩:=Option.bind_eq_some_iff.1 hr;have e:a=sv s:=Ty.is_dec hs;subst e;split at hr2
  .rename_i hl;split at hr2
   .rename_i e;subst e;injection hr2 with hr2;subst hr2;exact U3 false s hl
   .split at hr2
    .rename_i e;subst e;injection hr2 with hr2;subst hr2;exact U3 true s hl
    .cases hr2
  .cases hr2
 .cases hr
theorem mW (s:ByteArray) (hs:s.size<=lim):IY [sv s,fv 102]=some (bv (AN false s)):=by
 have e:=Ty.dec_is (τ:=CX) (t:=sv s) (a:=s) rfl;simp[IY,e,hs]
theorem mX (s:ByteArray) (hs:s.size<=lim):IY [sv s,fv 103]=some (bv (AN true s)):=by
 have e:=Ty.dec_is (τ:=CX) (t:=sv s) (a:=s) rfl;simp[IY,e,hs]
noncomputable def hbN:FS:=[(101,Hl IY)]
theorem U4:Ctx Xc (G q) (orh [] hbN):=AB.nil.ctxH (.cons mV.hok .nil) mixed
theorem mY (s:ByteArray) (hs:s.size<=lim):Bc Xc (G q) 66 [sv s] (· = bv (AN false s)):=by
 refine lO.runs U4 rfl ?_
 (conv in Ut=>cbv);simp -implicitDefEqProofs [hbN,Hl,mW s hs]
theorem mZ (s:ByteArray) (hs:s.size<=lim):Bc Xc (G q) 67 [sv s] (· = bv (AN true s)):=by
 refine lP.runs U4 rfl ?_
 (conv in Uu=>cbv);simp -implicitDefEqProofs [hbN,Hl,mX s hs]
noncomputable def NL:List T->Option T:=g2 CX L5 λs b=>if s.size<=lim then some (bv (AN b s))else none
theorem n7:GOK Xc (G q) 104 NL:=Ib λa b s c r ha hb hr=>by
 have e1:a=sv s:=ha;have e2:b=bv c:=hb;subst e1;subst e2;split at hr
 .rename_i h;injection hr with hr;subst hr;exact mI s c h
 .cases hr
theorem U5 (s:ByteArray) (b:Bool) (hs:s.size<=lim):NL [sv s,bv b]=some (bv (AN b s)):=by
 rw[NL,Hn (τ:=CX) (σ:=L5) (x:=s) (y:=b) rfl rfl,zu hs]
noncomputable def tbN:Tbl:=[(104,NL)]
theorem U6:Ctx Xc (G q) (orc tbN):=(AB.cons n7 .nil).ctx mixed
theorem nA (s:ByteArray) (hs:s.size<=lim):Bc Xc (G q) 68 [sv s] (· = bv (AN false s)):=by
 refine lQ.runs U6 rfl ?_
 (conv in Uv=>cbv);simp -implicitDefEqProofs [tbN,U5 s false hs]
theorem nB (s:ByteArray) (hs:s.size<=lim):Bc Xc (G q) 69 [sv s] (· = bv (AN true s)):=by
 refine lR.runs U6 rfl ?_
 (conv in Uw=>cbv);simp -implicitDefEqProofs [tbN,U5 s true hs]
end Go.Proofs.YtmgjopafgboljaaGreatDoor
