/- Auxiliary facts. -/
import Derived.Test.YtmplckgbeaifkaaGreatDoorVDQ10
import Derived.Test.YtmplckgbeaifkaaGreatDoorVDQ11
set_option linter.unusedSimpArgs false
set_option maxRecDepth 100000
set_option maxHeartbeats 0
set_option linter.unusedVariables false
namespace Go.Proofs.YtmplckgbeaifkaaGreatDoor
open Go Go.Abs Go.RowKit
abbrev bs (l:List UInt8):ByteArray:=⟨l.toArray⟩
theorem A6q (s:ByteArray):bs s.data.toList=s:=by cases s;simp[bs]
section
variable {q : Gl}
theorem A9i {w w':World} (h:w'=w):Below w.heap.size w w':=by subst h;exact Below.refl _ _
theorem D0u (w:World) (e:TypeId) (t:ByteArray):Below w.heap.size w (Lib.bytesWorld w e t):=by
 unfold Lib.bytesWorld World.freeze;rw[if_neg (by decide)];have e:∀o,(w.drew.alloc o).heap=w.heap.push o:=fun _=>rfl;refine⟨rfl,rfl,rfl,?_,fun j hj=>?_⟩
 ·simp only[Array.size_modify,e,Array.size_push];omega
 ·simp only[e];rw[Array.getElem?_modify,if_neg (by omega),Array.getElem?_push_lt hj];simp[hj]
theorem D7a (w:World) (k:Nat) (os:Array Obj):Below w.heap.size w (Sort.grow (w.drewN k) os):=by
 refine⟨rfl,rfl,rfl,by simp[Sort.grow,World.drewN],fun j hj=>?_⟩;simp only[Sort.grow,World.drewN];rw[Array.getElem?_append_left hj]
noncomputable def A9j:List T->Option T:=g2 tStr tStr fun s p=>some (sv (bs (Lib.trimPrefix s.data.toList p.data.toList)))
theorem D0v:GOK Tryz.prog (G q) 232 A9j:=A7t fun a b s p r ha hb hr=>by
 have e1:a = .v (.string s):=ha;have e2:b = .v (.string p):=hb;subst e1;subst e2;injection hr with hr;subst hr
 exact A0z.lib (vs:=[.string s,.string p]) ⟨_,(Tryz.f232.body).get!,Tryz.func232,by kernel_rfl,by kernel_rfl⟩ fun I w _=>(Tryz.strings_TrimPrefix s p w).mono fun e w' h=>⟨h.1,A9i h.2⟩
noncomputable def E6e:List T->Option T:=g2 tStr tStr fun s c=>if s.size<=9223372036854775807/\c.size<100/\c.data.toList.all (fun b=>decide (b.toNat<128))=true then some (sv (bs (Lib.trimS s.data.toList c.data.toList)))else none
theorem hTrim:GOK Tryz.prog (G q) 233 E6e:=A7t fun a b s c r ha hb hr=>by
 have e1:a = .v (.string s):=ha;have e2:b = .v (.string c):=hb;subst e1;subst e2;split at hr
 ·rename_i h;injection hr with hr;subst hr;exact A0z.lib (vs:=[.string s,.string c]) ⟨_,(Tryz.f233.body).get!,Tryz.func233,by kernel_rfl,by kernel_rfl⟩ fun I w _=>(Any.strings_Trim_laid Tryz.lays160 (by kernel_rfl) s c w h.1 (by omega) (ascii_of_all h.2.2)).mono fun e w' h=>h
 ·cases hr
noncomputable def E6f:List T->Option T:=g1 tInt fun n=>if -9223372036854775808<=n/\n<=9223372036854775807 then some (sv (bs (Lib.itoa n)))else none
theorem hItoa:GOK Tryz.prog (G q) 131 E6f:=A7r fun a n r ha hr=>by
 have e1:a = .v (.int .i64 n):=ha;subst e1;split at hr
 ·rename_i h;injection hr with hr;subst hr;refine A0z.lib (vs:=[.int .i64 n]) ⟨_,(Tryz.f131.body).get!,Tryz.func131,by kernel_rfl,by kernel_rfl⟩ fun I w hG=>?_
  have ht:Lib.TabIs Tryz.prog w "internal/strconv.uint64pow10" .u64 Lib.pow10Tab:=by
   have:=(hG 1 (E0o.map fun n=>.v (.int .u64 n)) rfl).2
   have e:(E0o.map fun n=>T.v (.int .u64 n))=(E0o.map fun n=>Value.int .u64 n).map .v:=by rw[List.map_map];rfl
   rw[e]at this;exact D2n (by kernel_rfl) this
  refine(Tryz.strconv_Itoa n h.1 h.2 w ht).mono fun e w' h=>⟨h.1,?_⟩
  obtain⟨k,os,rfl⟩:=h.2;exact D7a w k os
 ·cases hr
noncomputable def E0p:List T->Option T:=g1 tStr fun s=>if s.size<=281474976710656 then(match Lib.atoiAll s.data.toList with
 | .ok v=>some (.tu [iv v,.v .nilIface])
 | .range=>some (.tu [iv (Lib.atoiSat s.data.toList),.ic 265 (.pt [])])
 | _=>none)else none
theorem hAtoi:GOK Tryz.prog (G q) 234 E0p:=A7r fun a s r ha hr=>by
 have e1:a = .v (.string s):=ha;subst e1;split at hr
 ·rename_i hlim;split at hr
  ·rename_i v hv;injection hr with hr;subst hr;refine⟨⟨_,(Tryz.f234.body).get!,Tryz.func234,by kernel_rfl,by kernel_rfl⟩,fun I w us hlt hG hargs=>?_⟩
   have e:us = #[.string s]:=by
    have:=B8o (vs:=[.string s]) hargs;cases us;simp_all
   subst e;refine(Tryz.strconv_Atoi_ok s (by omega) v hv w).mono fun e w' h=>?_
   have hb:Below w.heap.size w w':=by
    rcases h.2 with h2 | ⟨t,rfl⟩
    ·exact A9i h2
    ·exact D0u w 5 t
   exact⟨_,_,I,h.1,rfl,by simp[RepT,RepL],⟨hb.os,hb.tape,hb.output⟩,hb.size,hb.block,fun _ h=>h,fun _ h=>.inl h,fun g hg=>Nat.lt_of_lt_of_le (hlt g hg) hb.size⟩
  ·rename_i hv;injection hr with hr;subst hr;refine⟨⟨_,(Tryz.f234.body).get!,Tryz.func234,by kernel_rfl,by kernel_rfl⟩,fun I w us hlt hG hargs=>?_⟩
   have e:us = #[.string s]:=by
    have:=B8o (vs:=[.string s]) hargs;cases us;simp_all
   subst e
   have hvar:w.var? Tryz.prog "strconv.ErrRange" = some #[.iface q.tr q.pr]:=D2n (vs:=[.iface q.tr q.pr]) (by kernel_rfl) (hG 7 [.v (.iface q.tr q.pr)] rfl).2
   refine(Tryz.strconv_Atoi_range_var s hlim hv q.tr q.pr w hvar).mono fun e w' h=>?_;obtain⟨N,he,hN,hw',hb⟩:=h;have hN':=(Array.getElem?_eq_some_iff.1 hw').1;refine⟨_,_,fun g=>I g\/g=N,he,rfl,?_,⟨hb.os,hb.tape,hb.output⟩,hb.size,hb.block,fun _ h=>.inl h,fun g h=>?_,fun g hg=>?_⟩
   ·simp only[RepT,RepL,RepC];exact⟨_,rfl,_,_,rfl,rfl,_,_,rfl,⟨_,rfl,N,0,rfl,.inr rfl,trivial⟩,rfl⟩
   ·rcases h with h | rfl
    ·exact .inl h
    ·exact .inr hN
   ·rcases hg with hg | rfl
    ·exact Nat.lt_of_lt_of_le (hlt g hg) hb.size
    ·exact hN'
  ·cases hr
 ·cases hr
theorem D3n (l:List ByteArray):l.flatMap eStr.enc=l.map fun x=>.v (.string x):=by
 induction l with
 | nil=>rfl
 | cons x l ih=>rw[List.flatMap_cons,List.map_cons,ih];rfl
noncomputable def C7r:List T->Option T:=g2 tStr tStr fun s p=>if s.size<4294967281/\1<=p.size then some (slT eStr (Lib.splitB p 0 (Lib.countB s p) s))else none
theorem E9l:GOK Tryz.prog (G q) 90 C7r:=A7t fun a b s p r ha hb hr=>by
 have e1:a = .v (.string s):=ha;have e2:b = .v (.string p):=hb;subst e1;subst e2;split at hr
 ·rename_i h;injection hr with hr;subst hr;refine⟨⟨_,(Tryz.f90.body).get!,Tryz.func90,by kernel_rfl,by kernel_rfl⟩,fun I w us hlt hG hargs=>?_⟩
  have e:us = #[.string s,.string p]:=by
   have:=B8o (vs:=[.string s,.string p]) hargs;cases us;simp_all
  subst e
  have hm:w.cell? ⟨0,0,none⟩=some (.int .i64 q.m):=by
   obtain⟨x,hx,_,hr⟩:=(hG 0 [.v (.int .i64 q.m)] rfl).2.1.at_ 0 (c:=.v (.int .i64 q.m)) rfl;simp only[RepT]at hr;subst hr;simpa using hx
  refine(Tryz.strings_Split s p q.m w h.1 hm h.2).mono fun e w' h'=>?_;obtain⟨he,rfl⟩:=h';have hlen:=Lib.splitB_all p h.2 0 _ s rfl;generalize Lib.splitB p 0 (Lib.countB s p) s=l at he hlen ⊢;have ea:∀o,(w.alloc o).heap=w.heap.push o:=fun _=>rfl;refine⟨_,_,fun g=>I g\/g=w.heap.size,he,rfl,?_,⟨rfl,rfl,rfl⟩,by rw[ea];simp,fun g hg=>?_,fun _ h=>.inl h,fun g h=>?_,fun g hg=>?_⟩
  ·simp only[slT,RepT,hlen];refine⟨⟨w.heap.size,0,none⟩,_,rfl,Nat.le_refl _,.inr ⟨rfl,.inr rfl,RepC.mk fun k c hk=>?_⟩⟩;rw[D3n,List.getElem?_map]at hk;obtain⟨x,hx,rfl⟩:=Option.map_eq_some_iff.1 hk;refine⟨.string x,?_,rfl,by simp only[RepT]⟩;simp only[World.cell?,ea,Array.getElem?_push_size];simp[hx]
  ·rw[ea,Array.getElem?_push_lt hg];simp[hg]
  ·rcases h with h | rfl
   ·exact .inl h
   ·exact .inr (Nat.le_refl _)
  ·rcases hg with hg | rfl
   ·have:=hlt g hg;rw[ea];simp;omega
   ·rw[ea];simp
 ·cases hr
end
open Go Go.Abs
variable {q : Gl}
theorem mixed:Tryz.prog.follows .mixedOrders=true:=by kernel_rfl
theorem ctx0:Ctx Tryz.prog (G q) (orc []):=A0x.nil.ctx mixed
abbrev cv (c:UInt8):T:=.v (.int .u8 (c.toNat:Int))
def A0w (c:UInt8):Bool:=decide (48<=c.toNat)&&decide (c.toNat<=57)
def isUp (c:UInt8):Bool:=decide (65<=c.toNat)&&decide (c.toNat<=90)
def A9k (c:UInt8):Bool:=decide (97<=c.toNat)&&decide (c.toNat<=122)
def tChr:Ty UInt8:=⟨fun t c=>t=cv c,fun t a b h h'=>by
 rw[h]at h';injection h' with h';injection h' with _ h'
 exact UInt8.toNat_inj.1 (by omega)⟩
theorem C2t (c:UInt8):A0z Tryz.prog (G q) 157 [cv c] (· = bv (A0w c)):=by
 refine D0q.runs ctx0 rfl ?_;by_cases h1:48<=c.toNat
 ·have h1':(48:Int)<=(c.toNat:Int):=by omega
  have e:decide ((c.toNat:Int)<=57)=decide (c.toNat<=57):=by congr 1;apply propext;omega
  (conv in B3d=>cbv);simp -implicitDefEqProofs [A0w,h1,h1',e]
 ·have h1':¬(48:Int)<=(c.toNat:Int):=by omega
  (conv in B3d=>cbv);simp -implicitDefEqProofs [A0w,h1,h1']
theorem D7b (c:UInt8):A0z Tryz.prog (G q) 184 [cv c] (· = bv (isUp c)):=by
 refine D0s.runs ctx0 rfl ?_;by_cases h1:65<=c.toNat
 ·have h1':(65:Int)<=(c.toNat:Int):=by omega
  have e:decide ((c.toNat:Int)<=90)=decide (c.toNat<=90):=by congr 1;apply propext;omega
  (conv in B3e=>cbv);simp -implicitDefEqProofs [isUp,h1,h1',e]
 ·have h1':¬(65:Int)<=(c.toNat:Int):=by omega
  (conv in B3e=>cbv);simp -implicitDefEqProofs [isUp,h1,h1']
theorem D7c (c:UInt8):A0z Tryz.prog (G q) 185 [cv c] (· = bv (A9k c)):=by
 refine D0t.runs ctx0 rfl ?_;by_cases h1:97<=c.toNat
 ·have h1':(97:Int)<=(c.toNat:Int):=by omega
  have e:decide ((c.toNat:Int)<=122)=decide (c.toNat<=122):=by congr 1;apply propext;omega
  (conv in B3f=>cbv);simp -implicitDefEqProofs [A9k,h1,h1',e]
 ·have h1':¬(97:Int)<=(c.toNat:Int):=by omega
  (conv in B3f=>cbv);simp -implicitDefEqProofs [A9k,h1,h1']
noncomputable def gChr (f:UInt8->Bool):List T->Option T:=g1 tChr fun c=>some (bv (f c))
theorem C4r {F:Nat} {f:UInt8->Bool} (h:∀c,A0z Tryz.prog (G q) F [cv c] (· = bv (f c))):GOK Tryz.prog (G q) F (gChr f):=
 A7r fun a x r ha hr=>by
  have e:a=cv x:=ha;injection hr with hr;subst hr;subst e;exact h x
theorem B9i (f:UInt8->Bool) (c:UInt8):gChr f [cv c]=some (bv (f c)):=A7s (τ:=tChr) rfl
noncomputable def tbc:Tbl:=[(157,gChr A0w),(184,gChr isUp),(185,gChr A9k)]
theorem ctxc:Ctx Tryz.prog (G q) (orc tbc):=(A0x.cons (C4r C2t) (.cons (C4r D7b) (.cons (C4r D7c) .nil))).ctx mixed
def A6d (big:Bool) (c:UInt8):Bool:=A0w c||decide (c.toNat=45)||(big&&isUp c)||(!big&&A9k c)
theorem E0q (c:UInt8) (big:Bool):A0z Tryz.prog (G q) 158 [cv c,bv big] (· = bv (A6d big c)):=by
 refine D6z.runs ctxc rfl ?_
 have e45:((c.toNat:Int)==45)=decide (c.toNat=45):=by
  by_cases h:c.toNat=45
  ·rw[h];rfl
  ·rw[decide_eq_false h,beq_eq_false_iff_ne];omega
 have q1:=B9i A0w c;have q2:=B9i isUp c;have q3:=B9i A9k c
 cases hd:A0w c<;>cases h4:decide (c.toNat=45)<;>cases big<;>cases hu:isUp c<;>cases hl:A9k c <;>
  (conv in C2s=>cbv)<;>simp -implicitDefEqProofs [tbc,q1,q2,q3,e45,hd,h4,hu,hl,A6d]
noncomputable def tbp:Tbl:=[(157,gChr A0w),(158,g2 tChr E0j fun c b=>some (bv (A6d b c)))]
theorem ctxp:Ctx Tryz.prog (G q) (orc tbp):=(A0x.cons (C4r C2t) (.cons (A7t fun a b x y r ha hb hr=>by
 have e1:a=cv x:=ha;have e2:b=bv y:=hb;injection hr with hr;subst hr;subst e1;subst e2
 exact E0q x y) .nil)).ctx mixed
def A0v (big:Bool) (s:ByteArray):Bool:=
 match s.data.toList with
 | []=>false
 | c::r=>decide (s.size<=32) && !A0w c && !decide (c.toNat=45)&&(c::r).all (A6d big)
def S142 (s:ByteArray) (big:Bool) (j:Nat):A0b:=⟨[(5,.t (iv (j:Int))),(1,.t (bv big)),(0,.t (sv s))],[],0,36⟩
theorem A4c (s:ByteArray) (j:Nat) (c:UInt8) (h:s.data.toList[j]?=some c):B6x (.t (sv s)) (.t (iv (j:Int)))=some (.t (cv c)):=by
 have hj:j<s.data.size:=by
  have:=(List.getElem?_eq_some_iff.1 h).1;simpa using this
 have:s[j]?=some c:=by
  have h2:s.data[j]?=some c:=by simpa using h
  have h3:j<s.size:=hj;rw[getElem?_pos s j h3];rw[getElem?_pos s.data j hj]at h2;exact h2
 simp[B6x,this]
theorem D7d (s:ByteArray) (big:Bool) (hs:s.size<=9223372036854775807):A0z Tryz.prog (G q) 107 [sv s,bv big] (· = bv (A0v big s)):=by
 refine D0p.call rfl ?_;(conv in B9g=>cbv);refine A0a ctxp ?_;simp -implicitDefEqProofs;have hlen:s.data.toList.length=s.size:=rfl
 cases hl:s.data.toList with
 | nil=>
  rw[hl]at hlen
  have h0:(s.size:Int)<1:=by simp at hlen;omega
  refine A0c ctxp ?_;simp -implicitDefEqProofs [h0,A0v,hl]
 | cons c r=>
  rw[hl]at hlen;simp only[List.length_cons]at hlen
  have h0:¬(s.size:Int)<1:=by omega
  have hx0:s.data.toList[0]?=some c:=by rw[hl];rfl
  have i0:=A4c s 0 c hx0;simp only[Int.natCast_zero]at i0;have qd:=B9i A0w c;by_cases h1:32<s.size
  ·have h1':(32:Int)<(s.size:Int):=by omega
   have hz:decide (s.size<=32)=false:=decide_eq_false (by omega);refine A0c ctxp ?_;simp -implicitDefEqProofs [h0,h1,h1',A0v,hl,hz]
  ·have h1':¬(32:Int)<(s.size:Int):=by omega
   have hz:decide (s.size<=32)=true:=decide_eq_true (by omega)
   cases hd:A0w c with
   | true=>
    refine A0c ctxp ?_;simp -implicitDefEqProofs [h0,h1,h1',i0,tbp,qd,hd,A0v,hl]
   | false=>
    by_cases h4:c.toNat=45
    ·have h4':((c.toNat:Int)==45)=true:=by rw[h4];rfl
     refine A0c ctxp ?_;simp -implicitDefEqProofs [h0,h1,h1',i0,tbp,qd,hd,h4',A0v,hl,h4]
    ·have h4':((c.toNat:Int)==45)=false:=by rw[beq_eq_false_iff_ne];omega
     refine A0a ctxp ?_;simp -implicitDefEqProofs [h0,h1,h1',i0,tbp,qd,hd,h4']
     obtain⟨n,hn⟩:∃n,n=s.data.toList.findIdx fun c=>!A6d big c:=⟨_,rfl⟩
     have hle:n<=s.size:=by rw[hn];exact C2o _ _
     have hres:A0v big s=decide (n=s.size):=by
      have:A0v big s=(s.data.toList).all (A6d big):=by
       unfold A0v;rw[hl];simp only[hz,hd,h4,decide_false,Bool.not_false,Bool.true_and]
      rw[this];by_cases e:n=s.size
      ·rw[decide_eq_true e,List.all_eq_true];intro x hx;have:=B6z (p:=fun c=>!A6d big c) (l:=s.data.toList) (by rw[<-hn,e];rfl) x hx;simpa using this
      ·rw[decide_eq_false e,List.all_eq_false];obtain⟨x,hx,hp⟩:=A9g (p:=fun c=>!A6d big c) (l:=s.data.toList) (by rw[<-hn];show n<s.size;omega);exact⟨x,List.mem_of_getElem? hx,by simpa using hp⟩
     rw[hres];refine A1f (fun _:Unit=>S142 s big s.size) (fun _=>n=s.size) (fun _=>rfl) ?_ ?_
     ·refine A0a ctxp ?_;simp -implicitDefEqProofs;refine A0n ?_;refine D3i (S142 s big) n (fun _=>rfl) ?_ rfl ?_ ?_
      ·refine A0s rfl rfl ?_ ?_<;>simp -implicitDefEqProofs [S142]
      ·intro j hj;refine A0c ctxp ?_
       have hjs:j<s.size:=by omega
       obtain⟨x,hx⟩:∃x,s.data.toList[j]?=some x:=⟨_,List.getElem?_eq_getElem hjs⟩
       have hp:=B3b (p:=fun c=>!A6d big c) (by rw[<-hn];exact hj) hx
       have hp':A6d big x=true:=by simpa using hp
       have e1:IntKind.i64.wrap ((j:Int)+1)=((j+1:Nat):Int):=A0p (by omega) (by omega);have q:=A7c (τ:=tChr) (σ:=E0j) (f:=fun c b=>some (bv (A6d b c))) (a:=cv x) (b:=bv big) rfl rfl;simp -implicitDefEqProofs [S142,hjs,A4c s j x hx,tbp,q,hp',e1];refine A0s rfl rfl ?_ ?_<;>simp -implicitDefEqProofs
      ·refine A0c ctxp ?_;by_cases e:n=s.size
       ·subst e;simp -implicitDefEqProofs [S142];exact Next.mk () trivial (A0s rfl rfl (by simp -implicitDefEqProofs) (by simp -implicitDefEqProofs))
       ·have hjs:n<s.size:=by omega
        obtain⟨x,hx,hp⟩:=A9g (p:=fun c=>!A6d big c) (l:=s.data.toList) (by rw[<-hn];exact hjs);rw[<-hn]at hx
        have hp':A6d big x=false:=by simpa using hp
        have q:=A7c (τ:=tChr) (σ:=E0j) (f:=fun c b=>some (bv (A6d b c))) (a:=cv x) (b:=bv big) rfl rfl;simp -implicitDefEqProofs [S142,hjs,A4c s n x hx,tbp,q,hp',e]
     ·rintro _ e;refine A0c ctxp ?_;simp -implicitDefEqProofs [S142,e]
abbrev rv (c:Int):T:=.v (.int .i32 c)
def rLow (c:Int):Bool:=decide (97<=c)&&decide (c<=122)
def rUp (c:Int):Bool:=decide (65<=c)&&decide (c<=90)
def rDig (c:Int):Bool:=decide (48<=c)&&decide (c<=57)
def F3x:Ty Int:=⟨fun t n=>t=rv n,fun t a b h h'=>by rw[h]at h';injection h' with h';injection h'⟩
theorem E0r (c:Int):A0z Tryz.prog (G q) 106 [rv c] (· = bv (rLow c)):=by
 refine C7m.runs ctx0 rfl ?_;by_cases h1:97<=c<;>(conv in B7a=>cbv)<;>simp -implicitDefEqProofs [rLow,h1]
theorem D3o (c:Int):A0z Tryz.prog (G q) 197 [rv c] (· = bv (rUp c)):=by
 refine C7q.runs ctx0 rfl ?_;by_cases h1:65<=c<;>(conv in B7e=>cbv)<;>simp -implicitDefEqProofs [rUp,h1]
theorem E0s (c:Int):A0z Tryz.prog (G q) 156 [rv c] (· = bv (rDig c)):=by
 refine C7o.runs ctx0 rfl ?_;by_cases h1:48<=c<;>(conv in B7c=>cbv)<;>simp -implicitDefEqProofs [rDig,h1]
noncomputable def D0w (f:Int->Bool):List T->Option T:=g1 F3x fun c=>some (bv (f c))
theorem B8b {F:Nat} {f:Int->Bool} (h:∀c,A0z Tryz.prog (G q) F [rv c] (· = bv (f c))):GOK Tryz.prog (G q) F (D0w f):=
 A7r fun a x r ha hr=>by
  have e:a=rv x:=ha;injection hr with hr;subst hr;subst e;exact h x
theorem C4s (f:Int->Bool) (c:Int):D0w f [rv c]=some (bv (f c)):=A7s (τ:=F3x) rfl
abbrev fv (F:Nat):T:=.v (.func (.func F) #[] #[])
theorem E6g (f:Int->Bool) (c:Int) (H:Heap) (nx:Nat):hOfT (D0w f) [.t (rv c)] H nx=some (.t (bv (f c)),H,nx):=by
 simp[hOfT,C4s]
theorem E6h (c:UInt8):rLow (c.toNat:Int)=A9k c:=by
 unfold rLow A9k;congr 1
 ·congr 1;apply propext;omega
 ·congr 1;apply propext;omega
theorem E0t (c:UInt8):rUp (c.toNat:Int)=isUp c:=by
 unfold rUp isUp;congr 1
 ·congr 1;apply propext;omega
 ·congr 1;apply propext;omega
theorem D3p (c:UInt8):rDig (c.toNat:Int)=A0w c:=by
 unfold rDig A0w;congr 1
 ·congr 1;apply propext;omega
 ·congr 1;apply propext;omega
def okAt (big:Bool) (i:Nat) (c:UInt8):Bool:=(if big then isUp c else A9k c)||(decide (i≠0)&&(A0w c||decide (c.toNat=45)))
theorem A8g (big:Bool) (s:ByteArray):A0v big s=true ↔ 1<=s.size/\s.size<=32/\∀(i:Nat) c,s.data.toList[i]?=some c->okAt big i c=true:=by
 have hlen:s.data.toList.length=s.size:=rfl;unfold A0v
 cases hl:s.data.toList with
 | nil=>rw[hl]at hlen;simp at hlen;simp;omega
 | cons c r=>
  rw[hl]at hlen;simp only[List.length_cons]at hlen
  have part:∀x,A6d big x=(A0w x||decide (x.toNat=45)||if big then isUp x else A9k x):=by
   intro x;cases big<;>simp[A6d]
  have disj:∀x,(if big then isUp x else A9k x)=true->A0w x=false/\x.toNat≠45:=by
   intro x hx;cases big<;>simp[isUp,A9k,A0w]at hx ⊢ <;> omega
  simp only[Bool.and_eq_true,decide_eq_true_eq,Bool.not_eq_true',List.all_eq_true,decide_eq_false_iff_not];constructor
  ·rintro⟨⟨⟨h1,h2⟩,h3⟩,h4⟩;refine⟨by omega,h1,fun i x hx=>?_⟩;have hp:=h4 x (List.mem_of_getElem? hx);rw[part]at hp
   cases i with
   | zero=>
    simp at hx;subst hx;simp[okAt];simpa[h2,h3]using hp
   | succ i=>
    simp[okAt];simp at hp;rcases hp with(h | h) | h
    ·exact .inr (.inl h)
    ·exact .inr (.inr h)
    ·exact .inl h
  ·rintro⟨_,h1,h2⟩
   have h0:(if big then isUp c else A9k c)=true:=by
    have:=h2 0 c rfl;simp[okAt]at this;cases big<;>simpa using this
   obtain⟨d1,d2⟩:=disj c h0;refine⟨⟨⟨h1,d1⟩,d2⟩,fun x hx=>?_⟩;obtain⟨i,hi,e⟩:=List.getElem_of_mem hx;have:=h2 i x (by rw[List.getElem?_eq_getElem hi,e]);rw[part];simp[okAt]at this ⊢;rcases this with h | ⟨_,h | h⟩
   ·exact .inr h
   ·exact .inl (.inl h)
   ·exact .inl (.inr h)
theorem C7s (s:ByteArray) (j:Nat) (c:UInt8) (h:s.data.toList[j]?=some c) (ha:c.toNat<128):Utf8.decode s j=(c.toNat,1):=by
 have hj:j<s.size:=by have:=(List.getElem?_eq_some_iff.1 h).1;simpa using this
 have e:s[j]'hj=c:=by
  have:=(List.getElem?_eq_some_iff.1 h).2;show s.data[j]=c;simpa using this
 have:=decode_ascii s j hj (by rw[e];exact ha);rw[e]at this;exact this
theorem C7t (s:ByteArray) (j:Nat) (c:UInt8) (h:s.data.toList[j]?=some c) (ha:¬c.toNat<128):128<=(Utf8.decode s j).1:=by
 have hj:j<s.size:=by have:=(List.getElem?_eq_some_iff.1 h).1;simpa using this
 have e:s.get! (j+0)=c:=by
  have e1:s[j]'hj=c:=by
   have:=(List.getElem?_eq_some_iff.1 h).2;show s.data[j]=c;simpa using this
  rw[<-e1];show s.get! j=_;simp[ByteArray.get!,getElem!_pos,hj];rfl
 unfold Utf8.decode;simp only[e,ha,if_false]
 repeat' split
 all_goals (first | (simp only[Utf8.runeError];omega) | (rename_i h;simp only[ge_iff_le,decide_eq_true_eq,Bool.and_eq_true]at h;omega) | skip)
theorem C7u {H:Heap} {nx b:Nat} {s:ByteArray} {pos:Nat} (hl:Abs.look H b=some (.iter s pos)) (hp:pos<s.size) :
  hxM .next H nx [.ptr b 0]=some (.t (.tu [.v (.bool true),.v (.int .i64 pos),.v (.int .i32 (Utf8.decode s pos).1)]),upd H b (.iter s (pos+(Utf8.decode s pos).2)),nx):=by
 simp only[hxM,hl,hp,if_true]
theorem C7v {H:Heap} {nx b:Nat} {s:ByteArray} {pos:Nat} (hl:Abs.look H b=some (.iter s pos)) (hp:¬pos<s.size) :
  hxM .next H nx [.ptr b 0]=some (.t (.tu [.v (.bool false)]),H,nx):=by
 simp only[hxM,hl,hp,if_false]
def letF (big:Bool):Nat:=if big then 197 else 106
def letR (big:Bool) (c:Int):Bool:=if big then rUp c else rLow c
theorem F0z (big:Bool):GOK Tryz.prog (G q) (letF big) (D0w (letR big)):=by
 cases big
 ·exact B8b E0r
 ·exact B8b D3o
noncomputable def tbF:Tbl:=[(156,D0w rDig)]
noncomputable def hbF (big:Bool):HTbl:=[(letF big,hOfT (D0w (letR big)))]
theorem ctxF (big:Bool):Ctx Tryz.prog (G q) (orh tbF (hbF big)):=(A0x.cons (B8b E0s) .nil).ctxH (.cons (F0z big).hok .nil) mixed
def SF (big:Bool) (s:ByteArray) (j:Nat):A0b:=⟨[(16,.ptr 0 0),(1,.t (fv (letF big))),(0,.t (sv s))],[(0,.iter s j)],1,38⟩
theorem orcF (big:Bool) (H:Heap) (nx:Nat) (c:Int):orcH (hbF big) (letF big) [.t (rv c)] H nx=some (.t (bv (letR big c)),H,nx):=by
 simp only[hbF,orcH_cons,if_true,E6g]
def OkTo (big:Bool) (s:ByteArray) (j:Nat):Prop:=j<=s.size/\∀(i:Nat) c,i<j->s.data.toList[i]?=some c->okAt big i c=true
theorem B7f (big:Bool) (s:ByteArray) (hs:s.size<=9223372036854775807):A0z Tryz.prog (G q) 105 [sv s,fv (letF big)] (· = bv (A0v big s)):=by
 refine C1k.call rfl ?_;(conv in B2h=>cbv);have hlen:s.data.toList.length=s.size:=rfl;refine A0a (ctxF big) ?_;simp -implicitDefEqProofs;by_cases h0:s.size=0
 ·have h0':((s.size:Int)==0)=true:=by rw[h0];rfl
  have hn:A0v big s=false:=by
   cases h:A0v big s with
   | false=>rfl
   | true=>have:=(A8g big s).1 h;omega
  refine A0c (ctxF big) ?_;simp -implicitDefEqProofs [h0',hn]
 have h0':((s.size:Int)==0)=false:=by rw[beq_eq_false_iff_ne];omega
 by_cases h1:32<s.size
 ·have h1':(32:Int)<(s.size:Int):=by omega
  have hn:A0v big s=false:=by
   cases h:A0v big s with
   | false=>rfl
   | true=>have:=(A8g big s).1 h;omega
  refine A0c (ctxF big) ?_;simp -implicitDefEqProofs [h0',h1',hn]
 have h1':¬(32:Int)<(s.size:Int):=by omega
 refine A0a (ctxF big) ?_;simp -implicitDefEqProofs [h0',h1']
 have no:∀(j:Nat) c,s.data.toList[j]?=some c->okAt big j c=false->A0v big s=false:=by
  intro j c hc hk
  cases h:A0v big s with
  | false=>rfl
  | true=>rw[((A8g big s).1 h).2.2 j c hc]at hk;cases hk
 refine A1f (α:=Unit) (fun _=>SF big s s.size) (fun _=>A0v big s=true) (fun _=>rfl) ?_ ?_
 ·refine A0a (ctxF big) ?_;simp -implicitDefEqProofs;refine A0n ?_;refine A1a (SF big s) (fun j=>s.size-j) (fun j=>OkTo big s j) 0 (fun _=>rfl) ⟨Nat.zero_le _,fun i c h=>by omega⟩ ?_ rfl ?_
  ·refine A0s rfl rfl ?_ ?_<;>simp -implicitDefEqProofs [SF]
  ·rintro j ⟨hj,hok⟩;refine A0c (ctxF big) ?_;by_cases hlt:j<s.size
   ·obtain⟨c,hc⟩:∃c,s.data.toList[j]?=some c:=⟨_,List.getElem?_eq_getElem hlt⟩
    have hnx:=C7u (H:=(SF big s j).H) (nx:=1) (b:=0) (s:=s) (pos:=j) rfl hlt;simp only[SF]at hnx;have cvF:=fun H nx c=>orcF big H nx c;have qd:=fun c=>C4s rDig c
    have lr:letR big (c.toNat:Int)=(if big then isUp c else A9k c):=by
     unfold letR;cases big
     ·exact E6h c
     ·exact E0t c
    by_cases ha:c.toNat<128
    ·have hd:=C7s s j c hc ha;rw[hd]at hnx
     have go:okAt big j c=true->Abs.Next Tryz.prog (G q) 0 (SF big s) (fun a'=>OkTo big s a'/\s.size-a'<s.size-j) (SF big s (j+1)):=by
      intro hk;refine Abs.Next.mk (j+1) ⟨⟨hlt,fun i x hi hx=>?_⟩,by omega⟩ (Sub.refl _);by_cases e:i=j
      ·subst e;rw[hc]at hx;injection hx with hx;subst hx;exact hk
      ·exact hok i x (by omega) hx
     have fin:∀s1:A0b,Sub Tryz.prog (G q) 0 s1 (SF big s (j+1))->okAt big j c=true->Abs.Next Tryz.prog (G q) 0 (SF big s) (fun a'=>OkTo big s a'/\s.size-a'<s.size-j) s1:=by
      intro s1 h1 hk;obtain⟨a,h2,h3⟩:=go hk;exact⟨a,h2,h1.trans h3⟩
     cases hL:(if big then isUp c else A9k c:Bool)with
     | true=>
      have hk:okAt big j c=true:=by simp[okAt,hL]
      rw[hL]at lr;simp -implicitDefEqProofs [SF,hnx,extractV,cvF,lr];refine fin _ ?_ hk;refine A0s rfl rfl ?_ ?_<;>simp -implicitDefEqProofs [SF,upd]
     | false=>
      rw[hL]at lr;by_cases hj0:j=0
      ·have hk:okAt big j c=false:=by simp[okAt,hL,hj0]
       have hz:((j:Int)==0)=true:=by rw[hj0];rfl
       simp -implicitDefEqProofs [SF,hnx,extractV,cvF,lr,hz,no j c hc hk]
      ·have hz:((j:Int)==0)=false:=by rw[beq_eq_false_iff_ne];omega
       cases hD:A0w c with
       | true=>
        have hk:okAt big j c=true:=by simp[okAt,hL,hj0,hD]
        have hD':rDig (c.toNat:Int)=true:=by rw[D3p,hD]
        simp -implicitDefEqProofs [SF,hnx,extractV,cvF,lr,hz,tbF,qd,hD'];refine fin _ ?_ hk;refine A0s rfl rfl ?_ ?_<;>simp -implicitDefEqProofs [SF,upd]
       | false=>
        have hD':rDig (c.toNat:Int)=false:=by rw[D3p,hD]
        by_cases h45:c.toNat=45
        ·have hk:okAt big j c=true:=by simp[okAt,hL,hj0,hD,h45]
         have h4:((c.toNat:Int) != 45)=false:=by rw[h45];rfl
         simp -implicitDefEqProofs [SF,hnx,extractV,cvF,lr,hz,tbF,qd,hD',h4];refine fin _ ?_ hk;refine A0s rfl rfl ?_ ?_<;>simp -implicitDefEqProofs [SF,upd]
        ·have hk:okAt big j c=false:=by simp[okAt,hL,hj0,hD,h45]
         have h4:((c.toNat:Int) != 45)=true:=by rw[bne_iff_ne];omega
         simp -implicitDefEqProofs [SF,hnx,extractV,cvF,lr,hz,tbF,qd,hD',h4,no j c hc hk]
    ·have hd:=C7t s j c hc ha
     obtain⟨r,hr⟩:∃r:Nat,r=(Utf8.decode s j).1:=⟨_,rfl⟩
     rw[<-hr]at hd
     have lr:letR big (r:Int)=false:=by
      unfold letR rUp rLow;have h1:decide ((r:Int)<=90)=false:=decide_eq_false (by omega);have h2:decide ((r:Int)<=122)=false:=decide_eq_false (by omega);cases big<;>simp only[h1,h2,Bool.and_false,if_true,Bool.false_eq_true,if_false]
     have hD':rDig (r:Int)=false:=by
      unfold rDig;have h1:decide ((r:Int)<=57)=false:=decide_eq_false (by omega);rw[h1,Bool.and_false]
     have h4:((r:Int) != 45)=true:=by rw[bne_iff_ne];omega
     have hk:okAt big j c=false:=by
      have h1:isUp c=false:=by unfold isUp;rw[decide_eq_false (by omega:¬c.toNat<=90),Bool.and_false]
      have h2:A9k c=false:=by unfold A9k;rw[decide_eq_false (by omega:¬c.toNat<=122),Bool.and_false]
      have h3:A0w c=false:=by unfold A0w;rw[decide_eq_false (by omega:¬c.toNat<=57),Bool.and_false]
      have h5:decide (c.toNat=45)=false:=decide_eq_false (by omega);unfold okAt;rw[h1,h2,h3,h5];cases big<;>simp
     by_cases hj0:j=0
     ·have hz:((j:Int)==0)=true:=by rw[hj0];rfl
      simp -implicitDefEqProofs [SF,hnx,extractV,cvF,<-hr,lr,hz,no j c hc hk]
     ·have hz:((j:Int)==0)=false:=by rw[beq_eq_false_iff_ne];omega
      simp -implicitDefEqProofs [SF,hnx,extractV,cvF,<-hr,lr,hz,tbF,qd,hD',h4,no j c hc hk]
   ·have hover:=C7v (H:=(SF big s j).H) (nx:=1) (b:=0) (s:=s) (pos:=j) rfl hlt;simp only[SF]at hover;simp -implicitDefEqProofs [SF,hover,extractV]
    have e:j=s.size:=by omega
    subst e;refine Abs.Next.mk () ((A8g big s).2 ⟨by omega,by omega,fun i c hc=>hok i c ?_ hc⟩) (A0s rfl rfl (by simp -implicitDefEqProofs) (by simp -implicitDefEqProofs));have:=(List.getElem?_eq_some_iff.1 hc).1;omega
 ·rintro _ hn;refine A0c (ctxF big) ?_;simp -implicitDefEqProofs [SF,hn]
abbrev lim:Nat:=9223372036854775807
noncomputable def gFol:List T->Option T
 | [a,.v (.func (.func F) ⟨[]⟩ ⟨[]⟩)]=>(tStr.dec a).bind fun s=>if s.size<=lim then(if F=106 then some (bv (A0v false s))else if F=197 then some (bv (A0v true s))else none)else none
 | _=>none
theorem hFol:GOK Tryz.prog (G q) 105 gFol:=fun args r hr=>by
 unfold gFol at hr;split at hr
 ·rename_i a F;obtain⟨s,hs,hr2⟩:=Option.bind_eq_some_iff.1 hr;have e:a=sv s:=Ty.is_dec hs;subst e;split at hr2
  ·rename_i hl;split at hr2
   ·rename_i e;subst e;injection hr2 with hr2;subst hr2;exact B7f false s hl
   ·split at hr2
    ·rename_i e;subst e;injection hr2 with hr2;subst hr2;exact B7f true s hl
    ·cases hr2
  ·cases hr2
 ·cases hr
theorem F1a (s:ByteArray) (hs:s.size<=lim):gFol [sv s,fv 106]=some (bv (A0v false s)):=by
 have e:=Ty.dec_is (τ:=tStr) (t:=sv s) (a:=s) rfl;simp[gFol,e,hs]
noncomputable def hbN:HTbl:=[(105,hOfT gFol)]
theorem ctxN:Ctx Tryz.prog (G q) (orh [] hbN):=A0x.nil.ctxH (.cons hFol.hok .nil) mixed
theorem E0u (s:ByteArray) (hs:s.size<=lim):A0z Tryz.prog (G q) 58 [sv s] (· = bv (A0v false s)):=by
 refine D0o.runs ctxN rfl ?_
 (conv in B9f=>cbv);simp -implicitDefEqProofs [hbN,hOfT,F1a s hs]
noncomputable def D3q:List T->Option T:=g2 tStr E0j fun s b=>if s.size<=lim then some (bv (A0v b s))else none
theorem F3y:GOK Tryz.prog (G q) 107 D3q:=A7t fun a b s c r ha hb hr=>by
 have e1:a=sv s:=ha;have e2:b=bv c:=hb;subst e1;subst e2;split at hr
 ·rename_i h;injection hr with hr;subst hr;exact D7d s c h
 ·cases hr
theorem E0v (s:ByteArray) (b:Bool) (hs:s.size<=lim):D3q [sv s,bv b]=some (bv (A0v b s)):=by
 rw[D3q,A7c (τ:=tStr) (σ:=E0j) (x:=s) (y:=b) rfl rfl,if_pos hs]
noncomputable def tbN:Tbl:=[(107,D3q)]
theorem ctxRN:Ctx Tryz.prog (G q) (orc tbN):=(A0x.cons F3y .nil).ctx mixed
theorem D7e (s:ByteArray) (hs:s.size<=lim):A0z Tryz.prog (G q) 60 [sv s] (· = bv (A0v false s)):=by
 refine D6y.runs ctxRN rfl ?_
 (conv in C2r=>cbv);simp -implicitDefEqProofs [tbN,E0v s false hs]
def okW (c:UInt8):Bool:=decide (33<=c.toNat)&&decide (c.toNat<=126) && !isUp c && !decide (c.toNat=34) && !decide (c.toNat=92)
def A4q (s:ByteArray):Bool:=decide (1<=s.size)&&decide (s.size<=32)&&s.data.toList.all okW
noncomputable def tbW:Tbl:=[(197,D0w rUp)]
theorem ctxW:Ctx Tryz.prog (G q) (orc tbW):=(A0x.cons (B8b D3o) .nil).ctx mixed
def SW (s:ByteArray) (j:Nat):A0b:=⟨[(14,.ptr 0 0),(0,.t (sv s))],[(0,.iter s j)],1,36⟩
def OkW (s:ByteArray) (j:Nat):Prop:=j<=s.size/\∀(i:Nat) c,i<j->s.data.toList[i]?=some c->okW c=true
theorem B5z {s:ByteArray} {j:Nat} {c:UInt8} (hc:s.data.toList[j]?=some c) (hk:okW c=false):A4q s=false:=by
 cases h:A4q s with
 | false=>rfl
 | true=>
  simp only[A4q,Bool.and_eq_true,List.all_eq_true]at h;rw[h.2 c (List.mem_of_getElem? hc)]at hk;cases hk
theorem E6i (c:UInt8):okW c = !(decide ((c.toNat:Int)<33)||decide (126<(c.toNat:Int))||rUp (c.toNat:Int)||((c.toNat:Int)==34)||((c.toNat:Int)==92)):=by
 have e1:decide ((c.toNat:Int)<33) = !decide (33<=c.toNat):=by
  by_cases h:33<=c.toNat
  ·rw[decide_eq_true h,decide_eq_false (by omega)];rfl
  ·rw[decide_eq_false h,decide_eq_true (by omega)];rfl
 have e2:decide (126<(c.toNat:Int)) = !decide (c.toNat<=126):=by
  by_cases h:c.toNat<=126
  ·rw[decide_eq_true h,decide_eq_false (by omega)];rfl
  ·rw[decide_eq_false h,decide_eq_true (by omega)];rfl
 have e3:((c.toNat:Int)==34)=decide (c.toNat=34):=by
  by_cases h:c.toNat=34
  ·rw[h];rfl
  ·rw[decide_eq_false h,beq_eq_false_iff_ne];omega
 have e4:((c.toNat:Int)==92)=decide (c.toNat=92):=by
  by_cases h:c.toNat=92
  ·rw[h];rfl
  ·rw[decide_eq_false h,beq_eq_false_iff_ne];omega
 rw[e1,e2,e3,e4,E0t];unfold okW;cases decide (33<=c.toNat)<;>cases decide (c.toNat<=126)<;>cases isUp c<;>cases decide (c.toNat=34)<;>cases decide (c.toNat=92)<;>rfl
theorem E0w (s:ByteArray) (hs:s.size<=lim):A0z Tryz.prog (G q) 164 [sv s] (· = bv (A4q s)):=by
 refine D0r.call rfl ?_;(conv in B9h=>cbv);have hlen:s.data.toList.length=s.size:=rfl;refine A0a ctxW ?_;simp -implicitDefEqProofs;by_cases h0:s.size=0
 ·have h0':((s.size:Int)==0)=true:=by rw[h0];rfl
  have hn:A4q s=false:=by unfold A4q;rw[decide_eq_false (by omega)];rfl
  refine A0c ctxW ?_;simp -implicitDefEqProofs [h0',hn]
 have h0':((s.size:Int)==0)=false:=by rw[beq_eq_false_iff_ne];omega
 by_cases h1:32<s.size
 ·have h1':(32:Int)<(s.size:Int):=by omega
  have hn:A4q s=false:=by unfold A4q;rw[decide_eq_false (by omega:¬s.size<=32),Bool.and_false];rfl
  refine A0c ctxW ?_;simp -implicitDefEqProofs [h0',h1',hn]
 have h1':¬(32:Int)<(s.size:Int):=by omega
 refine A0a ctxW ?_;simp -implicitDefEqProofs [h0',h1'];refine A1f (α:=Unit) (fun _=>SW s s.size) (fun _=>A4q s=true) (fun _=>rfl) ?_ ?_
 ·refine A0a ctxW ?_;simp -implicitDefEqProofs;refine A0n ?_;refine A1a (SW s) (fun j=>s.size-j) (fun j=>OkW s j) 0 (fun _=>rfl) ⟨Nat.zero_le _,fun i c h=>by omega⟩ ?_ rfl ?_
  ·refine A0s rfl rfl ?_ ?_<;>simp -implicitDefEqProofs [SW]
  ·rintro j ⟨hj,hok⟩;refine A0c ctxW ?_;by_cases hlt:j<s.size
   ·obtain⟨c,hc⟩:∃c,s.data.toList[j]?=some c:=⟨_,List.getElem?_eq_getElem hlt⟩
    have hnx:=C7u (H:=(SW s j).H) (nx:=1) (b:=0) (s:=s) (pos:=j) rfl hlt;simp only[SW]at hnx;have qd:=fun c=>C4s rUp c;by_cases ha:c.toNat<128
    ·have hd:=C7s s j c hc ha;rw[hd]at hnx;have hk:=E6i c
     have fin:∀s1:A0b,Sub Tryz.prog (G q) 0 s1 (SW s (j+1))->okW c=true->Abs.Next Tryz.prog (G q) 0 (SW s) (fun a'=>OkW s a'/\s.size-a'<s.size-j) s1:=by
      intro s1 h1 hk;refine Abs.Next.mk (j+1) ⟨⟨hlt,fun i x hi hx=>?_⟩,by omega⟩ h1;by_cases e:i=j
      ·subst e;rw[hc]at hx;injection hx with hx;subst hx;exact hk
      ·exact hok i x (by omega) hx
     cases t1:decide ((c.toNat:Int)<33)with
     | true=>rw[t1]at hk;simp -implicitDefEqProofs [SW,hnx,extractV,t1,B5z hc hk]
     | false=>
      cases t2:decide (126<(c.toNat:Int))with
      | true=>rw[t1,t2]at hk;simp -implicitDefEqProofs [SW,hnx,extractV,t1,t2,B5z hc hk]
      | false=>
       cases t3:rUp (c.toNat:Int)with
       | true=>rw[t1,t2,t3]at hk;simp -implicitDefEqProofs [SW,hnx,extractV,t1,t2,tbW,qd,t3,B5z hc hk]
       | false=>
        cases t4:((c.toNat:Int)==34)with
        | true=>rw[t1,t2,t3,t4]at hk;simp -implicitDefEqProofs [SW,hnx,extractV,t1,t2,tbW,qd,t3,t4,B5z hc hk]
        | false=>
         cases t5:((c.toNat:Int)==92)with
         | true=>rw[t1,t2,t3,t4,t5]at hk;simp -implicitDefEqProofs [SW,hnx,extractV,t1,t2,tbW,qd,t3,t4,t5,B5z hc hk]
         | false=>
          rw[t1,t2,t3,t4,t5]at hk;simp -implicitDefEqProofs [SW,hnx,extractV,t1,t2,tbW,qd,t3,t4,t5];refine fin _ ?_ hk;refine A0s rfl rfl ?_ ?_<;>simp -implicitDefEqProofs [SW,upd]
    ·have hd:=C7t s j c hc ha
     obtain⟨r,hr⟩:∃r:Nat,r=(Utf8.decode s j).1:=⟨_,rfl⟩
     rw[<-hr]at hd;have t1:decide ((r:Int)<33)=false:=decide_eq_false (by omega);have t2:decide (126<(r:Int))=true:=decide_eq_true (by omega)
     have hk:okW c=false:=by unfold okW;rw[decide_eq_false (by omega:¬c.toNat<=126),Bool.and_false];rfl
     simp -implicitDefEqProofs [SW,hnx,extractV,<-hr,t1,t2,B5z hc hk]
   ·have hover:=C7v (H:=(SW s j).H) (nx:=1) (b:=0) (s:=s) (pos:=j) rfl hlt;simp only[SW]at hover;simp -implicitDefEqProofs [SW,hover,extractV]
    have e:j=s.size:=by omega
    subst e;refine Abs.Next.mk () ?_ (A0s rfl rfl (by simp -implicitDefEqProofs) (by simp -implicitDefEqProofs));simp only[A4q,Bool.and_eq_true,decide_eq_true_eq,List.all_eq_true];refine⟨⟨by omega,by omega⟩,fun x hx=>?_⟩;obtain⟨i,hi,e⟩:=List.getElem_of_mem hx;exact hok i x (by omega) (by rw[List.getElem?_eq_getElem hi,e])
 ·rintro _ hn;refine A0c ctxW ?_;simp -implicitDefEqProofs [SW,hn]
end Go.Proofs.YtmplckgbeaifkaaGreatDoor
