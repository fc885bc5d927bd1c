/- Auxiliary facts. -/
import Derived.Test.YtmgjopafgboljaaGreatDoorVEQ21
import Derived.Test.YtmgjopafgboljaaGreatDoorVEQ14
set_option linter.unusedSimpArgs false
set_option maxRecDepth 100000
set_option maxHeartbeats 0
set_option linter.unusedVariables false
namespace Go.Proofs.YtmgjopafgboljaaGreatDoor
open Go Go.Abs Go.RowKit
abbrev bs (l:List UInt8):ByteArray:=⟨l.toArray⟩
section
variable {q : Gl}
theorem B0a {w w':World} (h:w'=w):Below w.heap.size w w':=by subst h;exact Below.refl _ _
theorem D5d (w:World) (e:TypeId) (t:ByteArray):Below w.heap.size w (Lib.bytesWorld w e t):=by
 unfold Lib.bytesWorld World.freeze;rw[if_neg (by decide)];have e:∀o,(w.drew.alloc o).heap=w.heap.push o:=fun _=>rfl;refine⟨rfl,rfl,rfl,?_,fun j hj=>?_⟩
 ·simp only[Array.size_modify,e,Array.size_push];omega
 ·simp only[e];rw[Array.getElem?_modify,if_neg (by omega),Array.getElem?_push_lt hj];simp[hj]
theorem E2z (w:World) (k:Nat) (os:Array Obj):Below w.heap.size w (Sort.grow (w.drewN k) os):=by
 refine⟨rfl,rfl,rfl,by simp[Sort.grow,World.drewN],fun j hj=>?_⟩;simp only[Sort.grow,World.drewN];rw[Array.getElem?_append_left hj]
noncomputable def B0b:List T->Option T:=g2 tStr tStr fun s p=>some (sv (bs (Lib.trimPrefix s.data.toList p.data.toList)))
theorem D5e:GOK Tryz.prog (G q) 124 B0b:=D0o fun a b s p r ha hb hr=>by
 have e1:a = .v (.string s):=ha;have e2:b = .v (.string p):=hb;subst e1;subst e2;injection hr with hr;subst hr
 exact A1d.lib (vs:=[.string s,.string p]) ⟨_,(Tryz.f124.body).get!,Tryz.func124,by kernel_rfl,by kernel_rfl⟩ fun I w _=>(Tryz.strings_TrimPrefix s p w).mono fun e w' h=>⟨h.1,B0a h.2⟩
def B6u:List T->Option T
 | [.v (.string s),.v (.int .u8 c)]=>some (iv (Lib.indexByte s.data.toList c.toNat.toUInt8))
 | _=>none
theorem E3a:GOK Tryz.prog (G q) 122 B6u:=fun args r hr=>by
 unfold B6u at hr;split at hr
 ·rename_i s c;injection hr with hr;subst hr
  exact A1d.lib (vs:=[.string s,.int .u8 c]) ⟨_,(Tryz.f122.body).get!,Tryz.func122,by kernel_rfl,by kernel_rfl⟩ fun I w _=>(Tryz.strings_IndexByte s c w).mono fun e w' h=>⟨h.1,B0a h.2⟩
 ·cases hr
noncomputable def F2u:List T->Option T:=g2 tStr tStr fun s c=>if s.size<=9223372036854775807/\c.size<100/\c.data.toList.all (fun b=>decide (b.toNat<128))=true then some (sv (bs (Lib.trimS s.data.toList c.data.toList)))else none
theorem hTrim:GOK Tryz.prog (G q) 125 F2u:=D0o fun a b s c r ha hb hr=>by
 have e1:a = .v (.string s):=ha;have e2:b = .v (.string c):=hb;subst e1;subst e2;split at hr
 ·rename_i h;injection hr with hr;subst hr;exact A1d.lib (vs:=[.string s,.string c]) ⟨_,(Tryz.f125.body).get!,Tryz.func125,by kernel_rfl,by kernel_rfl⟩ fun I w _=>(Any.strings_Trim_laid Tryz.lays160 (by kernel_rfl) s c w h.1 (by omega) (ascii_of_all h.2.2)).mono fun e w' h=>h
 ·cases hr
noncomputable def F2v:List T->Option T:=g1 tInt fun n=>if -9223372036854775808<=n/\n<=9223372036854775807 then some (sv (bs (Lib.itoa n)))else none
theorem hItoa:GOK Tryz.prog (G q) 82 F2v:=E2p fun a n r ha hr=>by
 have e1:a = .v (.int .i64 n):=ha;subst e1;split at hr
 ·rename_i h;injection hr with hr;subst hr;refine A1d.lib (vs:=[.int .i64 n]) ⟨_,(Tryz.f82.body).get!,Tryz.func82,by kernel_rfl,by kernel_rfl⟩ fun I w hG=>?_
  have ht:Lib.TabIs Tryz.prog w "internal/strconv.uint64pow10" .u64 Lib.pow10Tab:=by
   have:=(hG 1 (E7f.map fun n=>.v (.int .u64 n)) rfl).2
   have e:(E7f.map fun n=>T.v (.int .u64 n))=(E7f.map fun n=>Value.int .u64 n).map .v:=by rw[List.map_map];rfl
   rw[e]at this;exact D7j (by kernel_rfl) this
  refine(Tryz.strconv_Itoa n h.1 h.2 w ht).mono fun e w' h=>⟨h.1,?_⟩
  obtain⟨k,os,rfl⟩:=h.2;exact E2z w k os
 ·cases hr
noncomputable def E7g:List T->Option T:=g1 tStr fun s=>if s.size<=281474976710656 then(match Lib.atoiAll s.data.toList with
 | .ok v=>some (.tu [iv v,.v .nilIface])
 | .range=>some (.tu [iv (Lib.atoiSat s.data.toList),.ic 196 (.pt [])])
 | _=>none)else none
theorem hAtoi:GOK Tryz.prog (G q) 126 E7g:=E2p fun a s r ha hr=>by
 have e1:a = .v (.string s):=ha;subst e1;split at hr
 ·rename_i hlim;split at hr
  ·rename_i v hv;injection hr with hr;subst hr;refine⟨⟨_,(Tryz.f126.body).get!,Tryz.func126,by kernel_rfl,by kernel_rfl⟩,fun I w us hlt hG hargs=>?_⟩
   have e:us = #[.string s]:=by
    have:=D7i (vs:=[.string s]) hargs;cases us;simp_all
   subst e;refine(Tryz.strconv_Atoi_ok s (by omega) v hv w).mono fun e w' h=>?_
   have hb:Below w.heap.size w w':=by
    rcases h.2 with h2 | ⟨t,rfl⟩
    ·exact B0a h2
    ·exact D5d w 5 t
   exact⟨_,_,I,h.1,rfl,by simp[RepT,RepL],⟨hb.os,hb.tape,hb.output⟩,hb.size,hb.block,fun _ h=>h,fun _ h=>.inl h,fun g hg=>Nat.lt_of_lt_of_le (hlt g hg) hb.size⟩
  ·rename_i hv;injection hr with hr;subst hr;refine⟨⟨_,(Tryz.f126.body).get!,Tryz.func126,by kernel_rfl,by kernel_rfl⟩,fun I w us hlt hG hargs=>?_⟩
   have e:us = #[.string s]:=by
    have:=D7i (vs:=[.string s]) hargs;cases us;simp_all
   subst e
   have hvar:w.var? Tryz.prog "strconv.ErrRange" = some #[.iface q.tr q.pr]:=D7j (vs:=[.iface q.tr q.pr]) (by kernel_rfl) (hG 3 [.v (.iface q.tr q.pr)] rfl).2
   refine(Tryz.strconv_Atoi_range_var s hlim hv q.tr q.pr w hvar).mono fun e w' h=>?_;obtain⟨N,he,hN,hw',hb⟩:=h;have hN':=(Array.getElem?_eq_some_iff.1 hw').1;refine⟨_,_,fun g=>I g\/g=N,he,rfl,?_,⟨hb.os,hb.tape,hb.output⟩,hb.size,hb.block,fun _ h=>.inl h,fun g h=>?_,fun g hg=>?_⟩
   ·simp only[RepT,RepL,RepC];exact⟨_,rfl,_,_,rfl,rfl,_,_,rfl,⟨_,rfl,N,0,rfl,.inr rfl,trivial⟩,rfl⟩
   ·rcases h with h | rfl
    ·exact .inl h
    ·exact .inr hN
   ·rcases hg with hg | rfl
    ·exact Nat.lt_of_lt_of_le (hlt g hg) hb.size
    ·exact hN'
  ·cases hr
 ·cases hr
theorem F2w (l:List ByteArray):l.flatMap eStr.enc=l.map fun x=>.v (.string x):=by
 induction l with
 | nil=>rfl
 | cons x l ih=>rw[List.flatMap_cons,List.map_cons,ih];rfl
end
open Go Go.Abs
variable {q : Gl}
theorem mixed:Tryz.prog.follows .mixedOrders=true:=by kernel_rfl
theorem ctx0:Ctx Tryz.prog (G q) (orc []):=A0s.nil.ctx mixed
abbrev cv (c:UInt8):T:=.v (.int .u8 (c.toNat:Int))
def A1j (c:UInt8):Bool:=decide (48<=c.toNat)&&decide (c.toNat<=57)
def isUp (c:UInt8):Bool:=decide (65<=c.toNat)&&decide (c.toNat<=90)
def A7w (c:UInt8):Bool:=decide (97<=c.toNat)&&decide (c.toNat<=122)
def tChr:Ty UInt8:=⟨fun t c=>t=cv c,fun t a b h h'=>by
 rw[h]at h';injection h' with h';injection h' with _ h'
 exact UInt8.toNat_inj.1 (by omega)⟩
theorem C5k (c:UInt8):A1d Tryz.prog (G q) 127 [cv c] (· = bv (A1j c)):=by
 refine D4y.runs ctx0 rfl ?_;by_cases h1:48<=c.toNat
 ·have h1':(48:Int)<=(c.toNat:Int):=by omega
  have e:decide ((c.toNat:Int)<=57)=decide (c.toNat<=57):=by congr 1;apply propext;omega
  (conv in B4h=>cbv);simp -implicitDefEqProofs [A1j,h1,h1',e]
 ·have h1':¬(48:Int)<=(c.toNat:Int):=by omega
  (conv in B4h=>cbv);simp -implicitDefEqProofs [A1j,h1,h1']
theorem E3b (c:UInt8):A1d Tryz.prog (G q) 151 [cv c] (· = bv (isUp c)):=by
 refine D4z.runs ctx0 rfl ?_;by_cases h1:65<=c.toNat
 ·have h1':(65:Int)<=(c.toNat:Int):=by omega
  have e:decide ((c.toNat:Int)<=90)=decide (c.toNat<=90):=by congr 1;apply propext;omega
  (conv in B4i=>cbv);simp -implicitDefEqProofs [isUp,h1,h1',e]
 ·have h1':¬(65:Int)<=(c.toNat:Int):=by omega
  (conv in B4i=>cbv);simp -implicitDefEqProofs [isUp,h1,h1']
theorem E3c (c:UInt8):A1d Tryz.prog (G q) 152 [cv c] (· = bv (A7w c)):=by
 refine D5a.runs ctx0 rfl ?_;by_cases h1:97<=c.toNat
 ·have h1':(97:Int)<=(c.toNat:Int):=by omega
  have e:decide ((c.toNat:Int)<=122)=decide (c.toNat<=122):=by congr 1;apply propext;omega
  (conv in B4j=>cbv);simp -implicitDefEqProofs [A7w,h1,h1',e]
 ·have h1':¬(97:Int)<=(c.toNat:Int):=by omega
  (conv in B4j=>cbv);simp -implicitDefEqProofs [A7w,h1,h1']
noncomputable def gChr (f:UInt8->Bool):List T->Option T:=g1 tChr fun c=>some (bv (f c))
theorem C7k {F:Nat} {f:UInt8->Bool} (h:∀c,A1d Tryz.prog (G q) F [cv c] (· = bv (f c))):GOK Tryz.prog (G q) F (gChr f):=
 E2p fun a x r ha hr=>by
  have e:a=cv x:=ha;injection hr with hr;subst hr;subst e;exact h x
theorem C7l (f:UInt8->Bool) (c:UInt8):gChr f [cv c]=some (bv (f c)):=E2q (τ:=tChr) rfl
noncomputable def tbc:Tbl:=[(127,gChr A1j),(151,gChr isUp),(152,gChr A7w)]
theorem ctxc:Ctx Tryz.prog (G q) (orc tbc):=(A0s.cons (C7k C5k) (.cons (C7k E3b) (.cons (C7k E3c) .nil))).ctx mixed
def A6w (big:Bool) (c:UInt8):Bool:=A1j c||decide (c.toNat=45)||(big&&isUp c)||(!big&&A7w c)
theorem E7h (c:UInt8) (big:Bool):A1d Tryz.prog (G q) 129 [cv c,bv big] (· = bv (A6w big c)):=by
 refine E2x.runs ctxc rfl ?_
 have e45:((c.toNat:Int)==45)=decide (c.toNat=45):=by
  by_cases h:c.toNat=45
  ·rw[h];rfl
  ·rw[decide_eq_false h,beq_eq_false_iff_ne];omega
 have q1:=C7l A1j c;have q2:=C7l isUp c;have q3:=C7l A7w c
 cases hd:A1j c<;>cases h4:decide (c.toNat=45)<;>cases big<;>cases hu:isUp c<;>cases hl:A7w c <;>
  (conv in C5i=>cbv)<;>simp -implicitDefEqProofs [tbc,q1,q2,q3,e45,hd,h4,hu,hl,A6w]
noncomputable def tbp:Tbl:=[(127,gChr A1j),(129,g2 tChr E6l fun c b=>some (bv (A6w b c)))]
theorem ctxp:Ctx Tryz.prog (G q) (orc tbp):=(A0s.cons (C7k C5k) (.cons (D0o fun a b x y r ha hb hr=>by
 have e1:a=cv x:=ha;have e2:b=bv y:=hb;injection hr with hr;subst hr;subst e1;subst e2
 exact E7h x y) .nil)).ctx mixed
def A0h (big:Bool) (s:ByteArray):Bool:=
 match s.data.toList with
 | []=>false
 | c::r=>decide (s.size<=32) && !A1j c && !decide (c.toNat=45)&&(c::r).all (A6w big)
def S142 (s:ByteArray) (big:Bool) (j:Nat):A0c:=⟨[(5,.t (iv (j:Int))),(1,.t (bv big)),(0,.t (sv s))],[],0,36⟩
theorem B5o (s:ByteArray) (j:Nat) (c:UInt8) (h:s.data.toList[j]?=some c):B8c (.t (sv s)) (.t (iv (j:Int)))=some (.t (cv c)):=by
 have hj:j<s.data.size:=by
  have:=(List.getElem?_eq_some_iff.1 h).1;simpa using this
 have:s[j]?=some c:=by
  have h2:s.data[j]?=some c:=by simpa using h
  have h3:j<s.size:=hj;rw[getElem?_pos s j h3];rw[getElem?_pos s.data j hj]at h2;exact h2
 simp[B8c,this]
theorem E3d (s:ByteArray) (big:Bool) (hs:s.size<=9223372036854775807):A1d Tryz.prog (G q) 104 [sv s,bv big] (· = bv (A0h big s)):=by
 refine D5b.call rfl ?_;(conv in C1g=>cbv);refine A0a ctxp ?_;simp -implicitDefEqProofs;have hlen:s.data.toList.length=s.size:=rfl
 cases hl:s.data.toList with
 | nil=>
  rw[hl]at hlen
  have h0:(s.size:Int)<1:=by simp at hlen;omega
  refine A0e ctxp ?_;simp -implicitDefEqProofs [h0,A0h,hl]
 | cons c r=>
  rw[hl]at hlen;simp only[List.length_cons]at hlen
  have h0:¬(s.size:Int)<1:=by omega
  have hx0:s.data.toList[0]?=some c:=by rw[hl];rfl
  have i0:=B5o s 0 c hx0;simp only[Int.natCast_zero]at i0;have qd:=C7l A1j c;by_cases h1:32<s.size
  ·have h1':(32:Int)<(s.size:Int):=by omega
   have hz:decide (s.size<=32)=false:=decide_eq_false (by omega);refine A0e ctxp ?_;simp -implicitDefEqProofs [h0,h1,h1',A0h,hl,hz]
  ·have h1':¬(32:Int)<(s.size:Int):=by omega
   have hz:decide (s.size<=32)=true:=decide_eq_true (by omega)
   cases hd:A1j c with
   | true=>
    refine A0e ctxp ?_;simp -implicitDefEqProofs [h0,h1,h1',i0,tbp,qd,hd,A0h,hl]
   | false=>
    by_cases h4:c.toNat=45
    ·have h4':((c.toNat:Int)==45)=true:=by rw[h4];rfl
     refine A0e ctxp ?_;simp -implicitDefEqProofs [h0,h1,h1',i0,tbp,qd,hd,h4',A0h,hl,h4]
    ·have h4':((c.toNat:Int)==45)=false:=by rw[beq_eq_false_iff_ne];omega
     refine A0a ctxp ?_;simp -implicitDefEqProofs [h0,h1,h1',i0,tbp,qd,hd,h4']
     obtain⟨n,hn⟩:∃n,n=s.data.toList.findIdx fun c=>!A6w big c:=⟨_,rfl⟩
     have hle:n<=s.size:=by rw[hn];exact E2t _ _
     have hres:A0h big s=decide (n=s.size):=by
      have:A0h big s=(s.data.toList).all (A6w big):=by
       unfold A0h;rw[hl];simp only[hz,hd,h4,decide_false,Bool.not_false,Bool.true_and]
      rw[this];by_cases e:n=s.size
      ·rw[decide_eq_true e,List.all_eq_true];intro x hx;have:=D0q (p:=fun c=>!A6w big c) (l:=s.data.toList) (by rw[<-hn,e];rfl) x hx;simpa using this
      ·rw[decide_eq_false e,List.all_eq_false];obtain⟨x,hx,hp⟩:=C0x (p:=fun c=>!A6w big c) (l:=s.data.toList) (by rw[<-hn];show n<s.size;omega);exact⟨x,List.mem_of_getElem? hx,by simpa using hp⟩
     rw[hres];refine A0q (fun _:Unit=>S142 s big s.size) (fun _=>n=s.size) (fun _=>rfl) ?_ ?_
     ·refine A0a ctxp ?_;simp -implicitDefEqProofs;refine A0j ?_;refine G0g (S142 s big) n (fun _=>rfl) ?_ rfl ?_ ?_
      ·refine A1q rfl rfl ?_ ?_<;>simp -implicitDefEqProofs [S142]
      ·intro j hj;refine A0e ctxp ?_
       have hjs:j<s.size:=by omega
       obtain⟨x,hx⟩:∃x,s.data.toList[j]?=some x:=⟨_,List.getElem?_eq_getElem hjs⟩
       have hp:=C0w (p:=fun c=>!A6w big c) (by rw[<-hn];exact hj) hx
       have hp':A6w big x=true:=by simpa using hp
       have e1:IntKind.i64.wrap ((j:Int)+1)=((j+1:Nat):Int):=A0k (by omega) (by omega);have q:=C6w (τ:=tChr) (σ:=E6l) (f:=fun c b=>some (bv (A6w b c))) (a:=cv x) (b:=bv big) rfl rfl;simp -implicitDefEqProofs [S142,hjs,B5o s j x hx,tbp,q,hp',e1];refine A1q rfl rfl ?_ ?_<;>simp -implicitDefEqProofs
      ·refine A0e ctxp ?_;by_cases e:n=s.size
       ·subst e;simp -implicitDefEqProofs [S142];exact Next.mk () trivial (A1q rfl rfl (by simp -implicitDefEqProofs) (by simp -implicitDefEqProofs))
       ·have hjs:n<s.size:=by omega
        obtain⟨x,hx,hp⟩:=C0x (p:=fun c=>!A6w big c) (l:=s.data.toList) (by rw[<-hn];exact hjs);rw[<-hn]at hx
        have hp':A6w big x=false:=by simpa using hp
        have q:=C6w (τ:=tChr) (σ:=E6l) (f:=fun c b=>some (bv (A6w b c))) (a:=cv x) (b:=bv big) rfl rfl;simp -implicitDefEqProofs [S142,hjs,B5o s n x hx,tbp,q,hp',e]
     ·rintro _ e;refine A0e ctxp ?_;simp -implicitDefEqProofs [S142,e]
abbrev rv (c:Int):T:=.v (.int .i32 c)
def rLow (c:Int):Bool:=decide (97<=c)&&decide (c<=122)
def rUp (c:Int):Bool:=decide (65<=c)&&decide (c<=90)
def rDig (c:Int):Bool:=decide (48<=c)&&decide (c<=57)
def G0i:Ty Int:=⟨fun t n=>t=rv n,fun t a b h h'=>by rw[h]at h';injection h' with h';injection h'⟩
theorem E7i (c:Int):A1d Tryz.prog (G q) 102 [rv c] (· = bv (rLow c)):=by
 refine D1b.runs ctx0 rfl ?_;by_cases h1:97<=c<;>(conv in B8j=>cbv)<;>simp -implicitDefEqProofs [rLow,h1]
theorem F2x (c:Int):A1d Tryz.prog (G q) 103 [rv c] (· = bv (rUp c)):=by
 refine D1c.runs ctx0 rfl ?_;by_cases h1:65<=c<;>(conv in B8k=>cbv)<;>simp -implicitDefEqProofs [rUp,h1]
theorem E7j (c:Int):A1d Tryz.prog (G q) 128 [rv c] (· = bv (rDig c)):=by
 refine D1d.runs ctx0 rfl ?_;by_cases h1:48<=c<;>(conv in B8l=>cbv)<;>simp -implicitDefEqProofs [rDig,h1]
noncomputable def E3e (f:Int->Bool):List T->Option T:=g1 G0i fun c=>some (bv (f c))
theorem C7m {F:Nat} {f:Int->Bool} (h:∀c,A1d Tryz.prog (G q) F [rv c] (· = bv (f c))):GOK Tryz.prog (G q) F (E3e f):=
 E2p fun a x r ha hr=>by
  have e:a=rv x:=ha;injection hr with hr;subst hr;subst e;exact h x
theorem D8o (f:Int->Bool) (c:Int):E3e f [rv c]=some (bv (f c)):=E2q (τ:=G0i) rfl
abbrev fv (F:Nat):T:=.v (.func (.func F) #[] #[])
theorem F2y (f:Int->Bool) (c:Int) (H:Heap) (nx:Nat):hOfT (E3e f) [.t (rv c)] H nx=some (.t (bv (f c)),H,nx):=by
 simp[hOfT,D8o]
theorem F2z (c:UInt8):rLow (c.toNat:Int)=A7w c:=by
 unfold rLow A7w;congr 1
 ·congr 1;apply propext;omega
 ·congr 1;apply propext;omega
theorem F6z (c:UInt8):rUp (c.toNat:Int)=isUp c:=by
 unfold rUp isUp;congr 1
 ·congr 1;apply propext;omega
 ·congr 1;apply propext;omega
theorem D8p (c:UInt8):rDig (c.toNat:Int)=A1j c:=by
 unfold rDig A1j;congr 1
 ·congr 1;apply propext;omega
 ·congr 1;apply propext;omega
def okAt (big:Bool) (i:Nat) (c:UInt8):Bool:=(if big then isUp c else A7w c)||(decide (i≠0)&&(A1j c||decide (c.toNat=45)))
theorem A7p (big:Bool) (s:ByteArray):A0h big s=true ↔ 1<=s.size/\s.size<=32/\∀(i:Nat) c,s.data.toList[i]?=some c->okAt big i c=true:=by
 have hlen:s.data.toList.length=s.size:=rfl;unfold A0h
 cases hl:s.data.toList with
 | nil=>rw[hl]at hlen;simp at hlen;simp;omega
 | cons c r=>
  rw[hl]at hlen;simp only[List.length_cons]at hlen
  have part:∀x,A6w big x=(A1j x||decide (x.toNat=45)||if big then isUp x else A7w x):=by
   intro x;cases big<;>simp[A6w]
  have disj:∀x,(if big then isUp x else A7w x)=true->A1j x=false/\x.toNat≠45:=by
   intro x hx;cases big<;>simp[isUp,A7w,A1j]at hx ⊢ <;> omega
  simp only[Bool.and_eq_true,decide_eq_true_eq,Bool.not_eq_true',List.all_eq_true,decide_eq_false_iff_not];constructor
  ·rintro⟨⟨⟨h1,h2⟩,h3⟩,h4⟩;refine⟨by omega,h1,fun i x hx=>?_⟩;have hp:=h4 x (List.mem_of_getElem? hx);rw[part]at hp
   cases i with
   | zero=>
    simp at hx;subst hx;simp[okAt];simpa[h2,h3]using hp
   | succ i=>
    simp[okAt];simp at hp;rcases hp with(h | h) | h
    ·exact .inr (.inl h)
    ·exact .inr (.inr h)
    ·exact .inl h
  ·rintro⟨_,h1,h2⟩
   have h0:(if big then isUp c else A7w c)=true:=by
    have:=h2 0 c rfl;simp[okAt]at this;cases big<;>simpa using this
   obtain⟨d1,d2⟩:=disj c h0;refine⟨⟨⟨h1,d1⟩,d2⟩,fun x hx=>?_⟩;obtain⟨i,hi,e⟩:=List.getElem_of_mem hx;have:=h2 i x (by rw[List.getElem?_eq_getElem hi,e]);rw[part];simp[okAt]at this ⊢;rcases this with h | ⟨_,h | h⟩
   ·exact .inr h
   ·exact .inl (.inl h)
   ·exact .inl (.inr h)
theorem E7k (s:ByteArray) (j:Nat) (c:UInt8) (h:s.data.toList[j]?=some c) (ha:c.toNat<128):Utf8.decode s j=(c.toNat,1):=by
 have hj:j<s.size:=by have:=(List.getElem?_eq_some_iff.1 h).1;simpa using this
 have e:s[j]'hj=c:=by
  have:=(List.getElem?_eq_some_iff.1 h).2;show s.data[j]=c;simpa using this
 have:=decode_ascii s j hj (by rw[e];exact ha);rw[e]at this;exact this
theorem E7l (s:ByteArray) (j:Nat) (c:UInt8) (h:s.data.toList[j]?=some c) (ha:¬c.toNat<128):128<=(Utf8.decode s j).1:=by
 have hj:j<s.size:=by have:=(List.getElem?_eq_some_iff.1 h).1;simpa using this
 have e:s.get! (j+0)=c:=by
  have e1:s[j]'hj=c:=by
   have:=(List.getElem?_eq_some_iff.1 h).2;show s.data[j]=c;simpa using this
  rw[<-e1];show s.get! j=_;simp[ByteArray.get!,getElem!_pos,hj];rfl
 unfold Utf8.decode;simp only[e,ha,if_false]
 repeat' split
 all_goals (first | (simp only[Utf8.runeError];omega) | (rename_i h;simp only[ge_iff_le,decide_eq_true_eq,Bool.and_eq_true]at h;omega) | skip)
theorem E7m {H:Heap} {nx b:Nat} {s:ByteArray} {pos:Nat} (hl:Abs.look H b=some (.iter s pos)) (hp:pos<s.size) :
  hxM .next H nx [.ptr b 0]=some (.t (.tu [.v (.bool true),.v (.int .i64 pos),.v (.int .i32 (Utf8.decode s pos).1)]),upd H b (.iter s (pos+(Utf8.decode s pos).2)),nx):=by
 simp only[hxM,hl,hp,if_true]
theorem E7n {H:Heap} {nx b:Nat} {s:ByteArray} {pos:Nat} (hl:Abs.look H b=some (.iter s pos)) (hp:¬pos<s.size) :
  hxM .next H nx [.ptr b 0]=some (.t (.tu [.v (.bool false)]),H,nx):=by
 simp only[hxM,hl,hp,if_false]
def letF (big:Bool):Nat:=if big then 103 else 102
def letR (big:Bool) (c:Int):Bool:=if big then rUp c else rLow c
theorem F7a (big:Bool):GOK Tryz.prog (G q) (letF big) (E3e (letR big)):=by
 cases big
 ·exact C7m E7i
 ·exact C7m F2x
noncomputable def tbF:Tbl:=[(128,E3e rDig)]
noncomputable def hbF (big:Bool):HTbl:=[(letF big,hOfT (E3e (letR big)))]
theorem ctxF (big:Bool):Ctx Tryz.prog (G q) (orh tbF (hbF big)):=(A0s.cons (C7m E7j) .nil).ctxH (.cons (F7a big).hok .nil) mixed
def SF (big:Bool) (s:ByteArray) (j:Nat):A0c:=⟨[(16,.ptr 0 0),(1,.t (fv (letF big))),(0,.t (sv s))],[(0,.iter s j)],1,38⟩
theorem orcF (big:Bool) (H:Heap) (nx:Nat) (c:Int):orcH (hbF big) (letF big) [.t (rv c)] H nx=some (.t (bv (letR big c)),H,nx):=by
 simp only[hbF,orcH_cons,if_true,F2y]
def OkTo (big:Bool) (s:ByteArray) (j:Nat):Prop:=j<=s.size/\∀(i:Nat) c,i<j->s.data.toList[i]?=some c->okAt big i c=true
theorem B8m (big:Bool) (s:ByteArray) (hs:s.size<=9223372036854775807):A1d Tryz.prog (G q) 101 [sv s,fv (letF big)] (· = bv (A0h big s)):=by
 refine C3p.call rfl ?_;(conv in B3o=>cbv);have hlen:s.data.toList.length=s.size:=rfl;refine A0a (ctxF big) ?_;simp -implicitDefEqProofs;by_cases h0:s.size=0
 ·have h0':((s.size:Int)==0)=true:=by rw[h0];rfl
  have hn:A0h big s=false:=by
   cases h:A0h big s with
   | false=>rfl
   | true=>have:=(A7p big s).1 h;omega
  refine A0e (ctxF big) ?_;simp -implicitDefEqProofs [h0',hn]
 have h0':((s.size:Int)==0)=false:=by rw[beq_eq_false_iff_ne];omega
 by_cases h1:32<s.size
 ·have h1':(32:Int)<(s.size:Int):=by omega
  have hn:A0h big s=false:=by
   cases h:A0h big s with
   | false=>rfl
   | true=>have:=(A7p big s).1 h;omega
  refine A0e (ctxF big) ?_;simp -implicitDefEqProofs [h0',h1',hn]
 have h1':¬(32:Int)<(s.size:Int):=by omega
 refine A0a (ctxF big) ?_;simp -implicitDefEqProofs [h0',h1']
 have no:∀(j:Nat) c,s.data.toList[j]?=some c->okAt big j c=false->A0h big s=false:=by
  intro j c hc hk
  cases h:A0h big s with
  | false=>rfl
  | true=>rw[((A7p big s).1 h).2.2 j c hc]at hk;cases hk
 refine A0q (α:=Unit) (fun _=>SF big s s.size) (fun _=>A0h big s=true) (fun _=>rfl) ?_ ?_
 ·refine A0a (ctxF big) ?_;simp -implicitDefEqProofs;refine A0j ?_;refine A0n (SF big s) (fun j=>s.size-j) (fun j=>OkTo big s j) 0 (fun _=>rfl) ⟨Nat.zero_le _,fun i c h=>by omega⟩ ?_ rfl ?_
  ·refine A1q rfl rfl ?_ ?_<;>simp -implicitDefEqProofs [SF]
  ·rintro j ⟨hj,hok⟩;refine A0e (ctxF big) ?_;by_cases hlt:j<s.size
   ·obtain⟨c,hc⟩:∃c,s.data.toList[j]?=some c:=⟨_,List.getElem?_eq_getElem hlt⟩
    have hnx:=E7m (H:=(SF big s j).H) (nx:=1) (b:=0) (s:=s) (pos:=j) rfl hlt;simp only[SF]at hnx;have cvF:=fun H nx c=>orcF big H nx c;have qd:=fun c=>D8o rDig c
    have lr:letR big (c.toNat:Int)=(if big then isUp c else A7w c):=by
     unfold letR;cases big
     ·exact F2z c
     ·exact F6z c
    by_cases ha:c.toNat<128
    ·have hd:=E7k s j c hc ha;rw[hd]at hnx
     have go:okAt big j c=true->Abs.Next Tryz.prog (G q) 0 (SF big s) (fun a'=>OkTo big s a'/\s.size-a'<s.size-j) (SF big s (j+1)):=by
      intro hk;refine Abs.Next.mk (j+1) ⟨⟨hlt,fun i x hi hx=>?_⟩,by omega⟩ (Sub.refl _);by_cases e:i=j
      ·subst e;rw[hc]at hx;injection hx with hx;subst hx;exact hk
      ·exact hok i x (by omega) hx
     have fin:∀s1:A0c,Sub Tryz.prog (G q) 0 s1 (SF big s (j+1))->okAt big j c=true->Abs.Next Tryz.prog (G q) 0 (SF big s) (fun a'=>OkTo big s a'/\s.size-a'<s.size-j) s1:=by
      intro s1 h1 hk;obtain⟨a,h2,h3⟩:=go hk;exact⟨a,h2,h1.trans h3⟩
     cases hL:(if big then isUp c else A7w c:Bool)with
     | true=>
      have hk:okAt big j c=true:=by simp[okAt,hL]
      rw[hL]at lr;simp -implicitDefEqProofs [SF,hnx,extractV,cvF,lr];refine fin _ ?_ hk;refine A1q rfl rfl ?_ ?_<;>simp -implicitDefEqProofs [SF,upd]
     | false=>
      rw[hL]at lr;by_cases hj0:j=0
      ·have hk:okAt big j c=false:=by simp[okAt,hL,hj0]
       have hz:((j:Int)==0)=true:=by rw[hj0];rfl
       simp -implicitDefEqProofs [SF,hnx,extractV,cvF,lr,hz,no j c hc hk]
      ·have hz:((j:Int)==0)=false:=by rw[beq_eq_false_iff_ne];omega
       cases hD:A1j c with
       | true=>
        have hk:okAt big j c=true:=by simp[okAt,hL,hj0,hD]
        have hD':rDig (c.toNat:Int)=true:=by rw[D8p,hD]
        simp -implicitDefEqProofs [SF,hnx,extractV,cvF,lr,hz,tbF,qd,hD'];refine fin _ ?_ hk;refine A1q rfl rfl ?_ ?_<;>simp -implicitDefEqProofs [SF,upd]
       | false=>
        have hD':rDig (c.toNat:Int)=false:=by rw[D8p,hD]
        by_cases h45:c.toNat=45
        ·have hk:okAt big j c=true:=by simp[okAt,hL,hj0,hD,h45]
         have h4:((c.toNat:Int) != 45)=false:=by rw[h45];rfl
         simp -implicitDefEqProofs [SF,hnx,extractV,cvF,lr,hz,tbF,qd,hD',h4];refine fin _ ?_ hk;refine A1q rfl rfl ?_ ?_<;>simp -implicitDefEqProofs [SF,upd]
        ·have hk:okAt big j c=false:=by simp[okAt,hL,hj0,hD,h45]
         have h4:((c.toNat:Int) != 45)=true:=by rw[bne_iff_ne];omega
         simp -implicitDefEqProofs [SF,hnx,extractV,cvF,lr,hz,tbF,qd,hD',h4,no j c hc hk]
    ·have hd:=E7l s j c hc ha
     obtain⟨r,hr⟩:∃r:Nat,r=(Utf8.decode s j).1:=⟨_,rfl⟩
     rw[<-hr]at hd
     have lr:letR big (r:Int)=false:=by
      unfold letR rUp rLow;have h1:decide ((r:Int)<=90)=false:=decide_eq_false (by omega);have h2:decide ((r:Int)<=122)=false:=decide_eq_false (by omega);cases big<;>simp only[h1,h2,Bool.and_false,if_true,Bool.false_eq_true,if_false]
     have hD':rDig (r:Int)=false:=by
      unfold rDig;have h1:decide ((r:Int)<=57)=false:=decide_eq_false (by omega);rw[h1,Bool.and_false]
     have h4:((r:Int) != 45)=true:=by rw[bne_iff_ne];omega
     have hk:okAt big j c=false:=by
      have h1:isUp c=false:=by unfold isUp;rw[decide_eq_false (by omega:¬c.toNat<=90),Bool.and_false]
      have h2:A7w c=false:=by unfold A7w;rw[decide_eq_false (by omega:¬c.toNat<=122),Bool.and_false]
      have h3:A1j c=false:=by unfold A1j;rw[decide_eq_false (by omega:¬c.toNat<=57),Bool.and_false]
      have h5:decide (c.toNat=45)=false:=decide_eq_false (by omega);unfold okAt;rw[h1,h2,h3,h5];cases big<;>simp
     by_cases hj0:j=0
     ·have hz:((j:Int)==0)=true:=by rw[hj0];rfl
      simp -implicitDefEqProofs [SF,hnx,extractV,cvF,<-hr,lr,hz,no j c hc hk]
     ·have hz:((j:Int)==0)=false:=by rw[beq_eq_false_iff_ne];omega
      simp -implicitDefEqProofs [SF,hnx,extractV,cvF,<-hr,lr,hz,tbF,qd,hD',h4,no j c hc hk]
   ·have hover:=E7n (H:=(SF big s j).H) (nx:=1) (b:=0) (s:=s) (pos:=j) rfl hlt;simp only[SF]at hover;simp -implicitDefEqProofs [SF,hover,extractV]
    have e:j=s.size:=by omega
    subst e;refine Abs.Next.mk () ((A7p big s).2 ⟨by omega,by omega,fun i c hc=>hok i c ?_ hc⟩) (A1q rfl rfl (by simp -implicitDefEqProofs) (by simp -implicitDefEqProofs));have:=(List.getElem?_eq_some_iff.1 hc).1;omega
 ·rintro _ hn;refine A0e (ctxF big) ?_;simp -implicitDefEqProofs [SF,hn]
abbrev lim:Nat:=9223372036854775807
noncomputable def gFol:List T->Option T
 | [a,.v (.func (.func F) ⟨[]⟩ ⟨[]⟩)]=>(tStr.dec a).bind fun s=>if s.size<=lim then(if F=102 then some (bv (A0h false s))else if F=103 then some (bv (A0h true s))else none)else none
 | _=>none
theorem hFol:GOK Tryz.prog (G q) 101 gFol:=fun args r hr=>by
 unfold gFol at hr;split at hr
 ·rename_i a F;obtain⟨s,hs,hr2⟩:=Option.bind_eq_some_iff.1 hr;have e:a=sv s:=Ty.is_dec hs;subst e;split at hr2
  ·rename_i hl;split at hr2
   ·rename_i e;subst e;injection hr2 with hr2;subst hr2;exact B8m false s hl
   ·split at hr2
    ·rename_i e;subst e;injection hr2 with hr2;subst hr2;exact B8m true s hl
    ·cases hr2
  ·cases hr2
 ·cases hr
theorem F7b (s:ByteArray) (hs:s.size<=lim):gFol [sv s,fv 102]=some (bv (A0h false s)):=by
 have e:=Ty.dec_is (τ:=tStr) (t:=sv s) (a:=s) rfl;simp[gFol,e,hs]
theorem F7c (s:ByteArray) (hs:s.size<=lim):gFol [sv s,fv 103]=some (bv (A0h true s)):=by
 have e:=Ty.dec_is (τ:=tStr) (t:=sv s) (a:=s) rfl;simp[gFol,e,hs]
noncomputable def hbN:HTbl:=[(101,hOfT gFol)]
theorem ctxN:Ctx Tryz.prog (G q) (orh [] hbN):=A0s.nil.ctxH (.cons hFol.hok .nil) mixed
theorem E7o (s:ByteArray) (hs:s.size<=lim):A1d Tryz.prog (G q) 66 [sv s] (· = bv (A0h false s)):=by
 refine D5c.runs ctxN rfl ?_
 (conv in C1h=>cbv);simp -implicitDefEqProofs [hbN,hOfT,F7b s hs]
theorem D1e (s:ByteArray) (hs:s.size<=lim):A1d Tryz.prog (G q) 67 [sv s] (· = bv (A0h true s)):=by
 refine C3q.runs ctxN rfl ?_
 (conv in B3p=>cbv);simp -implicitDefEqProofs [hbN,hOfT,F7c s hs]
noncomputable def D8q:List T->Option T:=g2 tStr E6l fun s b=>if s.size<=lim then some (bv (A0h b s))else none
theorem G0j:GOK Tryz.prog (G q) 104 D8q:=D0o fun a b s c r ha hb hr=>by
 have e1:a=sv s:=ha;have e2:b=bv c:=hb;subst e1;subst e2;split at hr
 ·rename_i h;injection hr with hr;subst hr;exact E3d s c h
 ·cases hr
theorem D1f (s:ByteArray) (b:Bool) (hs:s.size<=lim):D8q [sv s,bv b]=some (bv (A0h b s)):=by
 rw[D8q,C6w (τ:=tStr) (σ:=E6l) (x:=s) (y:=b) rfl rfl,if_pos hs]
noncomputable def tbN:Tbl:=[(104,D8q)]
theorem G0k:Ctx Tryz.prog (G q) (orc tbN):=(A0s.cons G0j .nil).ctx mixed
theorem E3f (s:ByteArray) (hs:s.size<=lim):A1d Tryz.prog (G q) 68 [sv s] (· = bv (A0h false s)):=by
 refine E2y.runs G0k rfl ?_
 (conv in C5j=>cbv);simp -implicitDefEqProofs [tbN,D1f s false hs]
theorem C7n (s:ByteArray) (hs:s.size<=lim):A1d Tryz.prog (G q) 69 [sv s] (· = bv (A0h true s)):=by
 refine C7h.runs G0k rfl ?_
 (conv in B5m=>cbv);simp -implicitDefEqProofs [tbN,D1f s true hs]
end Go.Proofs.YtmgjopafgboljaaGreatDoor
