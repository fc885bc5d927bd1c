/-
 Auxiliary facts. No statement of the program stands here.
-/
import Derived.Test.YtmplckgbeaifkaaGreatDoorVBQ16
import Derived.Test.YtmplckgbeaifkaaGreatDoorVBQ17
namespace Go.Proofs.YtmplckgbeaifkaaGreatDoor
set_option linter.unusedSimpArgs false
set_option linter.unusedVariables false
open Go Go.Abs Go.RowKit
abbrev bs (l:List UInt8):ByteArray:=⟨l.toArray⟩
theorem A7x (s:ByteArray):bs s.data.toList=s:=by cases s;simp[bs]
section
variable {q : Gl}
theorem B9v {w w':World} (h:w'=w):Below w.heap.size w w':=by subst h;exact Below.refl _ _
theorem D2f (w:World) (e:TypeId) (t:ByteArray):Below w.heap.size w (Lib.bytesWorld w e t):=by
 unfold Lib.bytesWorld World.freeze;rw[if_neg (by decide)];have e:∀o,(w.drew.alloc o).heap=w.heap.push o:=fun _=>rfl;refine⟨rfl,rfl,rfl,?_,fun j hj=>?_⟩
 ·simp only[Array.size_modify,e,Array.size_push];omega
 ·simp only[e];rw[Array.getElem?_modify,if_neg (by omega),Array.getElem?_push_lt hj];simp[hj]
theorem D8s (w:World) (k:Nat) (os:Array Obj):Below w.heap.size w (Sort.grow (w.drewN k) os):=by
 refine⟨rfl,rfl,rfl,by simp[Sort.grow,World.drewN],fun j hj=>?_⟩;simp only[Sort.grow,World.drewN];rw[Array.getElem?_append_left hj]
noncomputable def A9h:List T->Option T:=g2 tStr tStr fun s p=>some (sv (bs (Lib.trimPrefix s.data.toList p.data.toList)))
theorem D2g:GOK Tryz.prog (G q) 232 A9h:=A4e fun a b s p r ha hb hr=>by
 have e1:a = .v (.string s):=ha;have e2:b = .v (.string p):=hb;subst e1;subst e2;injection hr with hr;subst hr
 exact A0w.lib (vs:=[.string s,.string p]) ⟨_,(Tryz.f232.body).get!,Tryz.func232,by kernel_rfl,by kernel_rfl⟩ fun I w _=>(Tryz.strings_TrimPrefix s p w).mono fun e w' h=>⟨h.1,B9v h.2⟩
noncomputable def E9k:List T->Option T:=g2 tStr tStr fun s c=>if s.size<=9223372036854775807/\c.size<100/\c.data.toList.all (fun b=>decide (b.toNat<128))=true then some (sv (bs (Lib.trimS s.data.toList c.data.toList)))else none
theorem hTrim:GOK Tryz.prog (G q) 233 E9k:=A4e fun a b s c r ha hb hr=>by
 have e1:a = .v (.string s):=ha;have e2:b = .v (.string c):=hb;subst e1;subst e2;split at hr
 ·rename_i h;injection hr with hr;subst hr;exact A0w.lib (vs:=[.string s,.string c]) ⟨_,(Tryz.f233.body).get!,Tryz.func233,by kernel_rfl,by kernel_rfl⟩ fun I w _=>(Any.strings_Trim_laid Tryz.lays160 (by kernel_rfl) s c w h.1 (by omega) (ascii_of_all h.2.2)).mono fun e w' h=>h
 ·cases hr
noncomputable def E9l:List T->Option T:=g1 tInt fun n=>if -9223372036854775808<=n/\n<=9223372036854775807 then some (sv (bs (Lib.itoa n)))else none
theorem hItoa:GOK Tryz.prog (G q) 131 E9l:=A4c fun a n r ha hr=>by
 have e1:a = .v (.int .i64 n):=ha;subst e1;split at hr
 ·rename_i h;injection hr with hr;subst hr;refine A0w.lib (vs:=[.int .i64 n]) ⟨_,(Tryz.f131.body).get!,Tryz.func131,by kernel_rfl,by kernel_rfl⟩ fun I w hG=>?_
  have ht:Lib.TabIs Tryz.prog w "internal/strconv.uint64pow10" .u64 Lib.pow10Tab:=by
   have:=(hG 1 (E2v.map fun n=>.v (.int .u64 n)) rfl).2
   have e:(E2v.map fun n=>T.v (.int .u64 n))=(E2v.map fun n=>Value.int .u64 n).map .v:=by rw[List.map_map];rfl
   rw[e]at this;exact D4l (by kernel_rfl) this
  refine(Tryz.strconv_Itoa n h.1 h.2 w ht).mono fun e w' h=>⟨h.1,?_⟩
  obtain⟨k,os,rfl⟩:=h.2;exact D8s w k os
 ·cases hr
noncomputable def E2w:List T->Option T:=g1 tStr fun s=>if s.size<=281474976710656 then(match Lib.atoiAll s.data.toList with
 | .ok v=>some (.tu [iv v,.v .nilIface])
 | .range=>some (.tu [iv (Lib.atoiSat s.data.toList),.ic 265 (.pt [])])
 | _=>none)else none
theorem hAtoi:GOK Tryz.prog (G q) 234 E2w:=A4c fun a s r ha hr=>by
 have e1:a = .v (.string s):=ha;subst e1;split at hr
 ·rename_i hlim;split at hr
  ·rename_i v hv;injection hr with hr;subst hr;refine⟨⟨_,(Tryz.f234.body).get!,Tryz.func234,by kernel_rfl,by kernel_rfl⟩,fun I w us hlt hG hargs=>?_⟩
   have e:us = #[.string s]:=by
    have:=D4k (vs:=[.string s]) hargs;cases us;simp_all
   subst e;refine(Tryz.strconv_Atoi_ok s (by omega) v hv w).mono fun e w' h=>?_
   have hb:Below w.heap.size w w':=by
    rcases h.2 with h2 | ⟨t,rfl⟩
    ·exact B9v h2
    ·exact D2f w 5 t
   exact⟨_,_,I,h.1,rfl,by simp[RepT,RepL],⟨hb.os,hb.tape,hb.output⟩,hb.size,hb.block,fun _ h=>h,fun _ h=>.inl h,fun g hg=>Nat.lt_of_lt_of_le (hlt g hg) hb.size⟩
  ·rename_i hv;injection hr with hr;subst hr;refine⟨⟨_,(Tryz.f234.body).get!,Tryz.func234,by kernel_rfl,by kernel_rfl⟩,fun I w us hlt hG hargs=>?_⟩
   have e:us = #[.string s]:=by
    have:=D4k (vs:=[.string s]) hargs;cases us;simp_all
   subst e
   have hvar:w.var? Tryz.prog "strconv.ErrRange" = some #[.iface q.tr q.pr]:=D4l (vs:=[.iface q.tr q.pr]) (by kernel_rfl) (hG 7 [.v (.iface q.tr q.pr)] rfl).2
   refine(Tryz.strconv_Atoi_range_var s hlim hv q.tr q.pr w hvar).mono fun e w' h=>?_;obtain⟨N,he,hN,hw',hb⟩:=h;have hN':=(Array.getElem?_eq_some_iff.1 hw').1;refine⟨_,_,fun g=>I g\/g=N,he,rfl,?_,⟨hb.os,hb.tape,hb.output⟩,hb.size,hb.block,fun _ h=>.inl h,fun g h=>?_,fun g hg=>?_⟩
   ·simp only[RepT,RepL,RepC];exact⟨_,rfl,_,_,rfl,rfl,_,_,rfl,⟨_,rfl,N,0,rfl,.inr rfl,trivial⟩,rfl⟩
   ·rcases h with h | rfl
    ·exact .inl h
    ·exact .inr hN
   ·rcases hg with hg | rfl
    ·exact Nat.lt_of_lt_of_le (hlt g hg) hb.size
    ·exact hN'
  ·cases hr
 ·cases hr
end
open Go Go.Abs
variable {q : Gl}
theorem mixed:Tryz.prog.follows .mixedOrders=true:=by kernel_rfl
theorem ctx0:Ctx Tryz.prog (G q) (orc []):=A0y.nil.ctx mixed
abbrev cv (c:UInt8):T:=.v (.int .u8 (c.toNat:Int))
def A1d (c:UInt8):Bool:=decide (48<=c.toNat)&&decide (c.toNat<=57)
def isUp (c:UInt8):Bool:=decide (65<=c.toNat)&&decide (c.toNat<=90)
def A9y (c:UInt8):Bool:=decide (97<=c.toNat)&&decide (c.toNat<=122)
def tChr:Ty UInt8:=⟨fun t c=>t=cv c,fun t a b h h'=>by
 rw[h]at h';injection h' with h';injection h' with _ h'
 exact UInt8.toNat_inj.1 (by omega)⟩
theorem C3g (c:UInt8):A0w Tryz.prog (G q) 157 [cv c] (· = bv (A1d c)):=by
 refine D2b.runs ctx0 rfl ?_;by_cases h1:48<=c.toNat
 ·have h1':(48:Int)<=(c.toNat:Int):=by omega
  have e:decide ((c.toNat:Int)<=57)=decide (c.toNat<=57):=by congr 1;apply propext;omega
  simp -implicitDefEqProofs [B2v,A1d,h1,h1',e]
 ·have h1':¬(48:Int)<=(c.toNat:Int):=by omega
  simp -implicitDefEqProofs [B2v,A1d,h1,h1']
theorem D8t (c:UInt8):A0w Tryz.prog (G q) 184 [cv c] (· = bv (isUp c)):=by
 refine D2d.runs ctx0 rfl ?_;by_cases h1:65<=c.toNat
 ·have h1':(65:Int)<=(c.toNat:Int):=by omega
  have e:decide ((c.toNat:Int)<=90)=decide (c.toNat<=90):=by congr 1;apply propext;omega
  simp -implicitDefEqProofs [B2w,isUp,h1,h1',e]
 ·have h1':¬(65:Int)<=(c.toNat:Int):=by omega
  simp -implicitDefEqProofs [B2w,isUp,h1,h1']
theorem D8u (c:UInt8):A0w Tryz.prog (G q) 185 [cv c] (· = bv (A9y c)):=by
 refine D2e.runs ctx0 rfl ?_;by_cases h1:97<=c.toNat
 ·have h1':(97:Int)<=(c.toNat:Int):=by omega
  have e:decide ((c.toNat:Int)<=122)=decide (c.toNat<=122):=by congr 1;apply propext;omega
  simp -implicitDefEqProofs [B2x,A9y,h1,h1',e]
 ·have h1':¬(97:Int)<=(c.toNat:Int):=by omega
  simp -implicitDefEqProofs [B2x,A9y,h1,h1']
noncomputable def gChr (f:UInt8->Bool):List T->Option T:=g1 tChr fun c=>some (bv (f c))
theorem C5g {F:Nat} {f:UInt8->Bool} (h:∀c,A0w Tryz.prog (G q) F [cv c] (· = bv (f c))):GOK Tryz.prog (G q) F (gChr f):=
 A4c fun a x r ha hr=>by
  have e:a=cv x:=ha;injection hr with hr;subst hr;subst e;exact h x
theorem B5s (f:UInt8->Bool) (c:UInt8):gChr f [cv c]=some (bv (f c)):=A5b (τ:=tChr) rfl
noncomputable def tbc:Tbl:=[(157,gChr A1d),(184,gChr isUp),(185,gChr A9y)]
theorem ctxc:Ctx Tryz.prog (G q) (orc tbc):=(A0y.cons (C5g C3g) (.cons (C5g D8t) (.cons (C5g D8u) .nil))).ctx mixed
def A6h (big:Bool) (c:UInt8):Bool:=A1d c||decide (c.toNat=45)||(big&&isUp c)||(!big&&A9y c)
theorem E2x (c:UInt8) (big:Bool):A0w Tryz.prog (G q) 158 [cv c,bv big] (· = bv (A6h big c)):=by
 refine D8q.runs ctxc rfl ?_
 have e45:((c.toNat:Int)==45)=decide (c.toNat=45):=by
  by_cases h:c.toNat=45
  ·rw[h];rfl
  ·rw[decide_eq_false h,beq_eq_false_iff_ne];omega
 have q1:=B5s A1d c;have q2:=B5s isUp c;have q3:=B5s A9y c
 cases hd:A1d c<;>cases h4:decide (c.toNat=45)<;>cases big<;>cases hu:isUp c<;>cases hl:A9y c <;>
  simp -implicitDefEqProofs [C3e,tbc,q1,q2,q3,e45,hd,h4,hu,hl,A6h]
noncomputable def tbp:Tbl:=[(157,gChr A1d),(158,g2 tChr D1x fun c b=>some (bv (A6h b c)))]
theorem ctxp:Ctx Tryz.prog (G q) (orc tbp):=(A0y.cons (C5g C3g) (.cons (A4e fun a b x y r ha hb hr=>by
 have e1:a=cv x:=ha;have e2:b=bv y:=hb;injection hr with hr;subst hr;subst e1;subst e2
 exact E2x x y) .nil)).ctx mixed
def A1e (big:Bool) (s:ByteArray):Bool:=
 match s.data.toList with
 | []=>false
 | c::r=>decide (s.size<=32) && !A1d c && !decide (c.toNat=45)&&(c::r).all (A6h big)
def S142 (s:ByteArray) (big:Bool) (j:Nat):A0b:=⟨[(5,.t (iv (j:Int))),(1,.t (bv big)),(0,.t (sv s))],[],0,36⟩
theorem A4f (s:ByteArray) (j:Nat) (c:UInt8) (h:s.data.toList[j]?=some c):B6o (.t (sv s)) (.t (iv (j:Int)))=some (.t (cv c)):=by
 have hj:j<s.data.size:=by
  have:=(List.getElem?_eq_some_iff.1 h).1;simpa using this
 have:s[j]?=some c:=by
  have h2:s.data[j]?=some c:=by simpa using h
  have h3:j<s.size:=hj;rw[getElem?_pos s j h3];rw[getElem?_pos s.data j hj]at h2;exact h2
 simp[B6o,this]
theorem D8v (s:ByteArray) (big:Bool) (hs:s.size<=9223372036854775807):A0w Tryz.prog (G q) 107 [sv s,bv big] (· = bv (A1e big s)):=by
 refine D2a.call rfl ?_;unfold B9t;refine A0a ctxp ?_;simp -implicitDefEqProofs;have hlen:s.data.toList.length=s.size:=rfl
 cases hl:s.data.toList with
 | nil=>
  rw[hl]at hlen
  have h0:(s.size:Int)<1:=by simp at hlen;omega
  refine A0c ctxp ?_;simp -implicitDefEqProofs [h0,A1e,hl]
 | cons c r=>
  rw[hl]at hlen;simp only[List.length_cons]at hlen
  have h0:¬(s.size:Int)<1:=by omega
  have hx0:s.data.toList[0]?=some c:=by rw[hl];rfl
  have i0:=A4f s 0 c hx0;simp only[Int.natCast_zero]at i0;have qd:=B5s A1d c;by_cases h1:32<s.size
  ·have h1':(32:Int)<(s.size:Int):=by omega
   have hz:decide (s.size<=32)=false:=decide_eq_false (by omega);refine A0c ctxp ?_;simp -implicitDefEqProofs [h0,h1,h1',A1e,hl,hz]
  ·have h1':¬(32:Int)<(s.size:Int):=by omega
   have hz:decide (s.size<=32)=true:=decide_eq_true (by omega)
   cases hd:A1d c with
   | true=>
    refine A0c ctxp ?_;simp -implicitDefEqProofs [h0,h1,h1',i0,tbp,qd,hd,A1e,hl]
   | false=>
    by_cases h4:c.toNat=45
    ·have h4':((c.toNat:Int)==45)=true:=by rw[h4];rfl
     refine A0c ctxp ?_;simp -implicitDefEqProofs [h0,h1,h1',i0,tbp,qd,hd,h4',A1e,hl,h4]
    ·have h4':((c.toNat:Int)==45)=false:=by rw[beq_eq_false_iff_ne];omega
     refine A0a ctxp ?_;simp -implicitDefEqProofs [h0,h1,h1',i0,tbp,qd,hd,h4']
     obtain⟨n,hn⟩:∃n,n=s.data.toList.findIdx fun c=>!A6h big c:=⟨_,rfl⟩
     have hle:n<=s.size:=by rw[hn];exact C2z _ _
     have hres:A1e big s=decide (n=s.size):=by
      have:A1e big s=(s.data.toList).all (A6h big):=by
       unfold A1e;rw[hl];simp only[hz,hd,h4,decide_false,Bool.not_false,Bool.true_and]
      rw[this];by_cases e:n=s.size
      ·rw[decide_eq_true e,List.all_eq_true];intro x hx;have:=B6s (p:=fun c=>!A6h big c) (l:=s.data.toList) (by rw[<-hn,e];rfl) x hx;simpa using this
      ·rw[decide_eq_false e,List.all_eq_false];obtain⟨x,hx,hp⟩:=A9f (p:=fun c=>!A6h big c) (l:=s.data.toList) (by rw[<-hn];show n<s.size;omega);exact⟨x,List.mem_of_getElem? hx,by simpa using hp⟩
     rw[hres];refine A0o (fun _:Unit=>S142 s big s.size) (fun _=>n=s.size) (fun _=>rfl) ?_ ?_
     ·refine A0a ctxp ?_;simp -implicitDefEqProofs;refine A0f ?_;refine C8i (S142 s big) n (fun _=>rfl) ?_ rfl ?_ ?_
      ·refine A0s rfl rfl ?_ ?_<;>simp -implicitDefEqProofs [S142]
      ·intro j hj;refine A0c ctxp ?_
       have hjs:j<s.size:=by omega
       obtain⟨x,hx⟩:∃x,s.data.toList[j]?=some x:=⟨_,List.getElem?_eq_getElem hjs⟩
       have hp:=B2t (p:=fun c=>!A6h big c) (by rw[<-hn];exact hj) hx
       have hp':A6h big x=true:=by simpa using hp
       have e1:IntKind.i64.wrap ((j:Int)+1)=((j+1:Nat):Int):=A0h (by omega) (by omega);have q:=A4u (τ:=tChr) (σ:=D1x) (f:=fun c b=>some (bv (A6h b c))) (a:=cv x) (b:=bv big) rfl rfl;simp -implicitDefEqProofs [S142,hjs,A4f s j x hx,tbp,q,hp',e1];refine A0s rfl rfl ?_ ?_<;>simp -implicitDefEqProofs
      ·refine A0c ctxp ?_;by_cases e:n=s.size
       ·subst e;simp -implicitDefEqProofs [S142];exact Next.mk () trivial (A0s rfl rfl (by simp -implicitDefEqProofs) (by simp -implicitDefEqProofs))
       ·have hjs:n<s.size:=by omega
        obtain⟨x,hx,hp⟩:=A9f (p:=fun c=>!A6h big c) (l:=s.data.toList) (by rw[<-hn];exact hjs);rw[<-hn]at hx
        have hp':A6h big x=false:=by simpa using hp
        have q:=A4u (τ:=tChr) (σ:=D1x) (f:=fun c b=>some (bv (A6h b c))) (a:=cv x) (b:=bv big) rfl rfl;simp -implicitDefEqProofs [S142,hjs,A4f s n x hx,tbp,q,hp',e]
     ·rintro _ e;refine A0c ctxp ?_;simp -implicitDefEqProofs [S142,e]
abbrev rv (c:Int):T:=.v (.int .i32 c)
def rLow (c:Int):Bool:=decide (97<=c)&&decide (c<=122)
def rUp (c:Int):Bool:=decide (65<=c)&&decide (c<=90)
def rDig (c:Int):Bool:=decide (48<=c)&&decide (c<=57)
def F6q:Ty Int:=⟨fun t n=>t=rv n,fun t a b h h'=>by rw[h]at h';injection h' with h';injection h'⟩
theorem E2y (c:Int):A0w Tryz.prog (G q) 106 [rv c] (· = bv (rLow c)):=by
 refine C8q.runs ctx0 rfl ?_;by_cases h1:97<=c<;>simp -implicitDefEqProofs [B6t,rLow,h1]
theorem D5k (c:Int):A0w Tryz.prog (G q) 197 [rv c] (· = bv (rUp c)):=by
 refine C8t.runs ctx0 rfl ?_;by_cases h1:65<=c<;>simp -implicitDefEqProofs [B6w,rUp,h1]
theorem E2z (c:Int):A0w Tryz.prog (G q) 156 [rv c] (· = bv (rDig c)):=by
 refine C8r.runs ctx0 rfl ?_;by_cases h1:48<=c<;>simp -implicitDefEqProofs [B6u,rDig,h1]
noncomputable def D2h (f:Int->Bool):List T->Option T:=g1 F6q fun c=>some (bv (f c))
theorem B8h {F:Nat} {f:Int->Bool} (h:∀c,A0w Tryz.prog (G q) F [rv c] (· = bv (f c))):GOK Tryz.prog (G q) F (D2h f):=
 A4c fun a x r ha hr=>by
  have e:a=rv x:=ha;injection hr with hr;subst hr;subst e;exact h x
theorem C5h (f:Int->Bool) (c:Int):D2h f [rv c]=some (bv (f c)):=A5b (τ:=F6q) rfl
abbrev fv (F:Nat):T:=.v (.func (.func F) #[] #[])
theorem E9m (f:Int->Bool) (c:Int) (H:Heap) (nx:Nat):hOfT (D2h f) [.t (rv c)] H nx=some (.t (bv (f c)),H,nx):=by
 simp[hOfT,C5h]
theorem E9n (c:UInt8):rLow (c.toNat:Int)=A9y c:=by
 unfold rLow A9y;congr 1
 ·congr 1;apply propext;omega
 ·congr 1;apply propext;omega
theorem D2i (c:UInt8):rUp (c.toNat:Int)=isUp c:=by
 unfold rUp isUp;congr 1
 ·congr 1;apply propext;omega
 ·congr 1;apply propext;omega
theorem D5l (c:UInt8):rDig (c.toNat:Int)=A1d c:=by
 unfold rDig A1d;congr 1
 ·congr 1;apply propext;omega
 ·congr 1;apply propext;omega
def okAt (big:Bool) (i:Nat) (c:UInt8):Bool:=(if big then isUp c else A9y c)||(decide (i≠0)&&(A1d c||decide (c.toNat=45)))
theorem B0r (big:Bool) (s:ByteArray):A1e big s=true ↔ 1<=s.size/\s.size<=32/\∀(i:Nat) c,s.data.toList[i]?=some c->okAt big i c=true:=by
 have hlen:s.data.toList.length=s.size:=rfl;unfold A1e
 cases hl:s.data.toList with
 | nil=>rw[hl]at hlen;simp at hlen;simp;omega
 | cons c r=>
  rw[hl]at hlen;simp only[List.length_cons]at hlen
  have part:∀x,A6h big x=(A1d x||decide (x.toNat=45)||if big then isUp x else A9y x):=by
   intro x;cases big<;>simp[A6h]
  have disj:∀x,(if big then isUp x else A9y x)=true->A1d x=false/\x.toNat≠45:=by
   intro x hx;cases big<;>simp[isUp,A9y,A1d]at hx ⊢ <;> omega
  simp only[Bool.and_eq_true,decide_eq_true_eq,Bool.not_eq_true',List.all_eq_true,decide_eq_false_iff_not];constructor
  ·rintro⟨⟨⟨h1,h2⟩,h3⟩,h4⟩;refine⟨by omega,h1,fun i x hx=>?_⟩;have hp:=h4 x (List.mem_of_getElem? hx);rw[part]at hp
   cases i with
   | zero=>
    simp at hx;subst hx;simp[okAt];simpa[h2,h3]using hp
   | succ i=>
    simp[okAt];simp at hp;rcases hp with(h | h) | h
    ·exact .inr (.inl h)
    ·exact .inr (.inr h)
    ·exact .inl h
  ·rintro⟨_,h1,h2⟩
   have h0:(if big then isUp c else A9y c)=true:=by
    have:=h2 0 c rfl;simp[okAt]at this;cases big<;>simpa using this
   obtain⟨d1,d2⟩:=disj c h0;refine⟨⟨⟨h1,d1⟩,d2⟩,fun x hx=>?_⟩;obtain⟨i,hi,e⟩:=List.getElem_of_mem hx;have:=h2 i x (by rw[List.getElem?_eq_getElem hi,e]);rw[part];simp[okAt]at this ⊢;rcases this with h | ⟨_,h | h⟩
   ·exact .inr h
   ·exact .inl (.inl h)
   ·exact .inl (.inr h)
theorem C8u (s:ByteArray) (j:Nat) (c:UInt8) (h:s.data.toList[j]?=some c) (ha:c.toNat<128):Utf8.decode s j=(c.toNat,1):=by
 have hj:j<s.size:=by have:=(List.getElem?_eq_some_iff.1 h).1;simpa using this
 have e:s[j]'hj=c:=by
  have:=(List.getElem?_eq_some_iff.1 h).2;show s.data[j]=c;simpa using this
 have:=decode_ascii s j hj (by rw[e];exact ha);rw[e]at this;exact this
theorem C8v (s:ByteArray) (j:Nat) (c:UInt8) (h:s.data.toList[j]?=some c) (ha:¬c.toNat<128):128<=(Utf8.decode s j).1:=by
 have hj:j<s.size:=by have:=(List.getElem?_eq_some_iff.1 h).1;simpa using this
 have e:s.get! (j+0)=c:=by
  have e1:s[j]'hj=c:=by
   have:=(List.getElem?_eq_some_iff.1 h).2;show s.data[j]=c;simpa using this
  rw[<-e1];show s.get! j=_;simp[ByteArray.get!,getElem!_pos,hj];rfl
 unfold Utf8.decode;simp only[e,ha,if_false]
 repeat' split
 all_goals (first | (simp only[Utf8.runeError];omega) | (rename_i h;simp only[ge_iff_le,decide_eq_true_eq,Bool.and_eq_true]at h;omega) | skip)
theorem C8w {H:Heap} {nx b:Nat} {s:ByteArray} {pos:Nat} (hl:Abs.look H b=some (.iter s pos)) (hp:pos<s.size) :
  hxM .next H nx [.ptr b 0]=some (.t (.tu [.v (.bool true),.v (.int .i64 pos),.v (.int .i32 (Utf8.decode s pos).1)]),upd H b (.iter s (pos+(Utf8.decode s pos).2)),nx):=by
 simp only[hxM,hl,hp,if_true]
theorem C8x {H:Heap} {nx b:Nat} {s:ByteArray} {pos:Nat} (hl:Abs.look H b=some (.iter s pos)) (hp:¬pos<s.size) :
  hxM .next H nx [.ptr b 0]=some (.t (.tu [.v (.bool false)]),H,nx):=by
 simp only[hxM,hl,hp,if_false]
def letF (big:Bool):Nat:=if big then 197 else 106
def letR (big:Bool) (c:Int):Bool:=if big then rUp c else rLow c
theorem F3y (big:Bool):GOK Tryz.prog (G q) (letF big) (D2h (letR big)):=by
 cases big
 ·exact B8h E2y
 ·exact B8h D5k
noncomputable def tbF:Tbl:=[(156,D2h rDig)]
noncomputable def hbF (big:Bool):HTbl:=[(letF big,hOfT (D2h (letR big)))]
theorem ctxF (big:Bool):Ctx Tryz.prog (G q) (orh tbF (hbF big)):=(A0y.cons (B8h E2z) .nil).ctxH (.cons (F3y big).hok .nil) mixed
def SF (big:Bool) (s:ByteArray) (j:Nat):A0b:=⟨[(16,.ptr 0 0),(1,.t (fv (letF big))),(0,.t (sv s))],[(0,.iter s j)],1,38⟩
theorem orcF (big:Bool) (H:Heap) (nx:Nat) (c:Int):orcH (hbF big) (letF big) [.t (rv c)] H nx=some (.t (bv (letR big c)),H,nx):=by
 simp only[hbF,orcH_cons,if_true,E9m]
def OkTo (big:Bool) (s:ByteArray) (j:Nat):Prop:=j<=s.size/\∀(i:Nat) c,i<j->s.data.toList[i]?=some c->okAt big i c=true
theorem B6x (big:Bool) (s:ByteArray) (hs:s.size<=9223372036854775807):A0w Tryz.prog (G q) 105 [sv s,fv (letF big)] (· = bv (A1e big s)):=by
 refine C1v.call rfl ?_;unfold B2h;have hlen:s.data.toList.length=s.size:=rfl;refine A0a (ctxF big) ?_;simp -implicitDefEqProofs;by_cases h0:s.size=0
 ·have h0':((s.size:Int)==0)=true:=by rw[h0];rfl
  have hn:A1e big s=false:=by
   cases h:A1e big s with
   | false=>rfl
   | true=>have:=(B0r big s).1 h;omega
  refine A0c (ctxF big) ?_;simp -implicitDefEqProofs [h0',hn]
 have h0':((s.size:Int)==0)=false:=by rw[beq_eq_false_iff_ne];omega
 by_cases h1:32<s.size
 ·have h1':(32:Int)<(s.size:Int):=by omega
  have hn:A1e big s=false:=by
   cases h:A1e big s with
   | false=>rfl
   | true=>have:=(B0r big s).1 h;omega
  refine A0c (ctxF big) ?_;simp -implicitDefEqProofs [h0',h1',hn]
 have h1':¬(32:Int)<(s.size:Int):=by omega
 refine A0a (ctxF big) ?_;simp -implicitDefEqProofs [h0',h1']
 have no:∀(j:Nat) c,s.data.toList[j]?=some c->okAt big j c=false->A1e big s=false:=by
  intro j c hc hk
  cases h:A1e big s with
  | false=>rfl
  | true=>rw[((B0r big s).1 h).2.2 j c hc]at hk;cases hk
 refine A0o (α:=Unit) (fun _=>SF big s s.size) (fun _=>A1e big s=true) (fun _=>rfl) ?_ ?_
 ·refine A0a (ctxF big) ?_;simp -implicitDefEqProofs;refine A0f ?_;refine A0k (SF big s) (fun j=>s.size-j) (fun j=>OkTo big s j) 0 (fun _=>rfl) ⟨Nat.zero_le _,fun i c h=>by omega⟩ ?_ rfl ?_
  ·refine A0s rfl rfl ?_ ?_<;>simp -implicitDefEqProofs [SF]
  ·rintro j ⟨hj,hok⟩;refine A0c (ctxF big) ?_;by_cases hlt:j<s.size
   ·obtain⟨c,hc⟩:∃c,s.data.toList[j]?=some c:=⟨_,List.getElem?_eq_getElem hlt⟩
    have hnx:=C8w (H:=(SF big s j).H) (nx:=1) (b:=0) (s:=s) (pos:=j) rfl hlt;simp only[SF]at hnx;have cvF:=fun H nx c=>orcF big H nx c;have qd:=fun c=>C5h rDig c
    have lr:letR big (c.toNat:Int)=(if big then isUp c else A9y c):=by
     unfold letR;cases big
     ·exact E9n c
     ·exact D2i c
    by_cases ha:c.toNat<128
    ·have hd:=C8u s j c hc ha;rw[hd]at hnx
     have go:okAt big j c=true->Abs.Next Tryz.prog (G q) 0 (SF big s) (fun a'=>OkTo big s a'/\s.size-a'<s.size-j) (SF big s (j+1)):=by
      intro hk;refine Abs.Next.mk (j+1) ⟨⟨hlt,fun i x hi hx=>?_⟩,by omega⟩ (Sub.refl _);by_cases e:i=j
      ·subst e;rw[hc]at hx;injection hx with hx;subst hx;exact hk
      ·exact hok i x (by omega) hx
     have fin:∀s1:A0b,Sub Tryz.prog (G q) 0 s1 (SF big s (j+1))->okAt big j c=true->Abs.Next Tryz.prog (G q) 0 (SF big s) (fun a'=>OkTo big s a'/\s.size-a'<s.size-j) s1:=by
      intro s1 h1 hk;obtain⟨a,h2,h3⟩:=go hk;exact⟨a,h2,h1.trans h3⟩
     cases hL:(if big then isUp c else A9y c:Bool)with
     | true=>
      have hk:okAt big j c=true:=by simp[okAt,hL]
      rw[hL]at lr;simp -implicitDefEqProofs [SF,hnx,extractV,cvF,lr];refine fin _ ?_ hk;refine A0s rfl rfl ?_ ?_<;>simp -implicitDefEqProofs [SF,upd]
     | false=>
      rw[hL]at lr;by_cases hj0:j=0
      ·have hk:okAt big j c=false:=by simp[okAt,hL,hj0]
       have hz:((j:Int)==0)=true:=by rw[hj0];rfl
       simp -implicitDefEqProofs [SF,hnx,extractV,cvF,lr,hz,no j c hc hk]
      ·have hz:((j:Int)==0)=false:=by rw[beq_eq_false_iff_ne];omega
       cases hD:A1d c with
       | true=>
        have hk:okAt big j c=true:=by simp[okAt,hL,hj0,hD]
        have hD':rDig (c.toNat:Int)=true:=by rw[D5l,hD]
        simp -implicitDefEqProofs [SF,hnx,extractV,cvF,lr,hz,tbF,qd,hD'];refine fin _ ?_ hk;refine A0s rfl rfl ?_ ?_<;>simp -implicitDefEqProofs [SF,upd]
       | false=>
        have hD':rDig (c.toNat:Int)=false:=by rw[D5l,hD]
        by_cases h45:c.toNat=45
        ·have hk:okAt big j c=true:=by simp[okAt,hL,hj0,hD,h45]
         have h4:((c.toNat:Int) != 45)=false:=by rw[h45];rfl
         simp -implicitDefEqProofs [SF,hnx,extractV,cvF,lr,hz,tbF,qd,hD',h4];refine fin _ ?_ hk;refine A0s rfl rfl ?_ ?_<;>simp -implicitDefEqProofs [SF,upd]
        ·have hk:okAt big j c=false:=by simp[okAt,hL,hj0,hD,h45]
         have h4:((c.toNat:Int) != 45)=true:=by rw[bne_iff_ne];omega
         simp -implicitDefEqProofs [SF,hnx,extractV,cvF,lr,hz,tbF,qd,hD',h4,no j c hc hk]
    ·have hd:=C8v s j c hc ha
     obtain⟨r,hr⟩:∃r:Nat,r=(Utf8.decode s j).1:=⟨_,rfl⟩
     rw[<-hr]at hd
     have lr:letR big (r:Int)=false:=by
      unfold letR rUp rLow;have h1:decide ((r:Int)<=90)=false:=decide_eq_false (by omega);have h2:decide ((r:Int)<=122)=false:=decide_eq_false (by omega);cases big<;>simp only[h1,h2,Bool.and_false,if_true,Bool.false_eq_true,if_false]
     have hD':rDig (r:Int)=false:=by
      unfold rDig;have h1:decide ((r:Int)<=57)=false:=decide_eq_false (by omega);rw[h1,Bool.and_false]
     have h4:((r:Int) != 45)=true:=by rw[bne_iff_ne];omega
     have hk:okAt big j c=false:=by
      have h1:isUp c=false:=by unfold isUp;rw[decide_eq_false (by omega:¬c.toNat<=90),Bool.and_false]
      have h2:A9y c=false:=by unfold A9y;rw[decide_eq_false (by omega:¬c.toNat<=122),Bool.and_false]
      have h3:A1d c=false:=by unfold A1d;rw[decide_eq_false (by omega:¬c.toNat<=57),Bool.and_false]
      have h5:decide (c.toNat=45)=false:=decide_eq_false (by omega);unfold okAt;rw[h1,h2,h3,h5];cases big<;>simp
     by_cases hj0:j=0
     ·have hz:((j:Int)==0)=true:=by rw[hj0];rfl
      simp -implicitDefEqProofs [SF,hnx,extractV,cvF,<-hr,lr,hz,no j c hc hk]
     ·have hz:((j:Int)==0)=false:=by rw[beq_eq_false_iff_ne];omega
      simp -implicitDefEqProofs [SF,hnx,extractV,cvF,<-hr,lr,hz,tbF,qd,hD',h4,no j c hc hk]
   ·have hover:=C8x (H:=(SF big s j).H) (nx:=1) (b:=0) (s:=s) (pos:=j) rfl hlt;simp only[SF]at hover;simp -implicitDefEqProofs [SF,hover,extractV]
    have e:j=s.size:=by omega
    subst e;refine Abs.Next.mk () ((B0r big s).2 ⟨by omega,by omega,fun i c hc=>hok i c ?_ hc⟩) (A0s rfl rfl (by simp -implicitDefEqProofs) (by simp -implicitDefEqProofs));have:=(List.getElem?_eq_some_iff.1 hc).1;omega
 ·rintro _ hn;refine A0c (ctxF big) ?_;simp -implicitDefEqProofs [SF,hn]
abbrev lim:Nat:=9223372036854775807
noncomputable def gFol:List T->Option T
 | [a,.v (.func (.func F) ⟨[]⟩ ⟨[]⟩)]=>(tStr.dec a).bind fun s=>if s.size<=lim then(if F=106 then some (bv (A1e false s))else if F=197 then some (bv (A1e true s))else none)else none
 | _=>none
theorem hFol:GOK Tryz.prog (G q) 105 gFol:=fun args r hr=>by
 unfold gFol at hr;split at hr
 ·rename_i a F;obtain⟨s,hs,hr2⟩:=Option.bind_eq_some_iff.1 hr;have e:a=sv s:=Ty.is_dec hs;subst e;split at hr2
  ·rename_i hl;split at hr2
   ·rename_i e;subst e;injection hr2 with hr2;subst hr2;exact B6x false s hl
   ·split at hr2
    ·rename_i e;subst e;injection hr2 with hr2;subst hr2;exact B6x true s hl
    ·cases hr2
  ·cases hr2
 ·cases hr
theorem F3z (s:ByteArray) (hs:s.size<=lim):gFol [sv s,fv 106]=some (bv (A1e false s)):=by
 have e:=Ty.dec_is (τ:=tStr) (t:=sv s) (a:=s) rfl;simp[gFol,e,hs]
noncomputable def hbN:HTbl:=[(105,hOfT gFol)]
theorem ctxN:Ctx Tryz.prog (G q) (orh [] hbN):=A0y.nil.ctxH (.cons hFol.hok .nil) mixed
theorem E3a (s:ByteArray) (hs:s.size<=lim):A0w Tryz.prog (G q) 58 [sv s] (· = bv (A1e false s)):=by
 refine D1z.runs ctxN rfl ?_;simp -implicitDefEqProofs [B9s,hbN,hOfT,F3z s hs]
noncomputable def D5m:List T->Option T:=g2 tStr D1x fun s b=>if s.size<=lim then some (bv (A1e b s))else none
theorem F6r:GOK Tryz.prog (G q) 107 D5m:=A4e fun a b s c r ha hb hr=>by
 have e1:a=sv s:=ha;have e2:b=bv c:=hb;subst e1;subst e2;split at hr
 ·rename_i h;injection hr with hr;subst hr;exact D8v s c h
 ·cases hr
theorem E3b (s:ByteArray) (b:Bool) (hs:s.size<=lim):D5m [sv s,bv b]=some (bv (A1e b s)):=by
 rw[D5m,A4u (τ:=tStr) (σ:=D1x) (x:=s) (y:=b) rfl rfl,if_pos hs]
noncomputable def tbN:Tbl:=[(107,D5m)]
theorem ctxRN:Ctx Tryz.prog (G q) (orc tbN):=(A0y.cons F6r .nil).ctx mixed
theorem D8w (s:ByteArray) (hs:s.size<=lim):A0w Tryz.prog (G q) 60 [sv s] (· = bv (A1e false s)):=by
 refine D8p.runs ctxRN rfl ?_;simp -implicitDefEqProofs [C3d,tbN,E3b s false hs]
def okW (c:UInt8):Bool:=decide (33<=c.toNat)&&decide (c.toNat<=126) && !isUp c && !decide (c.toNat=34) && !decide (c.toNat=92)
def A3n (s:ByteArray):Bool:=decide (1<=s.size)&&decide (s.size<=32)&&s.data.toList.all okW
noncomputable def tbW:Tbl:=[(197,D2h rUp)]
theorem ctxW:Ctx Tryz.prog (G q) (orc tbW):=(A0y.cons (B8h D5k) .nil).ctx mixed
def SW (s:ByteArray) (j:Nat):A0b:=⟨[(14,.ptr 0 0),(0,.t (sv s))],[(0,.iter s j)],1,36⟩
def OkW (s:ByteArray) (j:Nat):Prop:=j<=s.size/\∀(i:Nat) c,i<j->s.data.toList[i]?=some c->okW c=true
theorem A6x {s:ByteArray} {j:Nat} {c:UInt8} (hc:s.data.toList[j]?=some c) (hk:okW c=false):A3n s=false:=by
 cases h:A3n s with
 | false=>rfl
 | true=>
  simp only[A3n,Bool.and_eq_true,List.all_eq_true]at h;rw[h.2 c (List.mem_of_getElem? hc)]at hk;cases hk
theorem D5n (c:UInt8):okW c = !(decide ((c.toNat:Int)<33)||decide (126<(c.toNat:Int))||rUp (c.toNat:Int)||((c.toNat:Int)==34)||((c.toNat:Int)==92)):=by
 have e1:decide ((c.toNat:Int)<33) = !decide (33<=c.toNat):=by
  by_cases h:33<=c.toNat
  ·rw[decide_eq_true h,decide_eq_false (by omega)];rfl
  ·rw[decide_eq_false h,decide_eq_true (by omega)];rfl
 have e2:decide (126<(c.toNat:Int)) = !decide (c.toNat<=126):=by
  by_cases h:c.toNat<=126
  ·rw[decide_eq_true h,decide_eq_false (by omega)];rfl
  ·rw[decide_eq_false h,decide_eq_true (by omega)];rfl
 have e3:((c.toNat:Int)==34)=decide (c.toNat=34):=by
  by_cases h:c.toNat=34
  ·rw[h];rfl
  ·rw[decide_eq_false h,beq_eq_false_iff_ne];omega
 have e4:((c.toNat:Int)==92)=decide (c.toNat=92):=by
  by_cases h:c.toNat=92
  ·rw[h];rfl
  ·rw[decide_eq_false h,beq_eq_false_iff_ne];omega
 rw[e1,e2,e3,e4,D2i];unfold okW;cases decide (33<=c.toNat)<;>cases decide (c.toNat<=126)<;>cases isUp c<;>cases decide (c.toNat=34)<;>cases decide (c.toNat=92)<;>rfl
theorem E3c (s:ByteArray) (hs:s.size<=lim):A0w Tryz.prog (G q) 164 [sv s] (· = bv (A3n s)):=by
 refine D2c.call rfl ?_;unfold B9u;have hlen:s.data.toList.length=s.size:=rfl;refine A0a ctxW ?_;simp -implicitDefEqProofs;by_cases h0:s.size=0
 ·have h0':((s.size:Int)==0)=true:=by rw[h0];rfl
  have hn:A3n s=false:=by unfold A3n;rw[decide_eq_false (by omega)];rfl
  refine A0c ctxW ?_;simp -implicitDefEqProofs [h0',hn]
 have h0':((s.size:Int)==0)=false:=by rw[beq_eq_false_iff_ne];omega
 by_cases h1:32<s.size
 ·have h1':(32:Int)<(s.size:Int):=by omega
  have hn:A3n s=false:=by unfold A3n;rw[decide_eq_false (by omega:¬s.size<=32),Bool.and_false];rfl
  refine A0c ctxW ?_;simp -implicitDefEqProofs [h0',h1',hn]
 have h1':¬(32:Int)<(s.size:Int):=by omega
 refine A0a ctxW ?_;simp -implicitDefEqProofs [h0',h1'];refine A0o (α:=Unit) (fun _=>SW s s.size) (fun _=>A3n s=true) (fun _=>rfl) ?_ ?_
 ·refine A0a ctxW ?_;simp -implicitDefEqProofs;refine A0f ?_;refine A0k (SW s) (fun j=>s.size-j) (fun j=>OkW s j) 0 (fun _=>rfl) ⟨Nat.zero_le _,fun i c h=>by omega⟩ ?_ rfl ?_
  ·refine A0s rfl rfl ?_ ?_<;>simp -implicitDefEqProofs [SW]
  ·rintro j ⟨hj,hok⟩;refine A0c ctxW ?_;by_cases hlt:j<s.size
   ·obtain⟨c,hc⟩:∃c,s.data.toList[j]?=some c:=⟨_,List.getElem?_eq_getElem hlt⟩
    have hnx:=C8w (H:=(SW s j).H) (nx:=1) (b:=0) (s:=s) (pos:=j) rfl hlt;simp only[SW]at hnx;have qd:=fun c=>C5h rUp c;by_cases ha:c.toNat<128
    ·have hd:=C8u s j c hc ha;rw[hd]at hnx;have hk:=D5n c
     have fin:∀s1:A0b,Sub Tryz.prog (G q) 0 s1 (SW s (j+1))->okW c=true->Abs.Next Tryz.prog (G q) 0 (SW s) (fun a'=>OkW s a'/\s.size-a'<s.size-j) s1:=by
      intro s1 h1 hk;refine Abs.Next.mk (j+1) ⟨⟨hlt,fun i x hi hx=>?_⟩,by omega⟩ h1;by_cases e:i=j
      ·subst e;rw[hc]at hx;injection hx with hx;subst hx;exact hk
      ·exact hok i x (by omega) hx
     cases t1:decide ((c.toNat:Int)<33)with
     | true=>rw[t1]at hk;simp -implicitDefEqProofs [SW,hnx,extractV,t1,A6x hc hk]
     | false=>
      cases t2:decide (126<(c.toNat:Int))with
      | true=>rw[t1,t2]at hk;simp -implicitDefEqProofs [SW,hnx,extractV,t1,t2,A6x hc hk]
      | false=>
       cases t3:rUp (c.toNat:Int)with
       | true=>rw[t1,t2,t3]at hk;simp -implicitDefEqProofs [SW,hnx,extractV,t1,t2,tbW,qd,t3,A6x hc hk]
       | false=>
        cases t4:((c.toNat:Int)==34)with
        | true=>rw[t1,t2,t3,t4]at hk;simp -implicitDefEqProofs [SW,hnx,extractV,t1,t2,tbW,qd,t3,t4,A6x hc hk]
        | false=>
         cases t5:((c.toNat:Int)==92)with
         | true=>rw[t1,t2,t3,t4,t5]at hk;simp -implicitDefEqProofs [SW,hnx,extractV,t1,t2,tbW,qd,t3,t4,t5,A6x hc hk]
         | false=>
          rw[t1,t2,t3,t4,t5]at hk;simp -implicitDefEqProofs [SW,hnx,extractV,t1,t2,tbW,qd,t3,t4,t5];refine fin _ ?_ hk;refine A0s rfl rfl ?_ ?_<;>simp -implicitDefEqProofs [SW,upd]
    ·have hd:=C8v s j c hc ha
     obtain⟨r,hr⟩:∃r:Nat,r=(Utf8.decode s j).1:=⟨_,rfl⟩
     rw[<-hr]at hd;have t1:decide ((r:Int)<33)=false:=decide_eq_false (by omega);have t2:decide (126<(r:Int))=true:=decide_eq_true (by omega)
     have hk:okW c=false:=by unfold okW;rw[decide_eq_false (by omega:¬c.toNat<=126),Bool.and_false];rfl
     simp -implicitDefEqProofs [SW,hnx,extractV,<-hr,t1,t2,A6x hc hk]
   ·have hover:=C8x (H:=(SW s j).H) (nx:=1) (b:=0) (s:=s) (pos:=j) rfl hlt;simp only[SW]at hover;simp -implicitDefEqProofs [SW,hover,extractV]
    have e:j=s.size:=by omega
    subst e;refine Abs.Next.mk () ?_ (A0s rfl rfl (by simp -implicitDefEqProofs) (by simp -implicitDefEqProofs));simp only[A3n,Bool.and_eq_true,decide_eq_true_eq,List.all_eq_true];refine⟨⟨by omega,by omega⟩,fun x hx=>?_⟩;obtain⟨i,hi,e⟩:=List.getElem_of_mem hx;exact hok i x (by omega) (by rw[List.getElem?_eq_getElem hi,e])
 ·rintro _ hn;refine A0c ctxW ?_;simp -implicitDefEqProofs [SW,hn]
def SRW (s:ByteArray) (j:Nat):A0b:=⟨[(3,.t (iv (j:Int))),(0,.t (sv s))],[],0,46⟩
theorem D8x (s:ByteArray) (hs:s.size<=lim):A0w Tryz.prog (G q) 159 [sv s] (· = bv (A3n s)):=by
 refine D8r.call rfl ?_;unfold C3f;have hlen:s.data.toList.length=s.size:=rfl;refine A0a ctxc ?_;simp -implicitDefEqProofs;by_cases h0:s.size=0
 ·have h0':(s.size:Int)<1:=by omega
  have hn:A3n s=false:=by unfold A3n;rw[decide_eq_false (by omega)];rfl
  refine A0c ctxc ?_;simp -implicitDefEqProofs [h0',hn]
 have h0':¬(s.size:Int)<1:=by omega
 by_cases h1:32<s.size
 ·have h1':(32:Int)<(s.size:Int):=by omega
  have hn:A3n s=false:=by unfold A3n;rw[decide_eq_false (by omega:¬s.size<=32),Bool.and_false];rfl
  refine A0c ctxc ?_;simp -implicitDefEqProofs [h0',h1',hn]
 have h1':¬(32:Int)<(s.size:Int):=by omega
 refine A0a ctxc ?_;simp -implicitDefEqProofs [h0',h1'];refine A0o (α:=Unit) (fun _=>SRW s s.size) (fun _=>A3n s=true) (fun _=>rfl) ?_ ?_
 ·refine A0a ctxc ?_;simp -implicitDefEqProofs;refine A0f ?_;refine A0k (SRW s) (fun j=>s.size-j) (fun j=>OkW s j) 0 (fun _=>rfl) ⟨Nat.zero_le _,fun i c h=>by omega⟩ ?_ rfl ?_
  ·refine A0s rfl rfl ?_ ?_<;>simp -implicitDefEqProofs [SRW]
  ·rintro j ⟨hj,hok⟩;refine A0c ctxc ?_;by_cases hlt:j<s.size
   ·obtain⟨c,hc⟩:∃c,s.data.toList[j]?=some c:=⟨_,List.getElem?_eq_getElem hlt⟩
    have hlt':(j:Int)<(s.size:Int):=by omega
    have ix:=A4f s j c hc;have e1:IntKind.i64.wrap ((j:Int)+1)=((j+1:Nat):Int):=A0h (by omega) (by omega);have qu:=B5s isUp c;have hk:=D5n c;rw[D2i]at hk
    have fin:∀s1:A0b,Sub Tryz.prog (G q) 0 s1 (SRW s (j+1))->okW c=true->Abs.Next Tryz.prog (G q) 0 (SRW s) (fun a'=>OkW s a'/\s.size-a'<s.size-j) s1:=by
     intro s1 h1 hk;refine Abs.Next.mk (j+1) ⟨⟨hlt,fun i x hi hx=>?_⟩,by omega⟩ h1;by_cases e:i=j
     ·subst e;rw[hc]at hx;injection hx with hx;subst hx;exact hk
     ·exact hok i x (by omega) hx
    cases t1:decide ((c.toNat:Int)<33)with
    | true=>rw[t1]at hk;simp -implicitDefEqProofs [SRW,hlt,ix,t1,A6x hc hk]
    | false=>
     cases t2:decide (126<(c.toNat:Int))with
     | true=>rw[t1,t2]at hk;simp -implicitDefEqProofs [SRW,hlt,ix,t1,t2,A6x hc hk]
     | false=>
      cases t3:isUp c with
      | true=>rw[t1,t2,t3]at hk;simp -implicitDefEqProofs [SRW,hlt,ix,t1,t2,tbc,qu,t3,A6x hc hk]
      | false=>
       cases t4:((c.toNat:Int)==34)with
       | true=>rw[t1,t2,t3,t4]at hk;simp -implicitDefEqProofs [SRW,hlt,ix,t1,t2,tbc,qu,t3,t4,A6x hc hk]
       | false=>
        cases t5:((c.toNat:Int)==92)with
        | true=>rw[t1,t2,t3,t4,t5]at hk;simp -implicitDefEqProofs [SRW,hlt,ix,t1,t2,tbc,qu,t3,t4,t5,A6x hc hk]
        | false=>
         rw[t1,t2,t3,t4,t5]at hk;simp -implicitDefEqProofs [SRW,hlt,ix,t1,t2,tbc,qu,t3,t4,t5,e1];refine fin _ ?_ hk;refine A0s rfl rfl ?_ ?_<;>simp -implicitDefEqProofs [SRW]
   ·have e:j=s.size:=by omega
    subst e;simp -implicitDefEqProofs [SRW];refine Abs.Next.mk () ?_ (A0s rfl rfl (by simp -implicitDefEqProofs) (by simp -implicitDefEqProofs));simp only[A3n,Bool.and_eq_true,decide_eq_true_eq,List.all_eq_true];refine⟨⟨by omega,by omega⟩,fun x hx=>?_⟩;obtain⟨i,hi,e⟩:=List.getElem_of_mem hx;exact hok i x (by omega) (by rw[List.getElem?_eq_getElem hi,e])
 ·rintro _ hn;refine A0c ctxc ?_;simp -implicitDefEqProofs [SRW,hn]
end Go.Proofs.YtmplckgbeaifkaaGreatDoor
