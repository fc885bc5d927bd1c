/-
 Auxiliary facts. No statement of the program stands here.
-/
import Derived.Test.YtbiadmfmjnoecaaVAQ20
import Derived.Test.YtbiadmfmjnoecaaVAQ21
import Derived.Test.YtbiadmfmjnoecaaVAQ16
namespace Go.Proofs.Ytbiadmfmjnoecaa
set_option linter.unusedSimpArgs false
set_option linter.unusedVariables false
open Go Go.Abs
abbrev cv (c:UInt8):T:=.v (.int .u8 (c.toNat:Int))
def C9c (c:UInt8):Bool:=decide (48<=c.toNat)&&decide (c.toNat<=57)
def isUp (c:UInt8):Bool:=decide (65<=c.toNat)&&decide (c.toNat<=90)
def E3h (c:UInt8):Bool:=decide (97<=c.toNat)&&decide (c.toNat<=122)
def tChr:Ty UInt8:=⟨fun t c=>t=cv c,fun t a b h h'=>by
 rw[h]at h'
 injection h' with h';injection h' with _ h'
 exact UInt8.toNat_inj.1 (by omega)⟩
theorem D3n (c:UInt8):A0y Try.prog G 143 [cv c] (· = bv (C9c c)):=by
 refine C8z.runs ctx0 rfl ?_
 by_cases h1:48<=c.toNat
 ·have h1':(48:Int)<=(c.toNat:Int):=by omega
  have e:decide ((c.toNat:Int)<=57)=decide (c.toNat<=57):=by congr 1;apply propext;omega
  simp -implicitDefEqProofs [B2x,C9c,h1,h1',e]
 ·have h1':¬(48:Int)<=(c.toNat:Int):=by omega
  simp -implicitDefEqProofs [B2x,C9c,h1,h1']
theorem F0p (c:UInt8):A0y Try.prog G 145 [cv c] (· = bv (isUp c)):=by
 refine C9a.runs ctx0 rfl ?_
 by_cases h1:65<=c.toNat
 ·have h1':(65:Int)<=(c.toNat:Int):=by omega
  have e:decide ((c.toNat:Int)<=90)=decide (c.toNat<=90):=by congr 1;apply propext;omega
  simp -implicitDefEqProofs [B2y,isUp,h1,h1',e]
 ·have h1':¬(65:Int)<=(c.toNat:Int):=by omega
  simp -implicitDefEqProofs [B2y,isUp,h1,h1']
theorem F0q (c:UInt8):A0y Try.prog G 146 [cv c] (· = bv (E3h c)):=by
 refine C9b.runs ctx0 rfl ?_
 by_cases h1:97<=c.toNat
 ·have h1':(97:Int)<=(c.toNat:Int):=by omega
  have e:decide ((c.toNat:Int)<=122)=decide (c.toNat<=122):=by congr 1;apply propext;omega
  simp -implicitDefEqProofs [B2z,E3h,h1,h1',e]
 ·have h1':¬(97:Int)<=(c.toNat:Int):=by omega
  simp -implicitDefEqProofs [B2z,E3h,h1,h1']
noncomputable def gChr (f:UInt8->Bool):List T->Option T:=g1 tChr fun c=>some (bv (f c))
theorem D5t {F:Nat} {f:UInt8->Bool} (h:∀c,A0y Try.prog G F [cv c] (· = bv (f c))):GOK Try.prog G F (gChr f):=
 C7j fun a x r ha hr=>by
  have e:a=cv x:=ha
  injection hr with hr;subst hr;subst e
  exact h x
theorem D5u (f:UInt8->Bool) (c:UInt8):gChr f [cv c]=some (bv (f c)):=C7k (τ:=tChr) rfl
noncomputable def tbc:Tbl:=[(143,gChr C9c),(145,gChr isUp),(146,gChr E3h)]
theorem ctxc:Ctx Try.prog G (orc tbc):=(A1o.cons (D5t D3n) (.cons (D5t F0p) (.cons (D5t F0q) .nil))).ctx A1w
def B0e (big:Bool) (c:UInt8):Bool:=C9c c||decide (c.toNat=45)||(big&&isUp c)||(!big&&E3h c)
theorem F5p (c:UInt8) (big:Bool):A0y Try.prog G 144 [cv c,bv big] (· = bv (B0e big c)):=by
 refine D3m.runs ctxc rfl ?_
 have e45:((c.toNat:Int)==45)=decide (c.toNat=45):=by
  by_cases h:c.toNat=45
  ·rw[h];rfl
  ·rw[decide_eq_false h,beq_eq_false_iff_ne];omega
 have q1:=D5u C9c c
 have q2:=D5u isUp c
 have q3:=D5u E3h c
 cases hd:C9c c<;>cases h4:decide (c.toNat=45)<;>cases big<;>cases hu:isUp c<;>cases hl:E3h c <;>
  simp -implicitDefEqProofs [C3s,tbc,q1,q2,q3,e45,hd,h4,hu,hl,B0e]
noncomputable def tbp:Tbl:=[(143,gChr C9c),(144,g2 tChr F0c fun c b=>some (bv (B0e b c)))]
theorem ctxp:Ctx Try.prog G (orc tbp):=(A1o.cons (D5t D3n) (.cons (A6z fun a b x y r ha hb hr=>by
 have e1:a=cv x:=ha
 have e2:b=bv y:=hb
 injection hr with hr;subst hr;subst e1;subst e2
 exact F5p x y) .nil)).ctx A1w
def A2x (big:Bool) (s:ByteArray):Bool:=
 match s.data.toList with
 | []=>false
 | c::r=>decide (s.size<=32) && !C9c c && !decide (c.toNat=45)&&(c::r).all (B0e big)
def S142 (s:ByteArray) (big:Bool) (j:Nat):A0b:=⟨[(5,.t (iv (j:Int))),(1,.t (bv big)),(0,.t (sv s))],[],0,36⟩
theorem C9d (s:ByteArray) (j:Nat) (c:UInt8) (h:s.data.toList[j]?=some c):D2a (.t (sv s)) (.t (iv (j:Int)))=some (.t (cv c)):=by
 have hj:j<s.data.size:=by
  have:=(List.getElem?_eq_some_iff.1 h).1
  simpa using this
 have:s[j]?=some c:=by
  have h2:s.data[j]?=some c:=by simpa using h
  have h3:j<s.size:=hj
  rw[getElem?_pos s j h3]
  rw[getElem?_pos s.data j hj]at h2
  exact h2
 simp[D2a,this]
theorem F0r (s:ByteArray) (big:Bool) (hs:s.size<=9223372036854775807):A0y Try.prog G 142 [sv s,bv big] (· = bv (A2x big s)):=by
 refine C8y.call rfl ?_
 unfold B9b
 refine A0a ctxp ?_
 simp -implicitDefEqProofs
 have hlen:s.data.toList.length=s.size:=rfl
 cases hl:s.data.toList with
 | nil=>
  rw[hl]at hlen
  have h0:(s.size:Int)<1:=by simp at hlen;omega
  refine A0c ctxp ?_
  simp -implicitDefEqProofs [h0,A2x,hl]
 | cons c r=>
  rw[hl]at hlen
  simp only[List.length_cons]at hlen
  have h0:¬(s.size:Int)<1:=by omega
  have hx0:s.data.toList[0]?=some c:=by rw[hl];rfl
  have i0:=C9d s 0 c hx0
  simp only[Int.natCast_zero]at i0
  have qd:=D5u C9c c
  by_cases h1:32<s.size
  ·have h1':(32:Int)<(s.size:Int):=by omega
   have hz:decide (s.size<=32)=false:=decide_eq_false (by omega)
   refine A0c ctxp ?_
   simp -implicitDefEqProofs [h0,h1,h1',A2x,hl,hz]
  ·have h1':¬(32:Int)<(s.size:Int):=by omega
   have hz:decide (s.size<=32)=true:=decide_eq_true (by omega)
   cases hd:C9c c with
   | true=>
    refine A0c ctxp ?_
    simp -implicitDefEqProofs [h0,h1,h1',i0,tbp,qd,hd,A2x,hl]
   | false=>
    by_cases h4:c.toNat=45
    ·have h4':((c.toNat:Int)==45)=true:=by rw[h4];rfl
     refine A0c ctxp ?_
     simp -implicitDefEqProofs [h0,h1,h1',i0,tbp,qd,hd,h4',A2x,hl,h4]
    ·have h4':((c.toNat:Int)==45)=false:=by rw[beq_eq_false_iff_ne];omega
     refine A0a ctxp ?_
     simp -implicitDefEqProofs [h0,h1,h1',i0,tbp,qd,hd,h4']
     obtain⟨n,hn⟩:∃n,n=s.data.toList.findIdx fun c=>!B0e big c:=⟨_,rfl⟩
     have hle:n<=s.size:=by rw[hn];exact A3h _ _
     have hres:A2x big s=decide (n=s.size):=by
      have:A2x big s=(s.data.toList).all (B0e big):=by
       unfold A2x
       rw[hl]
       simp only[hz,hd,h4,decide_false,Bool.not_false,Bool.true_and]
      rw[this]
      by_cases e:n=s.size
      ·rw[decide_eq_true e,List.all_eq_true]
       intro x hx
       have:=C4y (p:=fun c=>!B0e big c) (l:=s.data.toList) (by rw[<-hn,e];rfl) x hx
       simpa using this
      ·rw[decide_eq_false e,List.all_eq_false]
       obtain⟨x,hx,hp⟩:=A1s (p:=fun c=>!B0e big c) (l:=s.data.toList) (by rw[<-hn];show n<s.size;omega)
       exact⟨x,List.mem_of_getElem? hx,by simpa using hp⟩
     rw[hres]
     refine A0r (fun _:Unit=>S142 s big s.size) (fun _=>n=s.size) (fun _=>rfl) ?_ ?_
     ·refine A0a ctxp ?_
      simp -implicitDefEqProofs
      refine A0h ?_
      refine A1a (S142 s big) n (fun _=>rfl) ?_ rfl ?_ ?_
      ·refine A0d rfl rfl ?_ ?_<;>simp -implicitDefEqProofs [S142]
      ·intro j hj
       refine A0c ctxp ?_
       have hjs:j<s.size:=by omega
       obtain⟨x,hx⟩:∃x,s.data.toList[j]?=some x:=⟨_,List.getElem?_eq_getElem hjs⟩
       have hp:=A2g (p:=fun c=>!B0e big c) (by rw[<-hn];exact hj) hx
       have hp':B0e big x=true:=by simpa using hp
       have e1:IntKind.i64.wrap ((j:Int)+1)=((j+1:Nat):Int):=A0k (by omega) (by omega)
       have q:=A5x (τ:=tChr) (σ:=F0c) (f:=fun c b=>some (bv (B0e b c))) (a:=cv x) (b:=bv big) rfl rfl
       simp -implicitDefEqProofs [S142,hjs,C9d s j x hx,tbp,q,hp',e1]
       refine A0d rfl rfl ?_ ?_<;>simp -implicitDefEqProofs
      ·refine A0c ctxp ?_
       by_cases e:n=s.size
       ·subst e
        simp -implicitDefEqProofs [S142]
        exact Next.mk () trivial (A0d rfl rfl (by simp -implicitDefEqProofs) (by simp -implicitDefEqProofs))
       ·have hjs:n<s.size:=by omega
        obtain⟨x,hx,hp⟩:=A1s (p:=fun c=>!B0e big c) (l:=s.data.toList) (by rw[<-hn];exact hjs)
        rw[<-hn]at hx
        have hp':B0e big x=false:=by simpa using hp
        have q:=A5x (τ:=tChr) (σ:=F0c) (f:=fun c b=>some (bv (B0e b c))) (a:=cv x) (b:=bv big) rfl rfl
        simp -implicitDefEqProofs [S142,hjs,C9d s n x hx,tbp,q,hp',e]
     ·rintro _ e
      refine A0c ctxp ?_
      simp -implicitDefEqProofs [S142,e]
noncomputable def tbn:Tbl:=[(142,g2 tStr F0c fun s b=>if s.size<=9223372036854775807 then some (bv (A2x b s))else none)]
theorem ctxn:Ctx Try.prog G (orc tbn):=(A1o.cons (A6z fun a b x y r ha hb hr=>by
 have e1:a=sv x:=ha
 have e2:b=bv y:=hb
 subst e1;subst e2
 split at hr
 ·rename_i h
  injection hr with hr;subst hr
  exact F0r x y h
 ·cases hr) .nil).ctx A1w
theorem F5q (s:ByteArray) (hs:s.size<=9223372036854775807):A0y Try.prog G 136 [sv s] (· = bv (A2x false s)):=by
 refine D3k.runs ctxn rfl ?_
 have q:=A5x (τ:=tStr) (σ:=F0c) (f:=fun s b=>if s.size<=9223372036854775807 then some (bv (A2x b s))else none) (a:=sv s) (b:=bv false) rfl rfl
 rw[if_pos hs]at q
 simp -implicitDefEqProofs [C3q,tbn,q]
theorem D9k (s:ByteArray) (hs:s.size<=9223372036854775807):A0y Try.prog G 135 [sv s] (· = bv (A2x true s)):=by
 refine C0z.runs ctxn rfl ?_
 have q:=A5x (τ:=tStr) (σ:=F0c) (f:=fun s b=>if s.size<=9223372036854775807 then some (bv (A2x b s))else none) (a:=sv s) (b:=bv true) rfl rfl
 rw[if_pos hs]at q
 simp -implicitDefEqProofs [B2w,tbn,q]
abbrev Str:=ByteArray
def cap:Nat:=1000000000000
def hasS (l:List Str) (s:Str):Bool:=l.any fun x=>decide (x=s)
theorem A6e (l:List Str) (s:Str):hasS l s=true ↔ s∈l:=by
 simp only[hasS,List.any_eq_true,decide_eq_true_eq]
 exact⟨fun⟨x,hx,e⟩=>e▸hx,fun h=>⟨s,h,rfl⟩⟩
def S127 (t:T) (s:Str) (j:Nat):A0b:=⟨[(5,.t (iv (j:Int))),(1,.t (sv s)),(0,.t t)],[],0,18⟩
theorem F0s {t:T} {l:List Str} (ht:IsS eStr t l) (s:Str) (hl:l.length<=cap):A0y Try.prog G 127 [t,sv s] (· = bv (hasS l s)):=by
 unfold cap at hl
 refine C8v.call rfl ?_
 unfold B8y
 refine A0a ctx0 ?_
 simp -implicitDefEqProofs
 obtain⟨n,hn⟩:∃n,n=l.findIdx fun x=>decide (x=s):=⟨_,rfl⟩
 have hle:n<=l.length:=by rw[hn];exact A3h _ _
 have hres:hasS l s=decide (n<l.length):=by
  rw[Bool.eq_iff_iff,A6e,decide_eq_true_eq]
  constructor
  ·intro h
   rcases Nat.lt_or_ge n l.length with h1 | h1
   ·exact h1
   ·have:=C4y (p:=fun x=>decide (x=s)) (l:=l) (by omega) s h
    simp at this
  ·intro h
   obtain⟨x,hx,hp⟩:=A1s (p:=fun x=>decide (x=s)) (l:=l) (by omega)
   have:x=s:=by simpa using hp
   subst this
   exact List.mem_of_getElem? hx
 rw[hres]
 refine A0r (fun _:Unit=>S127 t s l.length) (fun _=>n=l.length) (fun _=>rfl) ?_ ?_
 ·refine A0a ctx0 ?_
  simp -implicitDefEqProofs
  refine A0h ?_
  refine A1a (S127 t s) n (fun _=>rfl) ?_ rfl ?_ ?_
  ·refine A0d rfl rfl ?_ ?_<;>simp -implicitDefEqProofs [S127]
  ·intro j hj
   refine A0c ctx0 ?_
   have hjl:j<l.length:=by omega
   obtain⟨x,hx⟩:∃x,l[j]?=some x:=⟨_,List.getElem?_eq_getElem hjl⟩
   have hp:¬x=s:=by simpa using A2g (p:=fun x=>decide (x=s)) (by rw[<-hn];exact hj) hx
   have e1:IntKind.i64.wrap ((j:Int)+1)=((j+1:Nat):Int):=A0k (by omega) (by omega)
   have ia:=ht.iaddr hx .i64
   simp only[eStr,List.cons_append,List.nil_append]at ia
   simp -implicitDefEqProofs [S127,hjl,ht.len,ia,A0f,A8e,hp,e1]
   refine A0d rfl rfl ?_ ?_<;>simp -implicitDefEqProofs
  ·refine A0c ctx0 ?_
   by_cases e:n=l.length
   ·subst e
    simp -implicitDefEqProofs [S127,ht.len]
    exact Next.mk () trivial (A0d rfl rfl (by simp -implicitDefEqProofs) (by simp -implicitDefEqProofs))
   ·have hjl:n<l.length:=by omega
    obtain⟨x,hx,hp⟩:=A1s (p:=fun x=>decide (x=s)) (l:=l) (by rw[<-hn];exact hjl)
    rw[<-hn]at hx
    have hp':x=s:=by simpa using hp
    have ia:=ht.iaddr hx .i64
    simp only[eStr,List.cons_append,List.nil_append]at ia
    simp -implicitDefEqProofs [S127,hjl,ht.len,ia,A0f,A8e,hp',e]
 ·rintro _ e
  refine A0c ctx0 ?_
  simp -implicitDefEqProofs [S127,e]
noncomputable def B7t:List T->Option T:=g2 (tSl eStr) tStr fun l s=>if l.length<=cap then some (bv (hasS l s))else none
theorem B6l:GOK Try.prog G 127 B7t:=A6z fun a b x y r ha hb hr=>by
 obtain rfl:b=sv y:=hb
 split at hr
 ·rename_i h;injection hr with hr;subst hr;exact F0s ha y h
 ·cases hr
theorem A6f {t:T} {l:List Str} (ht:IsS eStr t l) (s:Str) (hl:l.length<=cap):B7t [t,sv s]=some (bv (hasS l s)):=by
 unfold B7t
 rw[A5x (τ:=tSl eStr) (σ:=tStr) ht rfl,if_pos hl]
def put (l:List Str) (s:Str):List Str:=
 let k:=l.findIdx fun x=>!C0t x s
 if l[k]?=some s then l else l.take k++[s]++l.drop k
def S120 (t:T) (s:Str) (j:Nat):A0b:=⟨[(6,.t (iv (j:Int))),(5,.t nilS),(1,.t (sv s)),(0,.t t)],[],0,48⟩
theorem G2q {t:T} {l:List Str} (ht:IsS eStr t l) (s:Str) (hl:l.length<=cap):A0y Try.prog G 120 [t,sv s] (· = A0m eStr (put l s)):=by
 unfold cap at hl
 refine D9j.call rfl ?_
 unfold C8q
 refine A0a ctx0 ?_
 simp -implicitDefEqProofs
 refine A0a ctx0 ?_
 simp -implicitDefEqProofs
 refine A0a ctx0 ?_
 simp -implicitDefEqProofs
 obtain⟨n,hn⟩:∃n,n=l.findIdx fun x=>!C0t x s:=⟨_,rfl⟩
 have hle:n<=l.length:=by rw[hn];exact A3h _ _
 refine A0r (fun _:Unit=>S120 t s n) (fun _=>True) (fun _=>rfl) ?_ ?_
 ·refine A0h ?_
  refine A1a (S120 t s) n (fun _=>rfl) ?_ rfl ?_ ?_
  ·refine A0d rfl rfl ?_ ?_<;>simp -implicitDefEqProofs [S120]
  ·intro j hj
   refine A0c ctx0 ?_
   have hjl:j<l.length:=by omega
   obtain⟨x,hx⟩:∃x,l[j]?=some x:=⟨_,List.getElem?_eq_getElem hjl⟩
   have hp:C0t x s=true:=by simpa using A2g (p:=fun x=>!C0t x s) (by rw[<-hn];exact hj) hx
   have e1:IntKind.i64.wrap ((j:Int)+1)=((j+1:Nat):Int):=A0k (by omega) (by omega)
   have ia:=ht.iaddr hx .i64
   simp only[eStr,List.cons_append,List.nil_append]at ia
   simp -implicitDefEqProofs [S120,hjl,ht.len,ia,A0f,E6d,hp,e1]
   refine A0d rfl rfl ?_ ?_<;>simp -implicitDefEqProofs
  ·refine A0c ctx0 ?_
   by_cases e:n=l.length
   ·have:¬n<l.length:=by omega
    simp -implicitDefEqProofs [S120,ht.len,this]
    exact Next.mk () trivial (A0d rfl rfl (by simp -implicitDefEqProofs) (by simp -implicitDefEqProofs))
   ·have hjl:n<l.length:=by omega
    obtain⟨x,hx,hp⟩:=A1s (p:=fun x=>!C0t x s) (l:=l) (by rw[<-hn];exact hjl)
    rw[<-hn]at hx
    have hp':C0t x s=false:=by simpa using hp
    have ia:=ht.iaddr hx .i64
    simp only[eStr,List.cons_append,List.nil_append]at ia
    simp -implicitDefEqProofs [S120,hjl,ht.len,ia,A0f,E6d,hp']
    exact Next.mk () trivial (A0d rfl rfl (by simp -implicitDefEqProofs) (by simp -implicitDefEqProofs))
 ·rintro _ -
  by_cases hhit:l[n]?=some s
  ·have hput:put l s=l:=by simp only[put,<-hn,hhit,if_true]
   have hjl:n<l.length:=(List.getElem?_eq_some_iff.1 hhit).1
   have htree:t=A0m eStr l:=by
    rcases ht with⟨_,rfl⟩ | rfl
    ·simp at hjl
    ·cases l with
     | nil=>simp at hjl
     | cons a r=>rfl
   rw[hput]
   have ia:=ht.iaddr hhit .i64
   simp only[eStr,List.cons_append,List.nil_append]at ia
   refine A0c ctx0 ?_
   simp -implicitDefEqProofs [S120,hjl,ht.len,ia,A0f,A8e]
   exact htree
  ·have hput:put l s=l.take n++[s]++l.drop n:=by simp only[put,<-hn,hhit,if_false]
   obtain⟨t1,hs1,h1⟩:=ht.slice_to hle .i64
   obtain⟨t2,hs2,h2⟩:=ht.slice_from hle .i64
   have hsz:eStr.z=1:=rfl
   rw[hsz]at hs1 hs2
   have l1:(l.take n).length=n:=by simp;omega
   have l2:(l.drop n).length=l.length-n:=by simp
   obtain⟨b1,H1,n1,ap1,r1,ne1,_⟩:=A1k (e:=eStr) (ty:=9) (by':=16) (nx:=0) (b:=0) (l:=[]) (m:=l.take n) (A0i.nil _ _ [] _) (A7m h1) (by rw[l1];simp;omega) (by rw[l1];simp;omega)
   rw[List.nil_append]at ap1 r1
   obtain⟨b2,H2,n2,ap2,r2,ne2,_⟩:=A1k (e:=eStr) (ty:=9) (by':=16) (nx:=n1+1) (m:=[s]) (r1.cons (r:=.cells 9 [.t (sv s)]) (Ne.symm ne1)) (A3d (b:=n1) (ty:=9) s (by simp[eStr])) (by rw[l1];simp;omega) (by rw[l1];simp;omega)
   obtain⟨b3,H3,n3,ap3,r3,ne3,_⟩:=A1k (e:=eStr) (ty:=9) (by':=16) (nx:=n2) (m:=l.drop n) r2 (A7m h2) (by simp;omega) (by simp;omega)
   rw[hsz]at ap1 ap2 ap3
   have ap1:appM 9 1 16 [] 0 (.t nilS) (.t t1)=some (rowP eStr b1 (l.take n),H1,n1):=ap1
   rw[<-hput]at ap3 r3
   have bs:A1m 9 1 [.string ⟨#[]⟩] 1 [(0,.t (sv s))] n1=some (.row n1 0 1 1,.cells 9 [.t (sv s)]):=rfl
   have tt:=r3.toT
   refine A0c ctx0 ?_
   by_cases e:n<l.length
   ·obtain⟨x,hx⟩:∃x,l[n]?=some x:=⟨_,List.getElem?_eq_getElem e⟩
    have hxs:¬x=s:=fun h=>hhit (by rw[hx,h])
    have ia:=ht.iaddr hx .i64
    simp only[eStr,List.cons_append,List.nil_append]at ia
    simp -implicitDefEqProofs [S120,e,ht.len,ia,A0f,A8e,hxs,hs1,hs2,ap1,bs,ap2,ap3,tt]
   ·simp -implicitDefEqProofs [S120,e,ht.len,hs1,hs2,ap1,bs,ap2,ap3,tt]
noncomputable def gPut:List T->Option T:=g2 (tSl eStr) tStr fun l s=>if l.length<=cap then some (A0m eStr (put l s))else none
theorem G5o:GOK Try.prog G 120 gPut:=A6z fun a b x y r ha hb hr=>by
 obtain rfl:b=sv y:=hb
 split at hr
 ·rename_i h;injection hr with hr;subst hr;exact G2q ha y h
 ·cases hr
theorem C3t {t:T} {l:List Str} (ht:IsS eStr t l) (s:Str) (hl:l.length<=cap):gPut [t,sv s]=some (A0m eStr (put l s)):=by
 unfold gPut
 rw[A5x (τ:=tSl eStr) (σ:=tStr) ht rfl,if_pos hl]
structure TD where
 name:Str
 supers:T
 feats:T
structure FD where
 feat:Str
 value:Str
def eTD:Enc TD:=⟨3,fun x=>[sv x.name,x.supers,x.feats],fun _=>rfl,by omega,fun a b h=>by
 obtain⟨a1,a2,a3⟩:=a
 obtain⟨b1,b2,b3⟩:=b
 simp at h
 simp[h]⟩
def eFD:Enc FD:=⟨2,fun x=>[sv x.feat,sv x.value],fun _=>rfl,by omega,fun a b h=>by
 obtain⟨a1,a2⟩:=a
 obtain⟨b1,b2⟩:=b
 simp at h
 simp[h]⟩
noncomputable def TD.ss (x:TD):List Str:=((tSl eStr).dec x.supers).getD []
noncomputable def TD.fs (x:TD):List FD:=((tSl eFD).dec x.feats).getD []
structure TD.OK (x:TD):Prop where
 ss:IsS eStr x.supers x.ss
 fs:IsS eFD x.feats x.fs
 ssl:x.ss.length<=cap
 fsl:x.fs.length<=cap
 size:x.name.size<=cap
 fsize:∀f∈x.fs,f.feat.size<=cap
theorem TD.ss_eq {x:TD} {l:List Str} (h:IsS eStr x.supers l):x.ss=l:=by
 have:=Ty.dec_is (τ:=tSl eStr) h
 simp only[TD.ss,this,Option.getD_some]
theorem TD.fs_eq {x:TD} {l:List FD} (h:IsS eFD x.feats l):x.fs=l:=by
 have:=Ty.dec_is (τ:=tSl eFD) h
 simp only[TD.fs,this,Option.getD_some]
def DOK (d:List TD):Prop:=d.length<=300/\∀x∈d,x.OK
def idxOf (d:List TD) (s:Str):Nat:=d.findIdx fun x=>decide (x.name=s)
def A6g (d:List TD) (s:Str):Int:=if idxOf d s<d.length then(idxOf d s:Int)else -1
def A7c (t:T) (s:Str) (j:Nat):A0b:=⟨[(5,.t (iv (j:Int))),(1,.t (sv s)),(0,.t t)],[],0,20⟩
theorem F5r {t:T} {d:List TD} (ht:IsS eTD t d) (s:Str) (hl:d.length<=cap):A0y Try.prog G 137 [t,sv s] (· = iv (A6g d s)):=by
 unfold cap at hl
 refine D3l.call rfl ?_
 unfold C3r
 refine A0a ctx0 ?_
 simp -implicitDefEqProofs
 obtain⟨n,hn⟩:∃n,n=d.findIdx fun x=>decide (x.name=s):=⟨_,rfl⟩
 have hle:n<=d.length:=by rw[hn];exact A3h _ _
 have hres:A6g d s=if n<d.length then(n:Int)else -1:=by rw[hn];rfl
 refine A0r (fun _:Unit=>A7c t s d.length) (fun _=>n=d.length) (fun _=>rfl) ?_ ?_
 ·refine A0a ctx0 ?_
  simp -implicitDefEqProofs
  refine A0h ?_
  refine A1a (A7c t s) n (fun _=>rfl) ?_ rfl ?_ ?_
  ·refine A0d rfl rfl ?_ ?_<;>simp -implicitDefEqProofs [A7c]
  ·intro j hj
   refine A0c ctx0 ?_
   have hjl:j<d.length:=by omega
   obtain⟨x,hx⟩:∃x,d[j]?=some x:=⟨_,List.getElem?_eq_getElem hjl⟩
   have hp:=A2g (p:=fun x=>decide (x.name=s)) (by rw[<-hn];exact hj) hx
   have e1:IntKind.i64.wrap ((j:Int)+1)=((j+1:Nat):Int):=A0k (by omega) (by omega)
   have ia:=ht.iaddr hx .i64
   simp only[eTD,List.cons_append,List.nil_append]at ia
   have hp:¬x.name=s:=by simpa using hp
   simp -implicitDefEqProofs [A7c,hjl,ht.len,ia,A0f,e1,A8e,hp]
   refine A0d rfl rfl ?_ ?_<;>simp -implicitDefEqProofs
  ·refine A0c ctx0 ?_
   by_cases e:n=d.length
   ·have hnl:¬n<d.length:=by omega
    simp -implicitDefEqProofs [A7c,ht.len,hnl]
    exact Next.mk () (by first | exact trivial | exact e) (A0d rfl rfl (by simp -implicitDefEqProofs [e]) (by simp -implicitDefEqProofs))
   ·have hjl:n<d.length:=by omega
    obtain⟨x,hx,hp⟩:=A1s (p:=fun x=>decide (x.name=s)) (l:=d) (by rw[<-hn];exact hjl)
    rw[<-hn]at hx
    have ia:=ht.iaddr hx .i64
    simp only[eTD,List.cons_append,List.nil_append]at ia
    have hp:x.name=s:=by simpa using hp
    simp -implicitDefEqProofs [A7c,hjl,ht.len,ia,A0f,A8e,hp]
    rw[hres,if_pos hjl]
 ·rintro _ e
  refine A0c ctx0 ?_
  simp -implicitDefEqProofs [A7c]
  rw[hres,if_neg (by omega)]
noncomputable def D5v:List T->Option T:=g2 (tSl eTD) tStr fun d s=>if d.length<=cap then some (iv (A6g d s))else none
theorem F5s:GOK Try.prog G 137 D5v:=A6z fun a b x y r ha hb hr=>by
 obtain rfl:b=sv y:=hb
 split at hr
 ·rename_i h;injection hr with hr;subst hr;exact F5r ha y h
 ·cases hr
theorem C1a {t:T} {d:List TD} (ht:IsS eTD t d) (s:Str) (hl:d.length<=cap):D5v [t,sv s]=some (iv (A6g d s)):=by
 unfold D5v
 rw[A5x (τ:=tSl eTD) (σ:=tStr) ht rfl,if_pos hl]
def A1z (d:List TD) (j:Nat):List Str:=(d.take j).foldl (fun out x=>put out x.name) []
def names (d:List TD):List Str:=d.foldl (fun out x=>put out x.name) []
theorem B0z {d:List TD} {j:Nat} {x:TD} (h:d[j]?=some x):A1z d (j+1)=put (A1z d j) x.name:=by
 unfold A1z
 rw[List.take_add_one,h]
 simp[List.foldl_append]
theorem B1p (l:List Str) (s:Str):(put l s).length<=l.length+1:=by
 unfold put
 simp only
 split
 ·omega
 ·simp
  have:=A3h (fun x=>!C0t x s) l
  omega
theorem A8g (d:List TD):∀j,(A1z d j).length<=j
 | 0=>by simp[A1z]
 | j+1=>by
  have ih:=A8g d j
  cases h:d[j]? with
  | none=>
   have:A1z d (j+1)=A1z d j:=by unfold A1z;rw[List.take_add_one,h];simp
   rw[this];omega
  | some x=>
   rw[B0z h]
   have:=B1p (A1z d j) x.name
   omega
noncomputable def tb11:Tbl:=[(120,gPut),(137,D5v),(127,B7t)]
theorem A2i:Ctx Try.prog G (orc tb11):=(A1o.cons G5o (.cons F5s (.cons B6l .nil))).ctx A1w
def S102 (t:T) (d:List TD) (j:Nat):A0b:=⟨[(4,.t (iv (j:Int))),(3,.t (A0m eStr (A1z d j))),(0,.t t)],[],0,19⟩
theorem D3o {t:T} {d:List TD} (ht:IsS eTD t d) (hl:d.length<=cap):A0y Try.prog G 102 [t] (· = A0m eStr (names d)):=by
 unfold cap at hl
 refine C8o.call rfl ?_
 unfold B8s
 refine A0a A2i ?_
 simp -implicitDefEqProofs
 refine A0a A2i ?_
 simp -implicitDefEqProofs
 refine A0r (fun _:Unit=>S102 t d d.length) (fun _=>True) (fun _=>rfl) ?_ ?_
 ·refine A0a A2i ?_
  simp -implicitDefEqProofs
  refine A0h ?_
  refine A1a (S102 t d) d.length (fun _=>rfl) ?_ rfl ?_ ?_
  ·refine A0d rfl rfl ?_ ?_<;>simp -implicitDefEqProofs [S102,A1z,A0m]
  ·intro j hj
   refine A0c A2i ?_
   obtain⟨x,hx⟩:∃x,d[j]?=some x:=⟨_,List.getElem?_eq_getElem hj⟩
   have e1:IntKind.i64.wrap ((j:Int)+1)=((j+1:Nat):Int):=A0k (by omega) (by omega)
   have ia:=ht.iaddr hx .i64
   simp only[eTD,List.cons_append,List.nil_append]at ia
   have hln:=A8g d j
   have gp:=C3t (IsS.tree eStr (A1z d j)) x.name (by unfold cap;omega)
   rw[<-B0z hx]at gp
   simp -implicitDefEqProofs [S102,hj,ht.len,ia,A0f,tb11,gp,e1]
   refine A0d rfl rfl ?_ ?_<;>simp -implicitDefEqProofs
  ·refine A0c A2i ?_
   simp -implicitDefEqProofs [S102,ht.len]
   exact Next.mk () trivial (A0d rfl rfl (by simp -implicitDefEqProofs) (by simp -implicitDefEqProofs))
 ·rintro _ -
  refine A0c A2i ?_
  have:A1z d d.length=names d:=by unfold A1z names;rw[List.take_length]
  simp -implicitDefEqProofs [S102,this]
def B5g (f:Nat->Int):Nat->Int
 | 0=>0
 | n+1=>if B5g f n=0 then f n else B5g f n
theorem A5i (f:Nat->Int):∀n,((∀i,i<n->f i=0)/\B5g f n=0)\/∃k,k<n/\(∀i,i<k->f i=0)/\f k≠0/\B5g f n=f k
 | 0=>.inl ⟨fun i hi=>by omega,rfl⟩
 | n+1=>by
  rcases A5i f n with⟨h1,h2⟩ | ⟨k,h1,h2,h3,h4⟩
  ·simp only[B5g,h2,if_true]
   by_cases h:f n=0
   ·refine .inl ⟨fun i hi=>?_,h⟩
    by_cases e:i=n
    ·subst e;exact h
    ·exact h1 i (by omega)
   ·exact .inr ⟨n,by omega,h1,h,rfl⟩
  ·refine .inr ⟨k,by omega,h2,h3,?_⟩
   simp only[B5g,h4,if_neg h3]
noncomputable def D1h (x:TD):Int:=if 256<x.ss.length\/256<x.fs.length then 7 else 0
noncomputable def A9i (d:List TD):Int:=if 256<d.length then 7 else B5g (fun i=>(d[i]?.map D1h).getD 0) d.length
def S122 (t:T) (j:Nat):A0b:=⟨[(3,.t (iv (j:Int))),(0,.t t)],[],0,29⟩
theorem F0t {t:T} {d:List TD} (ht:IsS eTD t d) (hd:DOK d):A0y Try.prog G 122 [t] (· = iv (A9i d)):=by
 obtain⟨hdl,hd⟩:=hd
 refine C8s.call rfl ?_
 unfold B8v
 refine A0a ctx0 ?_
 simp -implicitDefEqProofs
 by_cases h0:256<d.length
 ·have h0':(256:Int)<(d.length:Int):=by omega
  refine A0c ctx0 ?_
  simp -implicitDefEqProofs [ht.len,h0,h0',A9i]
 ·have h0':¬(256:Int)<(d.length:Int):=by omega
  refine A0a ctx0 ?_
  simp -implicitDefEqProofs [ht.len,h0,h0']
  have hs:A9i d=B5g (fun i=>(d[i]?.map D1h).getD 0) d.length:=by unfold A9i;rw[if_neg h0]
  rw[hs]
  rcases A5i (fun i=>(d[i]?.map D1h).getD 0) d.length with⟨h1,h2⟩ | ⟨k,h1,h2,h3,h4⟩
  ·rw[h2]
   refine A0r (fun _:Unit=>S122 t d.length) (fun _=>True) (fun _=>rfl) ?_ ?_
   ·refine A0a ctx0 ?_
    simp -implicitDefEqProofs
    refine A0h ?_
    refine A1a (S122 t) d.length (fun _=>rfl) ?_ rfl ?_ ?_
    ·refine A0d rfl rfl ?_ ?_<;>simp -implicitDefEqProofs [S122]
    ·intro j hj
     refine A0c ctx0 ?_
     obtain⟨x,hx⟩:∃x,d[j]?=some x:=⟨_,List.getElem?_eq_getElem hj⟩
     have ok:=hd x (List.mem_of_getElem? hx)
     have hz:=h1 j hj
     simp only[hx,Option.map_some,Option.getD_some,D1h]at hz
     have hz':¬(256<x.ss.length\/256<x.fs.length):=fun h=>by rw[if_pos h]at hz;cases hz
     have z1:¬(256:Int)<(x.ss.length:Int):=by omega
     have z2:¬(256:Int)<(x.fs.length:Int):=by omega
     have z1n:¬256<x.ss.length:=by omega
     have z2n:¬256<x.fs.length:=by omega
     have e1:IntKind.i64.wrap ((j:Int)+1)=((j+1:Nat):Int):=A0k (by omega) (by omega)
     have ia:=ht.iaddr hx .i64
     simp only[eTD,List.cons_append,List.nil_append]at ia
     simp -implicitDefEqProofs [S122,hj,ht.len,ia,A0f,ok.ss.len,ok.fs.len,z1,z2,z1n,z2n,e1]
     refine A0d rfl rfl ?_ ?_<;>simp -implicitDefEqProofs
    ·refine A0c ctx0 ?_
     simp -implicitDefEqProofs [S122,ht.len]
     exact Next.mk () trivial (A0d rfl rfl (by simp -implicitDefEqProofs) (by simp -implicitDefEqProofs))
   ·rintro _ -
    refine A0c ctx0 ?_
    simp -implicitDefEqProofs [S122]
  ·refine A0r (fun _:Unit=>S122 t d.length) (fun _=>False) (fun _=>rfl) ?_ ?_
   ·refine A0a ctx0 ?_
    simp -implicitDefEqProofs
    refine A0h ?_
    refine A1a (S122 t) k (fun _=>rfl) ?_ rfl ?_ ?_
    ·refine A0d rfl rfl ?_ ?_<;>simp -implicitDefEqProofs [S122]
    ·intro j hjk
     refine A0c ctx0 ?_
     have hj:j<d.length:=by omega
     obtain⟨x,hx⟩:∃x,d[j]?=some x:=⟨_,List.getElem?_eq_getElem hj⟩
     have ok:=hd x (List.mem_of_getElem? hx)
     have hz:=h2 j hjk
     simp only[hx,Option.map_some,Option.getD_some,D1h]at hz
     have hz':¬(256<x.ss.length\/256<x.fs.length):=fun h=>by rw[if_pos h]at hz;cases hz
     have z1:¬(256:Int)<(x.ss.length:Int):=by omega
     have z2:¬(256:Int)<(x.fs.length:Int):=by omega
     have z1n:¬256<x.ss.length:=by omega
     have z2n:¬256<x.fs.length:=by omega
     have e1:IntKind.i64.wrap ((j:Int)+1)=((j+1:Nat):Int):=A0k (by omega) (by omega)
     have ia:=ht.iaddr hx .i64
     simp only[eTD,List.cons_append,List.nil_append]at ia
     simp -implicitDefEqProofs [S122,hj,ht.len,ia,A0f,ok.ss.len,ok.fs.len,z1,z2,z1n,z2n,e1]
     refine A0d rfl rfl ?_ ?_<;>simp -implicitDefEqProofs
    ·refine A0c ctx0 ?_
     obtain⟨x,hx⟩:∃x,d[k]?=some x:=⟨_,List.getElem?_eq_getElem h1⟩
     have ok:=hd x (List.mem_of_getElem? hx)
     simp only[hx,Option.map_some,Option.getD_some,D1h]at h3 h4
     have hz':256<x.ss.length\/256<x.fs.length:=Classical.byContradiction fun h=>h3 (if_neg h)
     rw[if_pos hz']at h4
     have ia:=ht.iaddr hx .i64
     simp only[eTD,List.cons_append,List.nil_append]at ia
     rw[h4]
     by_cases z1n:256<x.ss.length
     ·have z1:(256:Int)<(x.ss.length:Int):=by omega
      simp -implicitDefEqProofs [S122,h1,ht.len,ia,A0f,ok.ss.len,ok.fs.len,z1,z1n]
     ·have z2n:256<x.fs.length:=by omega
      have z1:¬(256:Int)<(x.ss.length:Int):=by omega
      have z2:(256:Int)<(x.fs.length:Int):=by omega
      simp -implicitDefEqProofs [S122,h1,ht.len,ia,A0f,ok.ss.len,ok.fs.len,z1,z2,z1n,z2n]
   ·rintro _ h
    exact h.elim
def D1i (d:List TD) (i:Nat) (x:TD):Int:=if A2x false x.name=false then 1 else if A6g d x.name<(i:Int)then 4 else 0
def B7u (d:List TD):Int:=B5g (fun i=>(d[i]?.map (D1i d i)).getD 0) d.length
noncomputable def G2r:List T->Option T:=g1 tStr fun s=>if s.size<=9223372036854775807 then some (bv (A2x false s))else none
theorem G2s:GOK Try.prog G 136 G2r:=C7j fun a x r ha hr=>by
 obtain rfl:a=sv x:=ha
 split at hr
 ·rename_i h;injection hr with hr;subst hr;exact F5q x h
 ·cases hr
theorem E6o (s:Str) (h:s.size<=cap):G2r [sv s]=some (bv (A2x false s)):=by
 unfold G2r
 rw[C7k (τ:=tStr) rfl,if_pos (by unfold cap at h;omega)]
noncomputable def tb12:Tbl:=[(136,G2r),(137,D5v),(127,B7t)]
theorem B3x:Ctx Try.prog G (orc tb12):=(A1o.cons G2s (.cons F5s (.cons B6l .nil))).ctx A1w
def S123 (t:T) (j:Nat):A0b:=⟨[(3,.t (iv (j:Int))),(0,.t t)],[],0,26⟩
theorem E3i {t:T} {d:List TD} (ht:IsS eTD t d) (hd:DOK d):A0y Try.prog G 123 [t] (· = iv (B7u d)):=by
 obtain⟨hdl,hd⟩:=hd
 refine C8t.call rfl ?_
 unfold B8w
 refine A0a B3x ?_
 simp -implicitDefEqProofs
 have gf:∀s,D5v [t,sv s]=some (iv (A6g d s)):=fun s=>C1a ht s (by unfold cap;omega)
 obtain⟨n,E,hn,hgood,hE⟩:∃(n:Nat) (E:Int),n<=d.length/\(∀j x,j<n->d[j]?=some x->D1i d j x=0)/\B7u d=E/\((n=d.length/\E=0)\/∃x,d[n]?=some x/\D1i d n x=E/\E≠0):=by
  rcases A5i (fun i=>(d[i]?.map (D1i d i)).getD 0) d.length with⟨h1,h2⟩ | ⟨k,h1,h2,h3,h4⟩
  ·refine⟨d.length,0,Nat.le_refl _,fun j x hj hx=>?_,h2,.inl ⟨rfl,rfl⟩⟩
   have:=h1 j hj
   simpa only[hx,Option.map_some,Option.getD_some]using this
  ·obtain⟨x,hx⟩:∃x,d[k]?=some x:=⟨_,List.getElem?_eq_getElem h1⟩
   refine⟨k,D1i d k x,by omega,fun j y hj hy=>?_,?_,.inr ⟨x,hx,rfl,?_⟩⟩
   ·have:=h2 j hj
    simpa only[hy,Option.map_some,Option.getD_some]using this
   ·show B5g _ _=_
    rw[h4]
    simp only[hx,Option.map_some,Option.getD_some]
   ·simpa only[hx,Option.map_some,Option.getD_some]using h3
 rw[hE.1]
 refine A0r (fun _:Unit=>S123 t d.length) (fun _=>n=d.length/\E=0) (fun _=>rfl) ?_ ?_
 ·refine A0a B3x ?_
  simp -implicitDefEqProofs
  refine A0h ?_
  refine A1a (S123 t) n (fun _=>rfl) ?_ rfl ?_ ?_
  ·refine A0d rfl rfl ?_ ?_<;>simp -implicitDefEqProofs [S123]
  ·intro j hj
   refine A0c B3x ?_
   have hjl:j<d.length:=by omega
   obtain⟨x,hx⟩:∃x,d[j]?=some x:=⟨_,List.getElem?_eq_getElem hjl⟩
   have ok:=hd x (List.mem_of_getElem? hx)
   have hz:=hgood j x hj hx
   unfold D1i at hz
   have z1:A2x false x.name=true:=by
    cases h:A2x false x.name with
    | true=>rfl
    | false=>rw[if_pos h]at hz;cases hz
   have z2:¬A6g d x.name<(j:Int):=fun h=>by rw[if_neg (by rw[z1];simp),if_pos h]at hz;cases hz
   have gn:=E6o x.name ok.size
   have e1:IntKind.i64.wrap ((j:Int)+1)=((j+1:Nat):Int):=A0k (by omega) (by omega)
   have ia:=ht.iaddr hx .i64
   simp only[eTD,List.cons_append,List.nil_append]at ia
   simp -implicitDefEqProofs [S123,hjl,ht.len,ia,A0f,tb12,gn,gf,z1,z2,e1]
   refine A0d rfl rfl ?_ ?_<;>simp -implicitDefEqProofs
  ·refine A0c B3x ?_
   rcases hE.2 with⟨e,e0⟩ | ⟨x,hx,hz,hne⟩
   ·have hnl:¬n<d.length:=by omega
    simp -implicitDefEqProofs [S123,ht.len,hnl]
    exact Next.mk () ⟨e,e0⟩ (A0d rfl rfl (by simp -implicitDefEqProofs [e]) (by simp -implicitDefEqProofs))
   ·have hjl:n<d.length:=(List.getElem?_eq_some_iff.1 hx).1
    have ok:=hd x (List.mem_of_getElem? hx)
    have gn:=E6o x.name ok.size
    have ia:=ht.iaddr hx .i64
    simp only[eTD,List.cons_append,List.nil_append]at ia
    unfold D1i at hz
    cases z1:A2x false x.name with
    | false=>
     rw[if_pos z1]at hz
     simp -implicitDefEqProofs [S123,hjl,ht.len,ia,A0f,tb12,gn,z1,<-hz]
    | true=>
     rw[if_neg (by rw[z1];simp)]at hz
     have z2:A6g d x.name<(n:Int):=Classical.byContradiction fun h=>hne (by rw[<-hz,if_neg h])
     rw[if_pos z2]at hz
     simp -implicitDefEqProofs [S123,hjl,ht.len,ia,A0f,tb12,gn,gf,z1,z2,<-hz]
 ·rintro _ ⟨e,e0⟩
  refine A0c B3x ?_
  simp -implicitDefEqProofs [S123,e0]
def A3i {α:Type} (f:Nat->α->Int) (l:List α):Int:=B5g (fun i=>(l[i]?.map (f i)).getD 0) l.length
def A4s {α:Type} (f:Nat->α->Int) (l:List α) (j:Nat):Prop:=j<=l.length/\∀(i:Nat) y,i<j->l[i]?=some y->f i y=0
theorem A4s.zero {α:Type} (f:Nat->α->Int) (l:List α):A4s f l 0:=⟨Nat.zero_le _,fun i y h=>by omega⟩
theorem A4s.succ {α:Type} {f:Nat->α->Int} {l:List α} {j:Nat} {x:α} (h:A4s f l j) (hx:l[j]?=some x) (hz:f j x=0):A4s f l (j+1):=by
 have hj:=(List.getElem?_eq_some_iff.1 hx).1
 refine⟨by omega,fun i y hi hy=>?_⟩
 by_cases e:i=j
 ·subst e;rw[hx]at hy;injection hy with hy;subst hy;exact hz
 ·exact h.2 i y (by omega) hy
theorem A6h {α:Type} {f:Nat->α->Int} {l:List α} {j:Nat} {x:α} (h:A4s f l j) (hx:l[j]?=some x) (hz:f j x≠0):A3i f l=f j x:=by
 have hj:=(List.getElem?_eq_some_iff.1 hx).1
 rcases A5i (fun i=>(l[i]?.map (f i)).getD 0) l.length with⟨h1,h2⟩ | ⟨k,h1,h2,h3,h4⟩
 ·have:=h1 j hj
  simp only[hx,Option.map_some,Option.getD_some]at this
  exact absurd this hz
 ·have e:k=j:=by
   rcases Nat.lt_trichotomy k j with h' | h' | h'
   ·obtain⟨y,hy⟩:∃y,l[k]?=some y:=⟨_,List.getElem?_eq_getElem h1⟩
    have:=h.2 k y h' hy
    simp only[hy,Option.map_some,Option.getD_some]at h3
    exact absurd this h3
   ·exact h'
   ·have:=h2 j h'
    simp only[hx,Option.map_some,Option.getD_some]at this
    exact absurd this hz
  subst e
  unfold A3i
  rw[h4]
  simp only[hx,Option.map_some,Option.getD_some]
theorem A5e {α:Type} {f:Nat->α->Int} {l:List α} (h:A4s f l l.length):A3i f l=0:=by
 rcases A5i (fun i=>(l[i]?.map (f i)).getD 0) l.length with⟨h1,h2⟩ | ⟨k,h1,h2,h3,h4⟩
 ·exact h2
 ·obtain⟨y,hy⟩:∃y,l[k]?=some y:=⟨_,List.getElem?_eq_getElem h1⟩
  have:=h.2 k y h1 hy
  simp only[hy,Option.map_some,Option.getD_some]at h3
  exact absurd this h3
theorem A3u {α:Type} {f:Nat->α->Int} {l:List α} (h:A3i f l=0):A4s f l l.length:=by
 refine⟨Nat.le_refl _,fun i y hi hy=>?_⟩
 rcases A5i (fun i=>(l[i]?.map (f i)).getD 0) l.length with⟨h1,h2⟩ | ⟨k,h1,h2,h3,h4⟩
 ·have:=h1 i hi
  simpa only[hy,Option.map_some,Option.getD_some]using this
 ·unfold A3i at h
  rw[h4]at h
  exact absurd h h3
theorem F5t (d:List TD):B7u d=A3i (D1i d) d:=rfl
def supE (d:List TD) (l:List Str) (k:Nat) (s:Str):Int:=if A6g d s<0 then 5 else if hasS (l.take k) s then 4 else 0
noncomputable def A9j (d:List TD):Int:=A3i (fun _ x=>A3i (supE d x.ss) x.ss) d
def S124 (t:T) (j:Nat):A0b:=⟨[(3,.t (iv (j:Int))),(0,.t t)],[],0,38⟩
def C5u (t u:T) (j k:Nat):A0b:=⟨[(5,.t (iv (k:Int))),(4,.t u),(3,.t (iv (j:Int))),(0,.t t)],[],0,38⟩
theorem E3j {t:T} {d:List TD} (ht:IsS eTD t d) (hd:DOK d):A0y Try.prog G 124 [t] (· = iv (A9j d)):=by
 obtain⟨hdl,hd⟩:=hd
 have gf:∀s,D5v [t,sv s]=some (iv (A6g d s)):=fun s=>C1a ht s (by unfold cap;omega)
 refine C5f.call rfl ?_
 unfold B5e
 refine A0a B3x ?_
 simp -implicitDefEqProofs
 refine A0r (fun _:Unit=>S124 t d.length) (fun _=>A4s (fun _ (x:TD)=>A3i (supE d x.ss) x.ss) d d.length) (fun _=>rfl) ?_ ?_
 ·refine A0a B3x ?_
  simp -implicitDefEqProofs
  refine A0h ?_
  refine A1u (S124 t) (fun j=>d.length-j) (A4s (fun _ (x:TD)=>A3i (supE d x.ss) x.ss) d) 0 (fun _=>rfl) (A4s.zero _ _) ?_ rfl ?_
  ·refine A0d rfl rfl ?_ ?_<;>simp -implicitDefEqProofs [S124]
  ·intro j hc
   by_cases hj:j<d.length
   ·obtain⟨x,hx⟩:∃x,d[j]?=some x:=⟨_,List.getElem?_eq_getElem hj⟩
    have ok:=hd x (List.mem_of_getElem? hx)
    have ia:=ht.iaddr hx .i64
    simp only[eTD,List.cons_append,List.nil_append]at ia
    refine A0a B3x ?_
    simp -implicitDefEqProofs [S124,hj,ht.len]
    refine A0r (fun _:Unit=>C5u t x.supers j x.ss.length) (fun _=>A4s (supE d x.ss) x.ss x.ss.length) (fun _=>rfl) ?_ ?_
    ·refine A0h ?_
     refine A0a B3x ?_
     simp -implicitDefEqProofs [ia,A0f]
     refine A0a B3x ?_
     simp -implicitDefEqProofs
     refine A0h ?_
     refine A1u (C5u t x.supers j) (fun k=>x.ss.length-k) (A4s (supE d x.ss) x.ss) 0 (fun _=>rfl) (A4s.zero _ _) ?_ rfl ?_
     ·refine A0d rfl rfl ?_ ?_<;>simp -implicitDefEqProofs [C5u]
     ·intro k hk
      refine A0c B3x ?_
      have hsl:=ok.ssl
      unfold cap at hsl
      by_cases hkl:k<x.ss.length
      ·obtain⟨s,hs⟩:∃s,x.ss[k]?=some s:=⟨_,List.getElem?_eq_getElem hkl⟩
       have ib:=ok.ss.iaddr hs .i64
       simp only[eStr,List.cons_append,List.nil_append]at ib
       obtain⟨u,hu,hu'⟩:=ok.ss.slice_to (Nat.le_of_lt hkl) .i64
       have hz:eStr.z=1:=rfl
       rw[hz]at hu
       have ga:=A6f hu' s (by rw[List.length_take];unfold cap;omega)
       have e1:IntKind.i64.wrap ((k:Int)+1)=((k+1:Nat):Int):=A0k (by omega) (by omega)
       by_cases z1:A6g d s<0
       ·have hE:supE d x.ss k s=5:=by unfold supE;rw[if_pos z1]
        have h5:=A6h hk hs (by rw[hE];decide)
        have h6:A9j d=5:=by
         have:=A6h (f:=fun _ (x:TD)=>A3i (supE d x.ss) x.ss) hc hx (by rw[h5,hE];decide)
         rw[h5,hE]at this
         exact this
        simp -implicitDefEqProofs [C5u,hkl,ok.ss.len,ib,A0f,tb12,gf,z1,h6]
       ·cases z2:hasS (x.ss.take k) s with
        | true=>
         have hE:supE d x.ss k s=4:=by unfold supE;rw[if_neg z1,if_pos z2]
         have h5:=A6h hk hs (by rw[hE];decide)
         have h6:A9j d=4:=by
          have:=A6h (f:=fun _ (x:TD)=>A3i (supE d x.ss) x.ss) hc hx (by rw[h5,hE];decide)
          rw[h5,hE]at this
          exact this
         simp -implicitDefEqProofs [C5u,hkl,ok.ss.len,ib,hu,A0f,tb12,gf,z1,ga,z2,h6]
        | false=>
         have hE:supE d x.ss k s=0:=by unfold supE;rw[if_neg z1,if_neg (by rw[z2];simp)]
         simp -implicitDefEqProofs [C5u,hkl,ok.ss.len,ib,hu,A0f,tb12,gf,z1,ga,z2,e1]
         exact Next.mk (k+1) ⟨hk.succ hs hE,by omega⟩ (A0d rfl rfl (by simp -implicitDefEqProofs [C5u]) (by simp -implicitDefEqProofs [C5u]))
      ·have hkl':k=x.ss.length:=by have:=hk.1;omega
       simp -implicitDefEqProofs [C5u,hkl,ok.ss.len]
       exact Next.mk () (hkl'▸hk) (A0d rfl rfl (by simp -implicitDefEqProofs [C5u,hkl']) (by simp -implicitDefEqProofs [C5u]))
    ·rintro _ hk
     refine A0c B3x ?_
     have e1:IntKind.i64.wrap ((j:Int)+1)=((j+1:Nat):Int):=A0k (by omega) (by omega)
     simp -implicitDefEqProofs [C5u,e1]
     exact Next.mk (j+1) ⟨hc.succ hx (A5e hk),by omega⟩ (A0d rfl rfl (by simp -implicitDefEqProofs [S124]) (by simp -implicitDefEqProofs [S124]))
   ·have hj':j=d.length:=by have:=hc.1;omega
    refine A0c B3x ?_
    simp -implicitDefEqProofs [S124,hj,ht.len]
    exact Next.mk () (hj'▸hc) (A0d rfl rfl (by simp -implicitDefEqProofs [S124,hj']) (by simp -implicitDefEqProofs [S124]))
 ·rintro _ hc
  refine A0c B3x ?_
  have h6:A9j d=0:=A5e hc
  simp -implicitDefEqProofs [S124,h6]
noncomputable def B1q (x:TD) (l:List Str):Bool:=x.ss.all fun s=>hasS l s
def S138 (x:TD) (u:T) (j:Nat):A0b:=⟨[(5,.t (iv (j:Int))),(2,.ptr 0 0),(1,.t u)],[(0,.cells 123 [.t (sv x.name),.t x.supers,.t x.feats])],1,21⟩
theorem F0u {x:TD} (ok:x.OK) {u:T} {l:List Str} (hu:IsS eStr u l) (hl:l.length<=cap):A0y Try.prog G 138 [.ag [sv x.name,x.supers,x.feats],u] (· = bv (B1q x l)):=by
 refine C8w.call rfl ?_
 unfold B8z
 refine A0a B3x ?_
 simp -implicitDefEqProofs [A0q]
 have hsl:=ok.ssl
 unfold cap at hsl
 refine A0r (fun _:Unit=>S138 x u x.ss.length) (fun _=>B1q x l=true) (fun _=>rfl) ?_ ?_
 ·refine A0a B3x ?_
  simp -implicitDefEqProofs
  refine A0h ?_
  refine A1u (S138 x u) (fun k=>x.ss.length-k) (fun k=>k<=x.ss.length/\∀(i:Nat) s,i<k->x.ss[i]?=some s->hasS l s=true) 0 (fun _=>rfl) ⟨Nat.zero_le _,fun i s h=>by omega⟩ ?_ rfl ?_
  ·refine A0d rfl rfl ?_ ?_<;>simp -implicitDefEqProofs [S138]
  ·rintro k ⟨hk,hg⟩
   refine A0c B3x ?_
   by_cases hkl:k<x.ss.length
   ·obtain⟨s,hs⟩:∃s,x.ss[k]?=some s:=⟨_,List.getElem?_eq_getElem hkl⟩
    have ib:=ok.ss.iaddr hs .i64
    simp only[eStr,List.cons_append,List.nil_append]at ib
    have ga:=A6f hu s hl
    have e1:IntKind.i64.wrap ((k:Int)+1)=((k+1:Nat):Int):=A0k (by omega) (by omega)
    cases z:hasS l s with
    | true=>
     simp -implicitDefEqProofs [S138,hkl,A0f,ok.ss.len,ib,tb12,ga,z,e1]
     refine Next.mk (k+1) ⟨⟨by omega,fun i y hi hy=>?_⟩,by omega⟩ (A0d rfl rfl (by simp -implicitDefEqProofs [S138]) (by simp -implicitDefEqProofs [S138]))
     by_cases e:i=k
     ·subst e;rw[hs]at hy;injection hy with hy;subst hy;exact z
     ·exact hg i y (by omega) hy
    | false=>
     have hr:B1q x l=false:=by
      unfold B1q
      rw[List.all_eq_false]
      exact⟨s,List.mem_of_getElem? hs,by rw[z];simp⟩
     simp -implicitDefEqProofs [S138,hkl,A0f,ok.ss.len,ib,tb12,ga,z,hr]
   ·have hk':k=x.ss.length:=by omega
    simp -implicitDefEqProofs [S138,hkl,A0f,ok.ss.len]
    refine Next.mk () ?_ (A0d rfl rfl (by simp -implicitDefEqProofs [S138,hk']) (by simp -implicitDefEqProofs [S138]))
    unfold B1q
    rw[List.all_eq_true]
    intro s hs
    obtain⟨i,hi,e⟩:=List.getElem_of_mem hs
    exact hg i s (by omega) (by rw[List.getElem?_eq_getElem hi,e])
 ·rintro _ hr
  refine A0c B3x ?_
  simp -implicitDefEqProofs [S138,hr]
end Go.Proofs.Ytbiadmfmjnoecaa
