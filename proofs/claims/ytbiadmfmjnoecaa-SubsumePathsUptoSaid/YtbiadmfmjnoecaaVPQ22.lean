/-
 Auxiliary facts. No statement of the program stands here.
-/
import Derived.Test.YtbiadmfmjnoecaaVPQ20
import Derived.Test.YtbiadmfmjnoecaaVPQ21
import Derived.Test.YtbiadmfmjnoecaaVPQ16
namespace Go.Proofs.Ytbiadmfmjnoecaa
set_option linter.unusedSimpArgs false
set_option linter.unusedVariables false
open Go Go.Abs
abbrev cv (c:UInt8):T:=.v (.int .u8 (c.toNat:Int))
def C5n (c:UInt8):Bool:=decide (48<=c.toNat)&&decide (c.toNat<=57)
def isUp (c:UInt8):Bool:=decide (65<=c.toNat)&&decide (c.toNat<=90)
def D8m (c:UInt8):Bool:=decide (97<=c.toNat)&&decide (c.toNat<=122)
def tChr:Ty UInt8:=⟨fun t c=>t=cv c,fun t a b h h'=>by
 rw[h]at h'
 injection h' with h';injection h' with _ h'
 exact UInt8.toNat_inj.1 (by omega)⟩
theorem C9z (c:UInt8):A0y Try.prog G 143 [cv c] (· = bv (C5n c)):=by
 refine C5k.runs ctx0 rfl ?_
 by_cases h1:48<=c.toNat
 ·have h1':(48:Int)<=(c.toNat:Int):=by omega
  have e:decide ((c.toNat:Int)<=57)=decide (c.toNat<=57):=by congr 1;apply propext;omega
  simp -implicitDefEqProofs [B0w,C5n,h1,h1',e]
 ·have h1':¬(48:Int)<=(c.toNat:Int):=by omega
  simp -implicitDefEqProofs [B0w,C5n,h1,h1']
theorem E4z (c:UInt8):A0y Try.prog G 145 [cv c] (· = bv (isUp c)):=by
 refine C5l.runs ctx0 rfl ?_
 by_cases h1:65<=c.toNat
 ·have h1':(65:Int)<=(c.toNat:Int):=by omega
  have e:decide ((c.toNat:Int)<=90)=decide (c.toNat<=90):=by congr 1;apply propext;omega
  simp -implicitDefEqProofs [B0x,isUp,h1,h1',e]
 ·have h1':¬(65:Int)<=(c.toNat:Int):=by omega
  simp -implicitDefEqProofs [B0x,isUp,h1,h1']
theorem E5a (c:UInt8):A0y Try.prog G 146 [cv c] (· = bv (D8m c)):=by
 refine C5m.runs ctx0 rfl ?_
 by_cases h1:97<=c.toNat
 ·have h1':(97:Int)<=(c.toNat:Int):=by omega
  have e:decide ((c.toNat:Int)<=122)=decide (c.toNat<=122):=by congr 1;apply propext;omega
  simp -implicitDefEqProofs [B0y,D8m,h1,h1',e]
 ·have h1':¬(97:Int)<=(c.toNat:Int):=by omega
  simp -implicitDefEqProofs [B0y,D8m,h1,h1']
noncomputable def gChr (f:UInt8->Bool):List T->Option T:=g1 tChr fun c=>some (bv (f c))
theorem D1n {F:Nat} {f:UInt8->Bool} (h:∀c,A0y Try.prog G F [cv c] (· = bv (f c))):GOK Try.prog G F (gChr f):=
 C2l fun a x r ha hr=>by
  have e:a=cv x:=ha
  injection hr with hr;subst hr;subst e
  exact h x
theorem D1o (f:UInt8->Bool) (c:UInt8):gChr f [cv c]=some (bv (f c)):=C2m (τ:=tChr) rfl
noncomputable def tbc:Tbl:=[(143,gChr C5n),(145,gChr isUp),(146,gChr D8m)]
theorem ctxc:Ctx Try.prog G (orc tbc):=(A1q.cons (D1n C9z) (.cons (D1n E4z) (.cons (D1n E5a) .nil))).ctx A1w
def A8l (big:Bool) (c:UInt8):Bool:=C5n c||decide (c.toNat=45)||(big&&isUp c)||(!big&&D8m c)
theorem E9w (c:UInt8) (big:Bool):A0y Try.prog G 144 [cv c,bv big] (· = bv (A8l big c)):=by
 refine C9y.runs ctxc rfl ?_
 have e45:((c.toNat:Int)==45)=decide (c.toNat=45):=by
  by_cases h:c.toNat=45
  ·rw[h];rfl
  ·rw[decide_eq_false h,beq_eq_false_iff_ne];omega
 have q1:=D1o C5n c
 have q2:=D1o isUp c
 have q3:=D1o D8m c
 cases hd:C5n c<;>cases h4:decide (c.toNat=45)<;>cases big<;>cases hu:isUp c<;>cases hl:D8m c <;>
  simp -implicitDefEqProofs [C0s,tbc,q1,q2,q3,e45,hd,h4,hu,hl,A8l]
noncomputable def tbp:Tbl:=[(143,gChr C5n),(144,g2 tChr E4n fun c b=>some (bv (A8l b c)))]
theorem ctxp:Ctx Try.prog G (orc tbp):=(A1q.cons (D1n C9z) (.cons (A5x fun a b x y r ha hb hr=>by
 have e1:a=cv x:=ha
 have e2:b=bv y:=hb
 injection hr with hr;subst hr;subst e1;subst e2
 exact E9w x y) .nil)).ctx A1w
def A2o (big:Bool) (s:ByteArray):Bool:=
 match s.data.toList with
 | []=>false
 | c::r=>decide (s.size<=32) && !C5n c && !decide (c.toNat=45)&&(c::r).all (A8l big)
def S142 (s:ByteArray) (big:Bool) (j:Nat):A0b:=⟨[(5,.t (iv (j:Int))),(1,.t (bv big)),(0,.t (sv s))],[],0,36⟩
theorem C5o (s:ByteArray) (j:Nat) (c:UInt8) (h:s.data.toList[j]?=some c):C8n (.t (sv s)) (.t (iv (j:Int)))=some (.t (cv c)):=by
 have hj:j<s.data.size:=by
  have:=(List.getElem?_eq_some_iff.1 h).1
  simpa using this
 have:s[j]?=some c:=by
  have h2:s.data[j]?=some c:=by simpa using h
  have h3:j<s.size:=hj
  rw[getElem?_pos s j h3]
  rw[getElem?_pos s.data j hj]at h2
  exact h2
 simp[C8n,this]
theorem E5b (s:ByteArray) (big:Bool) (hs:s.size<=9223372036854775807):A0y Try.prog G 142 [sv s,bv big] (· = bv (A2o big s)):=by
 refine C5j.call rfl ?_
 unfold B7b
 refine A0a ctxp ?_
 simp -implicitDefEqProofs
 have hlen:s.data.toList.length=s.size:=rfl
 cases hl:s.data.toList with
 | nil=>
  rw[hl]at hlen
  have h0:(s.size:Int)<1:=by simp at hlen;omega
  refine A0c ctxp ?_
  simp -implicitDefEqProofs [h0,A2o,hl]
 | cons c r=>
  rw[hl]at hlen
  simp only[List.length_cons]at hlen
  have h0:¬(s.size:Int)<1:=by omega
  have hx0:s.data.toList[0]?=some c:=by rw[hl];rfl
  have i0:=C5o s 0 c hx0
  simp only[Int.natCast_zero]at i0
  have qd:=D1o C5n c
  by_cases h1:32<s.size
  ·have h1':(32:Int)<(s.size:Int):=by omega
   have hz:decide (s.size<=32)=false:=decide_eq_false (by omega)
   refine A0c ctxp ?_
   simp -implicitDefEqProofs [h0,h1,h1',A2o,hl,hz]
  ·have h1':¬(32:Int)<(s.size:Int):=by omega
   have hz:decide (s.size<=32)=true:=decide_eq_true (by omega)
   cases hd:C5n c with
   | true=>
    refine A0c ctxp ?_
    simp -implicitDefEqProofs [h0,h1,h1',i0,tbp,qd,hd,A2o,hl]
   | false=>
    by_cases h4:c.toNat=45
    ·have h4':((c.toNat:Int)==45)=true:=by rw[h4];rfl
     refine A0c ctxp ?_
     simp -implicitDefEqProofs [h0,h1,h1',i0,tbp,qd,hd,h4',A2o,hl,h4]
    ·have h4':((c.toNat:Int)==45)=false:=by rw[beq_eq_false_iff_ne];omega
     refine A0a ctxp ?_
     simp -implicitDefEqProofs [h0,h1,h1',i0,tbp,qd,hd,h4']
     obtain⟨n,hn⟩:∃n,n=s.data.toList.findIdx fun c=>!A8l big c:=⟨_,rfl⟩
     have hle:n<=s.size:=by rw[hn];exact A3z _ _
     have hres:A2o big s=decide (n=s.size):=by
      have:A2o big s=(s.data.toList).all (A8l big):=by
       unfold A2o
       rw[hl]
       simp only[hz,hd,h4,decide_false,Bool.not_false,Bool.true_and]
      rw[this]
      by_cases e:n=s.size
      ·rw[decide_eq_true e,List.all_eq_true]
       intro x hx
       have:=C1s (p:=fun c=>!A8l big c) (l:=s.data.toList) (by rw[<-hn,e];rfl) x hx
       simpa using this
      ·rw[decide_eq_false e,List.all_eq_false]
       obtain⟨x,hx,hp⟩:=A2a (p:=fun c=>!A8l big c) (l:=s.data.toList) (by rw[<-hn];show n<s.size;omega)
       exact⟨x,List.mem_of_getElem? hx,by simpa using hp⟩
     rw[hres]
     refine A0q (fun _:Unit=>S142 s big s.size) (fun _=>n=s.size) (fun _=>rfl) ?_ ?_
     ·refine A0a ctxp ?_
      simp -implicitDefEqProofs
      refine A0g ?_
      refine A1a (S142 s big) n (fun _=>rfl) ?_ rfl ?_ ?_
      ·refine A0d rfl rfl ?_ ?_<;>simp -implicitDefEqProofs [S142]
      ·intro j hj
       refine A0c ctxp ?_
       have hjs:j<s.size:=by omega
       obtain⟨x,hx⟩:∃x,s.data.toList[j]?=some x:=⟨_,List.getElem?_eq_getElem hjs⟩
       have hp:=A2n (p:=fun c=>!A8l big c) (by rw[<-hn];exact hj) hx
       have hp':A8l big x=true:=by simpa using hp
       have e1:IntKind.i64.wrap ((j:Int)+1)=((j+1:Nat):Int):=A0k (by omega) (by omega)
       have q:=A4z (τ:=tChr) (σ:=E4n) (f:=fun c b=>some (bv (A8l b c))) (a:=cv x) (b:=bv big) rfl rfl
       simp -implicitDefEqProofs [S142,hjs,C5o s j x hx,tbp,q,hp',e1]
       refine A0d rfl rfl ?_ ?_<;>simp -implicitDefEqProofs
      ·refine A0c ctxp ?_
       by_cases e:n=s.size
       ·subst e
        simp -implicitDefEqProofs [S142]
        exact Next.mk () trivial (A0d rfl rfl (by simp -implicitDefEqProofs) (by simp -implicitDefEqProofs))
       ·have hjs:n<s.size:=by omega
        obtain⟨x,hx,hp⟩:=A2a (p:=fun c=>!A8l big c) (l:=s.data.toList) (by rw[<-hn];exact hjs)
        rw[<-hn]at hx
        have hp':A8l big x=false:=by simpa using hp
        have q:=A4z (τ:=tChr) (σ:=E4n) (f:=fun c b=>some (bv (A8l b c))) (a:=cv x) (b:=bv big) rfl rfl
        simp -implicitDefEqProofs [S142,hjs,C5o s n x hx,tbp,q,hp',e]
     ·rintro _ e
      refine A0c ctxp ?_
      simp -implicitDefEqProofs [S142,e]
noncomputable def tbn:Tbl:=[(142,g2 tStr E4n fun s b=>if s.size<=9223372036854775807 then some (bv (A2o b s))else none)]
theorem ctxn:Ctx Try.prog G (orc tbn):=(A1q.cons (A5x fun a b x y r ha hb hr=>by
 have e1:a=sv x:=ha
 have e2:b=bv y:=hb
 subst e1;subst e2
 split at hr
 ·rename_i h
  injection hr with hr;subst hr
  exact E5b x y h
 ·cases hr) .nil).ctx A1w
theorem E9x (s:ByteArray) (hs:s.size<=9223372036854775807):A0y Try.prog G 136 [sv s] (· = bv (A2o false s)):=by
 refine C9w.runs ctxn rfl ?_
 have q:=A4z (τ:=tStr) (σ:=E4n) (f:=fun s b=>if s.size<=9223372036854775807 then some (bv (A2o b s))else none) (a:=sv s) (b:=bv false) rfl rfl
 rw[if_pos hs]at q
 simp -implicitDefEqProofs [C0q,tbn,q]
theorem D4x (s:ByteArray) (hs:s.size<=9223372036854775807):A0y Try.prog G 135 [sv s] (· = bv (A2o true s)):=by
 refine B8s.runs ctxn rfl ?_
 have q:=A4z (τ:=tStr) (σ:=E4n) (f:=fun s b=>if s.size<=9223372036854775807 then some (bv (A2o b s))else none) (a:=sv s) (b:=bv true) rfl rfl
 rw[if_pos hs]at q
 simp -implicitDefEqProofs [B0v,tbn,q]
abbrev Str:=ByteArray
def cap:Nat:=1000000000000
def hasS (l:List Str) (s:Str):Bool:=l.any fun x=>decide (x=s)
theorem A8m (l:List Str) (s:Str):hasS l s=true ↔ s∈l:=by
 simp only[hasS,List.any_eq_true,decide_eq_true_eq]
 exact⟨fun⟨x,hx,e⟩=>e▸hx,fun h=>⟨s,h,rfl⟩⟩
def S127 (t:T) (s:Str) (j:Nat):A0b:=⟨[(5,.t (iv (j:Int))),(1,.t (sv s)),(0,.t t)],[],0,18⟩
theorem E5c {t:T} {l:List Str} (ht:IsS eStr t l) (s:Str) (hl:l.length<=cap):A0y Try.prog G 127 [t,sv s] (· = bv (hasS l s)):=by
 unfold cap at hl
 refine C5g.call rfl ?_
 unfold B6y
 refine A0a ctx0 ?_
 simp -implicitDefEqProofs
 obtain⟨n,hn⟩:∃n,n=l.findIdx fun x=>decide (x=s):=⟨_,rfl⟩
 have hle:n<=l.length:=by rw[hn];exact A3z _ _
 have hres:hasS l s=decide (n<l.length):=by
  rw[Bool.eq_iff_iff,A8m,decide_eq_true_eq]
  constructor
  ·intro h
   rcases Nat.lt_or_ge n l.length with h1 | h1
   ·exact h1
   ·have:=C1s (p:=fun x=>decide (x=s)) (l:=l) (by omega) s h
    simp at this
  ·intro h
   obtain⟨x,hx,hp⟩:=A2a (p:=fun x=>decide (x=s)) (l:=l) (by omega)
   have:x=s:=by simpa using hp
   subst this
   exact List.mem_of_getElem? hx
 rw[hres]
 refine A0q (fun _:Unit=>S127 t s l.length) (fun _=>n=l.length) (fun _=>rfl) ?_ ?_
 ·refine A0a ctx0 ?_
  simp -implicitDefEqProofs
  refine A0g ?_
  refine A1a (S127 t s) n (fun _=>rfl) ?_ rfl ?_ ?_
  ·refine A0d rfl rfl ?_ ?_<;>simp -implicitDefEqProofs [S127]
  ·intro j hj
   refine A0c ctx0 ?_
   have hjl:j<l.length:=by omega
   obtain⟨x,hx⟩:∃x,l[j]?=some x:=⟨_,List.getElem?_eq_getElem hjl⟩
   have hp:¬x=s:=by simpa using A2n (p:=fun x=>decide (x=s)) (by rw[<-hn];exact hj) hx
   have e1:IntKind.i64.wrap ((j:Int)+1)=((j+1:Nat):Int):=A0k (by omega) (by omega)
   have ia:=ht.iaddr hx .i64
   simp only[eStr,List.cons_append,List.nil_append]at ia
   simp -implicitDefEqProofs [S127,hjl,ht.len,ia,A0h,A6v,hp,e1]
   refine A0d rfl rfl ?_ ?_<;>simp -implicitDefEqProofs
  ·refine A0c ctx0 ?_
   by_cases e:n=l.length
   ·subst e
    simp -implicitDefEqProofs [S127,ht.len]
    exact Next.mk () trivial (A0d rfl rfl (by simp -implicitDefEqProofs) (by simp -implicitDefEqProofs))
   ·have hjl:n<l.length:=by omega
    obtain⟨x,hx,hp⟩:=A2a (p:=fun x=>decide (x=s)) (l:=l) (by rw[<-hn];exact hjl)
    rw[<-hn]at hx
    have hp':x=s:=by simpa using hp
    have ia:=ht.iaddr hx .i64
    simp only[eStr,List.cons_append,List.nil_append]at ia
    simp -implicitDefEqProofs [S127,hjl,ht.len,ia,A0h,A6v,hp',e]
 ·rintro _ e
  refine A0c ctx0 ?_
  simp -implicitDefEqProofs [S127,e]
noncomputable def B5n:List T->Option T:=g2 (tSl eStr) tStr fun l s=>if l.length<=cap then some (bv (hasS l s))else none
theorem B4e:GOK Try.prog G 127 B5n:=A5x fun a b x y r ha hb hr=>by
 obtain rfl:b=sv y:=hb
 split at hr
 ·rename_i h;injection hr with hr;subst hr;exact E5c ha y h
 ·cases hr
theorem A5h {t:T} {l:List Str} (ht:IsS eStr t l) (s:Str) (hl:l.length<=cap):B5n [t,sv s]=some (bv (hasS l s)):=by
 unfold B5n
 rw[A4z (τ:=tSl eStr) (σ:=tStr) ht rfl,if_pos hl]
def put (l:List Str) (s:Str):List Str:=
 let k:=l.findIdx fun x=>!B8o x s
 if l[k]?=some s then l else l.take k++[s]++l.drop k
def S120 (t:T) (s:Str) (j:Nat):A0b:=⟨[(6,.t (iv (j:Int))),(5,.t nilS),(1,.t (sv s)),(0,.t t)],[],0,48⟩
theorem F4z {t:T} {l:List Str} (ht:IsS eStr t l) (s:Str) (hl:l.length<=cap):A0y Try.prog G 120 [t,sv s] (· = A0l eStr (put l s)):=by
 unfold cap at hl
 refine D4w.call rfl ?_
 unfold C5b
 refine A0a ctx0 ?_
 simp -implicitDefEqProofs
 refine A0a ctx0 ?_
 simp -implicitDefEqProofs
 refine A0a ctx0 ?_
 simp -implicitDefEqProofs
 obtain⟨n,hn⟩:∃n,n=l.findIdx fun x=>!B8o x s:=⟨_,rfl⟩
 have hle:n<=l.length:=by rw[hn];exact A3z _ _
 refine A0q (fun _:Unit=>S120 t s n) (fun _=>True) (fun _=>rfl) ?_ ?_
 ·refine A0g ?_
  refine A1a (S120 t s) n (fun _=>rfl) ?_ rfl ?_ ?_
  ·refine A0d rfl rfl ?_ ?_<;>simp -implicitDefEqProofs [S120]
  ·intro j hj
   refine A0c ctx0 ?_
   have hjl:j<l.length:=by omega
   obtain⟨x,hx⟩:∃x,l[j]?=some x:=⟨_,List.getElem?_eq_getElem hjl⟩
   have hp:B8o x s=true:=by simpa using A2n (p:=fun x=>!B8o x s) (by rw[<-hn];exact hj) hx
   have e1:IntKind.i64.wrap ((j:Int)+1)=((j+1:Nat):Int):=A0k (by omega) (by omega)
   have ia:=ht.iaddr hx .i64
   simp only[eStr,List.cons_append,List.nil_append]at ia
   simp -implicitDefEqProofs [S120,hjl,ht.len,ia,A0h,E1p,hp,e1]
   refine A0d rfl rfl ?_ ?_<;>simp -implicitDefEqProofs
  ·refine A0c ctx0 ?_
   by_cases e:n=l.length
   ·have:¬n<l.length:=by omega
    simp -implicitDefEqProofs [S120,ht.len,this]
    exact Next.mk () trivial (A0d rfl rfl (by simp -implicitDefEqProofs) (by simp -implicitDefEqProofs))
   ·have hjl:n<l.length:=by omega
    obtain⟨x,hx,hp⟩:=A2a (p:=fun x=>!B8o x s) (l:=l) (by rw[<-hn];exact hjl)
    rw[<-hn]at hx
    have hp':B8o x s=false:=by simpa using hp
    have ia:=ht.iaddr hx .i64
    simp only[eStr,List.cons_append,List.nil_append]at ia
    simp -implicitDefEqProofs [S120,hjl,ht.len,ia,A0h,E1p,hp']
    exact Next.mk () trivial (A0d rfl rfl (by simp -implicitDefEqProofs) (by simp -implicitDefEqProofs))
 ·rintro _ -
  by_cases hhit:l[n]?=some s
  ·have hput:put l s=l:=by simp only[put,<-hn,hhit,if_true]
   have hjl:n<l.length:=(List.getElem?_eq_some_iff.1 hhit).1
   have htree:t=A0l eStr l:=by
    rcases ht with⟨_,rfl⟩ | rfl
    ·simp at hjl
    ·cases l with
     | nil=>simp at hjl
     | cons a r=>rfl
   rw[hput]
   have ia:=ht.iaddr hhit .i64
   simp only[eStr,List.cons_append,List.nil_append]at ia
   refine A0c ctx0 ?_
   simp -implicitDefEqProofs [S120,hjl,ht.len,ia,A0h,A6v]
   exact htree
  ·have hput:put l s=l.take n++[s]++l.drop n:=by simp only[put,<-hn,hhit,if_false]
   obtain⟨t1,hs1,h1⟩:=ht.slice_to hle .i64
   obtain⟨t2,hs2,h2⟩:=ht.slice_from hle .i64
   have hsz:eStr.z=1:=rfl
   rw[hsz]at hs1 hs2
   have l1:(l.take n).length=n:=by simp;omega
   have l2:(l.drop n).length=l.length-n:=by simp
   obtain⟨b1,H1,n1,ap1,r1,ne1,_⟩:=A1j (e:=eStr) (ty:=9) (by':=16) (nx:=0) (b:=0) (l:=[]) (m:=l.take n) (A0j.nil _ _ [] _) (A5a h1) (by rw[l1];simp;omega) (by rw[l1];simp;omega)
   rw[List.nil_append]at ap1 r1
   obtain⟨b2,H2,n2,ap2,r2,ne2,_⟩:=A1j (e:=eStr) (ty:=9) (by':=16) (nx:=n1+1) (m:=[s]) (r1.cons (r:=.cells 9 [.t (sv s)]) (Ne.symm ne1)) (A2w (b:=n1) (ty:=9) s (by simp[eStr])) (by rw[l1];simp;omega) (by rw[l1];simp;omega)
   obtain⟨b3,H3,n3,ap3,r3,ne3,_⟩:=A1j (e:=eStr) (ty:=9) (by':=16) (nx:=n2) (m:=l.drop n) r2 (A5a h2) (by simp;omega) (by simp;omega)
   rw[hsz]at ap1 ap2 ap3
   have ap1:appM 9 1 16 [] 0 (.t nilS) (.t t1)=some (rowP eStr b1 (l.take n),H1,n1):=ap1
   rw[<-hput]at ap3 r3
   have bs:A1l 9 1 [.string ⟨#[]⟩] 1 [(0,.t (sv s))] n1=some (.row n1 0 1 1,.cells 9 [.t (sv s)]):=rfl
   have tt:=r3.toT
   refine A0c ctx0 ?_
   by_cases e:n<l.length
   ·obtain⟨x,hx⟩:∃x,l[n]?=some x:=⟨_,List.getElem?_eq_getElem e⟩
    have hxs:¬x=s:=fun h=>hhit (by rw[hx,h])
    have ia:=ht.iaddr hx .i64
    simp only[eStr,List.cons_append,List.nil_append]at ia
    simp -implicitDefEqProofs [S120,e,ht.len,ia,A0h,A6v,hxs,hs1,hs2,ap1,bs,ap2,ap3,tt]
   ·simp -implicitDefEqProofs [S120,e,ht.len,hs1,hs2,ap1,bs,ap2,ap3,tt]
noncomputable def gPut:List T->Option T:=g2 (tSl eStr) tStr fun l s=>if l.length<=cap then some (A0l eStr (put l s))else none
theorem F7k:GOK Try.prog G 120 gPut:=A5x fun a b x y r ha hb hr=>by
 obtain rfl:b=sv y:=hb
 split at hr
 ·rename_i h;injection hr with hr;subst hr;exact F4z ha y h
 ·cases hr
theorem C0t {t:T} {l:List Str} (ht:IsS eStr t l) (s:Str) (hl:l.length<=cap):gPut [t,sv s]=some (A0l eStr (put l s)):=by
 unfold gPut
 rw[A4z (τ:=tSl eStr) (σ:=tStr) ht rfl,if_pos hl]
structure TD where
 name:Str
 supers:T
 feats:T
structure FD where
 feat:Str
 value:Str
def eTD:Enc TD:=⟨3,fun x=>[sv x.name,x.supers,x.feats],fun _=>rfl,by omega,fun a b h=>by
 obtain⟨a1,a2,a3⟩:=a
 obtain⟨b1,b2,b3⟩:=b
 simp at h
 simp[h]⟩
def eFD:Enc FD:=⟨2,fun x=>[sv x.feat,sv x.value],fun _=>rfl,by omega,fun a b h=>by
 obtain⟨a1,a2⟩:=a
 obtain⟨b1,b2⟩:=b
 simp at h
 simp[h]⟩
noncomputable def TD.ss (x:TD):List Str:=((tSl eStr).dec x.supers).getD []
noncomputable def TD.fs (x:TD):List FD:=((tSl eFD).dec x.feats).getD []
structure TD.OK (x:TD):Prop where
 ss:IsS eStr x.supers x.ss
 fs:IsS eFD x.feats x.fs
 ssl:x.ss.length<=cap
 fsl:x.fs.length<=cap
 size:x.name.size<=cap
 fsize:∀f∈x.fs,f.feat.size<=cap
theorem TD.ss_eq {x:TD} {l:List Str} (h:IsS eStr x.supers l):x.ss=l:=by
 have:=Ty.dec_is (τ:=tSl eStr) h
 simp only[TD.ss,this,Option.getD_some]
theorem TD.fs_eq {x:TD} {l:List FD} (h:IsS eFD x.feats l):x.fs=l:=by
 have:=Ty.dec_is (τ:=tSl eFD) h
 simp only[TD.fs,this,Option.getD_some]
def DOK (d:List TD):Prop:=d.length<=300/\∀x∈d,x.OK
def C7o (d:List TD) (s:Str):Nat:=d.findIdx fun x=>decide (x.name=s)
def A5i (d:List TD) (s:Str):Int:=if C7o d s<d.length then(C7o d s:Int)else -1
def A5z (t:T) (s:Str) (j:Nat):A0b:=⟨[(5,.t (iv (j:Int))),(1,.t (sv s)),(0,.t t)],[],0,20⟩
theorem E9y {t:T} {d:List TD} (ht:IsS eTD t d) (s:Str) (hl:d.length<=cap):A0y Try.prog G 137 [t,sv s] (· = iv (A5i d s)):=by
 unfold cap at hl
 refine C9x.call rfl ?_
 unfold C0r
 refine A0a ctx0 ?_
 simp -implicitDefEqProofs
 obtain⟨n,hn⟩:∃n,n=d.findIdx fun x=>decide (x.name=s):=⟨_,rfl⟩
 have hle:n<=d.length:=by rw[hn];exact A3z _ _
 have hres:A5i d s=if n<d.length then(n:Int)else -1:=by rw[hn];rfl
 refine A0q (fun _:Unit=>A5z t s d.length) (fun _=>n=d.length) (fun _=>rfl) ?_ ?_
 ·refine A0a ctx0 ?_
  simp -implicitDefEqProofs
  refine A0g ?_
  refine A1a (A5z t s) n (fun _=>rfl) ?_ rfl ?_ ?_
  ·refine A0d rfl rfl ?_ ?_<;>simp -implicitDefEqProofs [A5z]
  ·intro j hj
   refine A0c ctx0 ?_
   have hjl:j<d.length:=by omega
   obtain⟨x,hx⟩:∃x,d[j]?=some x:=⟨_,List.getElem?_eq_getElem hjl⟩
   have hp:=A2n (p:=fun x=>decide (x.name=s)) (by rw[<-hn];exact hj) hx
   have e1:IntKind.i64.wrap ((j:Int)+1)=((j+1:Nat):Int):=A0k (by omega) (by omega)
   have ia:=ht.iaddr hx .i64
   simp only[eTD,List.cons_append,List.nil_append]at ia
   have hp:¬x.name=s:=by simpa using hp
   simp -implicitDefEqProofs [A5z,hjl,ht.len,ia,A0h,e1,A6v,hp]
   refine A0d rfl rfl ?_ ?_<;>simp -implicitDefEqProofs
  ·refine A0c ctx0 ?_
   by_cases e:n=d.length
   ·have hnl:¬n<d.length:=by omega
    simp -implicitDefEqProofs [A5z,ht.len,hnl]
    exact Next.mk () (by first | exact trivial | exact e) (A0d rfl rfl (by simp -implicitDefEqProofs [e]) (by simp -implicitDefEqProofs))
   ·have hjl:n<d.length:=by omega
    obtain⟨x,hx,hp⟩:=A2a (p:=fun x=>decide (x.name=s)) (l:=d) (by rw[<-hn];exact hjl)
    rw[<-hn]at hx
    have ia:=ht.iaddr hx .i64
    simp only[eTD,List.cons_append,List.nil_append]at ia
    have hp:x.name=s:=by simpa using hp
    simp -implicitDefEqProofs [A5z,hjl,ht.len,ia,A0h,A6v,hp]
    rw[hres,if_pos hjl]
 ·rintro _ e
  refine A0c ctx0 ?_
  simp -implicitDefEqProofs [A5z]
  rw[hres,if_neg (by omega)]
noncomputable def D1p:List T->Option T:=g2 (tSl eTD) tStr fun d s=>if d.length<=cap then some (iv (A5i d s))else none
theorem E9z:GOK Try.prog G 137 D1p:=A5x fun a b x y r ha hb hr=>by
 obtain rfl:b=sv y:=hb
 split at hr
 ·rename_i h;injection hr with hr;subst hr;exact E9y ha y h
 ·cases hr
theorem B8t {t:T} {d:List TD} (ht:IsS eTD t d) (s:Str) (hl:d.length<=cap):D1p [t,sv s]=some (iv (A5i d s)):=by
 unfold D1p
 rw[A4z (τ:=tSl eTD) (σ:=tStr) ht rfl,if_pos hl]
def A2p (d:List TD) (j:Nat):List Str:=(d.take j).foldl (fun out x=>put out x.name) []
def names (d:List TD):List Str:=d.foldl (fun out x=>put out x.name) []
theorem B5o {d:List TD} {j:Nat} {x:TD} (h:d[j]?=some x):A2p d (j+1)=put (A2p d j) x.name:=by
 unfold A2p
 rw[List.take_add_one,h]
 simp[List.foldl_append]
theorem A9q (l:List Str) (s:Str):(put l s).length<=l.length+1:=by
 unfold put
 simp only
 split
 ·omega
 ·simp
  have:=A3z (fun x=>!B8o x s) l
  omega
theorem A6x (d:List TD):∀j,(A2p d j).length<=j
 | 0=>by simp[A2p]
 | j+1=>by
  have ih:=A6x d j
  cases h:d[j]? with
  | none=>
   have:A2p d (j+1)=A2p d j:=by unfold A2p;rw[List.take_add_one,h];simp
   rw[this];omega
  | some x=>
   rw[B5o h]
   have:=A9q (A2p d j) x.name
   omega
noncomputable def tb11:Tbl:=[(120,gPut),(137,D1p),(127,B5n)]
theorem A2d:Ctx Try.prog G (orc tb11):=(A1q.cons F7k (.cons E9z (.cons B4e .nil))).ctx A1w
def S102 (t:T) (d:List TD) (j:Nat):A0b:=⟨[(4,.t (iv (j:Int))),(3,.t (A0l eStr (A2p d j))),(0,.t t)],[],0,19⟩
theorem D0a {t:T} {d:List TD} (ht:IsS eTD t d) (hl:d.length<=cap):A0y Try.prog G 102 [t] (· = A0l eStr (names d)):=by
 unfold cap at hl
 refine C4z.call rfl ?_
 unfold B6s
 refine A0a A2d ?_
 simp -implicitDefEqProofs
 refine A0a A2d ?_
 simp -implicitDefEqProofs
 refine A0q (fun _:Unit=>S102 t d d.length) (fun _=>True) (fun _=>rfl) ?_ ?_
 ·refine A0a A2d ?_
  simp -implicitDefEqProofs
  refine A0g ?_
  refine A1a (S102 t d) d.length (fun _=>rfl) ?_ rfl ?_ ?_
  ·refine A0d rfl rfl ?_ ?_<;>simp -implicitDefEqProofs [S102,A2p,A0l]
  ·intro j hj
   refine A0c A2d ?_
   obtain⟨x,hx⟩:∃x,d[j]?=some x:=⟨_,List.getElem?_eq_getElem hj⟩
   have e1:IntKind.i64.wrap ((j:Int)+1)=((j+1:Nat):Int):=A0k (by omega) (by omega)
   have ia:=ht.iaddr hx .i64
   simp only[eTD,List.cons_append,List.nil_append]at ia
   have hln:=A6x d j
   have gp:=C0t (IsS.tree eStr (A2p d j)) x.name (by unfold cap;omega)
   rw[<-B5o hx]at gp
   simp -implicitDefEqProofs [S102,hj,ht.len,ia,A0h,tb11,gp,e1]
   refine A0d rfl rfl ?_ ?_<;>simp -implicitDefEqProofs
  ·refine A0c A2d ?_
   simp -implicitDefEqProofs [S102,ht.len]
   exact Next.mk () trivial (A0d rfl rfl (by simp -implicitDefEqProofs) (by simp -implicitDefEqProofs))
 ·rintro _ -
  refine A0c A2d ?_
  have:A2p d d.length=names d:=by unfold A2p names;rw[List.take_length]
  simp -implicitDefEqProofs [S102,this]
def B2u (f:Nat->Int):Nat->Int
 | 0=>0
 | n+1=>if B2u f n=0 then f n else B2u f n
theorem A4p (f:Nat->Int):∀n,((∀i,i<n->f i=0)/\B2u f n=0)\/∃k,k<n/\(∀i,i<k->f i=0)/\f k≠0/\B2u f n=f k
 | 0=>.inl ⟨fun i hi=>by omega,rfl⟩
 | n+1=>by
  rcases A4p f n with⟨h1,h2⟩ | ⟨k,h1,h2,h3,h4⟩
  ·simp only[B2u,h2,if_true]
   by_cases h:f n=0
   ·refine .inl ⟨fun i hi=>?_,h⟩
    by_cases e:i=n
    ·subst e;exact h
    ·exact h1 i (by omega)
   ·exact .inr ⟨n,by omega,h1,h,rfl⟩
  ·refine .inr ⟨k,by omega,h2,h3,?_⟩
   simp only[B2u,h4,if_neg h3]
noncomputable def C7p (x:TD):Int:=if 256<x.ss.length\/256<x.fs.length then 7 else 0
noncomputable def A7v (d:List TD):Int:=if 256<d.length then 7 else B2u (fun i=>(d[i]?.map C7p).getD 0) d.length
def S122 (t:T) (j:Nat):A0b:=⟨[(3,.t (iv (j:Int))),(0,.t t)],[],0,29⟩
theorem E5d {t:T} {d:List TD} (ht:IsS eTD t d) (hd:DOK d):A0y Try.prog G 122 [t] (· = iv (A7v d)):=by
 obtain⟨hdl,hd⟩:=hd
 refine C5d.call rfl ?_
 unfold B6v
 refine A0a ctx0 ?_
 simp -implicitDefEqProofs
 by_cases h0:256<d.length
 ·have h0':(256:Int)<(d.length:Int):=by omega
  refine A0c ctx0 ?_
  simp -implicitDefEqProofs [ht.len,h0,h0',A7v]
 ·have h0':¬(256:Int)<(d.length:Int):=by omega
  refine A0a ctx0 ?_
  simp -implicitDefEqProofs [ht.len,h0,h0']
  have hs:A7v d=B2u (fun i=>(d[i]?.map C7p).getD 0) d.length:=by unfold A7v;rw[if_neg h0]
  rw[hs]
  rcases A4p (fun i=>(d[i]?.map C7p).getD 0) d.length with⟨h1,h2⟩ | ⟨k,h1,h2,h3,h4⟩
  ·rw[h2]
   refine A0q (fun _:Unit=>S122 t d.length) (fun _=>True) (fun _=>rfl) ?_ ?_
   ·refine A0a ctx0 ?_
    simp -implicitDefEqProofs
    refine A0g ?_
    refine A1a (S122 t) d.length (fun _=>rfl) ?_ rfl ?_ ?_
    ·refine A0d rfl rfl ?_ ?_<;>simp -implicitDefEqProofs [S122]
    ·intro j hj
     refine A0c ctx0 ?_
     obtain⟨x,hx⟩:∃x,d[j]?=some x:=⟨_,List.getElem?_eq_getElem hj⟩
     have ok:=hd x (List.mem_of_getElem? hx)
     have hz:=h1 j hj
     simp only[hx,Option.map_some,Option.getD_some,C7p]at hz
     have hz':¬(256<x.ss.length\/256<x.fs.length):=fun h=>by rw[if_pos h]at hz;cases hz
     have z1:¬(256:Int)<(x.ss.length:Int):=by omega
     have z2:¬(256:Int)<(x.fs.length:Int):=by omega
     have z1n:¬256<x.ss.length:=by omega
     have z2n:¬256<x.fs.length:=by omega
     have e1:IntKind.i64.wrap ((j:Int)+1)=((j+1:Nat):Int):=A0k (by omega) (by omega)
     have ia:=ht.iaddr hx .i64
     simp only[eTD,List.cons_append,List.nil_append]at ia
     simp -implicitDefEqProofs [S122,hj,ht.len,ia,A0h,ok.ss.len,ok.fs.len,z1,z2,z1n,z2n,e1]
     refine A0d rfl rfl ?_ ?_<;>simp -implicitDefEqProofs
    ·refine A0c ctx0 ?_
     simp -implicitDefEqProofs [S122,ht.len]
     exact Next.mk () trivial (A0d rfl rfl (by simp -implicitDefEqProofs) (by simp -implicitDefEqProofs))
   ·rintro _ -
    refine A0c ctx0 ?_
    simp -implicitDefEqProofs [S122]
  ·refine A0q (fun _:Unit=>S122 t d.length) (fun _=>False) (fun _=>rfl) ?_ ?_
   ·refine A0a ctx0 ?_
    simp -implicitDefEqProofs
    refine A0g ?_
    refine A1a (S122 t) k (fun _=>rfl) ?_ rfl ?_ ?_
    ·refine A0d rfl rfl ?_ ?_<;>simp -implicitDefEqProofs [S122]
    ·intro j hjk
     refine A0c ctx0 ?_
     have hj:j<d.length:=by omega
     obtain⟨x,hx⟩:∃x,d[j]?=some x:=⟨_,List.getElem?_eq_getElem hj⟩
     have ok:=hd x (List.mem_of_getElem? hx)
     have hz:=h2 j hjk
     simp only[hx,Option.map_some,Option.getD_some,C7p]at hz
     have hz':¬(256<x.ss.length\/256<x.fs.length):=fun h=>by rw[if_pos h]at hz;cases hz
     have z1:¬(256:Int)<(x.ss.length:Int):=by omega
     have z2:¬(256:Int)<(x.fs.length:Int):=by omega
     have z1n:¬256<x.ss.length:=by omega
     have z2n:¬256<x.fs.length:=by omega
     have e1:IntKind.i64.wrap ((j:Int)+1)=((j+1:Nat):Int):=A0k (by omega) (by omega)
     have ia:=ht.iaddr hx .i64
     simp only[eTD,List.cons_append,List.nil_append]at ia
     simp -implicitDefEqProofs [S122,hj,ht.len,ia,A0h,ok.ss.len,ok.fs.len,z1,z2,z1n,z2n,e1]
     refine A0d rfl rfl ?_ ?_<;>simp -implicitDefEqProofs
    ·refine A0c ctx0 ?_
     obtain⟨x,hx⟩:∃x,d[k]?=some x:=⟨_,List.getElem?_eq_getElem h1⟩
     have ok:=hd x (List.mem_of_getElem? hx)
     simp only[hx,Option.map_some,Option.getD_some,C7p]at h3 h4
     have hz':256<x.ss.length\/256<x.fs.length:=Classical.byContradiction fun h=>h3 (if_neg h)
     rw[if_pos hz']at h4
     have ia:=ht.iaddr hx .i64
     simp only[eTD,List.cons_append,List.nil_append]at ia
     rw[h4]
     by_cases z1n:256<x.ss.length
     ·have z1:(256:Int)<(x.ss.length:Int):=by omega
      simp -implicitDefEqProofs [S122,h1,ht.len,ia,A0h,ok.ss.len,ok.fs.len,z1,z1n]
     ·have z2n:256<x.fs.length:=by omega
      have z1:¬(256:Int)<(x.ss.length:Int):=by omega
      have z2:(256:Int)<(x.fs.length:Int):=by omega
      simp -implicitDefEqProofs [S122,h1,ht.len,ia,A0h,ok.ss.len,ok.fs.len,z1,z2,z1n,z2n]
   ·rintro _ h
    exact h.elim
def C7q (d:List TD) (i:Nat) (x:TD):Int:=if A2o false x.name=false then 1 else if A5i d x.name<(i:Int)then 4 else 0
def B5p (d:List TD):Int:=B2u (fun i=>(d[i]?.map (C7q d i)).getD 0) d.length
noncomputable def F5a:List T->Option T:=g1 tStr fun s=>if s.size<=9223372036854775807 then some (bv (A2o false s))else none
theorem F5b:GOK Try.prog G 136 F5a:=C2l fun a x r ha hr=>by
 obtain rfl:a=sv x:=ha
 split at hr
 ·rename_i h;injection hr with hr;subst hr;exact E9x x h
 ·cases hr
theorem E1x (s:Str) (h:s.size<=cap):F5a [sv s]=some (bv (A2o false s)):=by
 unfold F5a
 rw[C2m (τ:=tStr) rfl,if_pos (by unfold cap at h;omega)]
noncomputable def tb12:Tbl:=[(136,F5a),(137,D1p),(127,B5n)]
theorem B1p:Ctx Try.prog G (orc tb12):=(A1q.cons F5b (.cons E9z (.cons B4e .nil))).ctx A1w
def S123 (t:T) (j:Nat):A0b:=⟨[(3,.t (iv (j:Int))),(0,.t t)],[],0,26⟩
theorem D8n {t:T} {d:List TD} (ht:IsS eTD t d) (hd:DOK d):A0y Try.prog G 123 [t] (· = iv (B5p d)):=by
 obtain⟨hdl,hd⟩:=hd
 refine C5e.call rfl ?_
 unfold B6w
 refine A0a B1p ?_
 simp -implicitDefEqProofs
 have gf:∀s,D1p [t,sv s]=some (iv (A5i d s)):=fun s=>B8t ht s (by unfold cap;omega)
 obtain⟨n,E,hn,hgood,hE⟩:∃(n:Nat) (E:Int),n<=d.length/\(∀j x,j<n->d[j]?=some x->C7q d j x=0)/\B5p d=E/\((n=d.length/\E=0)\/∃x,d[n]?=some x/\C7q d n x=E/\E≠0):=by
  rcases A4p (fun i=>(d[i]?.map (C7q d i)).getD 0) d.length with⟨h1,h2⟩ | ⟨k,h1,h2,h3,h4⟩
  ·refine⟨d.length,0,Nat.le_refl _,fun j x hj hx=>?_,h2,.inl ⟨rfl,rfl⟩⟩
   have:=h1 j hj
   simpa only[hx,Option.map_some,Option.getD_some]using this
  ·obtain⟨x,hx⟩:∃x,d[k]?=some x:=⟨_,List.getElem?_eq_getElem h1⟩
   refine⟨k,C7q d k x,by omega,fun j y hj hy=>?_,?_,.inr ⟨x,hx,rfl,?_⟩⟩
   ·have:=h2 j hj
    simpa only[hy,Option.map_some,Option.getD_some]using this
   ·show B2u _ _=_
    rw[h4]
    simp only[hx,Option.map_some,Option.getD_some]
   ·simpa only[hx,Option.map_some,Option.getD_some]using h3
 rw[hE.1]
 refine A0q (fun _:Unit=>S123 t d.length) (fun _=>n=d.length/\E=0) (fun _=>rfl) ?_ ?_
 ·refine A0a B1p ?_
  simp -implicitDefEqProofs
  refine A0g ?_
  refine A1a (S123 t) n (fun _=>rfl) ?_ rfl ?_ ?_
  ·refine A0d rfl rfl ?_ ?_<;>simp -implicitDefEqProofs [S123]
  ·intro j hj
   refine A0c B1p ?_
   have hjl:j<d.length:=by omega
   obtain⟨x,hx⟩:∃x,d[j]?=some x:=⟨_,List.getElem?_eq_getElem hjl⟩
   have ok:=hd x (List.mem_of_getElem? hx)
   have hz:=hgood j x hj hx
   unfold C7q at hz
   have z1:A2o false x.name=true:=by
    cases h:A2o false x.name with
    | true=>rfl
    | false=>rw[if_pos h]at hz;cases hz
   have z2:¬A5i d x.name<(j:Int):=fun h=>by rw[if_neg (by rw[z1];simp),if_pos h]at hz;cases hz
   have gn:=E1x x.name ok.size
   have e1:IntKind.i64.wrap ((j:Int)+1)=((j+1:Nat):Int):=A0k (by omega) (by omega)
   have ia:=ht.iaddr hx .i64
   simp only[eTD,List.cons_append,List.nil_append]at ia
   simp -implicitDefEqProofs [S123,hjl,ht.len,ia,A0h,tb12,gn,gf,z1,z2,e1]
   refine A0d rfl rfl ?_ ?_<;>simp -implicitDefEqProofs
  ·refine A0c B1p ?_
   rcases hE.2 with⟨e,e0⟩ | ⟨x,hx,hz,hne⟩
   ·have hnl:¬n<d.length:=by omega
    simp -implicitDefEqProofs [S123,ht.len,hnl]
    exact Next.mk () ⟨e,e0⟩ (A0d rfl rfl (by simp -implicitDefEqProofs [e]) (by simp -implicitDefEqProofs))
   ·have hjl:n<d.length:=(List.getElem?_eq_some_iff.1 hx).1
    have ok:=hd x (List.mem_of_getElem? hx)
    have gn:=E1x x.name ok.size
    have ia:=ht.iaddr hx .i64
    simp only[eTD,List.cons_append,List.nil_append]at ia
    unfold C7q at hz
    cases z1:A2o false x.name with
    | false=>
     rw[if_pos z1]at hz
     simp -implicitDefEqProofs [S123,hjl,ht.len,ia,A0h,tb12,gn,z1,<-hz]
    | true=>
     rw[if_neg (by rw[z1];simp)]at hz
     have z2:A5i d x.name<(n:Int):=Classical.byContradiction fun h=>hne (by rw[<-hz,if_neg h])
     rw[if_pos z2]at hz
     simp -implicitDefEqProofs [S123,hjl,ht.len,ia,A0h,tb12,gn,gf,z1,z2,<-hz]
 ·rintro _ ⟨e,e0⟩
  refine A0c B1p ?_
  simp -implicitDefEqProofs [S123,e0]
def A2x {α:Type} (f:Nat->α->Int) (l:List α):Int:=B2u (fun i=>(l[i]?.map (f i)).getD 0) l.length
def A4e {α:Type} (f:Nat->α->Int) (l:List α) (j:Nat):Prop:=j<=l.length/\∀(i:Nat) y,i<j->l[i]?=some y->f i y=0
theorem A4e.zero {α:Type} (f:Nat->α->Int) (l:List α):A4e f l 0:=⟨Nat.zero_le _,fun i y h=>by omega⟩
theorem A4e.succ {α:Type} {f:Nat->α->Int} {l:List α} {j:Nat} {x:α} (h:A4e f l j) (hx:l[j]?=some x) (hz:f j x=0):A4e f l (j+1):=by
 have hj:=(List.getElem?_eq_some_iff.1 hx).1
 refine⟨by omega,fun i y hi hy=>?_⟩
 by_cases e:i=j
 ·subst e;rw[hx]at hy;injection hy with hy;subst hy;exact hz
 ·exact h.2 i y (by omega) hy
theorem A5j {α:Type} {f:Nat->α->Int} {l:List α} {j:Nat} {x:α} (h:A4e f l j) (hx:l[j]?=some x) (hz:f j x≠0):A2x f l=f j x:=by
 have hj:=(List.getElem?_eq_some_iff.1 hx).1
 rcases A4p (fun i=>(l[i]?.map (f i)).getD 0) l.length with⟨h1,h2⟩ | ⟨k,h1,h2,h3,h4⟩
 ·have:=h1 j hj
  simp only[hx,Option.map_some,Option.getD_some]at this
  exact absurd this hz
 ·have e:k=j:=by
   rcases Nat.lt_trichotomy k j with h' | h' | h'
   ·obtain⟨y,hy⟩:∃y,l[k]?=some y:=⟨_,List.getElem?_eq_getElem h1⟩
    have:=h.2 k y h' hy
    simp only[hy,Option.map_some,Option.getD_some]at h3
    exact absurd this h3
   ·exact h'
   ·have:=h2 j h'
    simp only[hx,Option.map_some,Option.getD_some]at this
    exact absurd this hz
  subst e
  unfold A2x
  rw[h4]
  simp only[hx,Option.map_some,Option.getD_some]
theorem A4m {α:Type} {f:Nat->α->Int} {l:List α} (h:A4e f l l.length):A2x f l=0:=by
 rcases A4p (fun i=>(l[i]?.map (f i)).getD 0) l.length with⟨h1,h2⟩ | ⟨k,h1,h2,h3,h4⟩
 ·exact h2
 ·obtain⟨y,hy⟩:∃y,l[k]?=some y:=⟨_,List.getElem?_eq_getElem h1⟩
  have:=h.2 k y h1 hy
  simp only[hy,Option.map_some,Option.getD_some]at h3
  exact absurd this h3
theorem A3h {α:Type} {f:Nat->α->Int} {l:List α} (h:A2x f l=0):A4e f l l.length:=by
 refine⟨Nat.le_refl _,fun i y hi hy=>?_⟩
 rcases A4p (fun i=>(l[i]?.map (f i)).getD 0) l.length with⟨h1,h2⟩ | ⟨k,h1,h2,h3,h4⟩
 ·have:=h1 i hi
  simpa only[hy,Option.map_some,Option.getD_some]using this
 ·unfold A2x at h
  rw[h4]at h
  exact absurd h h3
theorem F0a (d:List TD):B5p d=A2x (C7q d) d:=rfl
def supE (d:List TD) (l:List Str) (k:Nat) (s:Str):Int:=if A5i d s<0 then 5 else if hasS (l.take k) s then 4 else 0
noncomputable def A7w (d:List TD):Int:=A2x (fun _ x=>A2x (supE d x.ss) x.ss) d
def S124 (t:T) (j:Nat):A0b:=⟨[(3,.t (iv (j:Int))),(0,.t t)],[],0,38⟩
def C2n (t u:T) (j k:Nat):A0b:=⟨[(5,.t (iv (k:Int))),(4,.t u),(3,.t (iv (j:Int))),(0,.t t)],[],0,38⟩
theorem D8o {t:T} {d:List TD} (ht:IsS eTD t d) (hd:DOK d):A0y Try.prog G 124 [t] (· = iv (A7w d)):=by
 obtain⟨hdl,hd⟩:=hd
 have gf:∀s,D1p [t,sv s]=some (iv (A5i d s)):=fun s=>B8t ht s (by unfold cap;omega)
 refine C1z.call rfl ?_
 unfold B2s
 refine A0a B1p ?_
 simp -implicitDefEqProofs
 refine A0q (fun _:Unit=>S124 t d.length) (fun _=>A4e (fun _ (x:TD)=>A2x (supE d x.ss) x.ss) d d.length) (fun _=>rfl) ?_ ?_
 ·refine A0a B1p ?_
  simp -implicitDefEqProofs
  refine A0g ?_
  refine A1r (S124 t) (fun j=>d.length-j) (A4e (fun _ (x:TD)=>A2x (supE d x.ss) x.ss) d) 0 (fun _=>rfl) (A4e.zero _ _) ?_ rfl ?_
  ·refine A0d rfl rfl ?_ ?_<;>simp -implicitDefEqProofs [S124]
  ·intro j hc
   by_cases hj:j<d.length
   ·obtain⟨x,hx⟩:∃x,d[j]?=some x:=⟨_,List.getElem?_eq_getElem hj⟩
    have ok:=hd x (List.mem_of_getElem? hx)
    have ia:=ht.iaddr hx .i64
    simp only[eTD,List.cons_append,List.nil_append]at ia
    refine A0a B1p ?_
    simp -implicitDefEqProofs [S124,hj,ht.len]
    refine A0q (fun _:Unit=>C2n t x.supers j x.ss.length) (fun _=>A4e (supE d x.ss) x.ss x.ss.length) (fun _=>rfl) ?_ ?_
    ·refine A0g ?_
     refine A0a B1p ?_
     simp -implicitDefEqProofs [ia,A0h]
     refine A0a B1p ?_
     simp -implicitDefEqProofs
     refine A0g ?_
     refine A1r (C2n t x.supers j) (fun k=>x.ss.length-k) (A4e (supE d x.ss) x.ss) 0 (fun _=>rfl) (A4e.zero _ _) ?_ rfl ?_
     ·refine A0d rfl rfl ?_ ?_<;>simp -implicitDefEqProofs [C2n]
     ·intro k hk
      refine A0c B1p ?_
      have hsl:=ok.ssl
      unfold cap at hsl
      by_cases hkl:k<x.ss.length
      ·obtain⟨s,hs⟩:∃s,x.ss[k]?=some s:=⟨_,List.getElem?_eq_getElem hkl⟩
       have ib:=ok.ss.iaddr hs .i64
       simp only[eStr,List.cons_append,List.nil_append]at ib
       obtain⟨u,hu,hu'⟩:=ok.ss.slice_to (Nat.le_of_lt hkl) .i64
       have hz:eStr.z=1:=rfl
       rw[hz]at hu
       have ga:=A5h hu' s (by rw[List.length_take];unfold cap;omega)
       have e1:IntKind.i64.wrap ((k:Int)+1)=((k+1:Nat):Int):=A0k (by omega) (by omega)
       by_cases z1:A5i d s<0
       ·have hE:supE d x.ss k s=5:=by unfold supE;rw[if_pos z1]
        have h5:=A5j hk hs (by rw[hE];decide)
        have h6:A7w d=5:=by
         have:=A5j (f:=fun _ (x:TD)=>A2x (supE d x.ss) x.ss) hc hx (by rw[h5,hE];decide)
         rw[h5,hE]at this
         exact this
        simp -implicitDefEqProofs [C2n,hkl,ok.ss.len,ib,A0h,tb12,gf,z1,h6]
       ·cases z2:hasS (x.ss.take k) s with
        | true=>
         have hE:supE d x.ss k s=4:=by unfold supE;rw[if_neg z1,if_pos z2]
         have h5:=A5j hk hs (by rw[hE];decide)
         have h6:A7w d=4:=by
          have:=A5j (f:=fun _ (x:TD)=>A2x (supE d x.ss) x.ss) hc hx (by rw[h5,hE];decide)
          rw[h5,hE]at this
          exact this
         simp -implicitDefEqProofs [C2n,hkl,ok.ss.len,ib,hu,A0h,tb12,gf,z1,ga,z2,h6]
        | false=>
         have hE:supE d x.ss k s=0:=by unfold supE;rw[if_neg z1,if_neg (by rw[z2];simp)]
         simp -implicitDefEqProofs [C2n,hkl,ok.ss.len,ib,hu,A0h,tb12,gf,z1,ga,z2,e1]
         exact Next.mk (k+1) ⟨hk.succ hs hE,by omega⟩ (A0d rfl rfl (by simp -implicitDefEqProofs [C2n]) (by simp -implicitDefEqProofs [C2n]))
      ·have hkl':k=x.ss.length:=by have:=hk.1;omega
       simp -implicitDefEqProofs [C2n,hkl,ok.ss.len]
       exact Next.mk () (hkl'▸hk) (A0d rfl rfl (by simp -implicitDefEqProofs [C2n,hkl']) (by simp -implicitDefEqProofs [C2n]))
    ·rintro _ hk
     refine A0c B1p ?_
     have e1:IntKind.i64.wrap ((j:Int)+1)=((j+1:Nat):Int):=A0k (by omega) (by omega)
     simp -implicitDefEqProofs [C2n,e1]
     exact Next.mk (j+1) ⟨hc.succ hx (A4m hk),by omega⟩ (A0d rfl rfl (by simp -implicitDefEqProofs [S124]) (by simp -implicitDefEqProofs [S124]))
   ·have hj':j=d.length:=by have:=hc.1;omega
    refine A0c B1p ?_
    simp -implicitDefEqProofs [S124,hj,ht.len]
    exact Next.mk () (hj'▸hc) (A0d rfl rfl (by simp -implicitDefEqProofs [S124,hj']) (by simp -implicitDefEqProofs [S124]))
 ·rintro _ hc
  refine A0c B1p ?_
  have h6:A7w d=0:=A4m hc
  simp -implicitDefEqProofs [S124,h6]
noncomputable def A9r (x:TD) (l:List Str):Bool:=x.ss.all fun s=>hasS l s
def S138 (x:TD) (u:T) (j:Nat):A0b:=⟨[(5,.t (iv (j:Int))),(2,.ptr 0 0),(1,.t u)],[(0,.cells 123 [.t (sv x.name),.t x.supers,.t x.feats])],1,21⟩
theorem E5e {x:TD} (ok:x.OK) {u:T} {l:List Str} (hu:IsS eStr u l) (hl:l.length<=cap):A0y Try.prog G 138 [.ag [sv x.name,x.supers,x.feats],u] (· = bv (A9r x l)):=by
 refine C5h.call rfl ?_
 unfold B6z
 refine A0a B1p ?_
 simp -implicitDefEqProofs [A0s]
 have hsl:=ok.ssl
 unfold cap at hsl
 refine A0q (fun _:Unit=>S138 x u x.ss.length) (fun _=>A9r x l=true) (fun _=>rfl) ?_ ?_
 ·refine A0a B1p ?_
  simp -implicitDefEqProofs
  refine A0g ?_
  refine A1r (S138 x u) (fun k=>x.ss.length-k) (fun k=>k<=x.ss.length/\∀(i:Nat) s,i<k->x.ss[i]?=some s->hasS l s=true) 0 (fun _=>rfl) ⟨Nat.zero_le _,fun i s h=>by omega⟩ ?_ rfl ?_
  ·refine A0d rfl rfl ?_ ?_<;>simp -implicitDefEqProofs [S138]
  ·rintro k ⟨hk,hg⟩
   refine A0c B1p ?_
   by_cases hkl:k<x.ss.length
   ·obtain⟨s,hs⟩:∃s,x.ss[k]?=some s:=⟨_,List.getElem?_eq_getElem hkl⟩
    have ib:=ok.ss.iaddr hs .i64
    simp only[eStr,List.cons_append,List.nil_append]at ib
    have ga:=A5h hu s hl
    have e1:IntKind.i64.wrap ((k:Int)+1)=((k+1:Nat):Int):=A0k (by omega) (by omega)
    cases z:hasS l s with
    | true=>
     simp -implicitDefEqProofs [S138,hkl,A0h,ok.ss.len,ib,tb12,ga,z,e1]
     refine Next.mk (k+1) ⟨⟨by omega,fun i y hi hy=>?_⟩,by omega⟩ (A0d rfl rfl (by simp -implicitDefEqProofs [S138]) (by simp -implicitDefEqProofs [S138]))
     by_cases e:i=k
     ·subst e;rw[hs]at hy;injection hy with hy;subst hy;exact z
     ·exact hg i y (by omega) hy
    | false=>
     have hr:A9r x l=false:=by
      unfold A9r
      rw[List.all_eq_false]
      exact⟨s,List.mem_of_getElem? hs,by rw[z];simp⟩
     simp -implicitDefEqProofs [S138,hkl,A0h,ok.ss.len,ib,tb12,ga,z,hr]
   ·have hk':k=x.ss.length:=by omega
    simp -implicitDefEqProofs [S138,hkl,A0h,ok.ss.len]
    refine Next.mk () ?_ (A0d rfl rfl (by simp -implicitDefEqProofs [S138,hk']) (by simp -implicitDefEqProofs [S138]))
    unfold A9r
    rw[List.all_eq_true]
    intro s hs
    obtain⟨i,hi,e⟩:=List.getElem_of_mem hs
    exact hg i s (by omega) (by rw[List.getElem?_eq_getElem hi,e])
 ·rintro _ hr
  refine A0c B1p ?_
  simp -implicitDefEqProofs [S138,hr]
end Go.Proofs.Ytbiadmfmjnoecaa
