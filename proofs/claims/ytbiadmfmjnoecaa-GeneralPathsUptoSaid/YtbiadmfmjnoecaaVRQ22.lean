/-
 Auxiliary facts. No statement of the program stands here.
-/
import Derived.Test.YtbiadmfmjnoecaaVRQ20
import Derived.Test.YtbiadmfmjnoecaaVRQ21
import Derived.Test.YtbiadmfmjnoecaaVRQ16
namespace Go.Proofs.Ytbiadmfmjnoecaa
set_option linter.unusedSimpArgs false
set_option linter.unusedVariables false
open Go Go.Abs
abbrev cv (c:UInt8):T:=.v (.int .u8 (c.toNat:Int))
def C8i (c:UInt8):Bool:=decide (48<=c.toNat)&&decide (c.toNat<=57)
def isUp (c:UInt8):Bool:=decide (65<=c.toNat)&&decide (c.toNat<=90)
def E3a (c:UInt8):Bool:=decide (97<=c.toNat)&&decide (c.toNat<=122)
def tChr:Ty UInt8:=⟨fun t c=>t=cv c,fun t a b h h'=>by
 rw[h]at h'
 injection h' with h';injection h' with _ h'
 exact UInt8.toNat_inj.1 (by omega)⟩
theorem D3d (c:UInt8):A0y Try.prog G 143 [cv c] (· = bv (C8i c)):=by
 refine C8f.runs ctx0 rfl ?_
 by_cases h1:48<=c.toNat
 ·have h1':(48:Int)<=(c.toNat:Int):=by omega
  have e:decide ((c.toNat:Int)<=57)=decide (c.toNat<=57):=by congr 1;apply propext;omega
  simp -implicitDefEqProofs [B2h,C8i,h1,h1',e]
 ·have h1':¬(48:Int)<=(c.toNat:Int):=by omega
  simp -implicitDefEqProofs [B2h,C8i,h1,h1']
theorem F1e (c:UInt8):A0y Try.prog G 145 [cv c] (· = bv (isUp c)):=by
 refine C8g.runs ctx0 rfl ?_
 by_cases h1:65<=c.toNat
 ·have h1':(65:Int)<=(c.toNat:Int):=by omega
  have e:decide ((c.toNat:Int)<=90)=decide (c.toNat<=90):=by congr 1;apply propext;omega
  simp -implicitDefEqProofs [B2i,isUp,h1,h1',e]
 ·have h1':¬(65:Int)<=(c.toNat:Int):=by omega
  simp -implicitDefEqProofs [B2i,isUp,h1,h1']
theorem F1f (c:UInt8):A0y Try.prog G 146 [cv c] (· = bv (E3a c)):=by
 refine C8h.runs ctx0 rfl ?_
 by_cases h1:97<=c.toNat
 ·have h1':(97:Int)<=(c.toNat:Int):=by omega
  have e:decide ((c.toNat:Int)<=122)=decide (c.toNat<=122):=by congr 1;apply propext;omega
  simp -implicitDefEqProofs [B2j,E3a,h1,h1',e]
 ·have h1':¬(97:Int)<=(c.toNat:Int):=by omega
  simp -implicitDefEqProofs [B2j,E3a,h1,h1']
noncomputable def gChr (f:UInt8->Bool):List T->Option T:=g1 tChr fun c=>some (bv (f c))
theorem D5d {F:Nat} {f:UInt8->Bool} (h:∀c,A0y Try.prog G F [cv c] (· = bv (f c))):GOK Try.prog G F (gChr f):=
 C4w fun a x r ha hr=>by
  have e:a=cv x:=ha
  injection hr with hr;subst hr;subst e
  exact h x
theorem D5e (f:UInt8->Bool) (c:UInt8):gChr f [cv c]=some (bv (f c)):=C4x (τ:=tChr) rfl
noncomputable def tbc:Tbl:=[(143,gChr C8i),(145,gChr isUp),(146,gChr E3a)]
theorem ctxc:Ctx Try.prog G (orc tbc):=(A1t.cons (D5d D3d) (.cons (D5d F1e) (.cons (D5d F1f) .nil))).ctx A1u
def A9t (big:Bool) (c:UInt8):Bool:=C8i c||decide (c.toNat=45)||(big&&isUp c)||(!big&&E3a c)
theorem F6f (c:UInt8) (big:Bool):A0y Try.prog G 144 [cv c,bv big] (· = bv (A9t big c)):=by
 refine D3c.runs ctxc rfl ?_
 have e45:((c.toNat:Int)==45)=decide (c.toNat=45):=by
  by_cases h:c.toNat=45
  ·rw[h];rfl
  ·rw[decide_eq_false h,beq_eq_false_iff_ne];omega
 have q1:=D5e C8i c
 have q2:=D5e isUp c
 have q3:=D5e E3a c
 cases hd:C8i c<;>cases h4:decide (c.toNat=45)<;>cases big<;>cases hu:isUp c<;>cases hl:E3a c <;>
  simp -implicitDefEqProofs [C2x,tbc,q1,q2,q3,e45,hd,h4,hu,hl,A9t]
noncomputable def tbp:Tbl:=[(143,gChr C8i),(144,g2 tChr F0m fun c b=>some (bv (A9t b c)))]
theorem ctxp:Ctx Try.prog G (orc tbp):=(A1t.cons (D5d D3d) (.cons (A6w fun a b x y r ha hb hr=>by
 have e1:a=cv x:=ha
 have e2:b=bv y:=hb
 injection hr with hr;subst hr;subst e1;subst e2
 exact F6f x y) .nil)).ctx A1u
def A2y (big:Bool) (s:ByteArray):Bool:=
 match s.data.toList with
 | []=>false
 | c::r=>decide (s.size<=32) && !C8i c && !decide (c.toNat=45)&&(c::r).all (A9t big)
def S142 (s:ByteArray) (big:Bool) (j:Nat):A0b:=⟨[(5,.t (iv (j:Int))),(1,.t (bv big)),(0,.t (sv s))],[],0,36⟩
theorem C8j (s:ByteArray) (j:Nat) (c:UInt8) (h:s.data.toList[j]?=some c):D1r (.t (sv s)) (.t (iv (j:Int)))=some (.t (cv c)):=by
 have hj:j<s.data.size:=by
  have:=(List.getElem?_eq_some_iff.1 h).1
  simpa using this
 have:s[j]?=some c:=by
  have h2:s.data[j]?=some c:=by simpa using h
  have h3:j<s.size:=hj
  rw[getElem?_pos s j h3]
  rw[getElem?_pos s.data j hj]at h2
  exact h2
 simp[D1r,this]
theorem F1g (s:ByteArray) (big:Bool) (hs:s.size<=9223372036854775807):A0y Try.prog G 142 [sv s,bv big] (· = bv (A2y big s)):=by
 refine C8e.call rfl ?_
 unfold B8s
 refine A0a ctxp ?_
 simp -implicitDefEqProofs
 have hlen:s.data.toList.length=s.size:=rfl
 cases hl:s.data.toList with
 | nil=>
  rw[hl]at hlen
  have h0:(s.size:Int)<1:=by simp at hlen;omega
  refine A0d ctxp ?_
  simp -implicitDefEqProofs [h0,A2y,hl]
 | cons c r=>
  rw[hl]at hlen
  simp only[List.length_cons]at hlen
  have h0:¬(s.size:Int)<1:=by omega
  have hx0:s.data.toList[0]?=some c:=by rw[hl];rfl
  have i0:=C8j s 0 c hx0
  simp only[Int.natCast_zero]at i0
  have qd:=D5e C8i c
  by_cases h1:32<s.size
  ·have h1':(32:Int)<(s.size:Int):=by omega
   have hz:decide (s.size<=32)=false:=decide_eq_false (by omega)
   refine A0d ctxp ?_
   simp -implicitDefEqProofs [h0,h1,h1',A2y,hl,hz]
  ·have h1':¬(32:Int)<(s.size:Int):=by omega
   have hz:decide (s.size<=32)=true:=decide_eq_true (by omega)
   cases hd:C8i c with
   | true=>
    refine A0d ctxp ?_
    simp -implicitDefEqProofs [h0,h1,h1',i0,tbp,qd,hd,A2y,hl]
   | false=>
    by_cases h4:c.toNat=45
    ·have h4':((c.toNat:Int)==45)=true:=by rw[h4];rfl
     refine A0d ctxp ?_
     simp -implicitDefEqProofs [h0,h1,h1',i0,tbp,qd,hd,h4',A2y,hl,h4]
    ·have h4':((c.toNat:Int)==45)=false:=by rw[beq_eq_false_iff_ne];omega
     refine A0a ctxp ?_
     simp -implicitDefEqProofs [h0,h1,h1',i0,tbp,qd,hd,h4']
     obtain⟨n,hn⟩:∃n,n=s.data.toList.findIdx fun c=>!A9t big c:=⟨_,rfl⟩
     have hle:n<=s.size:=by rw[hn];exact A4o _ _
     have hres:A2y big s=decide (n=s.size):=by
      have:A2y big s=(s.data.toList).all (A9t big):=by
       unfold A2y
       rw[hl]
       simp only[hz,hd,h4,decide_false,Bool.not_false,Bool.true_and]
      rw[this]
      by_cases e:n=s.size
      ·rw[decide_eq_true e,List.all_eq_true]
       intro x hx
       have:=C4b (p:=fun c=>!A9t big c) (l:=s.data.toList) (by rw[<-hn,e];rfl) x hx
       simpa using this
      ·rw[decide_eq_false e,List.all_eq_false]
       obtain⟨x,hx,hp⟩:=A2h (p:=fun c=>!A9t big c) (l:=s.data.toList) (by rw[<-hn];show n<s.size;omega)
       exact⟨x,List.mem_of_getElem? hx,by simpa using hp⟩
     rw[hres]
     refine A0s (fun _:Unit=>S142 s big s.size) (fun _=>n=s.size) (fun _=>rfl) ?_ ?_
     ·refine A0a ctxp ?_
      simp -implicitDefEqProofs
      refine A0h ?_
      refine A1b (S142 s big) n (fun _=>rfl) ?_ rfl ?_ ?_
      ·refine A0c rfl rfl ?_ ?_<;>simp -implicitDefEqProofs [S142]
      ·intro j hj
       refine A0d ctxp ?_
       have hjs:j<s.size:=by omega
       obtain⟨x,hx⟩:∃x,s.data.toList[j]?=some x:=⟨_,List.getElem?_eq_getElem hjs⟩
       have hp:=A2w (p:=fun c=>!A9t big c) (by rw[<-hn];exact hj) hx
       have hp':A9t big x=true:=by simpa using hp
       have e1:IntKind.i64.wrap ((j:Int)+1)=((j+1:Nat):Int):=A0l (by omega) (by omega)
       have q:=A5y (τ:=tChr) (σ:=F0m) (f:=fun c b=>some (bv (A9t b c))) (a:=cv x) (b:=bv big) rfl rfl
       simp -implicitDefEqProofs [S142,hjs,C8j s j x hx,tbp,q,hp',e1]
       refine A0c rfl rfl ?_ ?_<;>simp -implicitDefEqProofs
      ·refine A0d ctxp ?_
       by_cases e:n=s.size
       ·subst e
        simp -implicitDefEqProofs [S142]
        exact Next.mk () trivial (A0c rfl rfl (by simp -implicitDefEqProofs) (by simp -implicitDefEqProofs))
       ·have hjs:n<s.size:=by omega
        obtain⟨x,hx,hp⟩:=A2h (p:=fun c=>!A9t big c) (l:=s.data.toList) (by rw[<-hn];exact hjs)
        rw[<-hn]at hx
        have hp':A9t big x=false:=by simpa using hp
        have q:=A5y (τ:=tChr) (σ:=F0m) (f:=fun c b=>some (bv (A9t b c))) (a:=cv x) (b:=bv big) rfl rfl
        simp -implicitDefEqProofs [S142,hjs,C8j s n x hx,tbp,q,hp',e]
     ·rintro _ e
      refine A0d ctxp ?_
      simp -implicitDefEqProofs [S142,e]
noncomputable def tbn:Tbl:=[(142,g2 tStr F0m fun s b=>if s.size<=9223372036854775807 then some (bv (A2y b s))else none)]
theorem ctxn:Ctx Try.prog G (orc tbn):=(A1t.cons (A6w fun a b x y r ha hb hr=>by
 have e1:a=sv x:=ha
 have e2:b=bv y:=hb
 subst e1;subst e2
 split at hr
 ·rename_i h
  injection hr with hr;subst hr
  exact F1g x y h
 ·cases hr) .nil).ctx A1u
theorem F6g (s:ByteArray) (hs:s.size<=9223372036854775807):A0y Try.prog G 136 [sv s] (· = bv (A2y false s)):=by
 refine D3a.runs ctxn rfl ?_
 have q:=A5y (τ:=tStr) (σ:=F0m) (f:=fun s b=>if s.size<=9223372036854775807 then some (bv (A2y b s))else none) (a:=sv s) (b:=bv false) rfl rfl
 rw[if_pos hs]at q
 simp -implicitDefEqProofs [C2v,tbn,q]
theorem D9e (s:ByteArray) (hs:s.size<=9223372036854775807):A0y Try.prog G 135 [sv s] (· = bv (A2y true s)):=by
 refine C0m.runs ctxn rfl ?_
 have q:=A5y (τ:=tStr) (σ:=F0m) (f:=fun s b=>if s.size<=9223372036854775807 then some (bv (A2y b s))else none) (a:=sv s) (b:=bv true) rfl rfl
 rw[if_pos hs]at q
 simp -implicitDefEqProofs [B2g,tbn,q]
abbrev Str:=ByteArray
def cap:Nat:=1000000000000
def hasS (l:List Str) (s:Str):Bool:=l.any fun x=>decide (x=s)
theorem A6d (l:List Str) (s:Str):hasS l s=true ↔ s∈l:=by
 simp only[hasS,List.any_eq_true,decide_eq_true_eq]
 exact⟨fun⟨x,hx,e⟩=>e▸hx,fun h=>⟨s,h,rfl⟩⟩
def S127 (t:T) (s:Str) (j:Nat):A0b:=⟨[(5,.t (iv (j:Int))),(1,.t (sv s)),(0,.t t)],[],0,18⟩
theorem F1h {t:T} {l:List Str} (ht:IsS eStr t l) (s:Str) (hl:l.length<=cap):A0y Try.prog G 127 [t,sv s] (· = bv (hasS l s)):=by
 unfold cap at hl
 refine C8b.call rfl ?_
 unfold B8p
 refine A0a ctx0 ?_
 simp -implicitDefEqProofs
 obtain⟨n,hn⟩:∃n,n=l.findIdx fun x=>decide (x=s):=⟨_,rfl⟩
 have hle:n<=l.length:=by rw[hn];exact A4o _ _
 have hres:hasS l s=decide (n<l.length):=by
  rw[Bool.eq_iff_iff,A6d,decide_eq_true_eq]
  constructor
  ·intro h
   rcases Nat.lt_or_ge n l.length with h1 | h1
   ·exact h1
   ·have:=C4b (p:=fun x=>decide (x=s)) (l:=l) (by omega) s h
    simp at this
  ·intro h
   obtain⟨x,hx,hp⟩:=A2h (p:=fun x=>decide (x=s)) (l:=l) (by omega)
   have:x=s:=by simpa using hp
   subst this
   exact List.mem_of_getElem? hx
 rw[hres]
 refine A0s (fun _:Unit=>S127 t s l.length) (fun _=>n=l.length) (fun _=>rfl) ?_ ?_
 ·refine A0a ctx0 ?_
  simp -implicitDefEqProofs
  refine A0h ?_
  refine A1b (S127 t s) n (fun _=>rfl) ?_ rfl ?_ ?_
  ·refine A0c rfl rfl ?_ ?_<;>simp -implicitDefEqProofs [S127]
  ·intro j hj
   refine A0d ctx0 ?_
   have hjl:j<l.length:=by omega
   obtain⟨x,hx⟩:∃x,l[j]?=some x:=⟨_,List.getElem?_eq_getElem hjl⟩
   have hp:¬x=s:=by simpa using A2w (p:=fun x=>decide (x=s)) (by rw[<-hn];exact hj) hx
   have e1:IntKind.i64.wrap ((j:Int)+1)=((j+1:Nat):Int):=A0l (by omega) (by omega)
   have ia:=ht.iaddr hx .i64
   simp only[eStr,List.cons_append,List.nil_append]at ia
   simp -implicitDefEqProofs [S127,hjl,ht.len,ia,A0f,A7s,hp,e1]
   refine A0c rfl rfl ?_ ?_<;>simp -implicitDefEqProofs
  ·refine A0d ctx0 ?_
   by_cases e:n=l.length
   ·subst e
    simp -implicitDefEqProofs [S127,ht.len]
    exact Next.mk () trivial (A0c rfl rfl (by simp -implicitDefEqProofs) (by simp -implicitDefEqProofs))
   ·have hjl:n<l.length:=by omega
    obtain⟨x,hx,hp⟩:=A2h (p:=fun x=>decide (x=s)) (l:=l) (by rw[<-hn];exact hjl)
    rw[<-hn]at hx
    have hp':x=s:=by simpa using hp
    have ia:=ht.iaddr hx .i64
    simp only[eStr,List.cons_append,List.nil_append]at ia
    simp -implicitDefEqProofs [S127,hjl,ht.len,ia,A0f,A7s,hp',e]
 ·rintro _ e
  refine A0d ctx0 ?_
  simp -implicitDefEqProofs [S127,e]
noncomputable def B7g:List T->Option T:=g2 (tSl eStr) tStr fun l s=>if l.length<=cap then some (bv (hasS l s))else none
theorem B5u:GOK Try.prog G 127 B7g:=A6w fun a b x y r ha hb hr=>by
 obtain rfl:b=sv y:=hb
 split at hr
 ·rename_i h;injection hr with hr;subst hr;exact F1h ha y h
 ·cases hr
theorem A6e {t:T} {l:List Str} (ht:IsS eStr t l) (s:Str) (hl:l.length<=cap):B7g [t,sv s]=some (bv (hasS l s)):=by
 unfold B7g
 rw[A5y (τ:=tSl eStr) (σ:=tStr) ht rfl,if_pos hl]
def put (l:List Str) (s:Str):List Str:=
 let k:=l.findIdx fun x=>!C0h x s
 if l[k]?=some s then l else l.take k++[s]++l.drop k
def S120 (t:T) (s:Str) (j:Nat):A0b:=⟨[(6,.t (iv (j:Int))),(5,.t nilS),(1,.t (sv s)),(0,.t t)],[],0,48⟩
theorem G2t {t:T} {l:List Str} (ht:IsS eStr t l) (s:Str) (hl:l.length<=cap):A0y Try.prog G 120 [t,sv s] (· = A0k eStr (put l s)):=by
 unfold cap at hl
 refine D9d.call rfl ?_
 unfold C7w
 refine A0a ctx0 ?_
 simp -implicitDefEqProofs
 refine A0a ctx0 ?_
 simp -implicitDefEqProofs
 refine A0a ctx0 ?_
 simp -implicitDefEqProofs
 obtain⟨n,hn⟩:∃n,n=l.findIdx fun x=>!C0h x s:=⟨_,rfl⟩
 have hle:n<=l.length:=by rw[hn];exact A4o _ _
 refine A0s (fun _:Unit=>S120 t s n) (fun _=>True) (fun _=>rfl) ?_ ?_
 ·refine A0h ?_
  refine A1b (S120 t s) n (fun _=>rfl) ?_ rfl ?_ ?_
  ·refine A0c rfl rfl ?_ ?_<;>simp -implicitDefEqProofs [S120]
  ·intro j hj
   refine A0d ctx0 ?_
   have hjl:j<l.length:=by omega
   obtain⟨x,hx⟩:∃x,l[j]?=some x:=⟨_,List.getElem?_eq_getElem hjl⟩
   have hp:C0h x s=true:=by simpa using A2w (p:=fun x=>!C0h x s) (by rw[<-hn];exact hj) hx
   have e1:IntKind.i64.wrap ((j:Int)+1)=((j+1:Nat):Int):=A0l (by omega) (by omega)
   have ia:=ht.iaddr hx .i64
   simp only[eStr,List.cons_append,List.nil_append]at ia
   simp -implicitDefEqProofs [S120,hjl,ht.len,ia,A0f,E6p,hp,e1]
   refine A0c rfl rfl ?_ ?_<;>simp -implicitDefEqProofs
  ·refine A0d ctx0 ?_
   by_cases e:n=l.length
   ·have:¬n<l.length:=by omega
    simp -implicitDefEqProofs [S120,ht.len,this]
    exact Next.mk () trivial (A0c rfl rfl (by simp -implicitDefEqProofs) (by simp -implicitDefEqProofs))
   ·have hjl:n<l.length:=by omega
    obtain⟨x,hx,hp⟩:=A2h (p:=fun x=>!C0h x s) (l:=l) (by rw[<-hn];exact hjl)
    rw[<-hn]at hx
    have hp':C0h x s=false:=by simpa using hp
    have ia:=ht.iaddr hx .i64
    simp only[eStr,List.cons_append,List.nil_append]at ia
    simp -implicitDefEqProofs [S120,hjl,ht.len,ia,A0f,E6p,hp']
    exact Next.mk () trivial (A0c rfl rfl (by simp -implicitDefEqProofs) (by simp -implicitDefEqProofs))
 ·rintro _ -
  by_cases hhit:l[n]?=some s
  ·have hput:put l s=l:=by simp only[put,<-hn,hhit,if_true]
   have hjl:n<l.length:=(List.getElem?_eq_some_iff.1 hhit).1
   have htree:t=A0k eStr l:=by
    rcases ht with⟨_,rfl⟩ | rfl
    ·simp at hjl
    ·cases l with
     | nil=>simp at hjl
     | cons a r=>rfl
   rw[hput]
   have ia:=ht.iaddr hhit .i64
   simp only[eStr,List.cons_append,List.nil_append]at ia
   refine A0d ctx0 ?_
   simp -implicitDefEqProofs [S120,hjl,ht.len,ia,A0f,A7s]
   exact htree
  ·have hput:put l s=l.take n++[s]++l.drop n:=by simp only[put,<-hn,hhit,if_false]
   obtain⟨t1,hs1,h1⟩:=ht.slice_to hle .i64
   obtain⟨t2,hs2,h2⟩:=ht.slice_from hle .i64
   have hsz:eStr.z=1:=rfl
   rw[hsz]at hs1 hs2
   have l1:(l.take n).length=n:=by simp;omega
   have l2:(l.drop n).length=l.length-n:=by simp
   obtain⟨b1,H1,n1,ap1,r1,ne1,_⟩:=A1k (e:=eStr) (ty:=9) (by':=16) (nx:=0) (b:=0) (l:=[]) (m:=l.take n) (A0j.nil _ _ [] _) (A3f h1) (by rw[l1];simp;omega) (by rw[l1];simp;omega)
   rw[List.nil_append]at ap1 r1
   obtain⟨b2,H2,n2,ap2,r2,ne2,_⟩:=A1k (e:=eStr) (ty:=9) (by':=16) (nx:=n1+1) (m:=[s]) (r1.cons (r:=.cells 9 [.t (sv s)]) (Ne.symm ne1)) (A3r (b:=n1) (ty:=9) s (by simp[eStr])) (by rw[l1];simp;omega) (by rw[l1];simp;omega)
   obtain⟨b3,H3,n3,ap3,r3,ne3,_⟩:=A1k (e:=eStr) (ty:=9) (by':=16) (nx:=n2) (m:=l.drop n) r2 (A3f h2) (by simp;omega) (by simp;omega)
   rw[hsz]at ap1 ap2 ap3
   have ap1:appM 9 1 16 [] 0 (.t nilS) (.t t1)=some (rowP eStr b1 (l.take n),H1,n1):=ap1
   rw[<-hput]at ap3 r3
   have bs:A1p 9 1 [.string ⟨#[]⟩] 1 [(0,.t (sv s))] n1=some (.row n1 0 1 1,.cells 9 [.t (sv s)]):=rfl
   have tt:=r3.toT
   refine A0d ctx0 ?_
   by_cases e:n<l.length
   ·obtain⟨x,hx⟩:∃x,l[n]?=some x:=⟨_,List.getElem?_eq_getElem e⟩
    have hxs:¬x=s:=fun h=>hhit (by rw[hx,h])
    have ia:=ht.iaddr hx .i64
    simp only[eStr,List.cons_append,List.nil_append]at ia
    simp -implicitDefEqProofs [S120,e,ht.len,ia,A0f,A7s,hxs,hs1,hs2,ap1,bs,ap2,ap3,tt]
   ·simp -implicitDefEqProofs [S120,e,ht.len,hs1,hs2,ap1,bs,ap2,ap3,tt]
noncomputable def gPut:List T->Option T:=g2 (tSl eStr) tStr fun l s=>if l.length<=cap then some (A0k eStr (put l s))else none
theorem G5x:GOK Try.prog G 120 gPut:=A6w fun a b x y r ha hb hr=>by
 obtain rfl:b=sv y:=hb
 split at hr
 ·rename_i h;injection hr with hr;subst hr;exact G2t ha y h
 ·cases hr
theorem C2y {t:T} {l:List Str} (ht:IsS eStr t l) (s:Str) (hl:l.length<=cap):gPut [t,sv s]=some (A0k eStr (put l s)):=by
 unfold gPut
 rw[A5y (τ:=tSl eStr) (σ:=tStr) ht rfl,if_pos hl]
structure TD where
 name:Str
 supers:T
 feats:T
structure FD where
 feat:Str
 value:Str
def eTD:Enc TD:=⟨3,fun x=>[sv x.name,x.supers,x.feats],fun _=>rfl,by omega,fun a b h=>by
 obtain⟨a1,a2,a3⟩:=a
 obtain⟨b1,b2,b3⟩:=b
 simp at h
 simp[h]⟩
def eFD:Enc FD:=⟨2,fun x=>[sv x.feat,sv x.value],fun _=>rfl,by omega,fun a b h=>by
 obtain⟨a1,a2⟩:=a
 obtain⟨b1,b2⟩:=b
 simp at h
 simp[h]⟩
noncomputable def TD.ss (x:TD):List Str:=((tSl eStr).dec x.supers).getD []
noncomputable def TD.fs (x:TD):List FD:=((tSl eFD).dec x.feats).getD []
structure TD.OK (x:TD):Prop where
 ss:IsS eStr x.supers x.ss
 fs:IsS eFD x.feats x.fs
 ssl:x.ss.length<=cap
 fsl:x.fs.length<=cap
 size:x.name.size<=cap
 fsize:∀f∈x.fs,f.feat.size<=cap
theorem TD.ss_eq {x:TD} {l:List Str} (h:IsS eStr x.supers l):x.ss=l:=by
 have:=Ty.dec_is (τ:=tSl eStr) h
 simp only[TD.ss,this,Option.getD_some]
theorem TD.fs_eq {x:TD} {l:List FD} (h:IsS eFD x.feats l):x.fs=l:=by
 have:=Ty.dec_is (τ:=tSl eFD) h
 simp only[TD.fs,this,Option.getD_some]
def DOK (d:List TD):Prop:=d.length<=300/\∀x∈d,x.OK
def idxOf (d:List TD) (s:Str):Nat:=d.findIdx fun x=>decide (x.name=s)
def A6f (d:List TD) (s:Str):Int:=if idxOf d s<d.length then(idxOf d s:Int)else -1
def A6y (t:T) (s:Str) (j:Nat):A0b:=⟨[(5,.t (iv (j:Int))),(1,.t (sv s)),(0,.t t)],[],0,20⟩
theorem F6h {t:T} {d:List TD} (ht:IsS eTD t d) (s:Str) (hl:d.length<=cap):A0y Try.prog G 137 [t,sv s] (· = iv (A6f d s)):=by
 unfold cap at hl
 refine D3b.call rfl ?_
 unfold C2w
 refine A0a ctx0 ?_
 simp -implicitDefEqProofs
 obtain⟨n,hn⟩:∃n,n=d.findIdx fun x=>decide (x.name=s):=⟨_,rfl⟩
 have hle:n<=d.length:=by rw[hn];exact A4o _ _
 have hres:A6f d s=if n<d.length then(n:Int)else -1:=by rw[hn];rfl
 refine A0s (fun _:Unit=>A6y t s d.length) (fun _=>n=d.length) (fun _=>rfl) ?_ ?_
 ·refine A0a ctx0 ?_
  simp -implicitDefEqProofs
  refine A0h ?_
  refine A1b (A6y t s) n (fun _=>rfl) ?_ rfl ?_ ?_
  ·refine A0c rfl rfl ?_ ?_<;>simp -implicitDefEqProofs [A6y]
  ·intro j hj
   refine A0d ctx0 ?_
   have hjl:j<d.length:=by omega
   obtain⟨x,hx⟩:∃x,d[j]?=some x:=⟨_,List.getElem?_eq_getElem hjl⟩
   have hp:=A2w (p:=fun x=>decide (x.name=s)) (by rw[<-hn];exact hj) hx
   have e1:IntKind.i64.wrap ((j:Int)+1)=((j+1:Nat):Int):=A0l (by omega) (by omega)
   have ia:=ht.iaddr hx .i64
   simp only[eTD,List.cons_append,List.nil_append]at ia
   have hp:¬x.name=s:=by simpa using hp
   simp -implicitDefEqProofs [A6y,hjl,ht.len,ia,A0f,e1,A7s,hp]
   refine A0c rfl rfl ?_ ?_<;>simp -implicitDefEqProofs
  ·refine A0d ctx0 ?_
   by_cases e:n=d.length
   ·have hnl:¬n<d.length:=by omega
    simp -implicitDefEqProofs [A6y,ht.len,hnl]
    exact Next.mk () (by first | exact trivial | exact e) (A0c rfl rfl (by simp -implicitDefEqProofs [e]) (by simp -implicitDefEqProofs))
   ·have hjl:n<d.length:=by omega
    obtain⟨x,hx,hp⟩:=A2h (p:=fun x=>decide (x.name=s)) (l:=d) (by rw[<-hn];exact hjl)
    rw[<-hn]at hx
    have ia:=ht.iaddr hx .i64
    simp only[eTD,List.cons_append,List.nil_append]at ia
    have hp:x.name=s:=by simpa using hp
    simp -implicitDefEqProofs [A6y,hjl,ht.len,ia,A0f,A7s,hp]
    rw[hres,if_pos hjl]
 ·rintro _ e
  refine A0d ctx0 ?_
  simp -implicitDefEqProofs [A6y]
  rw[hres,if_neg (by omega)]
noncomputable def D5f:List T->Option T:=g2 (tSl eTD) tStr fun d s=>if d.length<=cap then some (iv (A6f d s))else none
theorem F6i:GOK Try.prog G 137 D5f:=A6w fun a b x y r ha hb hr=>by
 obtain rfl:b=sv y:=hb
 split at hr
 ·rename_i h;injection hr with hr;subst hr;exact F6h ha y h
 ·cases hr
theorem C0n {t:T} {d:List TD} (ht:IsS eTD t d) (s:Str) (hl:d.length<=cap):D5f [t,sv s]=some (iv (A6f d s)):=by
 unfold D5f
 rw[A5y (τ:=tSl eTD) (σ:=tStr) ht rfl,if_pos hl]
def A2a (d:List TD) (j:Nat):List Str:=(d.take j).foldl (fun out x=>put out x.name) []
def names (d:List TD):List Str:=d.foldl (fun out x=>put out x.name) []
theorem B0j {d:List TD} {j:Nat} {x:TD} (h:d[j]?=some x):A2a d (j+1)=put (A2a d j) x.name:=by
 unfold A2a
 rw[List.take_add_one,h]
 simp[List.foldl_append]
theorem B1a (l:List Str) (s:Str):(put l s).length<=l.length+1:=by
 unfold put
 simp only
 split
 ·omega
 ·simp
  have:=A4o (fun x=>!C0h x s) l
  omega
theorem A7u (d:List TD):∀j,(A2a d j).length<=j
 | 0=>by simp[A2a]
 | j+1=>by
  have ih:=A7u d j
  cases h:d[j]? with
  | none=>
   have:A2a d (j+1)=A2a d j:=by unfold A2a;rw[List.take_add_one,h];simp
   rw[this];omega
  | some x=>
   rw[B0j h]
   have:=B1a (A2a d j) x.name
   omega
noncomputable def tb11:Tbl:=[(120,gPut),(137,D5f),(127,B7g)]
theorem A2m:Ctx Try.prog G (orc tb11):=(A1t.cons G5x (.cons F6i (.cons B5u .nil))).ctx A1u
def S102 (t:T) (d:List TD) (j:Nat):A0b:=⟨[(4,.t (iv (j:Int))),(3,.t (A0k eStr (A2a d j))),(0,.t t)],[],0,19⟩
theorem D3e {t:T} {d:List TD} (ht:IsS eTD t d) (hl:d.length<=cap):A0y Try.prog G 102 [t] (· = A0k eStr (names d)):=by
 unfold cap at hl
 refine C7u.call rfl ?_
 unfold B8j
 refine A0a A2m ?_
 simp -implicitDefEqProofs
 refine A0a A2m ?_
 simp -implicitDefEqProofs
 refine A0s (fun _:Unit=>S102 t d d.length) (fun _=>True) (fun _=>rfl) ?_ ?_
 ·refine A0a A2m ?_
  simp -implicitDefEqProofs
  refine A0h ?_
  refine A1b (S102 t d) d.length (fun _=>rfl) ?_ rfl ?_ ?_
  ·refine A0c rfl rfl ?_ ?_<;>simp -implicitDefEqProofs [S102,A2a,A0k]
  ·intro j hj
   refine A0d A2m ?_
   obtain⟨x,hx⟩:∃x,d[j]?=some x:=⟨_,List.getElem?_eq_getElem hj⟩
   have e1:IntKind.i64.wrap ((j:Int)+1)=((j+1:Nat):Int):=A0l (by omega) (by omega)
   have ia:=ht.iaddr hx .i64
   simp only[eTD,List.cons_append,List.nil_append]at ia
   have hln:=A7u d j
   have gp:=C2y (IsS.tree eStr (A2a d j)) x.name (by unfold cap;omega)
   rw[<-B0j hx]at gp
   simp -implicitDefEqProofs [S102,hj,ht.len,ia,A0f,tb11,gp,e1]
   refine A0c rfl rfl ?_ ?_<;>simp -implicitDefEqProofs
  ·refine A0d A2m ?_
   simp -implicitDefEqProofs [S102,ht.len]
   exact Next.mk () trivial (A0c rfl rfl (by simp -implicitDefEqProofs) (by simp -implicitDefEqProofs))
 ·rintro _ -
  refine A0d A2m ?_
  have:A2a d d.length=names d:=by unfold A2a names;rw[List.take_length]
  simp -implicitDefEqProofs [S102,this]
def B4k (f:Nat->Int):Nat->Int
 | 0=>0
 | n+1=>if B4k f n=0 then f n else B4k f n
theorem A5j (f:Nat->Int):∀n,((∀i,i<n->f i=0)/\B4k f n=0)\/∃k,k<n/\(∀i,i<k->f i=0)/\f k≠0/\B4k f n=f k
 | 0=>.inl ⟨fun i hi=>by omega,rfl⟩
 | n+1=>by
  rcases A5j f n with⟨h1,h2⟩ | ⟨k,h1,h2,h3,h4⟩
  ·simp only[B4k,h2,if_true]
   by_cases h:f n=0
   ·refine .inl ⟨fun i hi=>?_,h⟩
    by_cases e:i=n
    ·subst e;exact h
    ·exact h1 i (by omega)
   ·exact .inr ⟨n,by omega,h1,h,rfl⟩
  ·refine .inr ⟨k,by omega,h2,h3,?_⟩
   simp only[B4k,h4,if_neg h3]
noncomputable def D0s (x:TD):Int:=if 256<x.ss.length\/256<x.fs.length then 7 else 0
noncomputable def A8z (d:List TD):Int:=if 256<d.length then 7 else B4k (fun i=>(d[i]?.map D0s).getD 0) d.length
def S122 (t:T) (j:Nat):A0b:=⟨[(3,.t (iv (j:Int))),(0,.t t)],[],0,29⟩
theorem F1i {t:T} {d:List TD} (ht:IsS eTD t d) (hd:DOK d):A0y Try.prog G 122 [t] (· = iv (A8z d)):=by
 obtain⟨hdl,hd⟩:=hd
 refine C7y.call rfl ?_
 unfold B8m
 refine A0a ctx0 ?_
 simp -implicitDefEqProofs
 by_cases h0:256<d.length
 ·have h0':(256:Int)<(d.length:Int):=by omega
  refine A0d ctx0 ?_
  simp -implicitDefEqProofs [ht.len,h0,h0',A8z]
 ·have h0':¬(256:Int)<(d.length:Int):=by omega
  refine A0a ctx0 ?_
  simp -implicitDefEqProofs [ht.len,h0,h0']
  have hs:A8z d=B4k (fun i=>(d[i]?.map D0s).getD 0) d.length:=by unfold A8z;rw[if_neg h0]
  rw[hs]
  rcases A5j (fun i=>(d[i]?.map D0s).getD 0) d.length with⟨h1,h2⟩ | ⟨k,h1,h2,h3,h4⟩
  ·rw[h2]
   refine A0s (fun _:Unit=>S122 t d.length) (fun _=>True) (fun _=>rfl) ?_ ?_
   ·refine A0a ctx0 ?_
    simp -implicitDefEqProofs
    refine A0h ?_
    refine A1b (S122 t) d.length (fun _=>rfl) ?_ rfl ?_ ?_
    ·refine A0c rfl rfl ?_ ?_<;>simp -implicitDefEqProofs [S122]
    ·intro j hj
     refine A0d ctx0 ?_
     obtain⟨x,hx⟩:∃x,d[j]?=some x:=⟨_,List.getElem?_eq_getElem hj⟩
     have ok:=hd x (List.mem_of_getElem? hx)
     have hz:=h1 j hj
     simp only[hx,Option.map_some,Option.getD_some,D0s]at hz
     have hz':¬(256<x.ss.length\/256<x.fs.length):=fun h=>by rw[if_pos h]at hz;cases hz
     have z1:¬(256:Int)<(x.ss.length:Int):=by omega
     have z2:¬(256:Int)<(x.fs.length:Int):=by omega
     have z1n:¬256<x.ss.length:=by omega
     have z2n:¬256<x.fs.length:=by omega
     have e1:IntKind.i64.wrap ((j:Int)+1)=((j+1:Nat):Int):=A0l (by omega) (by omega)
     have ia:=ht.iaddr hx .i64
     simp only[eTD,List.cons_append,List.nil_append]at ia
     simp -implicitDefEqProofs [S122,hj,ht.len,ia,A0f,ok.ss.len,ok.fs.len,z1,z2,z1n,z2n,e1]
     refine A0c rfl rfl ?_ ?_<;>simp -implicitDefEqProofs
    ·refine A0d ctx0 ?_
     simp -implicitDefEqProofs [S122,ht.len]
     exact Next.mk () trivial (A0c rfl rfl (by simp -implicitDefEqProofs) (by simp -implicitDefEqProofs))
   ·rintro _ -
    refine A0d ctx0 ?_
    simp -implicitDefEqProofs [S122]
  ·refine A0s (fun _:Unit=>S122 t d.length) (fun _=>False) (fun _=>rfl) ?_ ?_
   ·refine A0a ctx0 ?_
    simp -implicitDefEqProofs
    refine A0h ?_
    refine A1b (S122 t) k (fun _=>rfl) ?_ rfl ?_ ?_
    ·refine A0c rfl rfl ?_ ?_<;>simp -implicitDefEqProofs [S122]
    ·intro j hjk
     refine A0d ctx0 ?_
     have hj:j<d.length:=by omega
     obtain⟨x,hx⟩:∃x,d[j]?=some x:=⟨_,List.getElem?_eq_getElem hj⟩
     have ok:=hd x (List.mem_of_getElem? hx)
     have hz:=h2 j hjk
     simp only[hx,Option.map_some,Option.getD_some,D0s]at hz
     have hz':¬(256<x.ss.length\/256<x.fs.length):=fun h=>by rw[if_pos h]at hz;cases hz
     have z1:¬(256:Int)<(x.ss.length:Int):=by omega
     have z2:¬(256:Int)<(x.fs.length:Int):=by omega
     have z1n:¬256<x.ss.length:=by omega
     have z2n:¬256<x.fs.length:=by omega
     have e1:IntKind.i64.wrap ((j:Int)+1)=((j+1:Nat):Int):=A0l (by omega) (by omega)
     have ia:=ht.iaddr hx .i64
     simp only[eTD,List.cons_append,List.nil_append]at ia
     simp -implicitDefEqProofs [S122,hj,ht.len,ia,A0f,ok.ss.len,ok.fs.len,z1,z2,z1n,z2n,e1]
     refine A0c rfl rfl ?_ ?_<;>simp -implicitDefEqProofs
    ·refine A0d ctx0 ?_
     obtain⟨x,hx⟩:∃x,d[k]?=some x:=⟨_,List.getElem?_eq_getElem h1⟩
     have ok:=hd x (List.mem_of_getElem? hx)
     simp only[hx,Option.map_some,Option.getD_some,D0s]at h3 h4
     have hz':256<x.ss.length\/256<x.fs.length:=Classical.byContradiction fun h=>h3 (if_neg h)
     rw[if_pos hz']at h4
     have ia:=ht.iaddr hx .i64
     simp only[eTD,List.cons_append,List.nil_append]at ia
     rw[h4]
     by_cases z1n:256<x.ss.length
     ·have z1:(256:Int)<(x.ss.length:Int):=by omega
      simp -implicitDefEqProofs [S122,h1,ht.len,ia,A0f,ok.ss.len,ok.fs.len,z1,z1n]
     ·have z2n:256<x.fs.length:=by omega
      have z1:¬(256:Int)<(x.ss.length:Int):=by omega
      have z2:(256:Int)<(x.fs.length:Int):=by omega
      simp -implicitDefEqProofs [S122,h1,ht.len,ia,A0f,ok.ss.len,ok.fs.len,z1,z2,z1n,z2n]
   ·rintro _ h
    exact h.elim
def D0t (d:List TD) (i:Nat) (x:TD):Int:=if A2y false x.name=false then 1 else if A6f d x.name<(i:Int)then 4 else 0
def B7h (d:List TD):Int:=B4k (fun i=>(d[i]?.map (D0t d i)).getD 0) d.length
noncomputable def G2u:List T->Option T:=g1 tStr fun s=>if s.size<=9223372036854775807 then some (bv (A2y false s))else none
theorem G2v:GOK Try.prog G 136 G2u:=C4w fun a x r ha hr=>by
 obtain rfl:a=sv x:=ha
 split at hr
 ·rename_i h;injection hr with hr;subst hr;exact F6g x h
 ·cases hr
theorem E6z (s:Str) (h:s.size<=cap):G2u [sv s]=some (bv (A2y false s)):=by
 unfold G2u
 rw[C4x (τ:=tStr) rfl,if_pos (by unfold cap at h;omega)]
noncomputable def tb12:Tbl:=[(136,G2u),(137,D5f),(127,B7g)]
theorem B3d:Ctx Try.prog G (orc tb12):=(A1t.cons G2v (.cons F6i (.cons B5u .nil))).ctx A1u
def S123 (t:T) (j:Nat):A0b:=⟨[(3,.t (iv (j:Int))),(0,.t t)],[],0,26⟩
theorem E3b {t:T} {d:List TD} (ht:IsS eTD t d) (hd:DOK d):A0y Try.prog G 123 [t] (· = iv (B7h d)):=by
 obtain⟨hdl,hd⟩:=hd
 refine C7z.call rfl ?_
 unfold B8n
 refine A0a B3d ?_
 simp -implicitDefEqProofs
 have gf:∀s,D5f [t,sv s]=some (iv (A6f d s)):=fun s=>C0n ht s (by unfold cap;omega)
 obtain⟨n,E,hn,hgood,hE⟩:∃(n:Nat) (E:Int),n<=d.length/\(∀j x,j<n->d[j]?=some x->D0t d j x=0)/\B7h d=E/\((n=d.length/\E=0)\/∃x,d[n]?=some x/\D0t d n x=E/\E≠0):=by
  rcases A5j (fun i=>(d[i]?.map (D0t d i)).getD 0) d.length with⟨h1,h2⟩ | ⟨k,h1,h2,h3,h4⟩
  ·refine⟨d.length,0,Nat.le_refl _,fun j x hj hx=>?_,h2,.inl ⟨rfl,rfl⟩⟩
   have:=h1 j hj
   simpa only[hx,Option.map_some,Option.getD_some]using this
  ·obtain⟨x,hx⟩:∃x,d[k]?=some x:=⟨_,List.getElem?_eq_getElem h1⟩
   refine⟨k,D0t d k x,by omega,fun j y hj hy=>?_,?_,.inr ⟨x,hx,rfl,?_⟩⟩
   ·have:=h2 j hj
    simpa only[hy,Option.map_some,Option.getD_some]using this
   ·show B4k _ _=_
    rw[h4]
    simp only[hx,Option.map_some,Option.getD_some]
   ·simpa only[hx,Option.map_some,Option.getD_some]using h3
 rw[hE.1]
 refine A0s (fun _:Unit=>S123 t d.length) (fun _=>n=d.length/\E=0) (fun _=>rfl) ?_ ?_
 ·refine A0a B3d ?_
  simp -implicitDefEqProofs
  refine A0h ?_
  refine A1b (S123 t) n (fun _=>rfl) ?_ rfl ?_ ?_
  ·refine A0c rfl rfl ?_ ?_<;>simp -implicitDefEqProofs [S123]
  ·intro j hj
   refine A0d B3d ?_
   have hjl:j<d.length:=by omega
   obtain⟨x,hx⟩:∃x,d[j]?=some x:=⟨_,List.getElem?_eq_getElem hjl⟩
   have ok:=hd x (List.mem_of_getElem? hx)
   have hz:=hgood j x hj hx
   unfold D0t at hz
   have z1:A2y false x.name=true:=by
    cases h:A2y false x.name with
    | true=>rfl
    | false=>rw[if_pos h]at hz;cases hz
   have z2:¬A6f d x.name<(j:Int):=fun h=>by rw[if_neg (by rw[z1];simp),if_pos h]at hz;cases hz
   have gn:=E6z x.name ok.size
   have e1:IntKind.i64.wrap ((j:Int)+1)=((j+1:Nat):Int):=A0l (by omega) (by omega)
   have ia:=ht.iaddr hx .i64
   simp only[eTD,List.cons_append,List.nil_append]at ia
   simp -implicitDefEqProofs [S123,hjl,ht.len,ia,A0f,tb12,gn,gf,z1,z2,e1]
   refine A0c rfl rfl ?_ ?_<;>simp -implicitDefEqProofs
  ·refine A0d B3d ?_
   rcases hE.2 with⟨e,e0⟩ | ⟨x,hx,hz,hne⟩
   ·have hnl:¬n<d.length:=by omega
    simp -implicitDefEqProofs [S123,ht.len,hnl]
    exact Next.mk () ⟨e,e0⟩ (A0c rfl rfl (by simp -implicitDefEqProofs [e]) (by simp -implicitDefEqProofs))
   ·have hjl:n<d.length:=(List.getElem?_eq_some_iff.1 hx).1
    have ok:=hd x (List.mem_of_getElem? hx)
    have gn:=E6z x.name ok.size
    have ia:=ht.iaddr hx .i64
    simp only[eTD,List.cons_append,List.nil_append]at ia
    unfold D0t at hz
    cases z1:A2y false x.name with
    | false=>
     rw[if_pos z1]at hz
     simp -implicitDefEqProofs [S123,hjl,ht.len,ia,A0f,tb12,gn,z1,<-hz]
    | true=>
     rw[if_neg (by rw[z1];simp)]at hz
     have z2:A6f d x.name<(n:Int):=Classical.byContradiction fun h=>hne (by rw[<-hz,if_neg h])
     rw[if_pos z2]at hz
     simp -implicitDefEqProofs [S123,hjl,ht.len,ia,A0f,tb12,gn,gf,z1,z2,<-hz]
 ·rintro _ ⟨e,e0⟩
  refine A0d B3d ?_
  simp -implicitDefEqProofs [S123,e0]
def A3j {α:Type} (f:Nat->α->Int) (l:List α):Int:=B4k (fun i=>(l[i]?.map (f i)).getD 0) l.length
def A4t {α:Type} (f:Nat->α->Int) (l:List α) (j:Nat):Prop:=j<=l.length/\∀(i:Nat) y,i<j->l[i]?=some y->f i y=0
theorem A4t.zero {α:Type} (f:Nat->α->Int) (l:List α):A4t f l 0:=⟨Nat.zero_le _,fun i y h=>by omega⟩
theorem A4t.succ {α:Type} {f:Nat->α->Int} {l:List α} {j:Nat} {x:α} (h:A4t f l j) (hx:l[j]?=some x) (hz:f j x=0):A4t f l (j+1):=by
 have hj:=(List.getElem?_eq_some_iff.1 hx).1
 refine⟨by omega,fun i y hi hy=>?_⟩
 by_cases e:i=j
 ·subst e;rw[hx]at hy;injection hy with hy;subst hy;exact hz
 ·exact h.2 i y (by omega) hy
theorem A6g {α:Type} {f:Nat->α->Int} {l:List α} {j:Nat} {x:α} (h:A4t f l j) (hx:l[j]?=some x) (hz:f j x≠0):A3j f l=f j x:=by
 have hj:=(List.getElem?_eq_some_iff.1 hx).1
 rcases A5j (fun i=>(l[i]?.map (f i)).getD 0) l.length with⟨h1,h2⟩ | ⟨k,h1,h2,h3,h4⟩
 ·have:=h1 j hj
  simp only[hx,Option.map_some,Option.getD_some]at this
  exact absurd this hz
 ·have e:k=j:=by
   rcases Nat.lt_trichotomy k j with h' | h' | h'
   ·obtain⟨y,hy⟩:∃y,l[k]?=some y:=⟨_,List.getElem?_eq_getElem h1⟩
    have:=h.2 k y h' hy
    simp only[hy,Option.map_some,Option.getD_some]at h3
    exact absurd this h3
   ·exact h'
   ·have:=h2 j h'
    simp only[hx,Option.map_some,Option.getD_some]at this
    exact absurd this hz
  subst e
  unfold A3j
  rw[h4]
  simp only[hx,Option.map_some,Option.getD_some]
theorem A5g {α:Type} {f:Nat->α->Int} {l:List α} (h:A4t f l l.length):A3j f l=0:=by
 rcases A5j (fun i=>(l[i]?.map (f i)).getD 0) l.length with⟨h1,h2⟩ | ⟨k,h1,h2,h3,h4⟩
 ·exact h2
 ·obtain⟨y,hy⟩:∃y,l[k]?=some y:=⟨_,List.getElem?_eq_getElem h1⟩
  have:=h.2 k y h1 hy
  simp only[hy,Option.map_some,Option.getD_some]at h3
  exact absurd this h3
theorem A3u {α:Type} {f:Nat->α->Int} {l:List α} (h:A3j f l=0):A4t f l l.length:=by
 refine⟨Nat.le_refl _,fun i y hi hy=>?_⟩
 rcases A5j (fun i=>(l[i]?.map (f i)).getD 0) l.length with⟨h1,h2⟩ | ⟨k,h1,h2,h3,h4⟩
 ·have:=h1 i hi
  simpa only[hy,Option.map_some,Option.getD_some]using this
 ·unfold A3j at h
  rw[h4]at h
  exact absurd h h3
theorem F6j (d:List TD):B7h d=A3j (D0t d) d:=rfl
def supE (d:List TD) (l:List Str) (k:Nat) (s:Str):Int:=if A6f d s<0 then 5 else if hasS (l.take k) s then 4 else 0
noncomputable def A9a (d:List TD):Int:=A3j (fun _ x=>A3j (supE d x.ss) x.ss) d
def S124 (t:T) (j:Nat):A0b:=⟨[(3,.t (iv (j:Int))),(0,.t t)],[],0,38⟩
def C4z (t u:T) (j k:Nat):A0b:=⟨[(5,.t (iv (k:Int))),(4,.t u),(3,.t (iv (j:Int))),(0,.t t)],[],0,38⟩
theorem E3c {t:T} {d:List TD} (ht:IsS eTD t d) (hd:DOK d):A0y Try.prog G 124 [t] (· = iv (A9a d)):=by
 obtain⟨hdl,hd⟩:=hd
 have gf:∀s,D5f [t,sv s]=some (iv (A6f d s)):=fun s=>C0n ht s (by unfold cap;omega)
 refine C4i.call rfl ?_
 unfold B4i
 refine A0a B3d ?_
 simp -implicitDefEqProofs
 refine A0s (fun _:Unit=>S124 t d.length) (fun _=>A4t (fun _ (x:TD)=>A3j (supE d x.ss) x.ss) d d.length) (fun _=>rfl) ?_ ?_
 ·refine A0a B3d ?_
  simp -implicitDefEqProofs
  refine A0h ?_
  refine A2o (S124 t) (fun j=>d.length-j) (A4t (fun _ (x:TD)=>A3j (supE d x.ss) x.ss) d) 0 (fun _=>rfl) (A4t.zero _ _) ?_ rfl ?_
  ·refine A0c rfl rfl ?_ ?_<;>simp -implicitDefEqProofs [S124]
  ·intro j hc
   by_cases hj:j<d.length
   ·obtain⟨x,hx⟩:∃x,d[j]?=some x:=⟨_,List.getElem?_eq_getElem hj⟩
    have ok:=hd x (List.mem_of_getElem? hx)
    have ia:=ht.iaddr hx .i64
    simp only[eTD,List.cons_append,List.nil_append]at ia
    refine A0a B3d ?_
    simp -implicitDefEqProofs [S124,hj,ht.len]
    refine A0s (fun _:Unit=>C4z t x.supers j x.ss.length) (fun _=>A4t (supE d x.ss) x.ss x.ss.length) (fun _=>rfl) ?_ ?_
    ·refine A0h ?_
     refine A0a B3d ?_
     simp -implicitDefEqProofs [ia,A0f]
     refine A0a B3d ?_
     simp -implicitDefEqProofs
     refine A0h ?_
     refine A2o (C4z t x.supers j) (fun k=>x.ss.length-k) (A4t (supE d x.ss) x.ss) 0 (fun _=>rfl) (A4t.zero _ _) ?_ rfl ?_
     ·refine A0c rfl rfl ?_ ?_<;>simp -implicitDefEqProofs [C4z]
     ·intro k hk
      refine A0d B3d ?_
      have hsl:=ok.ssl
      unfold cap at hsl
      by_cases hkl:k<x.ss.length
      ·obtain⟨s,hs⟩:∃s,x.ss[k]?=some s:=⟨_,List.getElem?_eq_getElem hkl⟩
       have ib:=ok.ss.iaddr hs .i64
       simp only[eStr,List.cons_append,List.nil_append]at ib
       obtain⟨u,hu,hu'⟩:=ok.ss.slice_to (Nat.le_of_lt hkl) .i64
       have hz:eStr.z=1:=rfl
       rw[hz]at hu
       have ga:=A6e hu' s (by rw[List.length_take];unfold cap;omega)
       have e1:IntKind.i64.wrap ((k:Int)+1)=((k+1:Nat):Int):=A0l (by omega) (by omega)
       by_cases z1:A6f d s<0
       ·have hE:supE d x.ss k s=5:=by unfold supE;rw[if_pos z1]
        have h5:=A6g hk hs (by rw[hE];decide)
        have h6:A9a d=5:=by
         have:=A6g (f:=fun _ (x:TD)=>A3j (supE d x.ss) x.ss) hc hx (by rw[h5,hE];decide)
         rw[h5,hE]at this
         exact this
        simp -implicitDefEqProofs [C4z,hkl,ok.ss.len,ib,A0f,tb12,gf,z1,h6]
       ·cases z2:hasS (x.ss.take k) s with
        | true=>
         have hE:supE d x.ss k s=4:=by unfold supE;rw[if_neg z1,if_pos z2]
         have h5:=A6g hk hs (by rw[hE];decide)
         have h6:A9a d=4:=by
          have:=A6g (f:=fun _ (x:TD)=>A3j (supE d x.ss) x.ss) hc hx (by rw[h5,hE];decide)
          rw[h5,hE]at this
          exact this
         simp -implicitDefEqProofs [C4z,hkl,ok.ss.len,ib,hu,A0f,tb12,gf,z1,ga,z2,h6]
        | false=>
         have hE:supE d x.ss k s=0:=by unfold supE;rw[if_neg z1,if_neg (by rw[z2];simp)]
         simp -implicitDefEqProofs [C4z,hkl,ok.ss.len,ib,hu,A0f,tb12,gf,z1,ga,z2,e1]
         exact Next.mk (k+1) ⟨hk.succ hs hE,by omega⟩ (A0c rfl rfl (by simp -implicitDefEqProofs [C4z]) (by simp -implicitDefEqProofs [C4z]))
      ·have hkl':k=x.ss.length:=by have:=hk.1;omega
       simp -implicitDefEqProofs [C4z,hkl,ok.ss.len]
       exact Next.mk () (hkl'▸hk) (A0c rfl rfl (by simp -implicitDefEqProofs [C4z,hkl']) (by simp -implicitDefEqProofs [C4z]))
    ·rintro _ hk
     refine A0d B3d ?_
     have e1:IntKind.i64.wrap ((j:Int)+1)=((j+1:Nat):Int):=A0l (by omega) (by omega)
     simp -implicitDefEqProofs [C4z,e1]
     exact Next.mk (j+1) ⟨hc.succ hx (A5g hk),by omega⟩ (A0c rfl rfl (by simp -implicitDefEqProofs [S124]) (by simp -implicitDefEqProofs [S124]))
   ·have hj':j=d.length:=by have:=hc.1;omega
    refine A0d B3d ?_
    simp -implicitDefEqProofs [S124,hj,ht.len]
    exact Next.mk () (hj'▸hc) (A0c rfl rfl (by simp -implicitDefEqProofs [S124,hj']) (by simp -implicitDefEqProofs [S124]))
 ·rintro _ hc
  refine A0d B3d ?_
  have h6:A9a d=0:=A5g hc
  simp -implicitDefEqProofs [S124,h6]
noncomputable def B1b (x:TD) (l:List Str):Bool:=x.ss.all fun s=>hasS l s
def S138 (x:TD) (u:T) (j:Nat):A0b:=⟨[(5,.t (iv (j:Int))),(2,.ptr 0 0),(1,.t u)],[(0,.cells 123 [.t (sv x.name),.t x.supers,.t x.feats])],1,21⟩
theorem F1j {x:TD} (ok:x.OK) {u:T} {l:List Str} (hu:IsS eStr u l) (hl:l.length<=cap):A0y Try.prog G 138 [.ag [sv x.name,x.supers,x.feats],u] (· = bv (B1b x l)):=by
 refine C8c.call rfl ?_
 unfold B8q
 refine A0a B3d ?_
 simp -implicitDefEqProofs [A0w]
 have hsl:=ok.ssl
 unfold cap at hsl
 refine A0s (fun _:Unit=>S138 x u x.ss.length) (fun _=>B1b x l=true) (fun _=>rfl) ?_ ?_
 ·refine A0a B3d ?_
  simp -implicitDefEqProofs
  refine A0h ?_
  refine A2o (S138 x u) (fun k=>x.ss.length-k) (fun k=>k<=x.ss.length/\∀(i:Nat) s,i<k->x.ss[i]?=some s->hasS l s=true) 0 (fun _=>rfl) ⟨Nat.zero_le _,fun i s h=>by omega⟩ ?_ rfl ?_
  ·refine A0c rfl rfl ?_ ?_<;>simp -implicitDefEqProofs [S138]
  ·rintro k ⟨hk,hg⟩
   refine A0d B3d ?_
   by_cases hkl:k<x.ss.length
   ·obtain⟨s,hs⟩:∃s,x.ss[k]?=some s:=⟨_,List.getElem?_eq_getElem hkl⟩
    have ib:=ok.ss.iaddr hs .i64
    simp only[eStr,List.cons_append,List.nil_append]at ib
    have ga:=A6e hu s hl
    have e1:IntKind.i64.wrap ((k:Int)+1)=((k+1:Nat):Int):=A0l (by omega) (by omega)
    cases z:hasS l s with
    | true=>
     simp -implicitDefEqProofs [S138,hkl,A0f,ok.ss.len,ib,tb12,ga,z,e1]
     refine Next.mk (k+1) ⟨⟨by omega,fun i y hi hy=>?_⟩,by omega⟩ (A0c rfl rfl (by simp -implicitDefEqProofs [S138]) (by simp -implicitDefEqProofs [S138]))
     by_cases e:i=k
     ·subst e;rw[hs]at hy;injection hy with hy;subst hy;exact z
     ·exact hg i y (by omega) hy
    | false=>
     have hr:B1b x l=false:=by
      unfold B1b
      rw[List.all_eq_false]
      exact⟨s,List.mem_of_getElem? hs,by rw[z];simp⟩
     simp -implicitDefEqProofs [S138,hkl,A0f,ok.ss.len,ib,tb12,ga,z,hr]
   ·have hk':k=x.ss.length:=by omega
    simp -implicitDefEqProofs [S138,hkl,A0f,ok.ss.len]
    refine Next.mk () ?_ (A0c rfl rfl (by simp -implicitDefEqProofs [S138,hk']) (by simp -implicitDefEqProofs [S138]))
    unfold B1b
    rw[List.all_eq_true]
    intro s hs
    obtain⟨i,hi,e⟩:=List.getElem_of_mem hs
    exact hg i s (by omega) (by rw[List.getElem?_eq_getElem hi,e])
 ·rintro _ hr
  refine A0d B3d ?_
  simp -implicitDefEqProofs [S138,hr]
end Go.Proofs.Ytbiadmfmjnoecaa
