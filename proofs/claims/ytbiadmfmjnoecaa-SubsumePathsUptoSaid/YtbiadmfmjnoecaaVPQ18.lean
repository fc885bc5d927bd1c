/-
 Auxiliary facts. No statement of the program stands here.
-/
import Derived.Test.YtbiadmfmjnoecaaVPQ14
namespace Go.Proofs.Ytbiadmfmjnoecaa
set_option linter.unusedSimpArgs false
set_option linter.unusedVariables false
open Go Go.Abs
theorem E9j {b:T} {l:List W} (hb:decB b=some l) (i:Nat):A0y Try.prog G 116 [b,.v (.int .i64 (i:Int))] (· = uv (wd l i)):=by
 by_cases hi:i<l.length
 ·have hx:l[i]?=some (wd l i):=by simp[wd,hi]
  refine B9z.runs ctx0 rfl ?_
  simp -implicitDefEqProofs [B4a,A1y hb,A2c hb,A2h _ hx,hi]
 ·refine B9z.runs ctx0 rfl ?_
  have hw:wd l i=0:=by simp[wd,hi]
  simp -implicitDefEqProofs [B4a,A1y hb,hi,hw,uv]
theorem F4t:GOK Try.prog G 116 D4g:=by
 intro args r h
 unfold D4g at h
 split at h
 ·split at h
  ·rename_i i l hl
   split at h
   ·rename_i h0
    injection h with h;subst h
    obtain⟨n,rfl⟩:=Int.eq_ofNat_of_zero_le h0
    exact E9j hl n
   ·cases h
  ·cases h
 ·cases h
theorem D4m {t:T} {l:List W} (hb:decB t=some l) (hl:l.length<=1000):A0y Try.prog G 117 [t] (· = encB (A1z l)):=by
 refine C1q.call rfl ?_
 unfold B2f
 refine A0a ctx0 ?_
 simp -implicitDefEqProofs
 refine A0a ctx0 ?_
 simp -implicitDefEqProofs [A1y hb]
 refine A0q (Sn 23 t) (fun a=>a<=l.length/\A1z l=l.take a) (fun _=>rfl) ?_ ?_
 ·refine A0g ?_
  refine A1r (Sn 23 t) id (fun a=>a<=l.length/\A1z (l.take a)=A1z l) l.length (fun _=>rfl) ⟨Nat.le_refl _,by simp⟩ ?_ rfl ?_
  ·refine A0d rfl rfl ?_ ?_<;>simp -implicitDefEqProofs [Sn]
  ·rintro a ⟨ha,hn⟩
   refine A0c ctx0 ?_
   cases a with
   | zero=>
    simp -implicitDefEqProofs [Sn]
    refine Next.mk 0 ?_ (A0d rfl rfl ?_ ?_)
    ·exact⟨by omega,by rw[<-hn];simp[A1z]⟩
    all_goals simp -implicitDefEqProofs [Sn]
   | succ a=>
    have e1:IntKind.i64.wrap (a:Int)=(a:Int):=A8f (by omega) (by omega)
    obtain⟨x,hx⟩:∃x,l[a]?=some x:=⟨_,List.getElem?_eq_getElem (by omega)⟩
    have ha':a<l.length:=by omega
    by_cases h0:x=0
    ·subst h0
     simp -implicitDefEqProofs [Sn,e1,A2c hb,A2h _ hx,ha',uv]
     refine Next.mk a ?_ (A0d rfl rfl ?_ ?_)
     ·exact⟨⟨by omega,by rw[<-hn,C8y ha' hx]⟩,by simp⟩
     all_goals simp -implicitDefEqProofs [Sn]
    ·have h0':((x.toNat:Int)==0)=false:=by
      rw[beq_eq_false_iff_ne]
      exact fun h=>h0 (BitVec.eq_of_toNat_eq (by simpa using h))
     simp -implicitDefEqProofs [Sn,e1,A2c hb,A2h _ hx,ha',uv,h0']
     refine Next.mk (a+1) ?_ (A0d rfl rfl ?_ ?_)
     ·exact⟨by omega,by rw[<-hn,C8z hx h0]⟩
     all_goals simp -implicitDefEqProofs [Sn]
 ·rintro a ⟨ha,hn⟩
  refine A0c ctx0 ?_
  have b1:a*8<=140737488355328:=by omega
  have b2:a<=9223372036854775807:=by omega
  rcases B4b hb with⟨rfl,rfl⟩ | rfl
  ·have:a=0:=by simpa using ha
   subst this
   simp -implicitDefEqProofs [Sn,nilT,A1l,A4w,A6s,A3s,srcP,appM,encB,hn]
  ·have tk:allT (List.take a (l.map (PV.t∘uv)))=some (List.take a (l.map uv)):=by rw[<-allT_map_t,List.map_take,List.map_map]
   simp -implicitDefEqProofs [Sn,A1l,A4w,A6s,A3s,srcP,appM,encB,hn,ha,b1,b2,List.take_take,tk]
def gRN:List T->Option T
 | [t]=>match decB t with
  | some l=>if l.length<=1000 then some (encB (A1z l))else none
  | none=>none
 | _=>none
theorem C9k:GOK Try.prog G 117 gRN:=by
 intro args r h
 unfold gRN at h
 split at h
 ·split at h
  ·rename_i l hl
   split at h
   ·rename_i hlt
    injection h with h;subst h
    exact D4m hl hlt
   ·cases h
  ·cases h
 ·cases h
theorem E9k (l:List W) (n:Nat) (hn:n=l.length) (h:l.length<=1000):gRN [.sl n (l.map uv)]=some (encB (A1z l)):=by
 subst hn
 have:=A1g l
 unfold encB at this
 simp[gRN,this,h]
def tb2:Tbl:=[(117,gRN),(116,D4g)]
theorem ctx2:Ctx Try.prog G (orc tb2):=(A1q.cons C9k (A1q.cons F4t A1q.nil)).ctx A1w
def upTo (f:Nat->W) (n:Nat):List W:=(List.range n).map f
theorem C4r (f:Nat->W) (n:Nat):upTo f (n+1)=upTo f n++[f n]:=by simp[upTo,List.range_succ]
theorem A3g (f:Nat->W) (n:Nat):(upTo f n).length=n:=by simp[upTo]
def D4n:Nat->PV
 | 0=>.t (.v (.slice none 0 0))
 | k+1=>.row (2*k+1) 0 (k+1) 1
def B5h (f:Nat->W):Nat->Heap
 | 0=>[]
 | k+1=>[(2*k+1,.cells 142 ((upTo f (k+1)).map tw))]
def E9l (f:Nat->W):Nat->T
 | 0=>.v (.slice none 0 0)
 | k+1=>.sl (k+1) ((upTo f (k+1)).map uv)
def F7i:Nat->List Nat
 | 0=>[]
 | k+1=>[2*k+1]
theorem G1h (f:Nat->W) (j:Nat) (hj:j<=1000):appM 142 1 8 ((2*j,.cells 142 [.t (uv (f j))])::B5h f j) (2*j+1) (D4n j) (.row (2*j) 0 1 1)=some (D4n (j+1),B5h f (j+1)++[(2*j,.cells 142 [.t (uv (f j))])],2*(j+1)):=by
 cases j with
 | zero=>simp[appM,srcP,B5h,D4n,upTo,tw]
 | succ k=>
  have b1:(k+1+1)*8<=140737488355328:=by omega
  have b2:k+1+1<=9223372036854775807:=by omega
  have e:2*(k+1)=2*k+2:=by omega
  simp[appM,srcP,B5h,D4n,A3g,b1,b2,e,C4r,tw]
  omega
theorem G1i (f:Nat->W) (n:Nat):toT (B5h f n) (D4n n)=some (E9l f n,F7i n):=by
 cases n with
 | zero=>rfl
 | succ k=>
  have tk:List.take (k+1) ((upTo f (k+1)).map tw)=(upTo f (k+1)).map tw:=List.take_of_length_le (by simp[A3g])
  simp[B5h,D4n,E9l,F7i,A3g,tk,E9e]
theorem G1j (f:Nat->W) (n:Nat) (h:n<=1000):gRN [E9l f n]=some (encB (A1z (upTo f n))):=by
 cases n with
 | zero=>rfl
 | succ k=>exact E9k _ _ (A3g f _).symm (by rw[A3g];exact h)
def SR (N:Nat) (a b:T) (f:Nat->W) (j:Nat):A0b:=⟨[(6,.t (.v (.int .i64 (j:Int)))),(5,D4n j),(1,.t b),(0,.t a)],B5h f j,2*j,N⟩
theorem G3a {a b:T} {l m:List W} (ha:decB a=some l) (hb:decB b=some m) (hl:l.length<=1000) (hm:m.length<=1000):A0y Try.prog G 88 [a,b] (· = encB (A1z (upTo (fun i=>wd l i|||wd m i) (max l.length m.length)))):=by
 refine E1l.call rfl ?_
 unfold D1b
 refine A0a ctx2 ?_
 simp -implicitDefEqProofs
 refine A0a ctx2 ?_
 simp -implicitDefEqProofs
 obtain⟨n,hn⟩:∃n,n=max l.length m.length:=⟨_,rfl⟩
 rw[<-hn]
 have hmin:(if l.length<m.length then(m.length:Int)else(l.length:Int))=(n:Int):=by split<;>omega
 refine A0q (fun _:Unit=>SR 28 a b (fun i=>wd l i|||wd m i) n) (fun _=>True) (fun _=>rfl) ?_ ?_
 ·refine A0a ctx2 ?_
  simp -implicitDefEqProofs
  refine A0g ?_
  refine A1a (SR 28 a b (fun i=>wd l i|||wd m i)) n (fun _=>rfl) ?_ rfl ?_ ?_
  ·refine A0d rfl rfl ?_ ?_<;>simp -implicitDefEqProofs [SR,D4n,B5h]
  ·intro j hj
   refine A0c ctx2 ?_
   have w1:=B0o ha j
   have w2:=B0o hb j
   have e1:IntKind.i64.wrap ((j:Int)+1)=((j+1:Nat):Int):=A0k (by omega) (by omega)
   have fj:∀x:W,A4w (fun i=>some (i,1)) [.t (.v (.int .u64 0))] [(0,.t (uv x))]=some [.t (uv x)]:=fun x=>rfl
   have ap:=G1h (fun i=>wd l i|||wd m i) j (by omega)
   simp -implicitDefEqProofs [SR,hj,w1,w2,tb2,A1l,A6s,fj,ap,A1y ha,A1y hb,hmin,e1]
   refine A0d rfl rfl ?_ ?_<;>simp -implicitDefEqProofs [B5h]
  ·refine A0c ctx2 ?_
   simp -implicitDefEqProofs [SR,A1y ha,A1y hb,hmin]
   exact Next.mk () trivial (A0d rfl rfl (by simp -implicitDefEqProofs) (by cases n<;>simp -implicitDefEqProofs [B5h]))
 ·rintro _ -
  refine A0c ctx2 ?_
  have tt:=G1i (fun i=>wd l i|||wd m i) n
  have gn:=G1j (fun i=>wd l i|||wd m i) n (by omega)
  simp -implicitDefEqProofs [SR,tt,gn,tb2]
def S11 (a b:T) (j:Nat):A0b:=⟨[(5,.t (.v (.int .i64 (j:Int)))),(1,.t b),(0,.t a)],[],0,26⟩
theorem uv_ne {x y:W} (h:x≠y):((x.toNat:Int) !=(y.toNat:Int))=true:=by
 rw[bne_iff_ne]
 exact fun e=>h (BitVec.eq_of_toNat_eq (by omega))
theorem C9l:∀(l m:List W),l.length=m.length->l≠m->∃k,k<l.length/\(∀i,i<k->wd l i=wd m i)/\wd l k≠wd m k
 | [],[],_,h=>absurd rfl h
 | x::l,y::m,hl,h=>by
  by_cases hxy:x=y
  ·subst hxy
   obtain⟨k,h1,h2,h3⟩:=C9l l m (by simpa using hl) (fun e=>h (by rw[e]))
   refine⟨k+1,by simpa using h1,fun i hi=>?_,h3⟩
   cases i with
   | zero=>rfl
   | succ i=>exact h2 i (by omega)
  ·exact⟨0,by simp,fun i hi=>by omega,hxy⟩
theorem D4o {a b:T} {l m:List W} (ha:decB a=some l) (hb:decB b=some m) (hl:l.length<=1000) (hm:m.length<=1000):A0y Try.prog G 118 [a,b] (· = .v (.bool (l==m))):=by
 refine C8v.call rfl ?_
 unfold B9x
 refine A0a ctx0 ?_
 simp -implicitDefEqProofs
 by_cases hlen:l.length=m.length
 ·have hne:((l.length:Int) !=(m.length:Int))=false:=by simp[hlen]
  refine A0a ctx0 ?_
  simp -implicitDefEqProofs [A1y ha,A1y hb,hlen]
  have step:∀(j:Nat),j<l.length->wd l j=wd m j->∀(Q:Exit->A0b->Prop),True:=fun _ _ _ _=>trivial
  by_cases he:l=m
  ·subst he
   refine A0q (fun _:Unit=>S11 a b l.length) (fun _=>True) (fun _=>rfl) ?_ ?_
   ·refine A0a ctx0 ?_
    simp -implicitDefEqProofs
    refine A0g ?_
    refine A1a (S11 a b) l.length (fun _=>rfl) ?_ rfl ?_ ?_
    ·refine A0d rfl rfl ?_ ?_<;>simp -implicitDefEqProofs [S11]
    ·intro j hj
     refine A0c ctx0 ?_
     have x1:l[j]?=some (wd l j):=by simp[wd,hj]
     have e1:IntKind.i64.wrap ((j:Int)+1)=((j+1:Nat):Int):=A0k (by omega) (by omega)
     simp -implicitDefEqProofs [S11,hj,A1y ha,A2c ha,A2c hb,A2h _ x1,uv,e1]
     refine A0d rfl rfl ?_ ?_<;>simp -implicitDefEqProofs
    ·refine A0c ctx0 ?_
     simp -implicitDefEqProofs [S11,A1y ha]
     exact Next.mk () trivial (A0d rfl rfl (by simp -implicitDefEqProofs) (by simp -implicitDefEqProofs))
   ·rintro _ -
    refine A0c ctx0 ?_
    simp -implicitDefEqProofs [S11]
  ·obtain⟨k,hk,hsame,hdiff⟩:=C9l l m hlen he
   have hf:(l==m)=false:=by simpa using he
   rw[hf]
   refine A0q (fun _:Unit=>S11 a b l.length) (fun _=>False) (fun _=>rfl) ?_ ?_
   ·refine A0a ctx0 ?_
    simp -implicitDefEqProofs
    refine A0g ?_
    refine A1a (S11 a b) k (fun _=>rfl) ?_ rfl ?_ ?_
    ·refine A0d rfl rfl ?_ ?_<;>simp -implicitDefEqProofs [S11]
    ·intro j hj
     refine A0c ctx0 ?_
     have hjl:j<l.length:=by omega
     have hjm:j<m.length:=by omega
     have x1:l[j]?=some (wd l j):=by simp[wd,hjl]
     have x2:m[j]?=some (wd l j):=by rw[hsame j hj];simp[wd,hjm]
     have e1:IntKind.i64.wrap ((j:Int)+1)=((j+1:Nat):Int):=A0k (by omega) (by omega)
     simp -implicitDefEqProofs [S11,hjl,hjm,A1y ha,A2c ha,A2c hb,A2h _ x1,A2h _ x2,uv,e1]
     refine A0d rfl rfl ?_ ?_<;>simp -implicitDefEqProofs
    ·refine A0c ctx0 ?_
     have hkm:k<m.length:=by omega
     have x1:l[k]?=some (wd l k):=by simp[wd,hk]
     have x2:m[k]?=some (wd m k):=by simp[wd,hkm]
     simp -implicitDefEqProofs [S11,hk,hkm,A1y ha,A2c ha,A2c hb,A2h _ x1,A2h _ x2,uv,uv_ne hdiff]
   ·rintro _ h
    exact h.elim
 ·have hne:((l.length:Int) !=(m.length:Int))=true:=by simp;omega
  have hf:(l==m)=false:=by
   rw[beq_eq_false_iff_ne]
   exact fun e=>hlen (by rw[e])
  rw[hf]
  refine A0c ctx0 ?_
  simp -implicitDefEqProofs [A1y ha,A1y hb,hne]
def eU:Enc W:=⟨1,fun x=>[uv x],fun _=>rfl,by omega,fun a b h=>by
 injection h with h
 have:=D7x a
 rw[h,D7x]at this
 injection this with this
 exact this.symm⟩
def SU (N:Nat) (a b:T) (f:Nat->W) (j:Nat):A0b:=⟨[(6,.t (iv (j:Int))),(5,rowP eU 0 (upTo f j)),(1,.t b),(0,.t a)],rowH eU 142 0 (upTo f j),1,N⟩
theorem E1r (l:List W) (h:l.length<=1000):gRN [A0l eU l]=some (encB (A1z l)):=by
 cases l with
 | nil=>rfl
 | cons x r=>
  have:A0l eU (x::r) = .sl (x::r).length ((x::r).map uv):=by
   simp only[A0l,slT,eU]
   congr 1
   induction (x::r)with
   | nil=>rfl
   | cons y s ih=>simp only[List.flatMap_cons,List.map_cons,List.cons_append,List.nil_append,ih]
  rw[this]
  exact E9k _ _ rfl h
theorem G1k (f:Nat->W) (j:Nat) (hj:j<=1000):appM 142 1 8 (rowH eU 142 0 (upTo f j)) 1 (rowP eU 0 (upTo f j)) (.t (.sl 1 [uv (f j)]))=some (rowP eU 1 (upTo f j++[f j]),appH eU 142 (rowH eU 142 0 (upTo f j)) 1 0 (upTo f j) [f j],appN 1 (upTo f j) [f j]):=by
 have h:=A0j.head eU 142 [] 0 (upTo f j)
 rw[List.append_nil]at h
 exact E9b h (A5a (IsS.mk [f j])) (by rw[A3g];simp;omega) (by rw[A3g];simp;omega)
theorem E9m {a b:T} {l m:List W} (ha:decB a=some l) (hb:decB b=some m) (hl:l.length<=1000) (hm:m.length<=1000):A0y Try.prog G 89 [a,b] (· = encB (A1z (upTo (fun i=>wd l i&&&wd m i) (l.length)))):=by
 refine D4a.call rfl ?_
 unfold C3v
 refine A0a ctx2 ?_
 simp -implicitDefEqProofs
 refine A0a ctx2 ?_
 simp -implicitDefEqProofs
 obtain⟨f,hf⟩:∃f:Nat->W,f=fun i=>wd l i&&&wd m i:=⟨_,rfl⟩
 rw[<-hf]
 refine A0q (fun _:Unit=>SU 26 a b f l.length) (fun _=>True) (fun _=>rfl) ?_ ?_
 ·refine A0a ctx2 ?_
  simp -implicitDefEqProofs
  refine A0g ?_
  refine A1a (SU 26 a b f) l.length (fun _=>rfl) ?_ rfl ?_ ?_
  ·exact A0i (k:=0) (A0j.nil _ _ _ _) (by omega) (by omega) (by simp -implicitDefEqProofs [upTo,rowP,ren,under])
  ·intro j hj
   refine A0c ctx2 ?_
   have x1:l[j]?=some (wd l j):=by simp[wd,hj]
   have w2:=B0o hb j
   have i1:=A2c ha .i64 j (by omega) (by omega)
   simp only[Int.toNat_natCast]at i1
   have e1:IntKind.i64.wrap ((j:Int)+1)=((j+1:Nat):Int):=A0k (by omega) (by omega)
   have ap:=G1k f j (by omega)
   have fj:f j=(let i:=j;wd l i&&&wd m i):=by rw[hf]
   simp only at fj
   have ts:∀x:W,A7p 142 1 [.int .u64 0] 1 [(0,.t (uv x))]=some (.t (.sl 1 [uv x])):=fun x=>rfl
   simp -implicitDefEqProofs [SU,hj,i1,A2h _ x1,w2,tb2,A1y ha,ts,<-fj,ap,e1]
   rw[C4r]
   exact A0i A0j.app (by omega) (by omega) (by simp -implicitDefEqProofs [A0f,A0e,ren,under])
  ·refine A0c ctx2 ?_
   simp -implicitDefEqProofs [SU,A1y ha]
   exact Next.mk () trivial (Sub.trans (Sub.refl _) (A0i (k:=0) (A0j.head' _ _ _ _) (by omega) (by omega) (by simp -implicitDefEqProofs [A0f,A0e,ren,under])))
 ·rintro _ -
  refine A0c ctx2 ?_
  have tt:=(A0j.head' eU 142 0 (upTo f l.length)).toT
  have gn:=E1r (upTo f l.length) (by rw[A3g];exact hl)
  simp -implicitDefEqProofs [SU,tt,gn,tb2]
theorem D8e {a b:T} {l m:List W} (ha:decB a=some l) (hb:decB b=some m) (hl:l.length<=1000) (hm:m.length<=1000):A0y Try.prog G 111 [a,b] (· = encB (A1z (upTo (fun i=>wd l i &&& ~~~ wd m i) (l.length)))):=by
 refine C3w.call rfl ?_
 unfold B6e
 refine A0a ctx2 ?_
 simp -implicitDefEqProofs
 refine A0a ctx2 ?_
 simp -implicitDefEqProofs
 obtain⟨f,hf⟩:∃f:Nat->W,f=fun i=>wd l i &&& ~~~ wd m i:=⟨_,rfl⟩
 rw[<-hf]
 refine A0q (fun _:Unit=>SU 26 a b f l.length) (fun _=>True) (fun _=>rfl) ?_ ?_
 ·refine A0a ctx2 ?_
  simp -implicitDefEqProofs
  refine A0g ?_
  refine A1a (SU 26 a b f) l.length (fun _=>rfl) ?_ rfl ?_ ?_
  ·exact A0i (k:=0) (A0j.nil _ _ _ _) (by omega) (by omega) (by simp -implicitDefEqProofs [upTo,rowP,ren,under])
  ·intro j hj
   refine A0c ctx2 ?_
   have x1:l[j]?=some (wd l j):=by simp[wd,hj]
   have w2:=B0o hb j
   have i1:=A2c ha .i64 j (by omega) (by omega)
   simp only[Int.toNat_natCast]at i1
   have e1:IntKind.i64.wrap ((j:Int)+1)=((j+1:Nat):Int):=A0k (by omega) (by omega)
   have ap:=G1k f j (by omega)
   have fj:f j=(let i:=j;wd l i &&& ~~~ wd m i):=by rw[hf]
   simp only at fj
   have ts:∀x:W,A7p 142 1 [.int .u64 0] 1 [(0,.t (uv x))]=some (.t (.sl 1 [uv x])):=fun x=>rfl
   simp -implicitDefEqProofs [SU,hj,i1,A2h _ x1,w2,tb2,A1y ha,ts,<-fj,ap,e1]
   rw[C4r]
   exact A0i A0j.app (by omega) (by omega) (by simp -implicitDefEqProofs [A0f,A0e,ren,under])
  ·refine A0c ctx2 ?_
   simp -implicitDefEqProofs [SU,A1y ha]
   exact Next.mk () trivial (Sub.trans (Sub.refl _) (A0i (k:=0) (A0j.head' _ _ _ _) (by omega) (by omega) (by simp -implicitDefEqProofs [A0f,A0e,ren,under])))
 ·rintro _ -
  refine A0c ctx2 ?_
  have tt:=(A0j.head' eU 142 0 (upTo f l.length)).toT
  have gn:=E1r (upTo f l.length) (by rw[A3g];exact hl)
  simp -implicitDefEqProofs [SU,tt,gn,tb2]
theorem A5y (l:List W):A1z (l++[0])=A1z l:=by simp[A1z]
theorem A6w (l:List W) {x:W} (h:x≠0):A1z (l++[x])=l++[x]:=by
 have h':(x==0)=false:=by simpa using h
 simp only[A1z,List.reverse_append,List.reverse_cons,List.reverse_nil,List.nil_append,List.cons_append,List.dropWhile_cons,h',Bool.false_eq_true,if_false,List.reverse_reverse]
theorem D8f {p:List W->Prop} (h0:p []) (h1:∀l x,p l->p (l++[x])) (l:List W):p l:=by
 have:∀r:List W,p r.reverse:=by
  intro r
  induction r with
  | nil=>exact h0
  | cons x r ih=>rw[List.reverse_cons];exact h1 _ _ ih
 simpa using this l.reverse
theorem B2m (l:List W):(A1z l).length<=l.length:=by
 induction l using D8f with
 | h0=>simp[A1z]
 | h1 l x ih=>
  by_cases h:x=0
  ·subst h;rw[A5y];simp;omega
  ·rw[A6w l h];exact Nat.le_refl _
theorem E9n (l m:List W) (i:Nat):wd (l++m) i=if i<l.length then wd l i else wd m (i-l.length):=by
 simp only[wd,List.getD_eq_getElem?_getD,List.getElem?_append]
 split<;>rfl
theorem D4p {l:List W} {i:Nat} (h:l.length<=i):wd l i=0:=by simp[wd,h]
theorem C3a (l:List W) (i:Nat):wd (A1z l) i=wd l i:=by
 induction l using D8f with
 | h0=>simp[A1z]
 | h1 l x ih=>
  by_cases h:x=0
  ·subst h
   rw[A5y,ih,E9n]
   split
   ·rfl
   ·rename_i hi
    rw[D4p (by omega)]
    cases i-l.length with
    | zero=>rfl
    | succ k=>rfl
  ·rw[A6w l h]
def Norm (l:List W):Prop:=l=[]\/wd l (l.length-1)≠0
theorem C9m (l:List W):Norm (A1z l):=by
 induction l using D8f with
 | h0=>exact .inl rfl
 | h1 l x ih=>
  by_cases h:x=0
  ·subst h;rw[A5y];exact ih
  ·rw[A6w l h]
   right
   simpa[wd]using h
theorem Norm.len_le {l m:List W} (hl:Norm l) (h:∀i,wd l i=wd m i):l.length<=m.length:=by
 rcases hl with rfl | hl
 ·simp
 ·by_cases hlt:m.length<l.length
  ·exact absurd ((h _).trans (D4p (by omega))) hl
  ·omega
theorem Norm.ext {l m:List W} (hl:Norm l) (hm:Norm m) (h:∀i,wd l i=wd m i):l=m:=by
 have e:l.length=m.length:=Nat.le_antisymm (hl.len_le h) (hm.len_le fun i=>(h i).symm)
 apply List.ext_getElem e
 intro i h1 h2
 have:=h i
 simp only[wd,List.getD_eq_getElem?_getD,List.getElem?_eq_getElem h1,List.getElem?_eq_getElem h2,Option.getD_some]at this
 exact this
theorem D4q {l m:List W} (h:∀i,wd l i=wd m i):A1z l=A1z m:=
 (C9m l).ext (C9m m) fun i=>by rw[C3a,C3a,h]
theorem D8g (f:Nat->W) (n i:Nat):wd (upTo f n) i=if i<n then f i else 0:=by
 unfold wd upTo
 split
 ·rename_i h;simp[h]
 ·rename_i h;simp[h]
theorem F8s (l m:List W) (i:Nat):wd (andL l m) i=wd l i&&&wd m i:=by
 show wd (upTo _ _) i=_
 rw[D8g]
 split
 ·rfl
 ·rename_i h
  by_cases h1:l.length<=i
  ·rw[D4p h1];simp
  ·rw[D4p (l:=m) (by omega)];simp
theorem D4r (l m:List W) (i:Nat):wd (D4h l m) i=wd l i &&& ~~~ wd m i:=by
 show wd (upTo _ _) i=_
 rw[D8g]
 split
 ·rfl
 ·rename_i h
  rw[D4p (l:=l) (by omega)];simp
theorem F8t (l m:List W):A1z (upTo (fun i=>wd l i&&&wd m i) l.length)=A1z (andL l m):=D4q fun i=>by
 rw[F8s,D8g]
 split
 ·rfl
 ·rename_i h
  rw[D4p (l:=l) (by omega)];simp
def gB2 (f:List W->List W->T):List T->Option T
 | [a,b]=>match decB a,decB b with
  | some l,some m=>if l.length<=1000/\m.length<=1000 then some (f l m)else none
  | _,_=>none
 | _=>none
theorem B1l {F:Nat} {f:List W->List W->T} (h:∀{a b:T} {l m:List W},decB a=some l->decB b=some m->l.length<=1000->m.length<=1000->A0y Try.prog G F [a,b] (· = f l m)):GOK Try.prog G F (gB2 f):=by
 intro args r e
 unfold gB2 at e
 split at e
 ·split at e
  ·rename_i l m ha hb
   split at e
   ·rename_i hlm
    injection e with e;subst e
    exact h ha hb hlm.1 hlm.2
   ·cases e
  ·cases e
 ·cases e
theorem B5i {f:List W->List W->T} {a b:T} {l m:List W} (ha:decB a=some l) (hb:decB b=some m) (hl:l.length<=1000) (hm:m.length<=1000):gB2 f [a,b]=some (f l m):=by
 simp[gB2,ha,hb,hl,hm]
def fAnd (l m:List W):T:=encB (A1z (andL l m))
def E9o (l m:List W):T:=encB (A1z (D4h l m))
def F8u (l m:List W):T:=.v (.bool (l==m))
end Go.Proofs.Ytbiadmfmjnoecaa
