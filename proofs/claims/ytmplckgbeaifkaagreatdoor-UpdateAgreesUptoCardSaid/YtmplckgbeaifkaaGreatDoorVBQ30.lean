/-
 Auxiliary facts. No statement of the program stands here.
-/
import Derived.Test.YtmplckgbeaifkaaGreatDoorVBQ29
namespace Go.Proofs.YtmplckgbeaifkaaGreatDoor
set_option linter.unusedSimpArgs false
set_option linter.unusedVariables false
open Go Go.Abs
variable {q : Gl}
abbrev pc (l:List UInt8) (i:Nat):List T:=[sv (bs l),iv (i:Int)]
abbrev pr (l:List UInt8) (i:Nat):Row:=.cells 212 [.t (sv (bs l)),.t (iv (i:Int))]
abbrev errC (e:Int):A2q:=[{ v:=.iface 208 (.agg #[.int .i64 e]),recovered:=false }]
section
variable (l : List UInt8) (i j : Nat) (x y : Row)
theorem pl0 (R:Heap):A0g false 1 ((0,pr l i)::R) (.ptr 0 0)=some (.t (sv (bs l))):=rfl
theorem pl1 (R:Heap):A0g false 1 ((0,pr l i)::R) (.ptr 0 1)=some (.t (iv (i:Int))):=rfl
theorem pw1 (R:Heap):A0t 1 ((0,pr l i)::R) (.ptr 0 1) (.t (iv (j:Int)))=some ((0,pr l j)::R):=rfl
end
def outP (l:List UInt8):Except Int (T×Nat)->Out
 | .ok (r,i)=>.ret (.t r) [(0,pr l i)] 1
 | .error e=>.pan (errC e)
def PM (P:Program) (G:A0u) (l:List UInt8) (f:FuncId) (i:Nat) (ts:List T) (o:Except Int (T×Nat)):Prop:=
 F0h P G f (.ptr 0 0::ts.map .t) [(0,pr l i)] 1 (outP l o)
theorem PM.ret {P:Program} {G:A0u} {l:List UInt8} {f:FuncId} {i:Nat} {ts:List T} {r:T} {i':Nat} {H':Heap} {nx':Nat} (h:A2g P G f (.ptr 0 0::ts.map .t) [(0,pr l i)] 1 (.t r) H' nx') (hl:Abs.look H' 0=some (pr l i')) :
  PM P G l f i ts (.ok (r,i')):=A2g.keep1 (cs:=pc l i') h hl
variable {l : List UInt8} {i : Nat}
def F7n (l:List UInt8):Except Int (T×Nat)->Except A2q (T×List T)
 | .ok (r,i)=>.ok (r,pc l i)
 | .error e=>.error (errC e)
abbrev PG:=Nat->List T->Option (Except Int (T×Nat))
noncomputable def pSp (l:List UInt8) (g:PG):Abs.Spec:=open Classical in fun cs ts=>match cs with
 | [t',.v (.int .i64 i)]=>if t'=sv (bs l)/\0<=i then(g i.toNat ts).map (F7n l)else none
 | _=>none
theorem E4v (g:PG) (ts:List T):pSp l g (pc l i) ts=(g i ts).map (F7n l):=by
 simp[pSp]
theorem A4t {P:Program} {G:A0u} {f:FuncId} {g:PG} (h:∀i ts o,g i ts=some o->PM P G l f i ts o):C9v P G f 212 (pSp l g):=fun cs ts o ho=>by
 unfold pSp at ho;split at ho
 ·rename_i t' i;split at ho
  ·rename_i hc;obtain⟨rfl,h0⟩:=hc;obtain⟨o',ho',rfl⟩:=Option.map_eq_some_iff.1 ho;have:=h _ _ _ ho';obtain⟨n,rfl⟩:=Int.eq_ofNat_of_zero_le h0
   cases o' with
   | ok x=>exact this
   | error e=>exact this
  ·cases ho
 ·cases ho
noncomputable abbrev hP (l:List UInt8) (g:PG):=hObj 212 (E4t (pSp l g))
noncomputable abbrev eP (l:List UInt8) (g:PG):=eObj 212 (pSp l g)
theorem C3s {g:PG} {b nx:Nat} {H:Heap} {ts:List T} {r:T} {i':Nat} (hl:Abs.look H b=some (pr l i)) (hb:b<nx) (ho:g i ts=some (.ok (r,i'))) :
  hP l g (.ptr b 0::ts.map .t) H nx=some (.t r,upd H b (pr l i'),nx):=F0k (cs:=pc l i) (cs':=pc l i') hl hb (by rw[E4v,ho];rfl)
theorem C3t {g:PG} {b nx:Nat} {H:Heap} {ts:List T} {x:T×Nat} (hl:Abs.look H b=some (pr l i)) (ho:g i ts=some (.ok x)) :
  eP l g (.ptr b 0::ts.map .t) H nx=none:=F0l (cs:=pc l i) (x:=(x.1,pc l x.2)) hl (by rw[E4v,ho];rfl)
theorem C9y {g:PG} {b nx:Nat} {H:Heap} {ts:List T} {e:Int} (hl:Abs.look H b=some (pr l i)) (hb:b<nx) (ho:g i ts=some (.error e)) :
  eP l g (.ptr b 0::ts.map .t) H nx=some (errC e):=F0m (cs:=pc l i) hl hb (by rw[E4v,ho];rfl)
def isNx (l:List UInt8) (i:Nat) (c:UInt8):Bool:=decide (l[i]?=some c)
theorem F4t (c:UInt8):PM Tryz.prog (G q) l 219 i [cv c] (.ok (bv (isNx l i c),i)):=by
 refine PM.ret (H':=[(0,pr l i)]) (nx':=1) ?_ rfl;refine B2z.callP rfl ?_;have C:Ctx Tryz.prog (G q) (orh [] []):=A0y.nil.ctxH .nil mixed;unfold isNx;by_cases hi:i<l.length
 ·obtain⟨x,hx⟩:∃x,l[i]?=some x:=⟨_,List.getElem?_eq_getElem hi⟩
  have ix:=D9l l hx
  have be:((x.toNat:Int)==(c.toNat:Int))=decide (some x=some c):=by
   have:=C0q x c;rw[Bool.eq_iff_iff];rw[Bool.eq_iff_iff]at this;simp only[bne_iff_ne,ne_eq,Bool.not_eq_true',decide_eq_false_iff_not]at this;simp only[beq_iff_eq,decide_eq_true_iff,Option.some.injEq];by_cases h:x=c
   ·subst h;simp
   ·simp[h,this.2 h]
  rw[hx,<-be];refine A0c C ?_;simp -implicitDefEqProofs [A4o,pl0,pl1,A0q,hi,ix];exact⟨.inr rfl,_,_,Sub.refl _,rfl,rfl,rfl,rfl⟩
 ·rw[List.getElem?_eq_none (by omega)];refine A0c C ?_;simp -implicitDefEqProofs [A4o,pl0,pl1,A0q,hi];exact⟨.inr rfl,_,_,Sub.refl _,rfl,rfl,rfl,rfl⟩
theorem bld1 (e:Int):A8e (fun k=>[(0,1)][k]?) [.t (iv 0)] [(0,.t (iv e))]=some [.t (iv e)]:=rfl
theorem ag1 (e:Int):agOf [.t (iv e)] = .t (.ag [iv e]):=rfl
theorem E4w:PM Tryz.prog (G q) l 200 i [] (.error (eosE (l.drop i))):=by
 refine B2y.callO rfl ?_;have C:Ctx Tryz.prog (G q) (orh [] []):=A0y.nil.ctxH .nil mixed;by_cases hi:l.length<=i
 ·have e:eosE (l.drop i)=9:=by rw[List.drop_of_length_le hi];rfl
  have hi':(l.length:Int)<=(i:Int):=by omega
  rw[e];refine A7e C (A9s.ok .nil) rfl ?_;simp -implicitDefEqProofs [A4n,pl0,pl1,A0q,hi,hi',bld1,ag1,outP]
 ·have e:eosE (l.drop i)=8:=by
   obtain⟨c,hc⟩:∃c,l[i]?=some c:=⟨_,List.getElem?_eq_getElem (by omega)⟩
   rw[B5z hc];rfl
  have hi':¬(l.length:Int)<=(i:Int):=by omega
  rw[e];refine A7e C (A9s.ok .nil) rfl ?_;simp -implicitDefEqProofs [A4n,pl0,pl1,A0q,hi,hi',bld1,ag1,outP]
noncomputable def gNx (l:List UInt8):PG:=fun i ts=>match ts with
 | [.v (.int .u8 n)]=>if 0<=n/\n<256 then some (.ok (bv (isNx l i (UInt8.ofNat n.toNat)),i))else none
 | _=>none
theorem C3u (c:UInt8):gNx l i [cv c]=some (.ok (bv (isNx l i c),i)):=by
 have h:=c.toNat_lt;simp only[gNx];rw[if_pos ⟨by omega,by omega⟩,Int.toNat_natCast,UInt8.ofNat_toNat]
theorem C3v:∀i ts o,gNx l i ts=some o->PM Tryz.prog (G q) l 219 i ts o:=fun i ts o h=>by
 unfold gNx at h;split at h
 ·rename_i n;split at h
  ·rename_i hc;injection h with h;subst h;have:=F4t (q:=q) (l:=l) (i:=i) (UInt8.ofNat n.toNat)
   have e:cv (UInt8.ofNat n.toNat) = .v (.int .u8 n):=by
    have:((UInt8.ofNat n.toNat).toNat:Int)=n:=by rw[UInt8.toNat_ofNat'];omega
    show T.v (.int .u8 ((UInt8.ofNat n.toNat).toNat:Int))=_;rw[this]
   rw[e]at this;exact this
  ·cases h
 ·cases h
noncomputable def gFl (l:List UInt8):PG:=fun i ts=>match ts with
 | []=>some (.error (eosE (l.drop i)))
 | _=>none
theorem D6g:∀i ts o,gFl l i ts=some o->PM Tryz.prog (G q) l 200 i ts o:=fun i ts o h=>by
 unfold gFl at h;split at h
 ·injection h with h;subst h;exact E4w
 ·cases h
noncomputable def ctA (l:List UInt8):HTbl:=[(219,hP l (gNx l)),(200,hP l (gFl l))]
noncomputable def ceA (l:List UInt8):ETbl:=[(219,eP l (gNx l)),(200,eP l (gFl l))]
theorem ctxA (tbl:Tbl) (h:A0y Tryz.prog (G q) tbl):Ctx Tryz.prog (G q) (orh tbl (ctA l)):=h.ctxH (.cons (A4t C3v).hok (.cons (A4t D6g).hok .nil)) mixed
theorem panA:POK Tryz.prog (G q) (orE (ceA l)):=A9s.ok (.cons (A4t C3v).eok (.cons (A4t D6g).eok .nil))
section
variable (l i)
theorem F2q (R:Heap) (nx:Nat) (h:0<nx) (c:UInt8):hP l (gNx l) [.ptr 0 0,.t (cv c)] ((0,pr l i)::R) nx=some (.t (bv (isNx l i c)),(0,pr l i)::R,nx):=C3s (ts:=[cv c]) rfl h (C3u c)
theorem F4u (R:Heap) (nx:Nat) (c:UInt8):eP l (gNx l) [.ptr 0 0,.t (cv c)] ((0,pr l i)::R) nx=none:=C3t (ts:=[cv c]) (x:=(bv (isNx l i c),i)) rfl (C3u c)
theorem E4x (R:Heap) (nx:Nat) (h:0<nx):eP l (gFl l) [.ptr 0 0] ((0,pr l i)::R) nx=some (errC (eosE (l.drop i))):=C9y (ts:=[]) rfl h rfl
end
def resX {α:Type} (l:List UInt8) (f:α->T):Except Int (α×List UInt8)->Except Int (T×Nat)
 | .ok (x,r)=>.ok (f x,l.length-r.length)
 | .error e=>.error e
def takX (l:List UInt8) (i:Nat) (c:UInt8):Except Int (T×Nat):=match takB c (l.drop i)with
 | .ok _=>.ok (.tu [],i+1)
 | .error e=>.error e
theorem D6h {c:UInt8} (h:l[i]?=some c):takX l i c = .ok (.tu [],i+1):=by
 unfold takX;rw[B5z h,takB,if_pos rfl]
theorem D3e {c:UInt8} (h:l[i]?≠some c):takX l i c = .error (eosE (l.drop i)):=by
 unfold takX
 cases hx:l[i]? with
 | none=>rw[List.drop_of_length_le (by simpa using hx)];rfl
 | some x=>
  rw[B5z hx,takB,if_neg (fun e=>h (by rw[hx,e]))];rfl
theorem F4v (c:UInt8) (hi:i<4611686018427387904):PM Tryz.prog (G q) l 220 i [cv c] (takX l i c):=by
 have C:=ctxA (q:=q) (l:=l) [] .nil;have n1:=F2q l i [] 1 (by omega) c;have n2:=F4u l i [] 1 c;have f1:=E4x l i [] 1 (by omega);by_cases h:l[i]?=some c
 ·rw[D6h h];have hb:isNx l i c=true:=decide_eq_true h;rw[hb]at n1;have e1:IntKind.i64.wrap ((i:Int)+1)=((i+1:Nat):Int):=A0h (by omega) (by omega);refine PM.ret (H':=[(0,pr l (i+1))]) (nx':=1) ?_ rfl;refine A6z.callP rfl ?_;refine A0c C ?_;simp -implicitDefEqProofs [A4p,ctA,n1,pl1,e1,pw1];exact⟨.inl rfl,_,_,Sub.refl _,rfl,rfl,rfl,rfl⟩
 ·rw[D3e h];have hb:isNx l i c=false:=decide_eq_false h;rw[hb]at n1;refine A6z.callO rfl ?_;refine A7e C (panA (l:=l)) rfl ?_;simp -implicitDefEqProofs [A4p,ctA,ceA,n1,n2,f1,outP]
noncomputable def gTa (l:List UInt8):PG:=fun i ts=>match ts with
 | [.v (.int .u8 n)]=>if 0<=n/\n<256/\i<4611686018427387904 then some (takX l i (UInt8.ofNat n.toNat))else none
 | _=>none
theorem C3w (c:UInt8) (hi:i<4611686018427387904):gTa l i [cv c]=some (takX l i c):=by
 have h:=c.toNat_lt;simp only[gTa];rw[if_pos ⟨by omega,by omega,hi⟩,Int.toNat_natCast,UInt8.ofNat_toNat]
theorem D6i:∀i ts o,gTa l i ts=some o->PM Tryz.prog (G q) l 220 i ts o:=fun i ts o h=>by
 unfold gTa at h;split at h
 ·rename_i n;split at h
  ·rename_i hc;injection h with h;subst h;have:=F4v (q:=q) (l:=l) (UInt8.ofNat n.toNat) hc.2.2
   have e:cv (UInt8.ofNat n.toNat) = .v (.int .u8 n):=by
    have:((UInt8.ofNat n.toNat).toNat:Int)=n:=by rw[UInt8.toNat_ofNat'];omega
    show T.v (.int .u8 ((UInt8.ofNat n.toNat).toNat:Int))=_;rw[this]
   rw[e]at this;exact this
  ·cases h
 ·cases h
variable {q : Gl} {l : List UInt8} {i : Nat}
theorem C6b (l:List UInt8) (i k:Nat):(l.drop i)[k]?=l[i+k]?:=List.getElem?_drop ..
theorem D6j (l:List UInt8) (r:T) (i:Nat):outP l (.ok (r,i)) = .ret (.t r) [(0,pr l i)] 1:=rfl
def SPn (l:List UInt8) (i j:Nat):A0b:=⟨[(3,.t (iv (i:Int))),(0,.ptr 0 0)],[(0,pr l j)],1,57⟩
structure OkPn (s:List UInt8) (i j:Nat):Prop where
 ge:i<=j
 le:j-i<=s.length
 big:j-i<=32
 eq:(j-i)+A5h (j-i) (s.drop (j-i))=A5h 0 s
 all:∀(k:Nat) x,k<j-i->s[k]?=some x->okAt false k x=true
theorem F0n (hl:l.length<=2100000000000) (hi:i<=l.length):PM Tryz.prog (G q) l 221 i [] (resX l (fun n=>sv (bs n)) (A8j (l.drop i))):=by
 obtain⟨s,hs⟩:∃s,s=l.drop i:=⟨_,rfl⟩
 have hsl:i+s.length=l.length:=by rw[hs,List.length_drop];omega
 obtain⟨n,hn⟩:∃n,n=A5h 0 s:=⟨_,rfl⟩
 have hnle:n<=s.length:=by rw[hn];exact B8l s 0
 have C:=ctxA (q:=q) (l:=l) [(58,gNm)] (.cons hNm .nil);have E:=panA (q:=q) (l:=l);rw[<-hs]
 obtain⟨O,hO⟩:∃O,O=resX l (fun n=>sv (bs n)) (A8j s):=⟨_,rfl⟩
 rw[<-hO];unfold A8j at hO;rw[<-hn]at hO;refine B3a.callO rfl ?_;unfold A7a;refine A0a C ?_;simp -implicitDefEqProofs;refine A0a C ?_;simp -implicitDefEqProofs [pl1];refine A0o (α:=Unit) (fun _=>SPn l i (i+n)) (fun _=>True) (fun _=>rfl) ?_ ?_
 ·refine A0f ?_;refine A0k (SPn l i) (fun j=>l.length-j) (OkPn s i) i (fun _=>rfl) ⟨Nat.le_refl _,by omega,by omega,by simp,fun k x h=>by omega⟩ ?_ rfl ?_
  ·exact A0d (by simp -implicitDefEqProofs [SPn])
  rintro j ⟨hge,hj,hb,heq,hall⟩
  obtain⟨k,rfl⟩:∃k,j=i+k:=⟨j-i,by omega⟩
  rw[Nat.add_sub_cancel_left]at hj hb heq hall
  obtain⟨j,hjj⟩:∃j,j=i+k:=⟨_,rfl⟩
  rw[<-hjj];refine A0c C ?_;by_cases hlt:k<s.length
  ·obtain⟨c,hc⟩:∃c,s[k]?=some c:=⟨_,List.getElem?_eq_getElem hlt⟩
   have hlj:j<l.length:=by omega
   obtain⟨j1,hj1⟩:∃j1,j1=j+1:=⟨_,rfl⟩
   have e1:IntKind.i64.wrap ((j:Int)+1)=(j1:Int):=A0h (by omega) (by omega);have s1:=D5y l (i:=i) (j:=j1) (by omega) (by omega);rw[<-hs,show j1-i=k+1 by omega]at s1;have g1:=B2j (s:=bs (s.take (k+1))) (by rw[A0q,List.length_take];unfold lim;omega);rw[C3r hc hall hb]at g1;rw[B5z hc,A5h]at heq
   cases ht:decide (k<32)&&okAt false k c with
   | true=>
    rw[ht]at g1;rw[ht,if_pos rfl]at heq;rw[Bool.and_eq_true,decide_eq_true_iff]at ht;simp -implicitDefEqProofs [SPn,pl0,pl1,A0q,hlj,e1,s1,g1,pw1];refine Abs.Next.mk j1 ⟨⟨by omega,by omega,by omega,?_,?_⟩,by omega⟩ (A0d (by simp -implicitDefEqProofs [SPn]))
    ·rw[show j1-i=k+1 by omega];omega
    ·rw[show j1-i=k+1 by omega];intro x y hx hy;by_cases e:x=k
     ·subst e;rw[hc]at hy;injection hy with hy;subst hy;exact ht.2
     ·exact hall x y (by omega) hy
   | false=>
    rw[ht]at g1;rw[ht,if_neg (by simp)]at heq
    have e:j=i+n:=by omega
    simp -implicitDefEqProofs [SPn,pl0,pl1,A0q,hlj,e1,s1,g1];rw[<-e];exact Abs.Next.mk () trivial (A0d (by simp -implicitDefEqProofs))
  ·rw[List.drop_of_length_le (by omega),A5h]at heq
   have e:j=i+n:=by omega
   have hlj:¬j<l.length:=by omega
   simp -implicitDefEqProofs [SPn,pl0,pl1,A0q,hlj];rw[<-e];exact Abs.Next.mk () trivial (A0d (by simp -implicitDefEqProofs))
 rintro _ -
 obtain⟨j,hj⟩:∃j,j=i+n:=⟨_,rfl⟩
 rw[<-hj];by_cases h0:n=0
 ·rw[if_pos h0]at hO
  have b0:((j:Int)==(i:Int))=true:=by rw[beq_iff_eq];omega
  have f1:=E4x l j [] 1 (by omega);rw[show l.drop j=s by rw[hj,h0,hs];rfl]at f1;have hO:O = .error (eosE s):=hO;rw[hO];refine A1c C E rfl ?_;simp -implicitDefEqProofs [SPn,pl1,b0,ctA,ceA,f1,outP]
 ·rw[if_neg h0]at hO
  have b0:((j:Int)==(i:Int))=false:=by rw[beq_eq_false_iff_ne];omega
  have hO:O = .ok (sv (bs (s.take n)),j):=by
   rw[hO];show Except.ok (_,_)=_;rw[List.length_drop];congr 2;omega
  have s1:=D5y l (i:=i) (j:=j) (by omega) (by omega);rw[<-hs,show j-i=n by omega]at s1;rw[hO,D6j];refine A0a C ?_;simp -implicitDefEqProofs [SPn,pl1,b0];refine A0c C ?_;simp -implicitDefEqProofs [pl0,pl1,s1];exact⟨.inr rfl,_,_,Sub.refl _,rfl,rfl,rfl,rfl⟩
noncomputable def gNa (l:List UInt8):PG:=fun i ts=>match ts with
 | []=>if i<=l.length then some (resX l (fun n=>sv (bs n)) (A8j (l.drop i)))else none
 | _=>none
theorem F2r (hl:l.length<=2100000000000):∀i ts o,gNa l i ts=some o->PM Tryz.prog (G q) l 221 i ts o:=fun i ts o h=>by
 unfold gNa at h;split at h
 ·split at h
  ·injection h with h;subst h;exact F0n hl (by assumption)
  ·cases h
 ·cases h
theorem F7o (hi:i<=l.length):gNa l i []=some (resX l (fun n=>sv (bs n)) (A8j (l.drop i))):=if_pos hi
variable {q : Gl} {l : List UInt8} {i : Nat}
theorem E4y {a d:List UInt8} (ha:a=[]\/a=[45]) (hd:∀c∈d,A1d c=true):dOf (a++d)=d/\((a++d).head?==some 45)=(a==[45]):=by
 rcases ha with rfl | rfl
 ·cases d with
  | nil=>exact⟨rfl,rfl⟩
  | cons c r=>
   have h:=E9s (hd c (by simp))
   have e:((c::r).head?==some 45)=false:=by
    show(some c==some 45)=false;rw[beq_eq_false_iff_ne];intro e;injection e with e;exact h e
   refine⟨?_,e⟩;unfold dOf;rw[List.nil_append,e];rfl
 ·exact⟨rfl,rfl⟩
theorem D9u {a d:List UInt8} (ha:a=[]\/a=[45]) (hd:∀c∈d,A1d c=true) (h:(numS (a++d)).2=0) {k:Nat} (hk:1<=k) (hkl:k<=d.length):(numS (a++d.take k)).2=0:=by
 have hd':∀c∈d.take k,A1d c=true:=fun c hc=>hd c (List.mem_of_mem_take hc);obtain⟨e1,e2⟩:=E4y ha hd;obtain⟨f1,f2⟩:=E4y ha hd'
 have hne:(d.take k).isEmpty=false:=by
  cases h9:d.take k with
  | nil=>
   have:=congrArg List.length h9;rw[List.length_take,List.length_nil]at this;omega
  | cons _ _=>rfl
 have hall:(d.take k).all A1d=true:=List.all_eq_true.2 hd'
 have hhead:(d.take k).head?=d.head?:=by
  cases d with
  | nil=>rw[List.take_nil]
  | cons c r=>cases k with
   | zero=>omega
   | succ k=>rfl
 have hv:=B6y d k;rw[B9x,e1,e2]at h;rw[B9x,f1,f2,hne,hall,hhead];split at h
 ·simp at h
 rename_i hc;rw[Bool.or_eq_true,not_or]at hc
 have h48:(d.head?==some 48&&(a++d.take k) != [48])=false:=by
  cases h9:(d.head?==some 48)with
  | false=>rfl
  | true=>
   have:=hc.2;rw[h9,Bool.true_and]at this
   have hl:a++d=[48]:=by simpa using this
   rcases ha with rfl | rfl
   ·rw[List.nil_append]at hl;subst hl
    have:k=1:=by simp at hkl;omega
    subst this;rfl
   ·cases hl
 rw[h48];simp only[Bool.not_true,Bool.or_self,Bool.false_eq_true,if_false];split at h
 ·rw[if_pos (by assumption)];split at h
  ·rw[if_pos (by omega)]
  ·simp at h
 ·rw[if_neg (by assumption)];split at h
  ·rw[if_pos (by omega)]
  ·simp at h
theorem F0o {s:List UInt8} (h:s[0]?≠some 45):(sgn s).1=[]:=by
 cases s with
 | nil=>rfl
 | cons c r=>
  unfold sgn;split
  ·rename_i e;injection e with e _;subst e;exact absurd rfl h
  ·rfl
def SPm (l:List UInt8) (i j first:Nat):A0b:=⟨[(4,.t (iv (first:Int))),(3,.t (iv (i:Int))),(0,.ptr 0 0)],[(0,pr l j)],1,108⟩
set_option maxHeartbeats 1000000 in
theorem D9v (hl:l.length<=2100000000000) (hi:i<=l.length):PM Tryz.prog (G q) l 222 i [] (resX l iv (A8k (l.drop i))):=by
 obtain⟨s,hs⟩:∃s,s=l.drop i:=⟨_,rfl⟩
 have hsl:i+s.length=l.length:=by rw[hs,List.length_drop];omega
 have C:=ctxA (q:=q) (l:=l) [(210,gNu)] (.cons hNu .nil);have E:=panA (q:=q) (l:=l);rw[<-hs]
 obtain⟨O,hO⟩:∃O,O=resX l iv (A8k s):=⟨_,rfl⟩
 rw[<-hO]
 obtain⟨a,ha⟩:∃a,a=(sgn s).1:=⟨_,rfl⟩
 obtain⟨d,hd⟩:∃d,d=(sgn s).2:=⟨_,rfl⟩
 obtain⟨w,hw⟩:∃w,w=d.takeWhile A1d:=⟨_,rfl⟩
 have ha1:a=[]\/a=[45]:=by rw[ha];exact D2y s
 have had:a++d=s:=by rw[ha,hd];exact B9y s
 have hlen:a.length+d.length=s.length:=by rw[<-had,List.length_append]
 have hwd:w++d.dropWhile A1d=d:=by rw[hw];exact List.takeWhile_append_dropWhile
 have hwl:w.length<=d.length:=by rw[<-hwd,List.length_append];omega
 have hwdig:∀c∈w,A1d c=true:=fun c hc=>by rw[hw]at hc;exact List.all_eq_true.1 List.all_takeWhile c hc
 have htk:∀k,k<=w.length->s.take (a.length+k)=a++w.take k:=fun k hk=>by
  rw[<-had,List.take_length_add_append,<-hwd,List.take_append_of_le_length hk]
 unfold A8k at hO;simp only at hO;rw[<-ha,<-hd,<-hw]at hO
 obtain⟨first,hfirst⟩:∃f,f=i+a.length:=⟨_,rfl⟩
 refine B0x.callO rfl ?_;unfold A6a;refine A0a C ?_;simp -implicitDefEqProofs;refine A0a C ?_;simp -implicitDefEqProofs [pl1];have n1:=F2q l i [] 1 (by omega) 45;have n1:hP l (gNx l) [.ptr 0 0,.t (.v (.int .u8 45))] [(0,pr l i)] 1=some (.t (bv (isNx l i 45)),[(0,pr l i)],1):=n1;refine A0o (α:=Unit) (fun _=>⟨[(3,.t (iv (i:Int))),(0,.ptr 0 0)],[(0,pr l first)],1,108⟩) (fun _=>True) (fun _=>rfl) ?_ ?_
 ·refine A0c C ?_;by_cases h45:l[i]?=some 45
  ·have e:a=[45]:=by rw[ha,hs,B5z h45];rfl
   have hb:isNx l i 45=true:=decide_eq_true h45;rw[hb]at n1
   have ef:first=i+1:=by rw[hfirst,e];rfl
   have e1:IntKind.i64.wrap ((i:Int)+1)=(first:Int):=by rw[ef];exact A0h (by omega) (by omega)
   simp -implicitDefEqProofs [ctA,n1,pl1,e1,pw1];exact Abs.Next.mk () trivial (A0d (by simp -implicitDefEqProofs))
  ·have e:a=[]:=by
    rw[ha];refine F0o fun h=>h45 ?_;rw[hs,C6b,Nat.add_zero]at h;exact h
   have hb:isNx l i 45=false:=decide_eq_false h45;rw[hb]at n1
   have ef:first=i:=by rw[hfirst,e];rfl
   simp -implicitDefEqProofs [ctA,n1];rw[ef];exact Abs.Next.mk () trivial (A0d (by simp -implicitDefEqProofs))
 rintro _ -;refine A0a C ?_;simp -implicitDefEqProofs [pl1]
 have hget:∀k,l[first+k]?=d[k]?:=fun k=>by
  have:s[a.length+k]?=d[k]?:=by rw[<-had,List.getElem?_append_right (by omega),Nat.add_sub_cancel_left]
  rw[<-this,hs,C6b,hfirst];congr 1;omega
 refine A0o (α:=Unit) (fun _=>SPm l i (first+w.length) first) (fun _=>w≠[]->(numS (a++w)).2=0) (fun _=>rfl) ?_ ?_
 ·refine A0f ?_
  refine A0k (fun j=>SPm l i j first) (fun j=>l.length-j) (fun j=>first<=j/\j<=first+w.length/\(first<j->(numS (a++w.take (j-first))).2=0)) first (fun _=>rfl) ⟨Nat.le_refl _,by omega,fun h=>by omega⟩ ?_ rfl ?_
  ·exact A0d (by simp -implicitDefEqProofs [SPm])
  rintro j ⟨hge,hle,hok⟩
  obtain⟨k,hk⟩:∃k,j=first+k:=⟨j-first,by omega⟩
  have hgk:=hget k;rw[<-hk]at hgk;by_cases hlt:k<w.length
  ·obtain⟨c,hc,hdg⟩:=F4k A1d d k (by rw[<-hw];exact hlt)
   have hlj:j<l.length:=by omega
   have i1:=D9l l (hgk.trans hc);unfold A1d at hdg;rw[Bool.and_eq_true,decide_eq_true_iff,decide_eq_true_iff]at hdg
   have b1:(48:Int)<=(c.toNat:Int):=by omega
   have b2:(c.toNat:Int)<=57:=by omega
   obtain⟨j1,hj1⟩:∃j1,j1=j+1:=⟨_,rfl⟩
   have e1:IntKind.i64.wrap ((j:Int)+1)=(j1:Int):=A0h (by omega) (by omega);have s1:=D5y l (i:=i) (j:=j1) (by omega) (by omega);rw[<-hs,show j1-i=a.length+(k+1)by omega,htk (k+1) (by omega)]at s1;have g1:=E4e (s:=bs (a++w.take (k+1))) (by rw[A0q,List.length_append,List.length_take];omega);rw[A5n]at g1;have g1:gNu [sv (bs (a++w.take (k+1)))]=some (.tu [iv (numS (a++w.take (k+1))).1,iv (numS (a++w.take (k+1))).2]):=g1;refine A7e C E rfl ?_;by_cases h0:(numS (a++w.take (k+1))).2=0
   ·have b0:((numS (a++w.take (k+1))).2 != 0)=false:=by simpa using h0
    simp -implicitDefEqProofs [SPm,pl0,pl1,A0q,hlj,i1,b1,b2,e1,pw1,s1,g1,b0];exact Abs.Next.mk j1 ⟨⟨by omega,by omega,fun _=>by rw[show j1-first=k+1 by omega];exact h0⟩,by omega⟩ (A0d (by simp -implicitDefEqProofs [SPm]))
   ·have b0:((numS (a++w.take (k+1))).2 != 0)=true:=by simpa using h0
    have hwn:w≠[]:=by intro e;rw[e]at hlt;simp at hlt
    have hbad:(numS (a++w)).2≠0:=fun h=>h0 (D9u ha1 hwdig h (by omega) (by omega));rw[if_neg hwn,if_neg hbad]at hO;have hO:O = .error 8:=hO;rw[hO];simp -implicitDefEqProofs [SPm,pl0,pl1,A0q,hlj,i1,b1,b2,e1,pw1,s1,g1,b0,bld1,ag1,outP]
  ·have ejn:j=first+w.length:=by omega
   have hkk:k=(d.takeWhile A1d).length:=by rw[<-hw];omega
   have hfin:w≠[]->(numS (a++w)).2=0:=fun hwn=>by
    have h1:0<w.length:=List.length_pos_iff.2 hwn;have:=hok (by omega);rwa[show j-first=w.length by omega,List.take_length]at this
   refine A0c C ?_
   cases hc:l[j]? with
   | none=>
    have hlj:¬j<l.length:=by
     have:=List.getElem?_eq_none_iff.1 hc;omega
    simp -implicitDefEqProofs [SPm,pl0,pl1,A0q,hlj];rw[ejn];exact Abs.Next.mk () hfin (A0d (by simp -implicitDefEqProofs))
   | some c=>
    have hlj:j<l.length:=(List.getElem?_eq_some_iff.1 hc).1;have i1:=D9l l hc;have hdg:=E4j A1d d c (by rw[<-hkk,<-hgk,hc]);unfold A1d at hdg;by_cases b1:48<=c.toNat
    ·have b2:¬c.toNat<=57:=fun e=>by simp[b1,e]at hdg
     have b1':(48:Int)<=(c.toNat:Int):=by omega
     have b2':¬(c.toNat:Int)<=57:=by omega
     simp -implicitDefEqProofs [SPm,pl0,pl1,A0q,hlj,i1,b1',b2'];rw[ejn];exact Abs.Next.mk () hfin (A0d (by simp -implicitDefEqProofs))
    ·have b1':¬(48:Int)<=(c.toNat:Int):=by omega
     simp -implicitDefEqProofs [SPm,pl0,pl1,A0q,hlj,i1,b1'];rw[ejn];exact Abs.Next.mk () hfin (A0d (by simp -implicitDefEqProofs))
 rintro _ hfin
 obtain⟨j,hj⟩:∃j,j=first+w.length:=⟨_,rfl⟩
 rw[<-hj]
 have hrest:d.dropWhile A1d=l.drop j:=by
  have:l.drop j=(s.drop a.length).drop w.length:=by rw[hs,List.drop_drop,List.drop_drop];congr 1;omega
  rw[this,<-had,List.drop_left,<-hwd,List.drop_left,hwd]
 by_cases h0:w=[]
 ·rw[if_pos h0]at hO
  have b0:((j:Int)==(first:Int))=true:=by
   rw[beq_iff_eq]
   have:w.length=0:=by rw[h0];rfl
   omega
  have f1:=E4x l j [] 1 (by omega);rw[hrest]at hO;have hO:O = .error (eosE (l.drop j)):=hO;rw[hO];refine A1c C E rfl ?_;simp -implicitDefEqProofs [SPm,pl1,b0,ctA,ceA,f1,outP]
 ·have hpos:0<w.length:=List.length_pos_iff.2 h0;rw[if_neg h0,if_pos (hfin h0)]at hO
  have b0:((j:Int)==(first:Int))=false:=by rw[beq_eq_false_iff_ne];omega
  have hO:O = .ok (iv (numS (a++w)).1,j):=by
   rw[hO,hrest];show Except.ok (_,_)=_;rw[List.length_drop];congr 2;omega
  have s1:=D5y l (i:=i) (j:=j) (by omega) (by omega);rw[<-hs,show j-i=a.length+w.length by omega,htk w.length (Nat.le_refl _),List.take_length]at s1;have g1:=E4e (s:=bs (a++w)) (by rw[A0q,List.length_append];omega);rw[A5n]at g1;have g1:gNu [sv (bs (a++w))]=some (.tu [iv (numS (a++w)).1,iv (numS (a++w)).2]):=g1;rw[hO,D6j];refine A0a C ?_;simp -implicitDefEqProofs [SPm,pl1,b0];refine A0a C ?_;simp -implicitDefEqProofs [pl0,pl1,s1,g1];refine A0c C ?_;simp -implicitDefEqProofs;exact⟨.inr rfl,_,_,Sub.refl _,rfl,rfl,rfl,rfl⟩
noncomputable def gNb (l:List UInt8):PG:=fun i ts=>match ts with
 | []=>if i<=l.length then some (resX l iv (A8k (l.drop i)))else none
 | _=>none
theorem F2s (hl:l.length<=2100000000000):∀i ts o,gNb l i ts=some o->PM Tryz.prog (G q) l 222 i ts o:=fun i ts o h=>by
 unfold gNb at h;split at h
 ·split at h
  ·injection h with h;subst h;exact D9v hl (by assumption)
  ·cases h
 ·cases h
theorem E4z (hi:i<=l.length):gNb l i []=some (resX l iv (A8k (l.drop i))):=if_pos hi
variable {q : Gl} {l : List UInt8} {i : Nat}
structure At (l:List UInt8) (j:Nat) (s:List UInt8):Prop where
 le:j<=l.length
 eq:l.drop j=s
theorem At.len {j:Nat} {s:List UInt8} (h:At l j s):j=l.length-s.length:=by
 have:=congrArg List.length h.eq;rw[List.length_drop]at this;have:=h.le;omega
theorem At.suf {j:Nat} {x r:List UInt8} (h:At l j (x++r)):At l (l.length-r.length) r/\l.length-r.length=j+x.length:=by
 have h1:=h.len;have h2:=h.le;rw[List.length_append]at h1;have h3:=congrArg List.length h.eq;rw[List.length_drop,List.length_append]at h3
 have e:l.length-r.length=j+x.length:=by omega
 refine⟨⟨by omega,?_⟩,e⟩;rw[e,<-List.drop_drop,h.eq,List.drop_left]
theorem At.tail {j:Nat} {c:UInt8} {r:List UInt8} (h:At l j (c::r)):At l (j+1) r:=by
 have h1:=(h.suf (x:=[c]) (r:=r))
 have e:l.length-r.length=j+1:=h1.2;rw[<-e];exact h1.1
theorem At.head {j:Nat} {c:UInt8} {r:List UInt8} (h:At l j (c::r)):l[j]?=some c:=by
 have:(l.drop j)[0]?=some c:=by rw[h.eq];rfl
 rwa[C6b,Nat.add_zero]at this
theorem At.takX {j:Nat} {c:UInt8} {s:List UInt8} (h:At l j s):takX l j c=(match takB c s with
  | .ok _=>.ok (.tu [],j+1)
  | .error e=>.error e):=by unfold Proofs.YtmplckgbeaifkaaGreatDoor.takX;rw[h.eq];all_goals (cases Proofs.YtmplckgbeaifkaaGreatDoor.takB c s<;>rfl)
theorem At.isNx {j:Nat} {c:UInt8} {s:List UInt8} (h:At l j s):isNx l j c=decide (s.head?=some c):=by
 unfold Proofs.YtmplckgbeaifkaaGreatDoor.isNx;rw[<-h.eq,List.head?_drop]
noncomputable def gNd (k:Nat) (l:List UInt8):PG:=fun i ts=>match ts with
 | [.v (.int .i64 m)]=>if m=65-(k:Int)/\i<=l.length then some (resX l (fun d=>.ag (encD d)) (A2w k (l.drop i)))else none
 | _=>none
theorem F7p {k:Nat} (hi:i<=l.length):gNd k l i [iv (65-(k:Int))]=some (resX l (fun d=>.ag (encD d)) (A2w k (l.drop i))):=if_pos ⟨rfl,hi⟩
noncomputable def ctN (k:Nat) (l:List UInt8):HTbl:=[(219,hP l (gNx l)),(200,hP l (gFl l)),(220,hP l (gTa l)),(221,hP l (gNa l)),(222,hP l (gNb l)),(199,hP l (gNd k l))]
noncomputable def ceN (k:Nat) (l:List UInt8):ETbl:=[(219,eP l (gNx l)),(200,eP l (gFl l)),(220,eP l (gTa l)),(221,eP l (gNa l)),(222,eP l (gNb l)),(199,eP l (gNd k l))]
section
variable {k : Nat} (hl : l.length <= 2100000000000) (hrec : ∀ i ts o, gNd k l i ts = some o -> PM Tryz.prog (G q) l 199 i ts o)
include hl hrec
theorem F7q:Ctx Tryz.prog (G q) (orh [] (ctN k l)):=A0y.nil.ctxH (.cons (A4t C3v).hok (.cons (A4t D6g).hok (.cons (A4t D6i).hok (.cons (A4t (F2r hl)).hok (.cons (A4t (F2s hl)).hok (.cons (A4t hrec).hok .nil)))))) mixed
theorem F7r:POK Tryz.prog (G q) (orE (ceN k l)):=A9s.ok (.cons (A4t C3v).eok (.cons (A4t D6g).eok (.cons (A4t D6i).eok (.cons (A4t (F2r hl)).eok (.cons (A4t (F2s hl)).eok (.cons (A4t hrec).eok .nil))))))
end
section
variable (X Y : Row) (R : Heap) (nx : Nat) (l) (j : Nat)
theorem nx2 (h:0<nx) (c:UInt8):hP l (gNx l) [.ptr 0 0,.t (cv c)] ((1,Y)::(0,pr l j)::R) nx=some (.t (bv (isNx l j c)),(1,Y)::(0,pr l j)::R,nx):=C3s (ts:=[cv c]) rfl h (C3u c)
theorem nx2n (c:UInt8):eP l (gNx l) [.ptr 0 0,.t (cv c)] ((1,Y)::(0,pr l j)::R) nx=none:=C3t (ts:=[cv c]) (x:=(bv (isNx l j c),j)) rfl (C3u c)
theorem nx3 (h:0<nx) (c:UInt8):hP l (gNx l) [.ptr 0 0,.t (cv c)] ((2,X)::(1,Y)::(0,pr l j)::R) nx=some (.t (bv (isNx l j c)),(2,X)::(1,Y)::(0,pr l j)::R,nx):=C3s (ts:=[cv c]) rfl h (C3u c)
theorem nx3n (c:UInt8):eP l (gNx l) [.ptr 0 0,.t (cv c)] ((2,X)::(1,Y)::(0,pr l j)::R) nx=none:=C3t (ts:=[cv c]) (x:=(bv (isNx l j c),j)) rfl (C3u c)
theorem fl3 (h:0<nx):eP l (gFl l) [.ptr 0 0] ((2,X)::(1,Y)::(0,pr l j)::R) nx=some (errC (eosE (l.drop j))):=C9y (ts:=[]) rfl h rfl
theorem m3 (h:0<nx) {g:PG} {ts:List T} {r:T} {j':Nat} (ho:g j ts=some (.ok (r,j'))):hP l g (.ptr 0 0::ts.map .t) ((2,X)::(1,Y)::(0,pr l j)::R) nx=some (.t r,(2,X)::(1,Y)::(0,pr l j')::R,nx):=C3s (ts:=ts) rfl h ho
theorem m3n {g:PG} {ts:List T} {x:T×Nat} (ho:g j ts=some (.ok x)):eP l g (.ptr 0 0::ts.map .t) ((2,X)::(1,Y)::(0,pr l j)::R) nx=none:=C3t (ts:=ts) rfl ho
theorem m3p (h:0<nx) {g:PG} {ts:List T} {e:Int} (ho:g j ts=some (.error e)):eP l g (.ptr 0 0::ts.map .t) ((2,X)::(1,Y)::(0,pr l j)::R) nx=some (errC e):=C9y (ts:=ts) rfl h ho
theorem m2 (h:0<nx) {g:PG} {ts:List T} {r:T} {j':Nat} (ho:g j ts=some (.ok (r,j'))):hP l g (.ptr 0 0::ts.map .t) ((1,Y)::(0,pr l j)::R) nx=some (.t r,(1,Y)::(0,pr l j')::R,nx):=C3s (ts:=ts) rfl h ho
theorem m2n {g:PG} {ts:List T} {x:T×Nat} (ho:g j ts=some (.ok x)):eP l g (.ptr 0 0::ts.map .t) ((1,Y)::(0,pr l j)::R) nx=none:=C3t (ts:=ts) rfl ho
theorem m2p (h:0<nx) {g:PG} {ts:List T} {e:Int} (ho:g j ts=some (.error e)):eP l g (.ptr 0 0::ts.map .t) ((1,Y)::(0,pr l j)::R) nx=some (errC e):=C9y (ts:=ts) rfl h ho
theorem pl3:A0g false 1 ((2,X)::(1,Y)::(0,pr l j)::R) (.ptr 0 1)=some (.t (iv (j:Int))):=rfl
theorem pw3 (j':Nat):A0t 1 ((2,X)::(1,Y)::(0,pr l j)::R) (.ptr 0 1) (.t (iv (j':Int)))=some ((2,X)::(1,Y)::(0,pr l j')::R):=rfl
end
section
variable (k k' : Int) (n n' : ByteArray) (f t : Int) (p : PV) (R : Heap)
theorem nl0:A0g false 1 ((2,kRow k n f t p)::R) (.ptr 2 0)=some (.t (iv k)):=rfl
theorem nl4:A0g false 1 ((2,kRow k n f t p)::R) (.ptr 2 4)=some p:=rfl
theorem ns0:A0t 1 ((2,kRow k n f t p)::R) (.ptr 2 0) (.t (iv k'))=some ((2,kRow k' n f t p)::R):=rfl
theorem ns1:A0t 1 ((2,kRow k n f t p)::R) (.ptr 2 1) (.t (sv n'))=some ((2,kRow k n' f t p)::R):=rfl
theorem ns2:A0t 1 ((2,kRow k n f t p)::R) (.ptr 2 2) (.t (iv k'))=some ((2,kRow k n k' t p)::R):=rfl
theorem ns3:A0t 1 ((2,kRow k n f t p)::R) (.ptr 2 3) (.t (iv k'))=some ((2,kRow k n f k' p)::R):=rfl
theorem ns5 (tk:T):A0t 5 ((2,zRow)::R) (.ptr 2 0) (.t (.ag [iv k,sv n,iv f,iv t,tk]))=some ((2,kRow k n f t (.t tk))::R):=rfl
end
theorem bld50:A8e (fun k=>[(0,1),(1,1),(2,1),(3,1),(4,1)][k]?) [.t (iv 0),.t (sv ⟨#[]⟩),.t (iv 0),.t (iv 0),.t nilS] [(0,.t (iv 0))]=some [.t (iv 0),.t (sv ⟨#[]⟩),.t (iv 0),.t (iv 0),.t nilS]:=rfl
variable {q : Gl} {l : List UInt8} {i : Nat}
def dD (d:Dv):Row:=.cells 26 ((encD d).map .t)
def outN (l:List UInt8):Except Int (Dv×List UInt8)->Out
 | .ok (d,r)=>.ret (.t (.ag (encD d))) [(2,dD d),(1,dD d),(0,pr l (l.length-r.length))] 3
 | .error e=>.pan (errC e)
theorem PM.node {P:Program} {G:A0u} {f:FuncId} {ts:List T} {x:Except Int (Dv×List UInt8)} (h:F0h P G f (.ptr 0 0::ts.map .t) [(0,pr l i)] 1 (outN l x)):PM P G l f i ts (resX l (fun d=>.ag (encD d)) x):=by
 cases x with
 | error e=>exact h
 | ok y=>
  obtain⟨d,r⟩:=y;exact PM.ret h rfl
theorem F0p {P:Program} {G:A0u} {B b3 nx n p:Nat} {env:List (Nat×PV)} {H:Heap} {k f t:Int} {nm:ByteArray} {kids:List Dv} (hB:B<=3) (hr:A0p eD 26 H b3 kids) (hb:2<b3)
  (h2:Abs.look H 2=some (kRow k nm f t (rowP eD b3 kids))) (h1:Abs.look H 1=some zRow) (h0:Abs.look H 0=some (pr l p))
  (e5:Abs.look env 5=some (.ptr 2 0)) (e4:Abs.look env 4=some (.ptr 1 0)) (e0:Abs.look env 0=some (.ptr 0 0)) :
  Sub P G B ⟨env,H,nx,n⟩ ⟨[(5,.ptr 2 0),(4,.ptr 1 0),(0,.ptr 0 0)],[(2,kRow k nm f t (.t (A1g eD kids))),(1,zRow),(0,pr l p)],3,n⟩:=by
 have h3:Sub P G B ⟨env,H,nx,n⟩ (A0b.frz ⟨env,H,nx,n⟩ [b3]):=B9i [b3];refine h3.trans (B0l (fun x=>x) rfl hB (fun _ _=>rfl) (fun q hq=>?_) (fun q hq=>?_) (fun _ _ _ _ e=>e))
 ·simp only[A0b.frz,A6q];simp only[List.mem_cons,List.not_mem_nil,or_false]at hq;rcases hq with rfl | rfl | rfl
  ·rw[e5];exact⟨rfl,rfl⟩
  ·rw[e4];exact⟨rfl,rfl⟩
  ·rw[e0];exact⟨rfl,rfl⟩
 ·have hl:∀k,k≠b3->Abs.look (remAll H [b3]) k=Abs.look H k:=fun k hk=>by
   simp only[remAll,List.foldl_cons,List.foldl_nil];rw[A2i,if_neg hk]
  have hf:frzP H [b3] (rowP eD b3 kids) = .t (A1g eD kids):=by
   unfold frzP;rw[hr.toT]
   have:(D8h b3 kids).all ([b3].contains ·)=true:=by cases kids<;>simp[D8h]
   simp only[this,if_true]
  simp only[A0b.frz,A6q];simp only[List.mem_cons,List.not_mem_nil,or_false]at hq;rcases hq with rfl | rfl | rfl
  ·refine⟨?_,by show 2<3;omega,rfl⟩;rw[hl 2 (by omega),h2,Option.map_some];simp only[kRow,B6q,List.map_cons,List.map_nil,E4u,hf,A3j,renL,ren]
  ·refine⟨?_,by show 1<3;omega,rfl⟩;rw[hl 1 (by omega),h1,Option.map_some];simp only[dRow,B6q,List.map_cons,List.map_nil,E4u,A3j,renL,ren]
  ·refine⟨?_,by show 0<3;omega,rfl⟩;rw[hl 0 (by omega),h0,Option.map_some];simp only[B6q,List.map_cons,List.map_nil,E4u,A3j,renL,ren]
theorem C9z {k:Nat} {s:List UInt8} (h:s.head?≠some 40):A2w k s = .error (eosE s):=by
 cases s with
 | nil=>cases k<;>rfl
 | cons c r=>
  have hc:¬c=40:=fun e=>h (by rw[e];rfl);cases k<;>rw[A2w,if_neg hc]<;>rfl
theorem E5a (hl:l.length<=2100000000000) (hi:i<=l.length):PM Tryz.prog (G q) l 199 i [iv 65] (resX l (fun d=>.ag (encD d)) (A2w 0 (l.drop i))):=by
 have C:Ctx Tryz.prog (G q) (orh [] [(219,hP l (gNx l)),(220,hP l (gTa l))]):=A0y.nil.ctxH (.cons (A4t C3v).hok (.cons (A4t D6i).hok .nil)) mixed;have E:POK Tryz.prog (G q) (orE [(219,eP l (gNx l)),(220,eP l (gTa l))]):=A9s.ok (.cons (A4t C3v).eok (.cons (A4t D6i).eok .nil));refine PM.node ?_
 obtain⟨s,hs⟩:∃s,s=l.drop i:=⟨_,rfl⟩
 have hat:At l i s:=⟨hi,hs.symm⟩
 rw[<-hs];refine A6y.callO rfl ?_;unfold A4m;have n1:hP l (gNx l) [.ptr 0 0,.t (.v (.int .u8 40))] [(1,zRow),(0,pr l i)] 2=some (.t (bv (isNx l i 40)),[(1,zRow),(0,pr l i)],2):=nx2 l zRow [] 2 i (by omega) 40;have n1n:eP l (gNx l) [.ptr 0 0,.t (.v (.int .u8 40))] [(1,zRow),(0,pr l i)] 2=none:=nx2n l zRow [] 2 i 40;rw[hat.isNx]at n1;by_cases h:s.head?=some 40
 ·have e:A2w 0 s = .error 7:=by
   cases s with
   | nil=>cases h
   | cons c r=>
    have:c=40:=by simpa using h
    rw[A2w,if_pos this]
  rw[decide_eq_true h]at n1;rw[e];refine A0a C ?_;simp -implicitDefEqProofs [A2h];refine A1c C E rfl ?_;simp -implicitDefEqProofs [n1,n1n,bld1,ag1,outN]
 ·rw[decide_eq_false h]at n1;rw[C9z h]
  have ho:gTa l i [cv 40]=some (.error (eosE s)):=by
   rw[C3w 40 (by omega),D3e (fun e=>h (by rw[<-hat.eq,List.head?_drop,e])),hat.eq]
  have t1:eP l (gTa l) [.ptr 0 0,.t (.v (.int .u8 40))] [(1,zRow),(0,pr l i)] 2=some (errC (eosE s)):=m2p l zRow [] 2 i (by omega) (ts:=[cv 40]) ho;refine A0a C ?_;simp -implicitDefEqProofs [A2h];refine A1c C E rfl ?_;simp -implicitDefEqProofs [n1,n1n];refine A1c C E rfl ?_;simp -implicitDefEqProofs [t1,outN]
structure Nk where
 ks:List Dv
 j:Nat
def SNk (v:Int) (lx:Bool) (nm:ByteArray) (f t:Int) (l:List UInt8) (a:Nk):A0b:=⟨[(5,.ptr 2 0),(4,.ptr 1 0),(1,.t (iv v)),(0,.ptr 0 0)],[(2,kRow (A1f lx a.ks) nm f t (rowP eD 3 a.ks)),(1,zRow),(0,pr l a.j)]++rowH eD 26 3 a.ks,4,87⟩
structure OkNk (k:Nat) (lx:Bool) (l:List UInt8) (Res:Except Int (List Dv×List UInt8)) (a:Nk):Prop where
 le:a.j<=l.length
 few:a.ks.length<=a.j
 eq:∃n,l.length-a.j<=n/\A2y (A2w k) n lx a.ks (l.drop a.j)=Res
theorem tsDv (d:Dv):A9a 26 5 [.int .i64 0,.string ⟨#[]⟩,.int .i64 0,.int .i64 0,.slice none 0 0] 1 [(0,.t (.ag (encD d)))]=some (.t (.sl 1 (encD d))):=by
 cases d;rw[encD];rfl
theorem C0u {rd:List UInt8->Except Int (Dv×List UInt8)} {n:Nat} {lex:Bool} {acc:List Dv} {s:List UInt8} (h:(∀t,s≠32::t)\/(lex && !acc.isEmpty)=true):A2y rd n lex acc s = .ok (acc,s):=by
 cases n with
 | zero=>rw[A2y];intros;omega
 | succ n=>
  by_cases hs:∃t,s=32::t
  ·obtain⟨t,rfl⟩:=hs;rw[A2y,if_pos (h.resolve_left (fun e=>e t rfl))]
  ·rw[A2y];intro n' t _ e;exact hs ⟨t,e⟩
section
variable {j nx : Nat} {s r : List UInt8} {c : UInt8} {m x : Int} (X Y : Row) (R : Heap) (hl : l.length <= 2100000000000) (h : At l j s) (hn : 0 < nx)
include h
include hl in
theorem tk3n (e:takB c s = .ok r):eP l (gTa l) [.ptr 0 0,.t (cv c)] ((2,X)::(1,Y)::(0,pr l j)::R) nx=none:=by
 have:=h.le;exact m3n l X Y R nx j (ts:=[cv c]) (x:=(.tu [],j+1)) (by rw[C3w c (by omega),h.takX,e])
theorem nb3n (e:A8k s = .ok (m,r)):eP l (gNb l) [.ptr 0 0] ((2,X)::(1,Y)::(0,pr l j)::R) nx=none:=m3n l X Y R nx j (ts:=[]) (x:=(iv m,l.length-r.length)) (by rw[E4z h.le,h.eq,e];rfl)
include hn
include hl in
theorem tk3 (e:takB c s = .ok r):hP l (gTa l) [.ptr 0 0,.t (cv c)] ((2,X)::(1,Y)::(0,pr l j)::R) nx=some (.t (.tu []),(2,X)::(1,Y)::(0,pr l (j+1))::R,nx):=by
 have:=h.le;exact m3 l X Y R nx j hn (ts:=[cv c]) (by rw[C3w c (by omega),h.takX,e])
include hl in
theorem tk3e (e:takB c s = .error x):eP l (gTa l) [.ptr 0 0,.t (cv c)] ((2,X)::(1,Y)::(0,pr l j)::R) nx=some (errC x):=by
 have:=h.le;exact m3p l X Y R nx j hn (ts:=[cv c]) (by rw[C3w c (by omega),h.takX,e])
theorem nb3 (e:A8k s = .ok (m,r)):hP l (gNb l) [.ptr 0 0] ((2,X)::(1,Y)::(0,pr l j)::R) nx=some (.t (iv m),(2,X)::(1,Y)::(0,pr l (l.length-r.length))::R,nx):=m3 l X Y R nx j hn (ts:=[]) (by rw[E4z h.le,h.eq,e];rfl)
theorem nb3e (e:A8k s = .error x):eP l (gNb l) [.ptr 0 0] ((2,X)::(1,Y)::(0,pr l j)::R) nx=some (errC x):=m3p l X Y R nx j hn (ts:=[]) (by rw[E4z h.le,h.eq,e];rfl)
end
theorem D9w {k:Nat} (hk:k<64) (hl:l.length<=2100000000000) (hi:i<=l.length) (hrec:∀i ts o,gNd k l i ts=some o->PM Tryz.prog (G q) l 199 i ts o) :
  PM Tryz.prog (G q) l 199 i [iv (64-(k:Int))] (resX l (fun d=>.ag (encD d)) (A2w (k+1) (l.drop i))):=by
 have C:=F7q (q:=q) hl hrec;have E:=F7r (q:=q) hl hrec;refine PM.node ?_
 obtain⟨v,hv⟩:∃v,v=64-(k:Int):=⟨_,rfl⟩
 have hv1:¬(64:Int)<v:=by omega
 have ev:IntKind.i64.wrap (v+1)=65-(k:Int):=by rw[C4y (by omega) (by omega)];omega
 rw[<-hv]
 obtain⟨s,hs⟩:∃s,s=l.drop i:=⟨_,rfl⟩
 have hat:At l i s:=⟨hi,hs.symm⟩
 rw[<-hs]
 obtain⟨O,hO⟩:∃O,O=A2w (k+1) s:=⟨_,rfl⟩
 rw[<-hO];refine A6y.callO rfl ?_;unfold A4m;have n1:hP l (gNx l) [.ptr 0 0,.t (.v (.int .u8 40))] [(1,zRow),(0,pr l i)] 2=some (.t (bv (isNx l i 40)),[(1,zRow),(0,pr l i)],2):=nx2 l zRow [] 2 i (by omega) 40;have n1n:eP l (gNx l) [.ptr 0 0,.t (.v (.int .u8 40))] [(1,zRow),(0,pr l i)] 2=none:=nx2n l zRow [] 2 i 40;rw[hat.isNx]at n1;by_cases h40':¬s.head?=some 40
 ·have h40:=h40';rw[decide_eq_false h40]at n1;rw[C9z h40]at hO
  have ho:gTa l i [cv 40]=some (.error (eosE s)):=by
   rw[C3w 40 (by omega),D3e (fun e=>h40 (by rw[<-hat.eq,List.head?_drop,e])),hat.eq]
  have t1:eP l (gTa l) [.ptr 0 0,.t (.v (.int .u8 40))] [(1,zRow),(0,pr l i)] 2=some (errC (eosE s)):=m2p l zRow [] 2 i (by omega) (ts:=[cv 40]) ho;rw[hO];refine A0a C ?_;simp -implicitDefEqProofs [A2h];refine A1c C E rfl ?_;simp -implicitDefEqProofs [ctN,ceN,n1,n1n];refine A1c C E rfl ?_;simp -implicitDefEqProofs [ctN,ceN,t1,outN]
 have h40:s.head?=some 40:=Classical.not_not.1 h40';clear h40'
 obtain⟨s0,rfl⟩:∃s0,s=40::s0:=by
  cases s with
  | nil=>cases h40
  | cons c r=>simp at h40;subst h40;exact⟨r,rfl⟩
 rw[decide_eq_true h40]at n1;rw[A2w,if_pos rfl]at hO;have hat1:=hat.tail
 have ho:gTa l i [cv 40]=some (.ok (.tu [],i+1)):=by rw[C3w 40 (by omega),D6h hat.head]
 have t1:hP l (gTa l) [.ptr 0 0,.t (.v (.int .u8 40))] [(1,zRow),(0,pr l i)] 2=some (.t (.tu []),[(1,zRow),(0,pr l (i+1))],2):=m2 l zRow [] 2 i (by omega) (ts:=[cv 40]) ho;have t1n:eP l (gTa l) [.ptr 0 0,.t (.v (.int .u8 40))] [(1,zRow),(0,pr l i)] 2=none:=m2n l zRow [] 2 i (ts:=[cv 40]) ho;refine A0a C ?_;simp -implicitDefEqProofs [A2h];refine A1c C E rfl ?_;simp -implicitDefEqProofs [ctN,ceN,n1,n1n,hv1];refine A1c C E rfl ?_;simp -implicitDefEqProofs [ctN,ceN,t1,t1n];refine A0a C ?_;simp -implicitDefEqProofs [A2h,bld50,ag5,ns5]
 obtain⟨a,ha⟩:∃a,a=(plus s0).2:=⟨_,rfl⟩
 obtain⟨lx,hlx⟩:∃lx,lx=(plus s0).1:=⟨_,rfl⟩
 have hata:At l (l.length-a.length) a:=by
  have:=E3i s0;rw[<-ha]at this
  have h9:At l (i+1) ((if(plus s0).1=true then [43]else [])++a):=by rw[this];exact hat1
  exact h9.suf.1
 obtain⟨j2,hj2⟩:∃j2,j2=l.length-a.length:=⟨_,rfl⟩
 rw[<-hj2]at hata;refine A0o (α:=Unit) (fun _=>⟨[(5,.ptr 2 0),(4,.ptr 1 0),(1,.t (iv v)),(0,.ptr 0 0)],[(2,kRow (lexI lx) ⟨#[]⟩ 0 0 (.t nilS)),(1,zRow),(0,pr l j2)],3,87⟩) (fun _=>True) (fun _=>rfl) ?_ ?_
 ·have n2:hP l (gNx l) [.ptr 0 0,.t (.v (.int .u8 43))] [(2,kRow 0 ⟨#[]⟩ 0 0 (.t nilS)),(1,zRow),(0,pr l (i+1))] 3=some (.t (bv (isNx l (i+1) 43)),[(2,kRow 0 ⟨#[]⟩ 0 0 (.t nilS)),(1,zRow),(0,pr l (i+1))],3):=nx3 l _ zRow [] 3 (i+1) (by omega) 43;rw[hat1.isNx]at n2;have p3:=pl3 l (kRow 0 ⟨#[]⟩ 0 0 (.t nilS)) zRow [] (i+1)
  obtain⟨i1,hi1⟩:∃i1,i1=i+1:=⟨_,rfl⟩
  rw[<-hi1]at n2 p3 hat1 ⊢;refine A0c C ?_;by_cases h43:s0.head?=some 43
  ·rw[decide_eq_true h43]at n2
   obtain⟨r,hr⟩:∃r,s0=43::r:=by
    cases s0 with
    | nil=>cases h43
    | cons c r=>simp at h43;subst h43;exact⟨r,rfl⟩
   have e1:lx=true:=by rw[hlx,hr];rfl
   have e2:a=r:=by rw[ha,hr];rfl
   have e3:j2=i1+1:=by
    have h1:=hat1.len;have h2:=hata.len;have h3:=hat1.le;rw[hr,List.length_cons]at h1;rw[e2]at h2
    have h4:s0.length<=l.length:=by rw[<-hat1.eq,List.length_drop];omega
    rw[hr,List.length_cons]at h4;omega
   have e4:IntKind.i64.wrap ((i1:Int)+1)=(j2:Int):=by rw[e3];exact A0h (by omega) (by have:=hat1.le;omega)
   have w3:=pw3 l (kRow 0 ⟨#[]⟩ 0 0 (.t nilS)) zRow [] i1 j2;have w4:=fun R=>ns0 0 1 ⟨#[]⟩ 0 0 (.t nilS) R;rw[e1];simp -implicitDefEqProofs [ctN,n2,p3,e4,w3,w4];exact Abs.Next.mk () trivial (A0d (by simp -implicitDefEqProofs))
  ·rw[decide_eq_false h43]at n2
   have e1:a=s0/\lx=false:=by
    rw[ha,hlx];unfold plus;split
    ·exact absurd rfl h43
    ·exact⟨rfl,rfl⟩
   have e3:j2=i1:=by
    have h1:=hat1.len;have h2:=hata.len;rw[e1.1]at h2;omega
   rw[e1.2];simp -implicitDefEqProofs [ctN,n2];rw[e3];exact Abs.Next.mk () trivial (A0d (by simp -implicitDefEqProofs))
 rintro _ -
 have hE:∀e,B6z s0 = .error e->O = .error e:=fun e h=>by rw[hO,h];rfl
 have hH:B6z s0=(do
   let (n,s1) <-A8j a
   let s2 <-takB 32 s1
   let (f,s3) <-A8k s2
   let s4 <-takB 32 s3
   let (t,s5) <-A8k s4
   return (⟨lx,n,f,t⟩,s5)):=by rw[ha,hlx];rfl
 have g1:=F7o (l:=l) hata.le;rw[hata.eq]at g1
 cases hn:A8j a with
 | error e=>
  rw[hn]at g1 hH;have t2:eP l (gNa l) [.ptr 0 0] [(2,kRow (lexI lx) ⟨#[]⟩ 0 0 (.t nilS)),(1,zRow),(0,pr l j2)] 3=some (errC e):=m3p l _ zRow [] 3 j2 (by omega) (ts:=[]) g1;rw[hE e hH];refine A1c C E rfl ?_;simp -implicitDefEqProofs [ctN,ceN,t2,outN]
 | ok x=>
 obtain⟨nm,s1⟩:=x;rw[hn]at g1 hH;dsimp only[bind,Except.bind]at hH
 have hat2:At l j2 (nm++s1):=by rw[<-(C9a hn).1];exact hata
 have hat3:=hat2.suf.1
 obtain⟨j3,hj3⟩:∃j3,j3=l.length-s1.length:=⟨_,rfl⟩
 have g1:gNa l j2 []=some (.ok (sv (bs nm),j3)):=by rw[hj3];exact g1
 rw[<-hj3]at hat3;have t2:hP l (gNa l) [.ptr 0 0] [(2,kRow (lexI lx) ⟨#[]⟩ 0 0 (.t nilS)),(1,zRow),(0,pr l j2)] 3=some (.t (sv (bs nm)),[(2,kRow (lexI lx) ⟨#[]⟩ 0 0 (.t nilS)),(1,zRow),(0,pr l j3)],3):=m3 l _ zRow [] 3 j2 (by omega) (ts:=[]) g1;have t2n:eP l (gNa l) [.ptr 0 0] [(2,kRow (lexI lx) ⟨#[]⟩ 0 0 (.t nilS)),(1,zRow),(0,pr l j2)] 3=none:=m3n l _ zRow [] 3 j2 (ts:=[]) g1;have w1:=fun R=>ns1 (lexI lx) ⟨#[]⟩ (bs nm) 0 0 (.t nilS) R;refine A1c C E rfl ?_;simp -implicitDefEqProofs [ctN,ceN,t2,t2n,w1]
 cases hs2:takB 32 s1 with
 | error e=>
  rw[hs2]at hH;have t3:eP l (gTa l) [.ptr 0 0,.t (.v (.int .u8 32))] [(2,kRow (lexI lx) (bs nm) 0 0 (.t nilS)),(1,zRow),(0,pr l j3)] 3=some (errC e):=tk3e (c:=32) _ zRow [] hl hat3 (by omega) hs2;rw[hE e hH];refine A1c C E rfl ?_;simp -implicitDefEqProofs [ctN,ceN,t3,outN]
 | ok s2=>
 rw[hs2]at hH;dsimp only at hH
 have hat4:At l (j3+1) s2:=by rw[B5t hs2]at hat3;exact hat3.tail
 have t3:hP l (gTa l) [.ptr 0 0,.t (.v (.int .u8 32))] [(2,kRow (lexI lx) (bs nm) 0 0 (.t nilS)),(1,zRow),(0,pr l j3)] 3=some (.t (.tu []),[(2,kRow (lexI lx) (bs nm) 0 0 (.t nilS)),(1,zRow),(0,pr l (j3+1))],3):=tk3 (c:=32) _ zRow [] hl hat3 (by omega) hs2;have t3n:eP l (gTa l) [.ptr 0 0,.t (.v (.int .u8 32))] [(2,kRow (lexI lx) (bs nm) 0 0 (.t nilS)),(1,zRow),(0,pr l j3)] 3=none:=tk3n (c:=32) _ zRow [] hl hat3 hs2;refine A1c C E rfl ?_;simp -implicitDefEqProofs [ctN,ceN,t3,t3n]
 obtain⟨j4,hj4⟩:∃j4,j4=j3+1:=⟨_,rfl⟩
 rw[<-hj4]at hat4 ⊢
 cases hs3:A8k s2 with
 | error e=>
  rw[hs3]at hH;have t4:=nb3e (kRow (lexI lx) (bs nm) 0 0 (.t nilS)) zRow [] hat4 (nx:=3) (by omega) hs3;rw[hE e hH];refine A1c C E rfl ?_;simp -implicitDefEqProofs [ctN,ceN,t4,outN]
 | ok x=>
 obtain⟨fr,s3⟩:=x;rw[hs3]at hH;dsimp only at hH;have t4:=nb3 (kRow (lexI lx) (bs nm) 0 0 (.t nilS)) zRow [] hat4 (nx:=3) (by omega) hs3;have t4n:=nb3n (kRow (lexI lx) (bs nm) 0 0 (.t nilS)) zRow [] hat4 (nx:=3) hs3
 have hat5:At l (l.length-s3.length) s3:=by rw[B8j hs3]at hat4;exact hat4.suf.1
 obtain⟨j5,hj5⟩:∃j5,j5=l.length-s3.length:=⟨_,rfl⟩
 rw[<-hj5]at hat5 t4;have w2:=fun R=>ns2 (lexI lx) fr (bs nm) 0 0 (.t nilS) R;refine A1c C E rfl ?_;simp -implicitDefEqProofs [ctN,ceN,t4,t4n,w2]
 cases hs4:takB 32 s3 with
 | error e=>
  rw[hs4]at hH;have t3:eP l (gTa l) [.ptr 0 0,.t (.v (.int .u8 32))] [(2,kRow (lexI lx) (bs nm) fr 0 (.t nilS)),(1,zRow),(0,pr l j5)] 3=some (errC e):=tk3e (c:=32) _ zRow [] hl hat5 (by omega) hs4;rw[hE e hH];refine A1c C E rfl ?_;simp -implicitDefEqProofs [ctN,ceN,t3,outN]
 | ok s4=>
 rw[hs4]at hH;dsimp only at hH
 have hat6:At l (j5+1) s4:=by rw[B5t hs4]at hat5;exact hat5.tail
 have t5:hP l (gTa l) [.ptr 0 0,.t (.v (.int .u8 32))] [(2,kRow (lexI lx) (bs nm) fr 0 (.t nilS)),(1,zRow),(0,pr l j5)] 3=some (.t (.tu []),[(2,kRow (lexI lx) (bs nm) fr 0 (.t nilS)),(1,zRow),(0,pr l (j5+1))],3):=tk3 (c:=32) _ zRow [] hl hat5 (by omega) hs4;have t5n:eP l (gTa l) [.ptr 0 0,.t (.v (.int .u8 32))] [(2,kRow (lexI lx) (bs nm) fr 0 (.t nilS)),(1,zRow),(0,pr l j5)] 3=none:=tk3n (c:=32) _ zRow [] hl hat5 hs4;refine A1c C E rfl ?_;simp -implicitDefEqProofs [ctN,ceN,t5,t5n]
 obtain⟨j6,hj6⟩:∃j6,j6=j5+1:=⟨_,rfl⟩
 rw[<-hj6]at hat6 ⊢
 cases hs5:A8k s4 with
 | error e=>
  rw[hs5]at hH;have t4:=nb3e (kRow (lexI lx) (bs nm) fr 0 (.t nilS)) zRow [] hat6 (nx:=3) (by omega) hs5;rw[hE e hH];refine A1c C E rfl ?_;simp -implicitDefEqProofs [ctN,ceN,t4,outN]
 | ok x=>
 obtain⟨to,s5⟩:=x;rw[hs5]at hH;dsimp only at hH;have t6:=nb3 (kRow (lexI lx) (bs nm) fr 0 (.t nilS)) zRow [] hat6 (nx:=3) (by omega) hs5;have t6n:=nb3n (kRow (lexI lx) (bs nm) fr 0 (.t nilS)) zRow [] hat6 (nx:=3) hs5
 have hat7:At l (l.length-s5.length) s5:=by rw[B8j hs5]at hat6;exact hat6.suf.1
 obtain⟨j7,hj7⟩:∃j7,j7=l.length-s5.length:=⟨_,rfl⟩
 rw[<-hj7]at hat7 t6;have w3:=fun R=>ns3 (lexI lx) to (bs nm) fr 0 (.t nilS) R;refine A1c C E rfl ?_;simp -implicitDefEqProofs [ctN,ceN,t6,t6n,w3];have hH:B6z s0 = .ok (⟨lx,nm,fr,to⟩,s5):=hH;rw[hH]at hO
 have hO:O=(do
   let (ks,s2) <-A2y (A2w k) s5.length lx [] s5
   if lx&&ks.isEmpty then .error (eosE s2)else
    let s3 <-takB 41 s2
    return (.mk (A1f lx ks) (bs nm) fr to ks,s3)):=hO
 clear t1 t1n t2 t2n t3 t3n t4 t4n t5 t5n n1 n1n ho t6 t6n
 obtain⟨Res,hRes⟩:∃Res,Res=A2y (A2w k) s5.length lx [] s5:=⟨_,rfl⟩
 rw[<-hRes]at hO;refine A0o (α:=Nk) (SNk v lx (bs nm) fr to l) (fun a=>Res = .ok (a.ks,l.drop a.j)/\a.j<=l.length/\a.ks.length<=a.j) (fun _=>rfl) ?_ ?_
 ·refine A0f ?_;refine A0k (SNk v lx (bs nm) fr to l) (fun a=>l.length-a.j) (OkNk k lx l Res) ⟨[],j7⟩ (fun _=>rfl) ⟨hat7.le,by simp,s5.length,by have:=hat7.len;have:=hat7.le;have h9:=congrArg List.length hat7.eq;rw[List.length_drop]at h9;show l.length-j7<=_;omega,by rw[hat7.eq];exact hRes.symm⟩ ?_ rfl ?_
  ·have e:A1f lx []=lexI lx:=by unfold A1f;cases lx<;>rfl
   show Abs.Sub _ _ _ _ ⟨_,_,_,_⟩;rw[e];exact B0z (by omega) (by simp -implicitDefEqProofs [rowH,rowP,A1y,kRow,dRow,A1w,under]) (by simp -implicitDefEqProofs [under])
  ·rintro⟨ks,j⟩ ⟨hle,hfew,n,hn,heq⟩;simp only at hle hfew hn heq
   obtain⟨s,hs⟩:∃s,s=l.drop j:=⟨_,rfl⟩
   have hatj:At l j s:=⟨hle,hs.symm⟩
   rw[<-hs]at heq;have K1:=fun R=>nl0 (A1f lx ks) (bs nm) fr to (rowP eD 3 ks) R;have K4:=fun R=>nl4 (A1f lx ks) (bs nm) fr to (rowP eD 3 ks) R;have ln:=B4c eD 3 ks;have n1:∀X,hP l (gNx l) [.ptr 0 0,.t (.v (.int .u8 32))] ((2,X)::(1,zRow)::(0,pr l j)::rowH eD 26 3 ks) 4=some (.t (bv (isNx l j 32)),(2,X)::(1,zRow)::(0,pr l j)::rowH eD 26 3 ks,4):=fun X=>nx3 l X zRow _ 4 j (by omega) 32;have n1n:∀X,eP l (gNx l) [.ptr 0 0,.t (.v (.int .u8 32))] ((2,X)::(1,zRow)::(0,pr l j)::rowH eD 26 3 ks) 4=none:=fun X=>nx3n l X zRow _ 4 j 32;rw[hatj.isNx]at n1;by_cases hsp:s.head?=some 32
   ·obtain⟨t,rfl⟩:∃t,s=32::t:=by
     cases s with
     | nil=>cases hsp
     | cons c r=>simp at hsp;subst hsp;exact⟨r,rfl⟩
    rw[decide_eq_true hsp]at n1
    cases hlk:lx && !ks.isEmpty with
    | true=>
     rw[C0u (.inr hlk)]at heq;rw[Bool.and_eq_true]at hlk
     have hkl:((ks.length:Int)==0)=false:=by
      rw[beq_eq_false_iff_ne];intro e;have:ks=[]:=List.eq_nil_of_length_eq_zero (by omega);rw[this]at hlk;exact absurd hlk.2 (by simp)
     have kn:(A1f lx ks != 1)=false:=by rw[B1a,hlk.1];rfl
     refine A7e C E rfl ?_;simp -implicitDefEqProofs [SNk,ctN,ceN,n1,n1n,K1,kn,K4,ln,hkl];exact Abs.Next.mk (⟨ks,j⟩:Nk) ⟨by rw[<-heq,hs],hle,hfew⟩ (A0d (by simp -implicitDefEqProofs [SNk]))
    | false=>
     have c2:(∃bb,(A1f lx ks != 1)=bb/\(bb=false->((ks.length:Int)==0)=true)):=by
      refine⟨_,rfl,fun e=>?_⟩;rw[B1a]at e
      have:lx=true:=by simpa using e
      rw[this,Bool.true_and]at hlk
      have:ks=[]:=by simpa using hlk
      rw[this];rfl
     obtain⟨bb,hbb,hbb2⟩:=c2;have hjl:j<l.length:=(List.getElem?_eq_some_iff.1 hatj.head).1;have hatt:=hatj.tail
     obtain⟨n0,rfl⟩:∃n0,n=n0+1:=⟨n-1,by omega⟩
     rw[A2y,if_neg (by rw[hlk];simp)]at heq;refine A0o (α:=Unit) (fun _=>SNk v lx (bs nm) fr to l ⟨ks,j⟩) (fun _=>True) (fun _=>rfl) ?_ ?_
     ·refine A7e C E rfl ?_
      cases bb with
      | true=>
       simp -implicitDefEqProofs [SNk,ctN,ceN,n1,n1n,K1,hbb];exact Abs.Next.mk () trivial (A0d (by simp -implicitDefEqProofs [SNk]))
      | false=>
       have hkl:=hbb2 rfl;simp -implicitDefEqProofs [SNk,ctN,ceN,n1,n1n,K1,hbb,K4,ln,hkl];exact Abs.Next.mk () trivial (A0d (by simp -implicitDefEqProofs [SNk]))
     rintro _ -;refine A0f ?_;have p3:∀X,A0g false 1 ((2,X)::(1,zRow)::(0,pr l j)::rowH eD 26 3 ks) (.ptr 0 1)=some (.t (iv (j:Int))):=fun _=>rfl;have w4:∀X,A0t 1 ((2,X)::(1,zRow)::(0,pr l j)::rowH eD 26 3 ks) (.ptr 0 1) (.t (iv ((j+1:Nat):Int)))=some ((2,X)::(1,zRow)::(0,pr l (j+1))::rowH eD 26 3 ks):=fun _=>rfl
     obtain⟨j1,hj1⟩:∃j1,j1=j+1:=⟨_,rfl⟩
     have e4:IntKind.i64.wrap ((j:Int)+1)=(j1:Int):=by rw[hj1];exact A0h (by omega) (by omega)
     rw[<-hj1]at w4 hatt
     obtain⟨K,hK⟩:∃K,K=A1f lx ks:=⟨_,rfl⟩
     obtain⟨Tr,hTr⟩:∃Tr:Heap,Tr=rowH eD 26 3 ks:=⟨_,rfl⟩
     refine A0a C ?_;simp -implicitDefEqProofs [SNk,p3,e4,w4];rw[<-hK,<-hTr]
     obtain⟨H1,hH1⟩:∃H1:Nat->Heap,H1=fun p=>(2,kRow K (bs nm) fr to (rowP eD 3 ks))::(1,zRow)::(0,pr l p)::Tr:=⟨_,rfl⟩
     have l10:∀p,Abs.look (H1 p) 0=some (pr l p):=fun p=>by rw[hH1];rfl
     have u10:∀p p',upd (H1 p) 0 (pr l p')=H1 p':=fun p p'=>by rw[hH1];rfl
     have kl4:∀R,A0g false 1 ((2,kRow K (bs nm) fr to (rowP eD 3 ks))::R) (.ptr 2 4)=some (rowP eD 3 ks):=fun R=>rfl;have gd:=F7p (k:=k) (l:=l) hatt.le;rw[hatt.eq]at gd
     cases hd:A2w k t with
     | error e=>
      rw[hd]at gd heq;have m3:=C9y (g:=gNd k l) (b:=0) (nx:=4) (l10 j1) (by omega) gd;rw[hH1]at m3;simp only[List.map_cons,List.map_nil]at m3
      have hO:O = .error e:=by rw[hO,<-heq];rfl
      rw[hO];refine B4q C E rfl ?_;simp -implicitDefEqProofs [ctN,ceN,kl4,ev,m3,outN]
     | ok y=>
      obtain⟨d,r⟩:=y;rw[hd]at gd heq;have gd:gNd k l j1 [iv (65-(k:Int))]=some (.ok (.ag (encD d),l.length-r.length)):=gd
      have hsf:At l (l.length-r.length) r/\l.length-r.length=j1+(prtD d).length:=by
       rw[B4h _ _ _ _ hd]at hatt;exact hatt.suf
      obtain⟨j2',hj2'⟩:∃j2',j2'=l.length-r.length:=⟨_,rfl⟩
      rw[<-hj2']at hsf gd;obtain⟨hatr,hj2e⟩:=hsf;have m3:=C3s (g:=gNd k l) (b:=0) (nx:=4) (l10 j1) (by omega) gd;have m4:=C3t (g:=gNd k l) (b:=0) (nx:=4) (l10 j1) gd;rw[u10]at m3
      have r3:A0p eD 26 (H1 j2') 3 ks:=by
       rw[hH1,hTr];exact(((A0p.head' eD 26 3 ks).cons (k:=0) (by omega)).cons (k:=1) (by omega)).cons (k:=2) (by omega)
      obtain⟨b4,H5,n5,ap,r5,ne5,hle5,hold,hb5⟩:=A9g (e:=eD) (ty:=26) (by':=64) (nx:=4) (m:=[d]) (src:=.t (.sl 1 (encD d))) r3 (A7m (e:=eD) (l:=[d]) (.inr (by simp[slT,eD]))) (by simp;omega) (by simp;omega);have ap':appM 26 5 64 (H1 j2') 4 (rowP eD 3 ks) (.t (.sl 1 (encD d)))=some (rowP eD b4 (ks++[d]),H5,n5):=ap;have l52:Abs.look H5 2=some (kRow K (bs nm) fr to (rowP eD 3 ks)):=(hold 2 (by omega) (by omega)).trans (by rw[hH1];rfl);have l51:Abs.look H5 1=some zRow:=(hold 1 (by omega) (by omega)).trans (by rw[hH1];rfl);have l50:Abs.look H5 0=some (pr l j2'):=(hold 0 (by omega) (by omega)).trans (l10 j2')
      obtain⟨H6,hH6⟩:∃H6:Heap,H6=upd H5 2 (kRow K (bs nm) fr to (rowP eD b4 (ks++[d]))):=⟨_,rfl⟩
      have st6:A0t 1 H5 (.ptr 2 4) (rowP eD b4 (ks++[d]))=some H6:=by
       rw[hH6,C0n];simp only[A0t,A1m,l52,kRow];rfl
      have r6:A0p eD 26 H6 b4 (ks++[d]):=r5.imp id fun hh=>by rw[hH6,A1h,if_neg (by omega)];exact hh
      have l62:Abs.look H6 2=some (kRow K (bs nm) fr to (rowP eD b4 (ks++[d]))):=by rw[hH6,A1h,if_pos rfl,l52];rfl
      have l61:Abs.look H6 1=some zRow:=by rw[hH6,A1h,if_neg (by omega)];exact l51
      have l60:Abs.look H6 0=some (pr l j2'):=by rw[hH6,A1h,if_neg (by omega)];exact l50
      have hH2:H1 j2'=(2,kRow K (bs nm) fr to (rowP eD 3 ks))::(1,zRow)::(0,pr l j2')::Tr:=by rw[hH1]
      rw[hH1]at m3 m4;simp only[List.map_cons,List.map_nil]at m3 m4;rw[hH2]at ap'
      obtain⟨K',hK'⟩:∃K',K'=A1f lx (ks++[d]):=⟨_,rfl⟩
      have hKK:K'=if(K==0)=true then 2 else K:=by rw[hK',hK];exact C0r _ _ _
      refine B4q C E rfl ?_;simp -implicitDefEqProofs [ctN,ceN,kl4,ev,m3,m4,tsDv,ap',st6]
      have l70:A0g false 1 H6 (.ptr 2 0)=some (.t (iv K)):=by simp only[A0g,A1m,l62,kRow];rfl
      have s70:A0t 1 H6 (.ptr 2 0) (.t (iv 2))=some (upd H6 2 (kRow 2 (bs nm) fr to (rowP eD b4 (ks++[d])))):=by simp only[A0t,A1m,l62,kRow];rfl
      obtain⟨H7,hH7⟩:∃H7:Heap,H7=if(K==0)=true then upd H6 2 (kRow 2 (bs nm) fr to (rowP eD b4 (ks++[d])))else H6:=⟨_,rfl⟩
      have h7:∀c,c≠2->Abs.look H7 c=Abs.look H6 c:=fun c hc=>by
       rw[hH7];split
       ·rw[A1h,if_neg hc]
       ·rfl
      have l72:Abs.look H7 2=some (kRow K' (bs nm) fr to (rowP eD b4 (ks++[d]))):=by
       rw[hH7,hKK];split
       ·rw[A1h,if_pos rfl,l62];rfl
       ·exact l62
      have r7:A0p eD 26 H7 b4 (ks++[d]):=r6.imp id fun hh=>by rw[h7 b4 (by omega)];exact hh
      have fin:Abs.Sub Tryz.prog (G q) 1 ⟨[(5,.ptr 2 0),(4,.ptr 1 0),(1,.t (iv v)),(0,.ptr 0 0)],H7,n5,87⟩ (SNk v lx (bs nm) fr to l ⟨ks++[d],j2'⟩):=by
       refine B8g (k:=b4) r7 (by omega) (by omega) ?_ ?_
       ·intro x hx;simp only[List.mem_cons,List.not_mem_nil,or_false]at hx;rcases hx with rfl | rfl | rfl
        ·refine⟨?_,by show 2<4;omega,by show 2≠3;omega,by show 2≠b4;omega,?_⟩
         ·rw[<-hK'];show Abs.look H7 2=some (kRow K' (bs nm) fr to (ren _ (rowP eD 3 (ks++[d]))));rw[A2b,if_pos rfl];exact l72
         ·simp only[kRow,A1y,A1w,under,A1j _ _ _ _ (show 3<4 by omega),Bool.and_self]
        ·exact⟨(h7 1 (by omega)).trans l61,by show 1<4;omega,by show 1≠3;omega,by show 1≠b4;omega,rfl⟩
        ·exact⟨(h7 0 (by omega)).trans l60,by show 0<4;omega,by show 0≠3;omega,by show 0≠b4;omega,rfl⟩
       ·simp -implicitDefEqProofs [SNk,ren,under]
      have ok:OkNk k lx l Res ⟨ks++[d],j2'⟩/\l.length-j2'<l.length-j:=by
       refine⟨⟨hatr.le,by simp only[List.length_append,List.length_singleton];omega,n0,?_,?_⟩,by omega⟩
       ·show l.length-j2'<=n0;omega
       ·show A2y _ _ _ _ (l.drop j2')=_;rw[hatr.eq];exact heq
      refine A0c C ?_
      cases hK0:(K==0)with
      | true=>
       rw[hK0,if_pos rfl]at hH7;simp -implicitDefEqProofs [l70,hK0,s70];refine Abs.Next.mk (⟨ks++[d],j2'⟩:Nk) ok (Sub.trans ?_ fin);rw[hH7];refine A0d ?_;simp -implicitDefEqProofs
      | false=>
       rw[hK0,if_neg (by simp)]at hH7;simp -implicitDefEqProofs [l70,hK0];refine Abs.Next.mk (⟨ks++[d],j2'⟩:Nk) ok (Sub.trans ?_ fin);rw[hH7];refine A0d ?_;simp -implicitDefEqProofs
   ·rw[decide_eq_false hsp]at n1;rw[C0u (.inl (fun t e=>hsp (by rw[e];rfl)))]at heq;refine A7e C E rfl ?_;simp -implicitDefEqProofs [SNk,ctN,ceN,n1,n1n];exact Abs.Next.mk (⟨ks,j⟩:Nk) ⟨by rw[<-heq,hs],hle,hfew⟩ (A0d (by simp -implicitDefEqProofs [SNk]))
 rintro⟨ks,j⟩ ⟨hres,hle,hfew⟩;simp only at hres hle hfew;rw[hres]at hO;dsimp only[bind,Except.bind]at hO
 obtain⟨s,hs⟩:∃s,s=l.drop j:=⟨_,rfl⟩
 have hatj:At l j s:=⟨hle,hs.symm⟩
 rw[<-hs]at hO;have K1:=fun R=>nl0 (A1f lx ks) (bs nm) fr to (rowP eD 3 ks) R;have K4:=fun R=>nl4 (A1f lx ks) (bs nm) fr to (rowP eD 3 ks) R;have ln:=B4c eD 3 ks
 have kq:(A1f lx ks==1)=lx:=by
  unfold A1f;cases lx
  ·cases ks<;>rfl
  ·rfl
 cases hlk:lx&&ks.isEmpty with
 | true=>
  rw[if_pos hlk]at hO;rw[Bool.and_eq_true]at hlk
  have hkl:((ks.length:Int)==0)=true:=by
   have:ks=[]:=by simpa using hlk.2
   rw[this];rfl
  have kq:(A1f lx ks==1)=true:=by rw[kq,hlk.1]
  have f1:∀X,eP l (gFl l) [.ptr 0 0] ((2,X)::(1,zRow)::(0,pr l j)::rowH eD 26 3 ks) 4=some (errC (eosE s)):=fun X=>by rw[hs];exact fl3 l X zRow _ 4 j (by omega)
  rw[hO];refine A1c C E rfl ?_;simp -implicitDefEqProofs [SNk,K1,kq,K4,ln,hkl,ctN,ceN,f1,outN]
 | false=>
 rw[if_neg (by rw[hlk];simp)]at hO;refine A0o (α:=Unit) (fun _=>⟨[(5,.ptr 2 0),(4,.ptr 1 0),(0,.ptr 0 0)],[(2,kRow (A1f lx ks) (bs nm) fr to (.t (A1g eD ks))),(1,zRow),(0,pr l j)],3,87⟩) (fun _=>True) (fun _=>rfl) ?_ ?_
 ·have fin:∀env:List (Nat×PV),Abs.look env 5=some (.ptr 2 0)->Abs.look env 4=some (.ptr 1 0)->Abs.look env 0=some (.ptr 0 0)->Abs.Sub Tryz.prog (G q) 1 ⟨env,(SNk v lx (bs nm) fr to l ⟨ks,j⟩).H,4,87⟩ ⟨[(5,.ptr 2 0),(4,.ptr 1 0),(0,.ptr 0 0)],[(2,kRow (A1f lx ks) (bs nm) fr to (.t (A1g eD ks))),(1,zRow),(0,pr l j)],3,87⟩:=fun env e5 e4 e0=>
   F0p (by omega) ((((A0p.head' eD 26 3 ks).cons (k:=0) (by omega)).cons (k:=1) (by omega)).cons (k:=2) (by omega)) (by omega) rfl rfl rfl e5 e4 e0
  refine A0a C ?_;by_cases hlx:lx=true
  ·have kq:(A1f lx ks==1)=true:=by rw[kq,hlx]
   rw[hlx,Bool.true_and]at hlk
   have hkl:((ks.length:Int)==0)=false:=by
    rw[beq_eq_false_iff_ne];intro e;have:ks=[]:=List.eq_nil_of_length_eq_zero (by omega);rw[this]at hlk;exact absurd hlk (by simp)
   simp -implicitDefEqProofs [SNk,K1,kq,K4,ln,hkl];refine A0c C ?_;simp -implicitDefEqProofs;exact Abs.Next.mk () trivial (fin _ rfl rfl rfl)
  ·have kq:(A1f lx ks==1)=false:=by rw[kq];simpa using hlx
   simp -implicitDefEqProofs [SNk,K1,kq];refine A0c C ?_;simp -implicitDefEqProofs;exact Abs.Next.mk () trivial (fin _ rfl rfl rfl)
 rintro _ -
 obtain⟨X,hX⟩:∃X:Row,X=kRow (A1f lx ks) (bs nm) fr to (.t (A1g eD ks)):=⟨_,rfl⟩
 have hXd:X=dD (.mk (A1f lx ks) (bs nm) fr to ks):=by rw[hX,dD,B9p];rfl
 rw[<-hX]
 cases ht:takB 41 s with
 | error e=>
  rw[ht]at hO;have hO:O = .error e:=hO;have t3:eP l (gTa l) [.ptr 0 0,.t (.v (.int .u8 41))] [(2,X),(1,zRow),(0,pr l j)] 3=some (errC e):=tk3e (c:=41) X zRow [] hl hatj (by omega) ht;rw[hO];refine A1c C E rfl ?_;simp -implicitDefEqProofs [ctN,ceN,t3,outN]
 | ok r=>
  rw[ht]at hO;have hO:O = .ok (.mk (A1f lx ks) (bs nm) fr to ks,r):=hO;have t3:hP l (gTa l) [.ptr 0 0,.t (.v (.int .u8 41))] [(2,X),(1,zRow),(0,pr l j)] 3=some (.t (.tu []),[(2,X),(1,zRow),(0,pr l (j+1))],3):=tk3 (c:=41) X zRow [] hl hatj (by omega) ht;have t3n:eP l (gTa l) [.ptr 0 0,.t (.v (.int .u8 41))] [(2,X),(1,zRow),(0,pr l j)] 3=none:=tk3n (c:=41) X zRow [] hl hatj ht
  have hj9:l.length-r.length=j+1:=by
   have h9:At l j ([41]++r):=by rw[B5t ht]at hatj;exact hatj
   exact h9.suf.2
  have dE:∀k n f t (ks:List Dv),dD (.mk k n f t ks) = .cells 26 [.t (iv k),.t (sv n),.t (iv f),.t (iv t),.t (A1g eD ks)]:=fun k n f t ks=>by rw[dD,B9p];rfl
  rw[hO];refine A1c C E rfl ?_;simp -implicitDefEqProofs [ctN,ceN,t3,t3n];rw[hXd,outN,hj9,B9p,dE];have lf:∀(k f t:Int) (n:ByteArray) (tk:T) R,A0g true 5 ((2,.cells 26 [.t (iv k),.t (sv n),.t (iv f),.t (iv t),.t tk])::R) (.ptr 2 0)=some (.t (.ag [iv k,sv n,iv f,iv t,tk])):=fun _ _ _ _ _ _=>rfl;have sf:∀(k f t:Int) (n:ByteArray) (tk:T) Y R,A0t 5 ((2,Y)::(1,zRow)::R) (.ptr 1 0) (.t (.ag [iv k,sv n,iv f,iv t,tk]))=some ((2,Y)::(1,.cells 26 [.t (iv k),.t (sv n),.t (iv f),.t (iv t),.t tk])::R):=fun _ _ _ _ _ _ _=>rfl;refine A0a C ?_;simp -implicitDefEqProofs [lf,sf];refine A0c C ?_;simp -implicitDefEqProofs;exact⟨.inr rfl,_,_,Sub.refl _,rfl,rfl,rfl,rfl⟩
variable {q : Gl} {l : List UInt8} {i : Nat}
theorem F7s (hl:l.length<=2100000000000):∀k,k<=64->∀i ts o,gNd k l i ts=some o->PM Tryz.prog (G q) l 199 i ts o:=by
 intro k
 induction k with
 | zero=>
  intro _ i ts o h;unfold gNd at h;split at h
  ·split at h
   ·rename_i hc;injection h with h;subst h;obtain⟨rfl,hi⟩:=hc;exact E5a hl hi
   ·cases h
  ·cases h
 | succ k ih=>
  intro hk i ts o h;unfold gNd at h;split at h
  ·split at h
   ·rename_i m hc;injection h with h;subst h;obtain⟨rfl,hi⟩:=hc
    have e:(65:Int)-((k+1:Nat):Int)=64-(k:Int):=by omega
    rw[e];exact D9w (by omega) hl hi (ih (by omega))
   ·cases h
  ·cases h
theorem F0q (hl:l.length<=2100000000000) (hi:i<=l.length):PM Tryz.prog (G q) l 199 i [iv 1] (resX l (fun d=>.ag (encD d)) (A2w 64 (l.drop i))):=
 F7s hl 64 (Nat.le_refl _) i _ _ (if_pos ⟨rfl,hi⟩)
structure Left (G:A0u) (I:Nat->Prop) (w:World) (g:Nat) (I':Nat->Prop) (w':World):Prop where
 out:A1v w w'
 size:w.heap.size<=w'.heap.size
 same:∀h,h<w.heap.size->h≠g->w'.heap[h]?=w.heap[h]?
 more:∀b,I b->I' b
 new:∀b,I' b->I b\/w.heap.size<=b\/b=g
 lt:∀b,I' b->b<w'.heap.size
 glob:∀g' cs,Abs.look G g'=some cs->I' g'/\RepG I' w' cs g'
def pmEnd (l:List UInt8) (g:Nat) (I':Nat->Prop) (w':World) (e:Ending):Except Int (T×Nat)->Prop
 | .ok (r,p)=>∃v ar,e = .returned v/\RepT I' w' r v/\w'.heap[g]?=some (.cells ar 212 (0,0))/\ar[0]?=some (.string (bs l))/\ar[1]?=some (.int .i64 (p:Int))/\¬I' g
 | .error er=>e = .panicked (errC er)
theorem D6k {f:FuncId} {ts:List T} {vs:List Value} {o:Except Int (T×Nat)} (h:PM Tryz.prog (G q) l f i ts o) {I:Nat->Prop} {w:World} {g:Nat} (hlt:∀b,I b->b<w.heap.size) (hglob:∀g' cs,Abs.look (G q) g'=some cs->I g'/\RepG I w cs g')
  {ar:Array Value} (hg:w.heap[g]?=some (.cells ar 212 (0,0))) (g0:ar[0]?=some (.string (bs l))) (g1:ar[1]?=some (.int .i64 (i:Int))) (hI:¬I g) (hvs:∀L:Abs.Loc,A0r Tryz.prog L w (ts.map .t) vs) :
  Calls Tryz.prog f (#[Value.pointer (some ⟨g,0,none⟩)]++vs.toArray) w fun e w'=>∃I',pmEnd l g I' w' e o/\Left (G q) I w g I' w':=by
 have one:∀b r,Abs.look [(0,pr l i)] b=some r->b=0/\r=pr l i:=by
  intro b r hb;simp only[Abs.look]at hb;split at hb
  ·rename_i e;injection hb with hb;exact⟨e.symm,hb.symm⟩
  ·cases hb
 have hok:A1l Tryz.prog (G q) ⟨I,fun _=>g,1⟩ [(0,pr l i)] w:=by
  refine⟨hlt,fun b r hb=>?_,fun b r hb=>hI,fun b b' r r' hb hb' _=>by rw[(one b r hb).1,(one b' r' hb').1],fun b r hb=>by rw[(one b r hb).1];exact Nat.lt_succ_self _,hglob⟩;obtain⟨rfl,rfl⟩:=one b r hb;refine⟨_,hg,by have:=(Array.getElem?_eq_some_iff.1 g1).1;show 2<=ar.size;omega,fun j c hj=>?_⟩;rcases j with _ | _ | j
  ·simp only[List.getElem?_cons_zero,Option.some.injEq]at hj;subst hj;exact⟨.string (bs l),g0,rfl,by simp only[RepV,RepT]⟩
  ·simp only[List.getElem?_cons_succ,List.getElem?_cons_zero,Option.some.injEq]at hj;subst hj;exact⟨.int .i64 (i:Int),g1,rfl,by simp only[RepV,RepT]⟩
  ·simp at hj
 have hargs:A0r Tryz.prog ⟨I,fun _=>g,1⟩ w (.ptr 0 0::ts.map .t) (#[Value.pointer (some ⟨g,0,none⟩)]++vs.toArray).toList:=by
  simp only[Array.toList_append,List.cons_append,List.nil_append,A0r,RepV];exact⟨_,_,rfl,⟨by omega,rfl⟩,hvs _⟩
 have hmine:∀k,Mine ⟨I,fun _=>g,1⟩ [(0,pr l i)] k->k=g:=fun k ⟨_,_,_,e⟩=>e.symm
 cases o with
 | error er=>
  refine((show B6b _ _ _ _ _ _ _ _ from h).2 ⟨I,fun _=>g,1⟩ w _ hok rfl hargs).mono ?_;rintro e w' ⟨L',rfl,hok',_,hm,hx⟩;refine⟨L'.I,rfl,hx.outer,hx.size,fun k hk hne=>hx.same k hk fun hh=>hne (hmine k hh),hx.more,fun b hb=>?_,hok'.lt,hok'.glob⟩;rcases hx.new b hb with h2 | h2 | h2
  ·exact .inl h2
  ·exact .inr (.inl h2)
  ·exact .inr (.inr (hmine b h2))
 | ok y=>
  obtain⟨r,p⟩:=y;refine((show A2g _ _ _ _ _ _ _ _ _ from h).2 ⟨I,fun _=>g,1⟩ w _ hok rfl hargs).mono ?_;rintro e w' ⟨v,L',rfl,hv,hok',_,hm,hx⟩;have hμ:L'.μ 0=g:=hm.μ 0 (by show 0<1;omega);obtain⟨arr,ha,hl,hc⟩:=hok'.rep 0 _ rfl;rw[hμ]at ha;obtain⟨x0,hx0,_,hr0⟩:=hc 0 _ rfl;obtain⟨x1,hx1,_,hr1⟩:=hc 1 _ rfl;simp only[RepV,RepT]at hr0 hr1 hv;subst hr1;subst hr0
  have hna:¬L'.I g:=by have:=hok'.apart 0 _ rfl;rwa[hμ]at this
  refine⟨L'.I,⟨v,arr,rfl,hv,ha,hx0,hx1,hna⟩,hx.outer,hx.size,fun k hk hne=>hx.same k hk fun hh=>hne (hmine k hh),hx.more,fun b hb=>?_,hok'.lt,hok'.glob⟩;rcases hx.new b hb with h2 | h2 | h2
  ·exact .inl h2
  ·exact .inr (.inl h2)
  ·exact .inr (.inr (hmine b h2))
end Go.Proofs.YtmplckgbeaifkaaGreatDoor
