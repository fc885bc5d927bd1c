/-
 Auxiliary facts. No statement of the program stands here.
-/
import Derived.Test.YtbiadmfmjnoecaaVRQ14
namespace Go.Abs
set_option linter.unusedSimpArgs false
set_option linter.unusedVariables false
open Go
theorem C7c (bs:ByteArray):∀(n i:Nat) (r:List UInt8),bs.size-i=n->ByteArray.toList.loop bs i r=r.reverse++bs.data.toList.drop i
 | 0,i,r,h=>by
  unfold ByteArray.toList.loop
  have hi:¬i<bs.size:=by omega
  have hs:bs.data.toList.length=bs.size:=rfl
  rw[if_neg hi,List.drop_eq_nil_of_le (by omega)]
  simp
 | n+1,i,r,h=>by
  unfold ByteArray.toList.loop
  have hi:i<bs.size:=by omega
  rw[if_pos hi,C7c bs n (i+1) _ (by omega)]
  have hs:bs.data.toList.length=bs.size:=rfl
  have hl:i<bs.data.toList.length:=by omega
  rw[List.drop_eq_getElem_cons hl,List.reverse_cons,List.append_assoc]
  congr 2
  have hl':i<bs.data.size:=by simpa using hl
  show bs.data[i]! :: _=_
  rw[getElem!_pos bs.data i hl']
  rfl
theorem C7d (bs:ByteArray):bs.toList=bs.data.toList:=by
 unfold ByteArray.toList
 rw[C7c bs bs.size 0 [] (by omega)]
 simp
theorem toList_inj {a b:ByteArray} (h:a.toList=b.toList):a=b:=by
 rw[C7d,C7d]at h
 cases a;cases b
 congr
 exact Array.toList_inj.1 h
theorem A7s (a b:ByteArray):(a.toList==b.toList)=decide (a=b):=by
 by_cases h:a=b
 ·subst h;simp
 ·rw[decide_eq_false h,beq_eq_false_iff_ne]
  exact fun e=>h (toList_inj e)
def C0h (a b:ByteArray):Bool:=Op.bytesLess a.toList b.toList
theorem E6p (a b:ByteArray):Op.bytesLess a.toList b.toList=C0h a b:=rfl
@[simp] theorem evalK_slss {Φ:A1c} {H:Heap} {nx:Nat} (isB:Bool) (nk:Option NK) (a b:ByteArray):A0m Φ H nx (.bin isB .lss nk) [.t (.v (.string a)),.t (.v (.string b))]=some (.t (.v (.bool (C0h a b))),H,nx):=rfl
theorem C2l {Φ:A1c} {H:Heap} {nx:Nat} (isB:Bool) (nk:Option NK) (a b:ByteArray) (h:a.size+b.size<=9223372036854775807):A0m Φ H nx (.bin isB .add nk) [.t (.v (.string a)),.t (.v (.string b))]=some (.t (.v (.string (a++b))),H,nx):=by simp[A0m,binM,h]
theorem first_bad (p:Nat->Bool):∀n,(∀i,i<n->p i=true)\/∃k,k<n/\(∀i,i<k->p i=true)/\p k=false
 | 0=>.inl fun i hi=>by omega
 | n+1=>by
  rcases first_bad p n with h | ⟨k,h1,h2⟩
  ·cases hn:p n with
   | true=>
    refine .inl fun i hi=>?_
    by_cases e:i=n
    ·subst e;exact hn
    ·exact h i (by omega)
   | false=>exact .inr ⟨n,by omega,h,hn⟩
  ·exact .inr ⟨k,by omega,h2⟩
theorem A2w {α:Type} {p:α->Bool} {l:List α} {j:Nat} {y:α} (h:j<l.findIdx p) (hy:l[j]?=some y):p y=false:=by
 have hj:j<l.length:=(List.getElem?_eq_some_iff.1 hy).1
 have:=List.not_of_lt_findIdx h
 rw[(List.getElem?_eq_some_iff.1 hy).2]at this
 simpa using this
theorem A2h {α:Type} {p:α->Bool} {l:List α} (h:l.findIdx p<l.length):∃x,l[l.findIdx p]?=some x/\p x=true:=
 ⟨l[l.findIdx p],List.getElem?_eq_getElem h,List.findIdx_getElem⟩
theorem A4o {α:Type} (p:α->Bool) (l:List α):l.findIdx p<=l.length:=List.findIdx_le_length
theorem C4b {α:Type} {p:α->Bool} {l:List α} (h:l.findIdx p=l.length):∀x∈l,p x=false:=by
 intro x hx
 obtain⟨i,hi,e⟩:=List.getElem_of_mem hx
 have:=A2w (p:=p) (l:=l) (j:=i) (y:=x) (by omega) (by rw[List.getElem?_eq_getElem hi,e])
 exact this
section
variable {α : Type}
theorem A1k {e:Enc α} {ty by':Nat} {H:Heap} {nx b:Nat} {l m:List α} {src:PV} (h:A0j e ty H b l) (hs:srcP H e.z src=some (m.length,(m.flatMap e.enc).map .t))
  (hb:(l.length+m.length)*by'<=140737488355328) (hb2:l.length+m.length<=9223372036854775807) :
  ∃b' H' nx',appM ty e.z by' H nx (rowP e b l) src=some (rowP e b' (l++m),H',nx')/\A0j e ty H' b' (l++m)/\b'≠nx'/\nx<=nx'/\(∀c,c≠b->c<nx->look H' c=look H c)/\nx<=b':=by
 have ap:=F5g (nx:=nx) h hs hb hb2
 by_cases he:l++m=[]
 ·refine⟨nx+1,appH e ty H nx b l m,appN nx l m,?_,by rw[he];exact A0j.nil _ _ _ _,?_,?_,?_,by omega⟩
  ·rw[ap]
   have:∀b',rowP e b' (l++m) = .t nilS:=by intro b';rw[he];rfl
   rw[this,this]
  ·unfold appN;rw[he];simp
  ·unfold appN;rw[he];simp
  ·intro c hc hlt
   unfold appH;rw[he];simp
 ·have hne:(l++m).isEmpty=false:=by
   cases hx:l++m with
   | nil=>exact absurd hx he
   | cons _ _=>rfl
  refine⟨nx,appH e ty H nx b l m,appN nx l m,ap,A0j.app,?_,?_,?_,Nat.le_refl _⟩
  ·unfold appN;rw[hne];simp
  ·unfold appN;rw[hne];simp
  ·intro c hc hlt
   exact F5h (by omega) hc
variable {e : Enc α} {t : T} {l : List α}
theorem C7e (e:Enc α):∀(l:List α) (k:Nat),(l.flatMap e.enc).take (k*e.z)=(l.take k).flatMap e.enc
 | [],k=>by simp
 | a::l,0=>by simp
 | a::l,k+1=>by
  rw[List.flatMap_cons,List.take_succ_cons,List.flatMap_cons,Nat.succ_mul,Nat.add_comm,<-e.len a,List.take_length_add_append,e.len a,C7e e l k]
theorem C7f (e:Enc α):∀(l:List α) (k:Nat),(l.flatMap e.enc).drop (k*e.z)=(l.drop k).flatMap e.enc
 | [],k=>by simp
 | a::l,0=>by simp
 | a::l,k+1=>by
  rw[List.flatMap_cons,List.drop_succ_cons,Nat.succ_mul,Nat.add_comm,<-List.drop_drop,List.drop_left' (e.len a),C7f e l k]
theorem IsS.slice_to (h:IsS e t l) {k:Nat} (hk:k<=l.length) (ik:IntKind):∃t',A4e e.z (.t t) none (some (.t (.v (.int ik (k:Int)))))=some (.t t')/\IsS e t' (l.take k):=by
 rcases h with⟨rfl,rfl⟩ | rfl
 ·have:k=0:=by simpa using hk
  subst this
  exact⟨nilS,rfl,.inl ⟨rfl,rfl⟩⟩
 ·refine⟨slT e (l.take k),?_,.inr rfl⟩
  have h0:¬(k:Int)<0:=by omega
  simp only[A4e,slT,boundV]
  simp[hk,C7e,Nat.min_eq_left hk]
theorem IsS.slice_from (h:IsS e t l) {k:Nat} (hk:k<=l.length) (ik:IntKind):∃t',A4e e.z (.t t) (some (.t (.v (.int ik (k:Int))))) none=some (.t t')/\IsS e t' (l.drop k):=by
 rcases h with⟨rfl,rfl⟩ | rfl
 ·have:k=0:=by simpa using hk
  subst this
  exact⟨nilS,rfl,.inl ⟨rfl,rfl⟩⟩
 ·refine⟨slT e (l.drop k),?_,.inr rfl⟩
  simp only[A4e,slT,boundV]
  have tk:List.take ((l.length-k)*e.z) ((l.drop k).flatMap e.enc)=(l.drop k).flatMap e.enc:=List.take_of_length_le (by rw[A2e];simp)
  simp[hk,C7f,tk]
end
section
variable {α : Type} {e : Enc α} {ty b : Nat} {H : Heap} {l : List α}
theorem A1r {i:Nat} {x:α} (hx:l[i]?=some x) (k:IntKind):A1q e.z (rowP e b l) (.t (.v (.int k (i:Int))))=some (.ptr b (i*e.z)):=by
 have hi:i<l.length:=(List.getElem?_eq_some_iff.1 hx).1
 cases l with
 | nil=>simp at hi
 | cons a r=>
  simp only[rowP,A1q]
  rw[if_pos ⟨by omega,by omega⟩]
  simp
theorem A0j.load (h:A0j e ty H b l) {i off:Nat} {x:α} {c:T} (hx:l[i]?=some x) (hc:(e.enc x)[off]?=some c):A0f false 1 H (.ptr b (i*e.z+off))=some (.t c):=by
 have hi:i<l.length:=(List.getElem?_eq_some_iff.1 hx).1
 rcases h with h | h
 ·subst h;simp at hi
 ·simp only[A0f,h,A1g,Bool.false_eq_true,if_false]
  have hd:=B3t e l i x hx
  have:(l.flatMap e.enc)[i*e.z+off]?=some c:=by
   rw[<-List.getElem?_drop,hd,List.getElem?_append_left (by have:=(List.getElem?_eq_some_iff.1 hc).1;exact this)]
   exact hc
  simp[this]
theorem A0j.loadAg (h:A0j e ty H b l) {i:Nat} {x:α} (hx:l[i]?=some x):A0f true e.z H (.ptr b (i*e.z))=some (.t (.ag (e.enc x))):=by
 have hi:i<l.length:=(List.getElem?_eq_some_iff.1 hx).1
 rcases h with h | h
 ·subst h;simp at hi
 ·have hd:=B3t e l i x hx
  have hlen:i*e.z+e.z<=(l.flatMap e.enc).length:=by
   rw[A2e,<-Nat.succ_mul]
   exact Nat.mul_le_mul_right _ hi
  have hseg:((l.flatMap e.enc).map PV.t |>.drop (i*e.z)).take e.z=(e.enc x).map .t:=by
   rw[<-List.map_drop,hd,<-List.map_take,<-e.len x,List.take_left']
   rfl
  simp only[A0f,h,A1g,if_true,List.length_map,hlen,hseg,agOf,allT_map_t]
end
section
variable {α : Type}
def B3y (next:α->List α->List α):Nat->Nat->List α->List α
 | 0,_,todo=>todo
 | f+1,i,todo=>match todo[i]? with
  | none=>todo
  | some s=>B3y next f (i+1) (next s todo)
structure Work (next:α->List α->List α) (In:α->Prop) (n:Nat) (start:List α) (i:Nat) (todo:List α):Prop where
 nodup:todo.Nodup
 mem:∀s∈todo,In s
 le:i<=todo.length
 eq:B3y next (n+1-i) i todo=B3y next (n+1) 0 start
theorem Work.stop {next:α->List α->List α} {In:α->Prop} {n:Nat} {start:List α} {i:Nat} {todo:List α} (h:Work next In n start i todo) (he:i=todo.length):B3y next (n+1) 0 start=todo:=by
 rw[<-h.eq]
 cases hn:n+1-i with
 | zero=>rfl
 | succ f=>
  have:todo[i]?=none:=by rw[he];simp
  simp only[B3y,this]
theorem Work.step {next:α->List α->List α} {In:α->Prop} {n:Nat} {start:List α} {i:Nat} {todo todo':List α} {s:α} (h:Work next In n start i todo) (hs:todo[i]?=some s) (hn:todo.length<=n)
  (he:todo'=next s todo) (hd:todo'.Nodup) (hm:∀s∈todo',In s) (hl:todo.length<=todo'.length):Work next In n start (i+1) todo':=by
 have hi:=(List.getElem?_eq_some_iff.1 hs).1
 refine⟨hd,hm,by omega,?_⟩
 rw[<-h.eq,show n+1-i=(n+1-(i+1))+1 by omega]
 simp only[B3y,hs]
 rw[he]
end
section
variable {α β : Type} {e : Enc α} {e' : Enc β} {ty ty' b b' : Nat} {H : Heap} {l : List α} {l' : List β}
theorem A0j.left (h:A0j e ty H b l) (hb:b≠b'):A0j e ty (rowH e' ty' b' l'++H) b l:=by
 cases l' with
 | nil=>simpa[rowH]using h
 | cons x r=>exact h.cons (Ne.symm hb)
theorem C4c (b:Nat) (l:List α) {k:Nat} (hk:k<=l.length) (ik:IntKind):∃p,A4e e.z (rowP e b l) none (some (.t (.v (.int ik (k:Int)))))=some p/\∀ty H,A0j e ty H b l->srcP H e.z p=some ((l.take k).length,((l.take k).flatMap e.enc).map .t):=by
 cases l with
 | nil=>
  have:k=0:=by simpa using hk
  subst this
  exact⟨.t nilS,rfl,fun ty H _=>rfl⟩
 | cons x r=>
  have hl:((x::r).flatMap e.enc).length=(x::r).length*e.z:=A2e e _
  have tk:(x::r).take k=(x::r).take k:=rfl
  by_cases h0:k=0
  ·subst h0
   refine⟨.row b 0 0 e.z,?_,fun ty H h=>?_⟩
   ·simp[A4e,rowP]
   ·rcases h with h | h
    ·cases h
    ·simp[srcP,h,A1g]
  ·refine⟨.row b 0 k e.z,?_,fun ty H h=>?_⟩
   ·have h1:0<k:=by omega
    have h2:k<=r.length+1:=by simpa using hk
    simp[A4e,rowP,h1,h2]
   ·rcases h with h | h
    ·cases h
    ·have hle:k*e.z<=((x::r).flatMap e.enc).length:=by rw[hl];exact Nat.mul_le_mul_right _ hk
     have hseg:(((x::r).flatMap e.enc).map PV.t).take (k*e.z)=(((x::r).take k).flatMap e.enc).map .t:=by rw[<-List.map_take,C7e]
     simp only[srcP,h,A1g,true_and,Nat.zero_add,List.length_map,hle,if_true,List.drop_zero,hseg,List.length_take,Nat.min_eq_left hk]
theorem B6z (b:Nat) (l:List α) {k:Nat} (hk:k<=l.length) (ik:IntKind):∃p,A4e e.z (rowP e b l) (some (.t (.v (.int ik (k:Int))))) none=some p/\∀ty H,A0j e ty H b l->srcP H e.z p=some ((l.drop k).length,((l.drop k).flatMap e.enc).map .t):=by
 cases l with
 | nil=>
  have:k=0:=by simpa using hk
  subst this
  exact⟨.t nilS,rfl,fun ty H _=>rfl⟩
 | cons x r=>
  have hl:((x::r).flatMap e.enc).length=(x::r).length*e.z:=A2e e _
  by_cases h0:k=(x::r).length
  ·refine⟨.t (.sl 0 []),?_,fun ty H h=>?_⟩
   ·have h1:¬k<r.length+1:=by simp at h0;omega
    have h2:k=r.length+1:=by simpa using h0
    have h3:(0:Int)<=(r.length:Int)+1:=by omega
    simp[A4e,rowP,h2,h3]
   ·have:(x::r).drop k=[]:=by rw[h0];simp
    rw[this];simp[srcP]
  ·refine⟨.row b (k*e.z) ((x::r).length-k) e.z,?_,fun ty H h=>?_⟩
   ·have h1:k<r.length+1:=by simp at hk h0;omega
    simp[A4e,rowP,h1]
   ·rcases h with h | h
    ·cases h
    ·have hsum:k*e.z+((x::r).length-k)*e.z=(x::r).length*e.z:=by rw[<-Nat.add_mul];congr 1;omega
     have hle:k*e.z+((x::r).length-k)*e.z<=(((x::r).flatMap e.enc).map PV.t).length:=by rw[List.length_map,hl,hsum];exact Nat.le_refl _
     have hseg:((((x::r).flatMap e.enc).map PV.t).drop (k*e.z)).take (((x::r).length-k)*e.z)=(((x::r).drop k).flatMap e.enc).map .t:=by
      rw[<-List.map_drop,C7f]
      refine List.take_of_length_le ?_
      rw[List.length_map,A2e,List.length_drop]
      exact Nat.le_refl _
     simp only[srcP,h,A1g,true_and,hle,if_true,hseg,List.length_drop]
end
end Go.Abs
