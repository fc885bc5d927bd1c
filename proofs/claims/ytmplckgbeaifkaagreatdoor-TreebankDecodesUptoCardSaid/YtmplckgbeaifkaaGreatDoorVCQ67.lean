/- Auxiliary facts. -/
import Derived.Test.YtmplckgbeaifkaaGreatDoorVCQ56
import Derived.Test.YtmplckgbeaifkaaGreatDoorVCQ66
import Derived.Test.YtmplckgbeaifkaaGreatDoorVCQ69
set_option linter.unusedSimpArgs false
set_option maxRecDepth 100000
set_option maxHeartbeats 0
set_option linter.unusedVariables false
namespace Go.Proofs.YtmplckgbeaifkaaGreatDoor
open Go Go.Abs
variable {q : Gl}
def cut1:List UInt8->List UInt8->List UInt8×List UInt8×Bool
 | acc,[]=>(acc,[],false)
 | acc,c::r=>if c=10 then(acc,r,true)else cut1 (acc++[c]) r
theorem C4r:∀(l acc:List UInt8),cutL acc l=if(cut1 acc l).2.2 then((cut1 acc l).1::(cutL [] (cut1 acc l).2.1).1,(cutL [] (cut1 acc l).2.1).2)else([],(cut1 acc l).1)
 | [],acc=>rfl
 | c::r,acc=>by
  rw[cutL,cut1];by_cases h:c=10
  ·rw[if_pos h,if_pos h];rfl
  ·rw[if_neg h,if_neg h];exact C4r r _
theorem E1v:∀(l acc:List UInt8),(cut1 acc l).2.2=true->(cut1 acc l).2.1.length<l.length/\(cut1 acc l).1.length<acc.length+l.length
 | [],acc,h=>by cases h
 | c::r,acc,h=>by
  rw[cut1]at h ⊢;by_cases hc:c=10
  ·rw[if_pos hc];simp
  ·rw[if_neg hc]at h ⊢;obtain⟨h1,h2⟩:=E1v r _ h;simp only[List.length_append,List.length_cons,List.length_nil]at h2 ⊢;exact⟨by omega,by omega⟩
def cutT (l:List UInt8):T:=.tu [sv (bs (cut1 [] l).1),sv (bs (cut1 [] l).2.1),bv (cut1 [] l).2.2]
def SCt (l:List UInt8) (j:Nat):A0b:=⟨[(5,.t (iv (j:Int))),(0,.t (sv (bs l)))],[],0,24⟩
theorem F3a (l:List UInt8) (hl:l.length<=2100000000000):A0v Tryz.prog (G q) 94 [sv (bs l)] (· = cutT l):=by
 obtain⟨R,hR⟩:∃R,R=cutT l:=⟨_,rfl⟩
 rw[<-hR];unfold cutT at hR;refine F0v.call rfl ?_;(conv in D3v=>cbv);refine A0a A0z ?_;simp -implicitDefEqProofs;refine A0s (α:=Unit) (fun _=>⟨[(0,.t (sv (bs l)))],[],0,24⟩) (fun _=>cut1 [] l=(l,[],false)) (fun _=>rfl) ?_ ?_
 ·refine A0a A0z ?_;simp -implicitDefEqProofs;refine A0g ?_;refine A0t (SCt l) (fun j=>l.length-j) (fun j=>j<=l.length/\cut1 (l.take j) (l.drop j)=cut1 [] l) 0 (fun _=>rfl) ⟨Nat.zero_le _,by simp⟩ ?_ rfl ?_
  ·exact A0d (by simp -implicitDefEqProofs [SCt])
  rintro j ⟨hj,heq⟩;unfold SCt;by_cases hlt:j<l.length
  ·obtain⟨c,hc⟩:∃c,l[j]?=some c:=⟨_,List.getElem?_eq_getElem hlt⟩
   have ix:=D6v l hc;have be:=C9n c 10 (by omega);have be:((c.toNat:Int)==10)=decide (c=10):=be;have e1:IntKind.i64.wrap ((j:Int)+1)=((j+1:Nat):Int):=A0j (by omega) (by omega);rw[B6c hc,cut1]at heq;refine A1p ?_;refine A0c A0z ?_;simp -implicitDefEqProofs [A0k,hlt];refine⟨rfl,?_⟩;refine A1p ?_;refine A0g ?_;by_cases h1:c=10
   ·rw[if_pos h1]at heq;rw[decide_eq_true h1]at be;rw[<-heq]at hR;have s1:=E4h l hj;have s2:=B2v l (j:=j+1) (by omega)
    obtain⟨k,hk⟩:∃k,k=j+1:=⟨_,rfl⟩
    rw[<-hk]at s2 e1 hR;refine A0c A0z ?_;simp -implicitDefEqProofs [ix,be,s1,e1,s2,hR,A5u]
   ·rw[if_neg h1]at heq;rw[decide_eq_false h1]at be;refine A0c A0z ?_;simp -implicitDefEqProofs [ix,be];refine⟨rfl,?_⟩;refine A0c A0z ?_;simp -implicitDefEqProofs [e1];refine Abs.Next.mk (j+1) ⟨⟨by omega,?_⟩,by omega⟩ (A0d (by simp -implicitDefEqProofs));rw[<-heq];congr 1;rw[List.take_add_one,hc];rfl
  ·have hjl:j=l.length:=by omega
   subst hjl;rw[List.take_length,List.drop_length]at heq;refine A1p ?_;refine A0c A0z ?_;simp -implicitDefEqProofs [A0k];exact Abs.Next.mk () heq.symm (A0d (by simp -implicitDefEqProofs))
 ·rintro _ hn;rw[hn]at hR;refine A0c A0z ?_;simp -implicitDefEqProofs [hR]
noncomputable def gRCt:List T->Option T:=gStr (fun s=>cutT s.data.toList) 1000000000
theorem hRCt:GOK Tryz.prog (G q) 94 gRCt:=A5y fun s h=>by
 have:=F3a (q:=q) s.data.toList (by rw[show s.data.toList.length=s.size from rfl];omega);rwa[A4e]at this
theorem G1r {s:ByteArray} (h:s.size<=1000000000):gRCt [sv s]=some (cutT (lbs s)):=A9w h
def SNb (t:T) (s:ByteArray) (j:Nat):A0b:=⟨[(5,.t (iv (j:Int))),(1,.t (sv s)),(0,.t t)],[],0,19⟩
theorem F3b {t:T} {l:List ByteArray} (ht:IsS eStr t l) (s:ByteArray) (hl:l.length<=1000000):A0v Tryz.prog (G q) 179 [t,sv s] (· = iv (idxB s 0 l)):=by
 have l1:=ht.len
 obtain⟨R,hR⟩:∃R,R=idxB s 0 l:=⟨_,rfl⟩
 rw[<-hR];refine D3w.call rfl ?_;(conv in C0e=>cbv);refine A0a A0z ?_;simp -implicitDefEqProofs;refine A0s (α:=Unit) (fun _=>⟨[],[],0,19⟩) (fun _=>R = -1) (fun _=>rfl) ?_ ?_
 ·refine A0a A0z ?_;simp -implicitDefEqProofs;refine A0g ?_;refine A0t (SNb t s) (fun j=>l.length-j) (fun j=>j<=l.length/\R=idxB s j (l.drop j)) 0 (fun _=>rfl) ⟨Nat.zero_le _,hR⟩ ?_ rfl ?_
  ·exact A0d (by simp -implicitDefEqProofs [SNb])
  rintro j ⟨hj,heq⟩;unfold SNb;by_cases hlt:j<l.length
  ·obtain⟨x,hx⟩:∃x,l[j]?=some x:=⟨_,List.getElem?_eq_getElem hlt⟩
   have i1:A1b 1 (.t t) (.t (iv (j:Int)))=_:=ht.iaddr hx .i64;have ld:∀(x:ByteArray) (r:List T) (H:Heap),A0e false 1 H (.t (.pt (eStr.enc x++r)))=some (.t (sv x)):=fun _ _ _=>rfl;have e1:IntKind.i64.wrap ((j:Int)+1)=((j+1:Nat):Int):=A0j (by omega) (by omega);have hbe:=B3m x s;rw[List.drop_eq_getElem_cons hlt,(List.getElem?_eq_some_iff.1 hx).2,idxB]at heq;refine A1p ?_;refine A0c A0z ?_;simp -implicitDefEqProofs [l1,hlt];refine⟨rfl,?_⟩;refine A1p ?_;refine A0g ?_;by_cases h1:x=s
   ·have heq:R=(j:Int):=by rw[heq];simp[h1]
    rw[decide_eq_true h1]at hbe;refine A0c A0z ?_;simp -implicitDefEqProofs [i1,ld,hbe,heq,A5u]
   ·have heq:R=idxB s (j+1) (l.drop (j+1)):=by rw[heq];simp[h1,Ne.symm (Ne.intro h1)]
    rw[decide_eq_false h1]at hbe;refine A0c A0z ?_;simp -implicitDefEqProofs [i1,ld,hbe];refine⟨rfl,?_⟩;refine A0c A0z ?_;simp -implicitDefEqProofs [e1];exact Abs.Next.mk (j+1) ⟨⟨by omega,heq⟩,by omega⟩ (A0d (by simp -implicitDefEqProofs))
  ·rw[List.drop_of_length_le (by omega)]at heq;refine A1p ?_;refine A0c A0z ?_;simp -implicitDefEqProofs [l1,hlt];exact Abs.Next.mk () heq (A0d (by simp -implicitDefEqProofs))
 ·rintro _ rfl;refine A0c A0z ?_;simp -implicitDefEqProofs
theorem hNbr:GOK Tryz.prog (G q) 179 gIx:=A6w fun a b l s r ha hb hr=>by
 obtain rfl:b=sv s:=hb;split at hr
 ·rename_i h;injection hr with hr;subst hr;exact F3b ha s h
 ·cases hr
structure RSt where
 ver:ByteArray
 items:List It
 next:Nat
def A4x (l:List It):It:=l.getLast?.getD ⟨⟨#[]⟩,[],0,[],A1n⟩
def A6d (s:RSt):Bool:=decide (s.next=3)&&decide ((A4x s.items).state=1)
def B1x (l:List It) (x:It):List It:=l.dropLast++[x]
def begR (s:RSt) (w:List (List UInt8)):Except Int RSt:=match w with
 | [i,id,st]=>if i=A5n then match idxW st 0 stN with
   | some k=>.ok ⟨s.ver,s.items++[⟨bs id,[],k,[],A1n⟩],2⟩
   | none=>.error 8
  else .error 8
 | _=>.error 8
def decQ (w:List (List UInt8)):Option Dc:=if w.head?=some wYes\/w.head?=some wNo then decP w else none
def A5p (s:RSt) (l:List UInt8):Except Int RSt:=
 if A6d s=true/\l.take 5=[103,111,108,100,32]then
  match parD (l.drop 5)with
  | .error e=>.error e
  | .ok d=>.ok ⟨s.ver,B1x s.items { A4x s.items with gold:=d },1⟩
 else match A2r l with
 | none=>.error 8
 | some []=>.error 8
 | some (x::w)=>
  if s.next=0 then(if x=A1m then(match w with
   | [v]=>.ok ⟨bs v,[],1⟩
   | _=>.error 8)else .error 8)
  else if s.next=2 then(if x=A3o then .ok ⟨s.ver,B1x s.items { A4x s.items with words:=w.map bs },3⟩else .error 8)
  else if s.next=3 then(match decQ (x::w)with
   | some d=>.ok ⟨s.ver,B1x s.items { A4x s.items with decs:=(A4x s.items).decs++[d] },3⟩
   | none=>if A6d s then .error 8 else begR s (x::w))
  else begR s (x::w)
def runR:RSt->List (List UInt8)->Except Int RSt
 | s,[]=>.ok s
 | s,l::r=>match A5p s l with
  | .error e=>.error e
  | .ok s'=>runR s' r
def endR (s:RSt):Bool:=decide (s.next=0)||decide (s.next=2)||A6d s
def allR (s:RSt) (ls:List (List UInt8)) (tl:List UInt8):Except Int Tb:=match runR s ls with
 | .error e=>.error e
 | .ok s'=>if tl≠[]then .error 9 else if endR s' then .error 9 else .ok ⟨s'.ver,s'.items⟩
def decR (s:List UInt8):Except Int Tb:=
 if 65536<s.length then .error 7 else
 match allR ⟨⟨#[]⟩,[],0⟩ (cutL [] s).1 (cutL [] s).2 with
 | .error e=>.error e
 | .ok b=>if chkT b≠0 then .error (chkT b)else .ok b
theorem A3t (l:List It) (x:It):A4x (l++[x])=x:=by simp[A4x]
theorem B3n (l:List It) (x y:It):B1x (l++[x]) y=l++[y]:=by simp[B1x]
theorem B0r (s:RSt) (l:List UInt8) (r:List (List UInt8)) (tl:List UInt8):allR s (l::r) tl=match A5p s l with
  | .error e=>.error e
  | .ok s'=>allR s' r tl:=by
 unfold allR;rw[runR];cases A5p s l<;>rfl
theorem A9o (s:RSt) (tl:List UInt8):allR s [] tl=if tl≠[]then .error 9 else if endR s then .error 9 else .ok ⟨s.ver,s.items⟩:=rfl
theorem D5a (s:RSt) (l:List UInt8):(match A2r l with
  | some (x::w)=>begR s (x::w)
  | _=>.error 8)=(match parts A5n l with
  | some [id,st]=>(match idxW st 0 stN with
   | some k=>.ok ⟨s.ver,s.items++[⟨bs id,[],k,[],A1n⟩],2⟩
   | none=>.error 8)
  | _=>.error 8):=by
 unfold parts
 cases A2r l with
 | none=>rfl
 | some ws=>
  cases ws with
  | nil=>rfl
  | cons x w=>
   simp only;by_cases hx:x=A5n
   ·rw[if_pos hx]
    match w with
    | []=>rfl
    | [a]=>rfl
    | [a,b]=>simp only[begR,if_pos hx]
    | a::b::c::d=>rfl
   ·rw[if_neg hx]
    match w with
    | []=>rfl
    | [a]=>rfl
    | [a,b]=>simp only[begR,if_neg hx]
    | a::b::c::d=>rfl
theorem G5d (v:ByteArray) (xs:List It) (l:List UInt8):A5p ⟨v,xs,1⟩ l=(match parts A5n l with
  | some [id,st]=>(match idxW st 0 stN with
   | some k=>.ok ⟨v,xs++[⟨bs id,[],k,[],A1n⟩],2⟩
   | none=>.error 8)
  | _=>.error 8):=by
 rw[<-D5a ⟨v,xs,1⟩ l];unfold A5p;rw[if_neg (by simp[A6d])]
 cases A2r l with
 | none=>rfl
 | some ws=>cases ws<;>rfl
theorem step2 (v:ByteArray) (xs:List It) (x:It) (l:List UInt8):A5p ⟨v,xs++[x],2⟩ l=(match parts A3o l with
  | some w=>.ok ⟨v,xs++[{ x with words:=w.map bs }],3⟩
  | none=>.error 8):=by
 unfold A5p parts;rw[if_neg (by simp[A6d])]
 cases A2r l with
 | none=>rfl
 | some ws=>
  cases ws with
  | nil=>rfl
  | cons y w=>
   simp only[A3t,B3n];by_cases h:y=A3o<;>simp[h]
theorem step0 (l:List UInt8):A5p ⟨⟨#[]⟩,[],0⟩ l=(match parts A1m l with
  | some [n]=>.ok ⟨bs n,[],1⟩
  | _=>.error 8):=by
 unfold A5p parts;rw[if_neg (by simp[A6d])]
 cases A2r l with
 | none=>rfl
 | some ws=>
  cases ws with
  | nil=>rfl
  | cons y w=>
   simp only[if_true];by_cases h:y=A1m
   ·rw[if_pos h,if_pos h]
    match w with
    | []=>rfl
    | [a]=>rfl
    | a::b::c=>rfl
   ·rw[if_neg h,if_neg h]
theorem E1w (v:ByteArray) (xs:List It) (tl:List UInt8):∀(ls:List (List UInt8)) (x:It),allR ⟨v,xs++[x],3⟩ ls tl=(match A6x ls with
  | .error e=>.error e
  | .ok (ds,r)=>if x.state=1 then
    (match A9c r with
    | .error e=>.error e
    | .ok (g,r')=>allR ⟨v,xs++[{ x with decs:=x.decs++ds,gold:=g }],1⟩ r' tl)
   else allR ⟨v,xs++[{ x with decs:=x.decs++ds }],1⟩ r tl)
 | [],x=>by
  simp only[A6x,List.append_nil];by_cases h:x.state=1
  ·rw[if_pos h];simp only[A9c];rw[A9o]
   have:endR ⟨v,xs++[x],3⟩=true:=by simp[endR,A6d,A3t,h]
   rw[this];simp
  ·rw[if_neg h,A9o,A9o]
   have e1:endR ⟨v,xs++[x],3⟩=false:=by simp[endR,A6d,A3t,h]
   have e2:endR ⟨v,xs++[x],1⟩=false:=by simp[endR,A6d]
   rw[e1,e2]
 | l::r,x=>by
  have hop:A6d ⟨v,xs++[x],3⟩=decide (x.state=1):=by simp[A6d,A3t]
  rw[B0r]
  by_cases h5:x.state=1/\l.take 5=[103,111,108,100,32]
  ·
   obtain⟨hs,h5⟩:=h5
   have hl:l=A8h++32::l.drop 5:=by
    have:=List.take_append_drop 5 l;rw[h5]at this;exact this.symm
   have hd:A6x (l::r) = .ok ([],l::r):=by
    rw[A6x,if_neg];rw[hl];exact D9o _
   rw[hd];simp only[if_pos hs,A9c,if_pos h5,List.append_nil]
   have:A5p ⟨v,xs++[x],3⟩ l=(match parD (l.drop 5)with
    | .error e=>.error e
    | .ok d=>.ok ⟨v,xs++[{ x with gold:=d }],1⟩):=by
    unfold A5p;rw[hop,if_pos ⟨by simp[hs],h5⟩];simp only[A3t,B3n]
   rw[this];cases parD (l.drop 5)<;>rfl
  ·have hst:A5p ⟨v,xs++[x],3⟩ l=(match A2r l with
    | none=>.error 8
    | some []=>.error 8
    | some (y::w)=>match decQ (y::w)with
     | some d=>.ok ⟨v,xs++[{ x with decs:=x.decs++[d] }],3⟩
     | none=>if x.state=1 then .error 8 else begR ⟨v,xs++[x],3⟩ (y::w)):=by
    unfold A5p;rw[hop,if_neg (by simpa using h5)]
    cases A2r l with
    | none=>rfl
    | some ws=>
     cases ws with
     | nil=>rfl
     | cons y w=>
      simp only[A3t,B3n];rw[if_neg (by decide),if_neg (by decide),if_pos trivial];cases decQ (y::w)<;>simp
   rw[hst,A6x];by_cases hh:hdW l=wYes\/hdW l=wNo
   ·rw[if_pos hh]
    cases hw:A2r l with
    | none=>rfl
    | some ws=>
     cases ws with
     | nil=>simp[decP]
     | cons y w=>
      have hy:y=wYes\/y=wNo:=by rw[D2t hw]at hh;exact hh
      have hq:decQ (y::w)=decP (y::w):=by unfold decQ;rw[if_pos (by simpa using hy)]
      simp only[hq]
      cases hp:decP (y::w)with
      | none=>
       simp only;by_cases hs:x.state=1
       ·rw[if_pos hs]
       ·rw[if_neg hs]
        have hyi:y≠A5n:=by rcases hy with rfl | rfl<;>decide
        have:begR ⟨v,xs++[x],3⟩ (y::w) = .error 8:=by
         match w with
         | []=>rfl
         | [a]=>rfl
         | [a,b]=>simp only[begR,if_neg hyi]
         | a::b::c::d=>rfl
        rw[this]
      | some d=>
       simp only;rw[E1w v xs tl r { x with decs:=x.decs++[d] }]
       cases A6x r with
       | error e=>rfl
       | ok q=>simp
   ·rw[if_neg hh];simp only[List.append_nil];by_cases hs:x.state=1
    ·rw[if_pos hs];have h5':¬l.take 5=[103,111,108,100,32]:=fun e=>h5 ⟨hs,e⟩;simp only[A9c,if_neg h5']
     cases hw:A2r l with
     | none=>rfl
     | some ws=>
      cases ws with
      | nil=>rfl
      | cons y w=>
       have hy:¬(y=wYes\/y=wNo):=by rw[D2t hw]at hh;exact hh
       have hq:decQ (y::w)=none:=by unfold decQ;rw[if_neg (by simpa using hy)]
       simp only[hq,if_pos hs]
    ·rw[if_neg hs,B0r,G5d,<-D5a ⟨v,xs++[x],1⟩ l]
     cases hw:A2r l with
     | none=>rfl
     | some ws=>
      cases ws with
      | nil=>rfl
      | cons y w=>
       have hy:¬(y=wYes\/y=wNo):=by rw[D2t hw]at hh;exact hh
       have hq:decQ (y::w)=none:=by unfold decQ;rw[if_neg (by simpa using hy)]
       simp only[hq,if_neg hs];rfl
theorem E5y:∀{ls:List (List UInt8)} {ds:List Dc} {r:List (List UInt8)},A6x ls = .ok (ds,r)->r.length<=ls.length
 | [],ds,r,h=>by cases h;exact Nat.le_refl _
 | l::ls,ds,r,h=>by
  have e:=C2i h;rw[e];simp
theorem C4s (v:ByteArray) (tl:List UInt8):∀(n:Nat) (ls:List (List UInt8)) (xs:List It),ls.length<n->allR ⟨v,xs,1⟩ ls tl=(match A3a n ls tl with
  | .error e=>.error e
  | .ok ys=>.ok ⟨v,xs++ys⟩)
 | 0,ls,xs,h=>by omega
 | n+1,[],xs,h=>by
  rw[A9o,A3a]
  have:endR ⟨v,xs,1⟩=false:=by simp[endR,A6d]
  rw[this];by_cases ht:tl=[]<;>simp[ht]
 | n+1,l::ls,xs,h=>by
  rw[B0r,G5d,A3a,B2m]
  cases hp:parts A5n l with
  | none=>rfl
  | some ps=>
   match ps with
   | []=>rfl
   | [a]=>rfl
   | a::b::c::d=>rfl
   | [id,st]=>
    simp only
    cases hi:idxW st 0 stN with
    | none=>rfl
    | some k=>
     simp only
     cases ls with
     | nil=>
      rw[A9o]
      have:endR ⟨v,xs++[⟨bs id,[],k,[],A1n⟩],2⟩=true:=by simp[endR]
      rw[this];by_cases ht:tl=[]<;>simp[ht]
     | cons l2 r2=>
      rw[B0r,step2];simp only
      cases hw:parts A3o l2 with
      | none=>rfl
      | some ws=>
       simp only;rw[E1w]
       cases hd:A6x r2 with
       | error e=>rfl
       | ok q=>
        obtain⟨ds,r3⟩:=q;have hl:=E5y hd;simp only[List.length_cons]at h;simp only[List.nil_append];by_cases hk:k=1
        ·rw[if_pos (by show(k:Int)=1;omega),if_pos hk]
         cases r3 with
         | nil=>rfl
         | cons g r4=>
          simp only[A9c]
          by_cases h5:g.take 5=[103,111,108,100,32]
          ·rw[if_pos h5]
           cases parD (g.drop 5)with
           | error e=>rfl
           | ok d=>
            simp only;simp only[List.length_cons]at hl;rw[C4s v tl n r4 _ (by omega)];cases A3a n r4 tl<;>simp
          ·rw[if_neg h5]
        ·rw[if_neg (by show ¬(k:Int)=1;omega),if_neg hk];simp only;rw[C4s v tl n r3 _ (by omega)];cases A3a n r3 tl<;>simp
theorem D0n (s:List UInt8):decR s=decT s:=by
 unfold decR decT;split
 ·rfl
 ·cases hc:cutL [] s with
  | mk ls tl=>
   cases ls with
   | nil=>
    simp only;rw[A9o]
    have:endR ⟨⟨#[]⟩,[],0⟩=true:=by simp[endR]
    rw[this];by_cases ht:tl=[]<;>simp[ht]
   | cons l ls=>
    simp only;rw[B0r,step0]
    cases hp:parts A1m l with
    | none=>rfl
    | some ps=>
     match ps with
     | []=>rfl
     | a::b::c=>rfl
     | [n]=>
      simp only;rw[C4s (bs n) tl (ls.length+1) ls [] (by omega)]
      cases A3a (ls.length+1) ls tl with
      | error e=>rfl
      | ok ys=>simp
def dcqT (ws:List (List UInt8)):T:=match decQ ws with
 | some d=>.tu [.ag (eDc.enc d),bv true]
 | none=>.tu [.ag (eDc.enc zDc),bv false]
theorem bslKd (m:Nat):A3l 9 1 [.string ⟨#[]⟩] 4 [(0,.t (.v (.string ⟨#[101,110,116,114,121]⟩))),(1,.t (.v (.string ⟨#[108,101,120]⟩))),(2,.t (.v (.string ⟨#[114,117,108,101]⟩))),(3,.t (.v (.string ⟨#[115,112,97,110]⟩)))] m=some (.row m 0 4 1,A1i eStr 9 (kdN.map bs)):=rfl
theorem C5p {t:T} {ws:List ByteArray} (ht:IsS eStr t ws) (hsz:∀w∈ws,w.size<=281474976710656):A0v Tryz.prog (G q) 146 [t] (· = dcqT (ws.map lbs)):=by
 have l1:=ht.len
 obtain⟨P,hP⟩:∃P,P=dcqT (ws.map lbs):=⟨_,rfl⟩
 rw[<-hP];unfold dcqT decQ at hP;have C:Ctx Tryz.prog (G q) _:=(A0x.cons (hNbr (q:=q)) (.cons (hRNu (q:=q)) .nil)).ctx mixed;refine C5h.call rfl ?_;(conv in B4x=>cbv);refine A0a C ?_;simp -implicitDefEqProofs
 obtain⟨Z,hZ⟩:∃Z:Row,Z=A2d zDc:=⟨_,rfl⟩
 rw[show Row.cells 61 [.t (.v (.int .i64 0)),.t (.v (.string ⟨#[]⟩)),.t (.v (.int .i64 0)),.t (.v (.int .i64 0)),.t (.v (.bool false))]=Z from hZ.symm]
 have sZ:A0h 5 [(0,Z)] (.ptr 0 0) (.t (.ag (eDc.enc zDc)))=some [(0,Z)]:=by
  rw[hZ];exact G4o [] _ rfl zDc
 have ldZ:A0e true 5 [(0,Z)] (.ptr 0 0)=some (.t (.ag (eDc.enc zDc))):=by rw[hZ];rfl
 have bz:=G4n;by_cases h5:ws.length=5
 rotate_left
 ·rw[E1m (by rw[List.length_map];exact h5),ite_self]at hP
  have hb:((ws.length:Int) != 5)=true:=by simpa using (by omega:¬(ws.length:Int)=5)
  refine A0a C ?_;simp -implicitDefEqProofs [l1,hb,bz,sZ,ldZ,hP,-evalK_build]
 obtain⟨y,k,n,f,to,rfl⟩:∃y k n f to,ws=[y,k,n,f,to]:=by
  match ws,h5 with
  | [y,k,n,f,to],_=>exact⟨y,k,n,f,to,rfl⟩
 have l1:A4t (.t t)=some (.t (.v (.int .i64 5))):=l1;have j0:A1b 1 (.t t) (.t (iv ((0:Nat):Int)))=_:=ht.iaddr (i:=0) rfl .i64;have j0:A1b 1 (.t t) (.t (.v (.int .i64 0)))=_:=j0;have j1:A1b 1 (.t t) (.t (iv ((1:Nat):Int)))=_:=ht.iaddr (i:=1) rfl .i64;have j1:A1b 1 (.t t) (.t (.v (.int .i64 1)))=_:=j1;have j2:A1b 1 (.t t) (.t (iv ((2:Nat):Int)))=_:=ht.iaddr (i:=2) rfl .i64;have j2:A1b 1 (.t t) (.t (.v (.int .i64 2)))=_:=j2;have j3:A1b 1 (.t t) (.t (iv ((3:Nat):Int)))=_:=ht.iaddr (i:=3) rfl .i64;have j3:A1b 1 (.t t) (.t (.v (.int .i64 3)))=_:=j3;have j4:A1b 1 (.t t) (.t (iv ((4:Nat):Int)))=_:=ht.iaddr (i:=4) rfl .i64;have j4:A1b 1 (.t t) (.t (.v (.int .i64 4)))=_:=j4;have ld:∀(x:ByteArray) (r:List T) (H:Heap),A0e false 1 H (.t (.pt (eStr.enc x++r)))=some (.t (sv x)):=fun _ _ _=>rfl
 have hyy:decide (y=(⟨#[121,101,115]⟩:ByteArray))=decide (lbs y=wYes):=by
  rw[Bool.eq_iff_iff,decide_eq_true_iff,decide_eq_true_iff];exact⟨fun h=>by rw[h];rfl,fun h=>B1d h⟩
 have hny:decide (y=(⟨#[110,111]⟩:ByteArray))=decide (lbs y=wNo):=by
  rw[Bool.eq_iff_iff,decide_eq_true_iff,decide_eq_true_iff];exact⟨fun h=>by rw[h];rfl,fun h=>B1d h⟩
 have hy2:(y.toList==[121,101,115])=decide (y=(⟨#[121,101,115]⟩:ByteArray)):=by rw[<-A2g];simp
 have hy3:(y.toList==[110,111])=decide (y=(⟨#[110,111]⟩:ByteArray)):=by rw[<-A2g];simp
 rw[hyy]at hy2;rw[hny]at hy3
 have hhd:(some (lbs y)=some wYes\/some (lbs y)=some wNo) ↔ (lbs y=wYes\/lbs y=wNo):=by simp
 simp only[List.map_cons,List.map_nil,List.head?_cons,hhd]at hP;by_cases hyn:lbs y=wYes\/lbs y=wNo
 rotate_left
 ·rw[if_neg hyn]at hP;rw[not_or]at hyn;rw[decide_eq_false hyn.1]at hy2;rw[decide_eq_false hyn.2]at hy3;refine A0a C ?_;simp -implicitDefEqProofs [l1,j0,ld,hy2,hy3,bz,sZ,ldZ,hP,-evalK_build]
 rw[if_pos hyn]at hP;have eI:=D4n k (IsS.mk (e:=eStr) (kdN.map bs)) (by decide)
 have ek:idxB k 0 (kdN.map bs)=match idxW (lbs k) 0 kdN with
  | some n=>(n:Int)
  | none=>-1:=by
  have:=D4o (lbs k) kdN 0;rwa[B4r]at this
 have n3:gNu [sv f]=some (numT (lbs f)):=C3c (hsz f (by simp));have n4:gNu [sv to]=some (numT (lbs to)):=C3c (hsz to (by simp));unfold numT at n3 n4
 have hP:P=match (match idxW (lbs k) 0 kdN with
  | none=>none
  | some i=>if(numS (lbs f)).2≠0\/(numS (lbs to)).2≠0\/(i=3/\lbs n≠[45])then none else some (⟨⟨i,if i=3 then⟨#[]⟩else bs (lbs n),(numS (lbs f)).1,(numS (lbs to)).1⟩,decide (lbs y=wYes)⟩:Dc))with
  | some d=>.tu [.ag (eDc.enc d),bv true]
  | none=>.tu [.ag (eDc.enc zDc),bv false]:=hP
 rw[B4r]at hP;generalize numS (lbs f)=nf at *;generalize numS (lbs to)=nt at *;obtain⟨f1,f2⟩:=nf;obtain⟨t1,t2⟩:=nt;simp only at n3 n4 hP
 have pass:∀b1 b2:Bool,(y.toList==[121,101,115])=b1->(y.toList==[110,111])=b2->(b1=true\/b2=true):=by
  intro b1 b2 h1 h2;rw[hy2]at h1;rw[hy3]at h2;rcases hyn with h | h
  ·exact .inl (by rw[<-h1];exact decide_eq_true h)
  ·exact .inr (by rw[<-h2];exact decide_eq_true h)
 obtain⟨KR,hKR⟩:∃KR:Row,KR=A1i eStr 9 (kdN.map bs):=⟨_,rfl⟩
 have bk:=bslKd 1;rw[<-hKR]at bk
 obtain⟨TK,hTK⟩:∃TK,TK=slT eStr (kdN.map bs):=⟨_,rfl⟩
 have tq:toTs [(1,KR),(0,Z)] [.row 1 0 4 1,.t (sv k)]=some ([TK,sv k],[1]):=by rw[hKR,hTK];rfl
 rw[<-hTK]at eI;refine MC.mono (Q:=E3a [.cell 2 true 5,.tmp 3] (· = P)) ?_ fun _ _ h=>h;refine A0s (α:=Unit) (fun _=>⟨[(2,.ptr 0 0),(3,.t (bv false)),(0,.t t)],[(0,Z)],1,83⟩) (fun _=>True) (fun _=>rfl) ?_ ?_
 ·cases hb1:(y.toList==[121,101,115])with
  | true=>
   refine A0c C ?_;simp -implicitDefEqProofs [l1,j0,ld,hb1];exact Abs.Next.mk () trivial (A0d (by simp -implicitDefEqProofs))
  | false=>
   cases hb2:(y.toList==[110,111])with
   | true=>
    refine A0c C ?_;simp -implicitDefEqProofs [l1,j0,ld,hb1,hb2];exact Abs.Next.mk () trivial (A0d (by simp -implicitDefEqProofs))
   | false=>
    rcases pass _ _ hb1 hb2 with h | h<;>cases h
 rintro _ -;refine A0a C ?_;simp -implicitDefEqProofs [bk,j1,ld,tq,eI,-toTs];refine A0a C ?_;simp -implicitDefEqProofs [j3,ld,n3];refine A0a C ?_;simp -implicitDefEqProofs [j4,ld,n4]
 have sZ:A0h 5 [(1,KR),(0,Z)] (.ptr 0 0) (.t (.ag (eDc.enc zDc)))=some [(1,KR),(0,Z)]:=by
  rw[hZ];simp[A0h,A0q,A3h,look,eDc,A2d,zDc]
 have ldZ:A0e true 5 [(1,KR),(0,Z)] (.ptr 0 0)=some (.t (.ag (eDc.enc zDc))):=by rw[hZ];rfl
 cases hi:idxW (lbs k) 0 kdN with
 | none=>
  rw[hi]at ek hP;have ek:idxB k 0 (kdN.map bs) = -1:=ek;simp only at hP;rw[ek];refine A0a C ?_;simp -implicitDefEqProofs [bz,sZ,ldZ,hP,-evalK_build]
 | some i=>
  rw[hi]at ek hP;have ek:idxB k 0 (kdN.map bs)=(i:Int):=ek;simp only at hP;rw[ek]
  have b0:¬(i:Int)<0:=by omega
  by_cases h1:f2=0
  rotate_left
  ·rw[if_pos (.inl h1)]at hP
   have hb:(f2 != 0)=true:=by simpa using h1
   refine A0a C ?_;simp -implicitDefEqProofs [b0,hb,bz,sZ,ldZ,hP,-evalK_build]
  subst h1;by_cases h2:t2=0
  rotate_left
  ·rw[if_pos (.inr (.inl h2))]at hP
   have hb:(t2 != 0)=true:=by simpa using h2
   refine A0a C ?_;simp -implicitDefEqProofs [b0,hb,bz,sZ,ldZ,hP,-evalK_build]
  subst h2;rw[<-hyy]at hP
  have hy2:(y.toList==[121,101,115])=decide (y=(⟨#[121,101,115]⟩:ByteArray)):=by rw[<-A2g];simp
  have hn2:(n.toList==[45])=decide (n=(⟨#[45]⟩:ByteArray)):=by rw[<-A2g];simp
  have key:∀(kn:Int) (nm nm':ByteArray),(if kn=3 then nm'=⟨#[]⟩else nm'=nm) ->
    (∀(Φ:A0n) (H:Heap) (nx:Nat),A0f Φ H nx (.build [(0,1),(1,1),(2,1),(3,1)] [.int .i64 0,.string ⟨#[]⟩,.int .i64 0,.int .i64 0] [0,1,2,3]) [.t (iv kn),.t (sv nm),.t (iv f1),.t (iv t1)]=some (.t (.ag (ePr.enc ⟨kn,nm,f1,t1⟩)),H,nx)) /\
    (∀(Φ:A0n) (H:Heap) (nx:Nat) (yb:Bool),A0f Φ H nx (.build [(0,4),(4,1)] [.int .i64 0,.string ⟨#[]⟩,.int .i64 0,.int .i64 0,.bool false] [0,1]) [.t (.ag (ePr.enc ⟨kn,nm,f1,t1⟩)),.t (bv yb)]=some (.t (.ag (eDc.enc ⟨⟨kn,nm,f1,t1⟩,yb⟩)),H,nx)) /\
    (∀yb,A0h 5 ((2,.cells 61 [.t (.v (.int .i64 0)),.t (.v (.string ⟨#[]⟩)),.t (.v (.int .i64 0)),.t (.v (.int .i64 0)),.t (.v (.bool false))])::[(1,KR),(0,Z)]) (.ptr 2 0) (.t (.ag (eDc.enc ⟨⟨kn,nm,f1,t1⟩,yb⟩)))=some [(2,A2d ⟨⟨kn,nm,f1,t1⟩,yb⟩),(1,KR),(0,Z)]) /\
    (∀yb,A0h 1 [(2,A2d ⟨⟨kn,nm,f1,t1⟩,yb⟩),(1,KR),(0,Z)] (.ptr 2 1) (.t (.v (.string ⟨#[]⟩)))=some [(2,A2d ⟨⟨kn,⟨#[]⟩,f1,t1⟩,yb⟩),(1,KR),(0,Z)]) /\
    (∀yb,A0e true 5 [(2,A2d ⟨⟨kn,nm',f1,t1⟩,yb⟩),(1,KR),(0,Z)] (.ptr 2 0)=some (.t (.ag (eDc.enc ⟨⟨kn,nm',f1,t1⟩,yb⟩)))) /\
    (∀yb,A0h 5 [(2,A2d ⟨⟨kn,nm',f1,t1⟩,yb⟩),(1,KR),(0,Z)] (.ptr 0 0) (.t (.ag (eDc.enc ⟨⟨kn,nm',f1,t1⟩,yb⟩)))=some [(2,A2d ⟨⟨kn,nm',f1,t1⟩,yb⟩),(1,KR),(0,A2d ⟨⟨kn,nm',f1,t1⟩,yb⟩)]) /\
    (∀yb,A0e true 5 [(2,A2d ⟨⟨kn,nm',f1,t1⟩,yb⟩),(1,KR),(0,A2d ⟨⟨kn,nm',f1,t1⟩,yb⟩)] (.ptr 0 0)=some (.t (.ag (eDc.enc ⟨⟨kn,nm',f1,t1⟩,yb⟩)))):=fun kn nm nm' _=>
   ⟨fun _ _ _=>rfl,fun _ _ _ _=>rfl,fun _=>rfl,fun _=>rfl,fun _=>rfl,fun _=>by rw[hZ];rfl,fun _=>rfl⟩
  by_cases h3:i=3
  ·subst h3
   by_cases h4:lbs n=[45]
   ·rw[if_neg (by simp[h4])]at hP;have hn:n=⟨#[45]⟩:=B1d h4;subst hn;obtain⟨k1,k2,k3,k4,k5,k6,k7⟩:=key 3 ⟨#[45]⟩ ⟨#[]⟩ rfl;have hP:P = .tu [.ag (eDc.enc ⟨⟨3,⟨#[]⟩,f1,t1⟩,decide (y=(⟨#[121,101,115]⟩:ByteArray))⟩),bv true]:=hP;generalize decide (y=(⟨#[121,101,115]⟩:ByteArray))=yb at *;refine A0a C ?_;simp -implicitDefEqProofs [b0,j2,ld];refine A0a C ?_;simp -implicitDefEqProofs [j2,ld,k1,j0,hy2,k2,k3,-evalK_build];refine A0a C ?_;simp -implicitDefEqProofs [k4];refine A0c C ?_;simp -implicitDefEqProofs [k5,k6,k7,hP]
   ·rw[if_pos (.inr (.inr ⟨rfl,h4⟩))]at hP;have hb:¬n=⟨#[45]⟩:=fun e=>h4 (by rw[e]);refine A0a C ?_;rw[decide_eq_false hb]at hn2;simp -implicitDefEqProofs [b0,j2,ld,hn2,bz,sZ,ldZ,hP,-evalK_build]
  ·rw[if_neg (by simp[h3])]at hP;rw[if_neg h3]at hP
   have hb:((i:Int)==3)=false:=by simpa using (by omega:¬(i:Int)=3)
   obtain⟨k1,k2,k3,k4,k5,k6,k7⟩:=key i n n (by rw[if_neg (by omega)]);generalize hyb:decide (y=(⟨#[121,101,115]⟩:ByteArray))=yb at *;refine A0a C ?_;simp -implicitDefEqProofs [b0,hb];refine A0a C ?_;simp -implicitDefEqProofs [j2,ld,k1,j0,hy2,k2,k3,-evalK_build];refine A0a C ?_;simp -implicitDefEqProofs [hb];refine A0c C ?_;simp -implicitDefEqProofs [k5,k6,k7,hP]
noncomputable def gDcq:List T->Option T:=g1 (tSl eStr) fun ws=>open Classical in if ∀w∈ws,w.size<=281474976710656 then some (dcqT (ws.map lbs))else none
theorem hDcq:GOK Tryz.prog (G q) 146 gDcq:=A4c fun a l r ha hr=>by
 split at hr
 ·rename_i h;injection hr with hr;subst hr;exact C5p ha h
 ·cases hr
theorem G1s {t:T} {ws:List ByteArray} (ht:IsS eStr t ws) (h:∀w∈ws,w.size<=281474976710656):gDcq [t]=some (dcqT (ws.map lbs)):=by
 show g1 _ _ _=_;rw[A5l (τ:=tSl eStr) ht,if_pos h]
theorem G1t (l:List IC) (c:IC):(l++[c])[l.length]?=some c:=by simp
theorem E5z {ver:ByteArray} {u:T} {l:List IC} {c:IC} (hu:IsS eIC u (l++[c])) (hl:l.length<=1000000):A0v Tryz.prog (G q) 96 [.ag [sv ver,u]] (· = .ag c.cs):=by
 have cd:A0q (.t (.ag [sv ver,u]))=some [.t (sv ver),.t u]:=rfl;have lu:=hu.len
 have lu:A4t (.t u)=some (.t (iv ((l.length+1:Nat):Int))):=by rw[lu];simp
 obtain⟨X,hX⟩:∃X,X=bRow ver u:=⟨_,rfl⟩
 obtain⟨Z,hZ⟩:∃Z,Z=zI:=⟨_,rfl⟩
 have z:=ldB (ver:=ver) (u:=u) (H:=[(1,Z),(0,X)]) (b:=0) (by rw[hX];rfl);obtain⟨pp,i1,ld9,_⟩:=B3h hu (G1t l c);obtain⟨tw,td,k,nm,f,t,tk,ks,ecs,_⟩:=A1g c.ok;rw[ecs]at ld9 ⊢;have e1:IntKind.i64.wrap (((l.length+1:Nat):Int)-1)=(l.length:Int):=A0j (by omega) (by omega);have s1:=sI10 c.x.id tw c.x.state td k nm f t tk [(0,X)] ⟨#[]⟩ nilS 0 nilS 0 ⟨#[]⟩ 0 0 nilS
 have s1:A0h 9 [(1,Z),(0,X)] (.ptr 1 0) (.t (.ag [sv c.x.id,tw,iv c.x.state,td,iv k,sv nm,iv f,iv t,tk]))=some [(1,iRow c.x.id tw c.x.state td k nm f t tk),(0,X)]:=by rw[hZ];exact s1
 have y:=ldI c.x.id tw c.x.state td k nm f t tk (H:=[(1,iRow c.x.id tw c.x.state td k nm f t tk),(0,X)]) (b:=1) rfl;have C:Ctx Tryz.prog (G q) _:=(A0x.nil:A0x Tryz.prog (G q) []).ctx mixed;refine E4z.call rfl ?_;(conv in C7o=>cbv);refine A0a C ?_;simp -implicitDefEqProofs [cd];rw[show Row.cells 39 [.t (sv ver),.t u]=X from hX.symm];rw[show Row.cells 28 [.t (.v (.string ⟨#[]⟩)),.t (.v (.slice none 0 0)),.t (.v (.int .i64 0)),.t (.v (.slice none 0 0)),.t (.v (.int .i64 0)),.t (.v (.string ⟨#[]⟩)),.t (.v (.int .i64 0)),.t (.v (.int .i64 0)),.t (.v (.slice none 0 0))]=Z from hZ.symm];generalize l.length+1=n1 at *;generalize l.length=n at *;generalize c.x.id=cid at *;generalize c.x.state=cst at *;generalize iRow cid tw cst td k nm f t tk=Y at *;refine A0c C ?_;simp -implicitDefEqProofs [z.l1,lu,e1,i1,ld9,s1,y.a]
noncomputable def gLst:List T->Option T:=g1 tTb fun b=>if b.items=[]then none else if 1000000<b.items.length then none else some (.ag ((b.items.getLast?).getD zIC).cs)
theorem hLst:GOK Tryz.prog (G q) 96 gLst:=A4c fun a b r ha hr=>by
 split at hr
 ·cases hr
 rename_i h0;split at hr
 ·cases hr
 rename_i h1;injection hr with hr;subst hr;obtain⟨u,rfl,hu⟩:=ha
 obtain⟨l,c,e⟩:∃l c,b.items=l++[c]:=⟨_,_,(List.dropLast_concat_getLast h0).symm⟩
 rw[e]at hu h1 ⊢;rw[List.getLast?_concat];exact E5z hu (by rw[List.length_append]at h1;simp at h1;omega)
theorem F3c {ver:ByteArray} {u:T} {l:List IC} {c:IC} (hu:IsS eIC u (l++[c])) (hl:l.length<1000000):gLst [.ag [sv ver,u]]=some (.ag c.cs):=by
 show g1 _ _ _=_;rw[A5l (τ:=tTb) (x:=⟨ver,l++[c]⟩) ⟨u,rfl,hu⟩,if_neg (by simp),if_neg (by simp;omega),List.getLast?_concat];rfl
theorem G5e (m:Nat):A3l 28 9 zIt 0 [] m=some (.row m 0 0 9,.cells 28 []):=rfl
theorem tslC (c:IC):A7f 28 9 zIt 1 [(0,.t (.ag c.cs))]=some (.t (slT eIC [c])):=by
 obtain⟨tw,td,k,nm,f,t,tk,ks,ecs,_⟩:=A1g c.ok;have e:slT eIC [c] = .sl 1 (eIC.enc c++[]):=rfl;have e2:eIC.enc c=c.cs:=rfl;rw[e,e2,ecs];rfl
theorem E6a {ver:ByteArray} {u:T} {l:List IC} {c0:IC} (hu:IsS eIC u (l++[c0])) (hl:l.length<=1000000) (c:IC):A0v Tryz.prog (G q) 144 [.ag [sv ver,u],.ag c.cs] (· = .ag [sv ver,A1a eIC (l++[c])]):=by
 have cd:A0q (.t (.ag [sv ver,u]))=some [.t (sv ver),.t u]:=rfl;obtain⟨tw,td,k,nm,f,t,tk,ks,ecs,_⟩:=A1g c.ok
 have cdx:A0q (.t (.ag c.cs))=some (c.cs.map .t):=by rw[ecs];rfl
 have lu:=hu.len
 have lu:A4t (.t u)=some (.t (iv ((l.length+1:Nat):Int))):=by rw[lu];simp
 have e1:IntKind.i64.wrap (((l.length+1:Nat):Int)-1)=(l.length:Int):=A0j (by omega) (by omega);obtain⟨u',sl,hu'⟩:=hu.slice_to (k:=l.length) (by simp) .i64;have sl:A3z 9 (.t u) none (some (.t (iv (l.length:Int))))=some (.t u'):=sl;rw[List.take_left'  rfl]at hu'
 obtain⟨X,hX⟩:∃X,X=bRow ver u:=⟨_,rfl⟩
 obtain⟨Y,hY⟩:∃Y,Y=Row.cells 28 (c.cs.map .t):=⟨_,rfl⟩
 obtain⟨Z,hZ⟩:∃Z,Z=bRow ⟨#[]⟩ nilS:=⟨_,rfl⟩
 have z0:∀H,Abs.look H 0=some X->A0e false 1 H (.ptr 0 0)=some (.t (sv ver)):=fun H h=>(ldB (ver:=ver) (u:=u) (H:=H) (b:=0) (by rw[h,hX])).l0;have z1:∀H,Abs.look H 0=some X->A0e false 1 H (.ptr 0 1)=some (.t u):=fun H h=>(ldB (ver:=ver) (u:=u) (H:=H) (b:=0) (by rw[h,hX])).l1
 have ly:∀H,Abs.look H 1=some Y->A0e true 9 H (.ptr 1 0)=some (.t (.ag c.cs)):=fun H h=>by
  have:=(ldI c.x.id tw c.x.state td k nm f t tk (H:=H) (b:=1) (by rw[h,hY,ecs];rfl)).a;rw[this,ecs]
 obtain⟨m,hm⟩:∃m,m=l++[c]:=⟨_,rfl⟩
 have ap1:=A8a (e:=eIC) (ty:=28) (b:=3) (l:=[]) (by':=136) (nx:=4) (H:=(3,.cells 28 [])::[(2,Z),(1,Y),(0,X)]) (m:=l) (by rw[look_cons,if_pos rfl];rfl) (A7v (e:=eIC) hu') (by simp;omega) (by simp;omega);simp only[List.nil_append,List.length_nil,Nat.zero_add]at ap1;replace ap1:appM 28 9 136 [(3,.cells 28 []),(2,Z),(1,Y),(0,X)] 4 (.row 3 0 0 9) (.t u')=some (.row 4 0 l.length 9,(4,A1i eIC 28 l)::[(2,Z),(1,Y),(0,X)],5):=ap1;have ap2:=A8a (e:=eIC) (ty:=28) (b:=4) (l:=l) (by':=136) (nx:=5) (H:=(4,A1i eIC 28 l)::[(2,Z),(1,Y),(0,X)]) (m:=[c]) (by rw[look_cons,if_pos rfl]) (A7v (e:=eIC) (t:=slT eIC [c]) (.inr rfl)) (by simp;omega) (by simp;omega);rw[show(l++[c]).length=l.length+1 by simp]at ap2;replace ap2:appM 28 9 136 [(4,A1i eIC 28 l),(2,Z),(1,Y),(0,X)] 5 (.row 4 0 l.length 9) (.t (slT eIC [c]))=some (.row 5 0 (l.length+1) 9,(5,A1i eIC 28 (l++[c]))::[(2,Z),(1,Y),(0,X)],6):=ap2;rw[<-hm]at ap2 ⊢
 have hml:m.length=l.length+1:=by rw[hm];simp
 have hrp:PV.row 5 0 (l.length+1) 9=rowP eIC 5 m:=by
  rw[<-hml]
  cases m with
  | nil=>simp at hml
  | cons x r=>rfl
 rw[hrp]at ap2;have bs0:=G5e 3;have ts:=tslC c;have bd:=fun Φ H nx=>bd2p Φ H nx ver m 5;have st:=st2p (v:=ver) (c:=5) (m:=m) (H:=[(5,A1i eIC 28 m),(2,Z),(1,Y),(0,X)]) (b:=2) (v':=⟨#[]⟩) (u':=nilS) (by rw[hZ];rfl);replace st:A0h 2 [(5,A1i eIC 28 m),(2,Z),(1,Y),(0,X)] (.ptr 2 0) (agOf [.t (sv ver),rowP eIC 5 m])=some [(5,A1i eIC 28 m),(2,oRow ver (rowP eIC 5 m)),(1,Y),(0,X)]:=st;have ra:A1h eIC 28 [(5,A1i eIC 28 m),(2,oRow ver (rowP eIC 5 m)),(1,Y),(0,X)] 5 m:=.inr (by rw[look_cons,if_pos rfl]);have frz:=A7c (F:=[5]) ra (by simp)
 obtain⟨A,hA⟩:∃A,A=agOf [.t (sv ver),rowP eIC 5 m]:=⟨_,rfl⟩
 rw[<-hA]at bd st
 obtain⟨RP,hRP⟩:∃RP,RP=rowP eIC 5 m:=⟨_,rfl⟩
 obtain⟨RO,hRO⟩:∃RO,RO=A1i eIC 28 m:=⟨_,rfl⟩
 obtain⟨RL,hRL⟩:∃RL,RL=A1i eIC 28 l:=⟨_,rfl⟩
 obtain⟨OR,hOR⟩:∃OR,OR=oRow ver (rowP eIC 5 m):=⟨_,rfl⟩
 rw[<-hRL,<-hRO,<-hRP]at ap2;rw[<-hRL]at ap1;rw[<-hRP]at bd;rw[<-hOR,<-hRO]at st;generalize slT eIC [c]=TC at *;have C:Ctx Tryz.prog (G q) _:=(A0x.nil:A0x Tryz.prog (G q) []).ctx mixed;refine E5a.call rfl ?_;(conv in C7p=>cbv);refine A0a C ?_;simp -implicitDefEqProofs [cd,cdx]
 rw[show Row.cells 39 [.t (sv ver),.t u]=X from hX.symm,show Row.cells 28 (c.cs.map .t)=Y from hY.symm,
  show Row.cells 39 [.t (.v (.string ⟨#[]⟩)),.t (.v (.slice none 0 0))]=Z from hZ.symm]
 generalize l.length+1=n1 at *;generalize l.length=n at *;refine A0a C ?_;simp -implicitDefEqProofs [z0,z1,lu,e1,sl,ly,ts,bs0,ap1,ap2,bd,st,-evalK_build];subst hOR hRO hRP;refine MC.sub (s':=⟨[(4,.ptr 2 0)],[(2,bRow ver (A1a eIC m))],3,20⟩) ?_ rfl ?_
 ·refine A8b [5] (by omega) (fun z hz=>?_) fun z hz=>?_
  ·simp only[List.mem_singleton]at hz;subst hz;refine⟨by simp,⟨oRow ver (rowP eIC 5 m),rfl,?_⟩,by show 2<3;omega,by exact A1e _ [sv ver,A1a eIC m]⟩;show Row.cells _ [.t (sv ver),frzP _ _ (rowP eIC 5 m)]=_;rw[frz];rfl
  ·simp only[List.mem_singleton]at hz;subst hz;exact⟨⟨_,rfl,rfl⟩,rfl⟩
 have y:=ldB (ver:=ver) (u:=A1a eIC m) (H:=[(2,bRow ver (A1a eIC m))]) (b:=2) rfl;refine A0c C ?_;simp -implicitDefEqProofs [y.a]
noncomputable def gWth:List T->Option T:=g2 tTb tIt fun b c=>if b.items=[]then none else if 1000000<b.items.length then none else some (.ag [sv b.ver,A1a eIC (b.items.dropLast++[c])])
theorem hWth:GOK Tryz.prog (G q) 144 gWth:=A6w fun a x b c r ha hx hr=>by
 obtain rfl:x = .ag c.cs:=hx;split at hr
 ·cases hr
 rename_i h0;split at hr
 ·cases hr
 rename_i h1;injection hr with hr;subst hr;obtain⟨u,rfl,hu⟩:=ha
 obtain⟨l,c0,e⟩:∃l c,b.items=l++[c]:=⟨_,_,(List.dropLast_concat_getLast h0).symm⟩
 rw[e]at hu h1 ⊢;rw[List.dropLast_concat];exact E6a hu (by rw[List.length_append]at h1;simp at h1;omega) c
theorem G1u {ver:ByteArray} {u:T} {l:List IC} {c0:IC} (hu:IsS eIC u (l++[c0])) (hl:l.length<1000000) (c:IC):gWth [.ag [sv ver,u],.ag c.cs]=some (.ag [sv ver,A1a eIC (l++[c])]):=by
 show g2 _ _ _ _=_;rw[A7u (τ:=tTb) (σ:=tIt) (x:=⟨ver,l++[c0]⟩) (y:=c) ⟨u,rfl,hu⟩ rfl,if_neg (by simp),if_neg (by simp;omega),List.dropLast_concat]
def cl (s:RSt):List IC:=if s.next=2 then s.items.dropLast.map icW++[IC.of (A4x s.items)]else s.items.map icW
def stT (s:RSt):T:=.ag [sv s.ver,A1a eIC (cl s),iv (s.next:Int)]
theorem D5b {l:List It} (h:l≠[]):l=l.dropLast++[A4x l]:=by
 unfold A4x;rw[List.getLast?_eq_some_getLast h];exact(List.dropLast_concat_getLast h).symm
theorem F3d {s:RSt} (h:s.items≠[]):cl s=s.items.dropLast.map icW++[if s.next=2 then IC.of (A4x s.items)else icW (A4x s.items)]:=by
 unfold cl;split
 ·rfl
 ·conv=>lhs;rw[D5b h]
  rw[List.map_append];rfl
theorem sSt {H:Heap} {b:Nat} {v v':ByteArray} {u u':T} {n n':Int} {l:List IC} (h:Abs.look H b=some (sRow v' u' n')) (hu:IsS eIC u l):A0h 3 H (.ptr b 0) (.t (.ag [sv v,u,iv n]))=some (upd H b (sRow v u n)):=by
 rcases hu with⟨rfl,_⟩ | rfl<;>simp[A0h,A0q,A3h,h,sRow]
def E6b (v:ByteArray) (p:PV) (n:Int):Row:=.cells 124 [.t (sv v),p,.t (iv n)]
theorem bd3p (Φ:A0n) (H:Heap) (nx:Nat) (v:ByteArray) (m:List IC) (b:Nat) (n:Int):A0f Φ H nx (.build [(0,2),(2,1)] [.string ⟨#[]⟩,.slice none 0 0,.int .i64 0] [0,1]) [agOf [.t (sv v),rowP eIC b m],.t (iv n)]=some (agOf [.t (sv v),rowP eIC b m,.t (iv n)],H,nx):=by
 cases m<;>rfl
theorem st3p {H:Heap} {b c:Nat} {v v':ByteArray} {u':T} {n n':Int} {m:List IC} (h:Abs.look H b=some (sRow v' u' n')):A0h 3 H (.ptr b 0) (agOf [.t (sv v),rowP eIC c m,.t (iv n)])=some (upd H b (E6b v (rowP eIC c m) n)):=by
 cases m<;>simp[A0h,agOf,allT,A0q,A3h,h,sRow,E6b,rowP]
def begO (s:RSt) (ws:List (List UInt8)):T:=match begR s ws with
 | .ok s'=>.tu [stT s',iv 0]
 | .error e=>.tu [stT s,iv e]
theorem bslSt (m:Nat):A3l 9 1 [.string ⟨#[]⟩] 3 [(0,.t (.v (.string ⟨#[111,112,101,110]⟩))),(1,.t (.v (.string ⟨#[97,99,99,101,112,116,101,100]⟩))),(2,.t (.v (.string ⟨#[114,101,106,101,99,116,101,100]⟩)))] m=some (.row m 0 3 1,A1i eStr 9 (stN.map bs)):=rfl
theorem tslSt:A7f 9 1 [.string ⟨#[]⟩] 3 [(0,.t (.v (.string ⟨#[111,112,101,110]⟩))),(1,.t (.v (.string ⟨#[97,99,99,101,112,116,101,100]⟩))),(2,.t (.v (.string ⟨#[114,101,106,101,99,116,101,100]⟩)))]=some (.t (slT eStr (stN.map bs))):=rfl
theorem F6y (s:RSt) {ws:List (List UInt8)} (h:ws.length≠3):begR s ws = .error 8:=by
 match ws,h with
 | [],_=>rfl
 | [_],_=>rfl
 | [_,_],_=>rfl
 | [_,_,_],h=>exact absurd rfl h
 | _::_::_::_::_,_=>rfl
theorem bdNew (Φ:A0n) (H:Heap) (nx:Nat) (id:ByteArray) (k:Nat):A0f Φ H nx (.build [(0,1),(1,1),(2,1),(3,1),(4,5)] [.string ⟨#[]⟩,.slice none 0 0,.int .i64 0,.slice none 0 0,.int .i64 0,.string ⟨#[]⟩,.int .i64 0,.int .i64 0,.slice none 0 0] [0,2]) [.t (sv id),.t (iv (k:Int))]=some (.t (.ag (IC.of ⟨id,[],k,[],A1n⟩).cs),H,nx):=rfl
theorem E6c (s:RSt) (hn:s.next≠2) (hl:s.items.length<=900000) {t:T} {ws:List (List UInt8)} (ht:IsS eStr t (ws.map bs)):A0v Tryz.prog (G q) 147 [stT s,t] (· = begO s ws):=by
 have l1:=ht.len;rw[List.length_map]at l1
 obtain⟨P,hP⟩:∃P,P=begO s ws:=⟨_,rfl⟩
 rw[<-hP];unfold begO at hP
 have hcl:cl s=s.items.map icW:=by unfold cl;rw[if_neg hn]
 have hu:IsS eIC (A1a eIC (cl s)) (cl s):=IsS.tree _ _
 have hcll:(cl s).length<=900000:=by rw[hcl,List.length_map];exact hl
 obtain⟨u,hue⟩:∃u,u=A1a eIC (cl s):=⟨_,rfl⟩
 have hst:stT s = .ag [sv s.ver,u,iv (s.next:Int)]:=by rw[hue];rfl
 rw[hst]at hP ⊢;rw[<-hue]at hu
 obtain⟨v,hv⟩:∃v,v=s.ver:=⟨_,rfl⟩
 obtain⟨sn,hsn⟩:∃sn,sn=(s.next:Int):=⟨_,rfl⟩
 rw[<-hv,<-hsn]at hP ⊢;have cd:A0q (.t (.ag [sv v,u,iv sn]))=some [.t (sv v),.t u,.t (iv sn)]:=rfl
 obtain⟨X,hX⟩:∃X,X=sRow v u sn:=⟨_,rfl⟩
 obtain⟨Z,hZ⟩:∃Z,Z=sRow ⟨#[]⟩ nilS 0:=⟨_,rfl⟩
 have zz:∀H,Abs.look H 0=some X->LdS v u sn H 0:=fun H h=>ldS (by rw[h,hX]);have z0:∀H,Abs.look H 0=some X->A0e false 1 H (.ptr 0 0)=some (.t (sv v)):=fun H h=>(zz H h).l0;have z1:∀H,Abs.look H 0=some X->A0e false 1 H (.ptr 0 1)=some (.t u):=fun H h=>(zz H h).l1;have za:∀H,Abs.look H 0=some X->A0e true 3 H (.ptr 0 0)=some (.t (.ag [sv v,u,iv sn])):=fun H h=>(zz H h).a;have C:Ctx Tryz.prog (G q) _:=(A0x.cons (hNbr (q:=q)) .nil).ctx mixed;refine D7j.call rfl ?_;(conv in C3o=>cbv);refine A0a C ?_;simp -implicitDefEqProofs [cd]
 rw[show Row.cells 124 [.t (sv v),.t u,.t (iv sn)]=X from hX.symm,
  show Row.cells 124 [.t (.v (.string ⟨#[]⟩)),.t (.v (.slice none 0 0)),.t (.v (.int .i64 0))]=Z from hZ.symm]
 have bad:∀H,Abs.look H 0=some X->Abs.look H 1=some Z->begR s ws = .error 8->P = .tu [.ag [sv v,u,iv sn],iv 8]/\A0h 3 H (.ptr 1 0) (.t (.ag [sv v,u,iv sn]))=some (upd H 1 X)/\A0e true 3 (upd H 1 X) (.ptr 1 0)=some (.t (.ag [sv v,u,iv sn])):=fun H h0 h1 he=>by
  refine⟨by rw[hP,he],?_,?_⟩
  ·rw[sSt (v':=⟨#[]⟩) (u':=nilS) (n':=0) (by rw[h1,hZ]) hu,hX]
  ·exact(ldS (v:=v) (u:=u) (n:=sn) (H:=upd H 1 X) (b:=1) (by rw[A1s h1,hX])).a
 have bad2:=bad [(1,Z),(0,X)] rfl rfl;by_cases h3:ws.length=3
 rotate_left
 ·obtain⟨hPe,s1,y1⟩:=bad2 (F6y s h3)
  have hb:((ws.length:Int) != 3)=true:=by simpa using (by omega:¬(ws.length:Int)=3)
  obtain⟨U,hU⟩:∃U,U=upd [(1,Z),(0,X)] 1 X:=⟨_,rfl⟩
  rw[<-hU]at s1 y1;refine A0a C ?_;simp -implicitDefEqProofs [l1,hb,za,s1,y1,hPe]
 obtain⟨i,id,st,rfl⟩:∃i id st,ws=[i,id,st]:=by
  match ws,h3 with
  | [i,id,st],_=>exact⟨i,id,st,rfl⟩
 have l1:A4t (.t t)=some (.t (.v (.int .i64 3))):=l1;have j0:A1b 1 (.t t) (.t (iv ((0:Nat):Int)))=_:=ht.iaddr (i:=0) rfl .i64;have j0:A1b 1 (.t t) (.t (.v (.int .i64 0)))=_:=j0;have j1:A1b 1 (.t t) (.t (iv ((1:Nat):Int)))=_:=ht.iaddr (i:=1) rfl .i64;have j1:A1b 1 (.t t) (.t (.v (.int .i64 1)))=_:=j1;have j2:A1b 1 (.t t) (.t (iv ((2:Nat):Int)))=_:=ht.iaddr (i:=2) rfl .i64;have j2:A1b 1 (.t t) (.t (.v (.int .i64 2)))=_:=j2;have ld:∀(x:ByteArray) (r:List T) (H:Heap),A0e false 1 H (.t (.pt (eStr.enc x++r)))=some (.t (sv x)):=fun _ _ _=>rfl
 have hi:((bs i).toList==[105,116,101,109])=decide (i=A5n):=by
  have:(bs i).toList=i:=by simp
  rw[this,Bool.eq_iff_iff,decide_eq_true_iff,beq_iff_eq];exact Iff.rfl
 by_cases hii:i=A5n
 rotate_left
 ·obtain⟨hPe,s1,y1⟩:=bad2 (by simp only[begR,if_neg hii]);rw[decide_eq_false hii]at hi
  obtain⟨U,hU⟩:∃U,U=upd [(1,Z),(0,X)] 1 X:=⟨_,rfl⟩
  rw[<-hU]at s1 y1;simp only[List.map_cons,List.map_nil]at j0;generalize bs i=bi at *;refine A0a C ?_;simp -implicitDefEqProofs [l1,j0,ld,hi,za,s1,y1,hPe]
 rw[decide_eq_true hii]at hi;have eI:=D4n (bs st) (IsS.mk (e:=eStr) (stN.map bs)) (by decide);have ek:=D4o st stN 0
 obtain⟨KR,hKR⟩:∃KR:Row,KR=A1i eStr 9 (stN.map bs):=⟨_,rfl⟩
 have bk:=bslSt 2;have tk:=tslSt;rw[<-hKR]at bk
 obtain⟨TK,hTK⟩:∃TK,TK=slT eStr (stN.map bs):=⟨_,rfl⟩
 have tq:toTs [(2,KR),(1,Z),(0,X)] [.row 2 0 3 1,.t (sv (bs st))]=some ([TK,sv (bs st)],[2]):=by rw[hKR,hTK];rfl
 rw[<-hTK]at eI tk
 have hbeg:begR s [i,id,st]=match idxW st 0 stN with
   | some k=>.ok ⟨s.ver,s.items++[⟨bs id,[],k,[],A1n⟩],2⟩
   | none=>.error 8:=by(simp only[begR,if_pos hii])<;>rfl
 simp only[List.map_cons,List.map_nil]at j0 j1 j2;generalize hbi:bs i=bi at *;generalize hbd:bs id=bd at *;generalize hbt:bs st=bt at *
 cases hx:idxW st 0 stN with
 | none=>
  rw[hx]at ek hbeg;have ek:idxB bt 0 (stN.map bs) = -1:=ek;rw[ek]at eI;obtain⟨hPe,s1,y1⟩:=bad [(2,KR),(1,Z),(0,X)] rfl rfl hbeg
  obtain⟨U,hU⟩:∃U,U=upd [(2,KR),(1,Z),(0,X)] 1 X:=⟨_,rfl⟩
  rw[<-hU]at s1 y1;refine A0a C ?_;simp -implicitDefEqProofs [l1,j0,j2,ld,hi,bk,tq,eI,za,s1,y1,hPe,-toTs]
 | some k=>
 rw[hx]at ek hbeg;have ek:idxB bt 0 (stN.map bs)=(k:Int):=ek;rw[ek]at eI
 have b0:¬(k:Int)<0:=by omega
 refine A0s (α:=Unit) (fun _=>⟨[(2,.ptr 0 0),(4,.ptr 1 0),(1,.t t)],[(1,Z),(0,X)],2,47⟩) (fun _=>True) (fun _=>rfl) ?_ ?_
 ·refine A0c C ?_;simp -implicitDefEqProofs [l1,j0,j2,ld,hi,bk,tq,eI,b0,-toTs];refine Abs.Next.mk () trivial (A7z (by omega) (fun z hz=>?_) (by simp -implicitDefEqProofs [under]));simp only[List.mem_cons,List.not_mem_nil,or_false]at hz;rcases hz with rfl | rfl
  ·exact⟨rfl,by show 1<2;omega,by rw[hZ];rfl⟩
  ·exact⟨rfl,by show 0<2;omega,by rw[hX];rfl⟩
 rintro _ -
 obtain⟨c,hc⟩:∃c,c=IC.of ⟨bd,[],k,[],A1n⟩:=⟨_,rfl⟩
 have bn:=fun Φ H nx=>bdNew Φ H nx bd k;rw[<-hc]at bn;obtain⟨tw,td,kk,nm,f,tt,tkk,ks,ecs,_⟩:=A1g c.ok;have sn2:=sI9 c.x.id tw c.x.state td kk nm f tt tkk [(1,Z),(0,X)] 2 [.t (.v (.string ⟨#[]⟩)),.t (.v (.slice none 0 0)),.t (.v (.int .i64 0)),.t (.v (.slice none 0 0)),.t (.v (.int .i64 0)),.t (.v (.string ⟨#[]⟩)),.t (.v (.int .i64 0)),.t (.v (.int .i64 0)),.t (.v (.slice none 0 0))] rfl
 obtain⟨Y,hY⟩:∃Y,Y=iRow c.x.id tw c.x.state td kk nm f tt tkk:=⟨_,rfl⟩
 rw[<-hY,<-ecs]at sn2
 have ly:∀H,Abs.look H 2=some Y->A0e true 9 H (.ptr 2 0)=some (.t (.ag c.cs)):=fun H h=>by
  have:=(ldI c.x.id tw c.x.state td kk nm f tt tkk (H:=H) (b:=2) (by rw[h,hY])).a;rw[this,ecs]
 obtain⟨l,hle⟩:∃l,l=cl s:=⟨_,rfl⟩
 rw[<-hle]at hu hcll
 obtain⟨m,hm⟩:∃m,m=l++[c]:=⟨_,rfl⟩
 have ap1:=A8a (e:=eIC) (ty:=28) (b:=3) (l:=[]) (by':=136) (nx:=4) (H:=(3,.cells 28 [])::[(2,Y),(1,Z),(0,X)]) (m:=l) (by rw[look_cons,if_pos rfl];rfl) (A7v (e:=eIC) hu) (by simp;omega) (by simp;omega);simp only[List.nil_append,List.length_nil,Nat.zero_add]at ap1;replace ap1:appM 28 9 136 [(3,.cells 28 []),(2,Y),(1,Z),(0,X)] 4 (.row 3 0 0 9) (.t u)=some (.row 4 0 l.length 9,(4,A1i eIC 28 l)::[(2,Y),(1,Z),(0,X)],5):=ap1;have ap2:=A8a (e:=eIC) (ty:=28) (b:=4) (l:=l) (by':=136) (nx:=5) (H:=(4,A1i eIC 28 l)::[(2,Y),(1,Z),(0,X)]) (m:=[c]) (by rw[look_cons,if_pos rfl]) (A7v (e:=eIC) (t:=slT eIC [c]) (.inr rfl)) (by simp;omega) (by simp;omega);rw[show(l++[c]).length=l.length+1 by simp]at ap2;replace ap2:appM 28 9 136 [(4,A1i eIC 28 l),(2,Y),(1,Z),(0,X)] 5 (.row 4 0 l.length 9) (.t (slT eIC [c]))=some (.row 5 0 (l.length+1) 9,(5,A1i eIC 28 (l++[c]))::[(2,Y),(1,Z),(0,X)],6):=ap2;rw[<-hm]at ap2
 have hml:m.length=l.length+1:=by rw[hm];simp
 have hrp:PV.row 5 0 (l.length+1) 9=rowP eIC 5 m:=by
  rw[<-hml]
  cases m with
  | nil=>simp at hml
  | cons x r=>rfl
 rw[hrp]at ap2
 have hPe:P = .tu [.ag [sv v,A1a eIC m,iv 2],iv 0]:=by
  rw[hP,hbeg];show T.tu [stT _,iv 0]=_
  have:cl ⟨s.ver,s.items++[⟨bd,[],k,[],A1n⟩],2⟩=m:=by
   unfold cl;rw[if_pos rfl,A3t,hm,hle,hcl,<-hc];simp
  unfold stT;rw[this,hv];rfl
 have bs0:=G5e 3;have ts:=tslC c;have bd2:=fun Φ H nx=>bd2p Φ H nx v m 5;have bd3:=fun Φ H nx=>bd3p Φ H nx v m 5 2;have st:=st3p (v:=v) (c:=5) (n:=2) (m:=m) (H:=[(5,A1i eIC 28 m),(2,Y),(1,Z),(0,X)]) (b:=1) (v':=⟨#[]⟩) (u':=nilS) (n':=0) (by rw[hZ];rfl);replace st:A0h 3 [(5,A1i eIC 28 m),(2,Y),(1,Z),(0,X)] (.ptr 1 0) (agOf [.t (sv v),rowP eIC 5 m,.t (iv 2)])=some [(5,A1i eIC 28 m),(2,Y),(1,E6b v (rowP eIC 5 m) 2),(0,X)]:=st;have ra:A1h eIC 28 [(5,A1i eIC 28 m),(2,Y),(1,E6b v (rowP eIC 5 m) 2),(0,X)] 5 m:=.inr (by rw[look_cons,if_pos rfl]);have frz:=A7c (F:=[5]) ra (by simp)
 obtain⟨A,hA⟩:∃A,A=agOf [.t (sv v),rowP eIC 5 m]:=⟨_,rfl⟩
 obtain⟨A3,hA3⟩:∃A,A=agOf [.t (sv v),rowP eIC 5 m,.t (iv 2)]:=⟨_,rfl⟩
 rw[<-hA]at bd2 bd3;rw[<-hA3]at bd3 st
 obtain⟨RP,hRP⟩:∃RP,RP=rowP eIC 5 m:=⟨_,rfl⟩
 obtain⟨RO,hRO⟩:∃RO,RO=A1i eIC 28 m:=⟨_,rfl⟩
 obtain⟨RL,hRL⟩:∃RL,RL=A1i eIC 28 l:=⟨_,rfl⟩
 obtain⟨OR,hOR⟩:∃OR,OR=E6b v (rowP eIC 5 m) 2:=⟨_,rfl⟩
 rw[<-hRL,<-hRO,<-hRP]at ap2;rw[<-hRL]at ap1;rw[<-hRP]at bd2;rw[<-hOR,<-hRO]at st;generalize slT eIC [c]=TC at *;generalize l.length+1=n1 at *;generalize l.length=n at *;have tq2:∀H,toTs H [.t TK,.t (sv bt)]=some ([TK,sv bt],[]):=fun _=>rfl;refine A0a C ?_;simp -implicitDefEqProofs [j1,j2,ld,tk,eI,bn,sn2,-evalK_build];refine A0a C ?_;simp -implicitDefEqProofs [z0,z1,ly,ts,bs0,ap1,ap2,bd2,bd3,st,-evalK_build];subst hOR hRO hRP;refine MC.sub (s':=⟨[(4,.ptr 1 0),(5,.t (iv 0))],[(1,sRow v (A1a eIC m) 2)],2,47⟩) ?_ rfl ?_
 ·refine A8b [5] (by omega) (fun z hz=>?_) fun z hz=>?_
  ·simp only[List.mem_singleton]at hz;subst hz;refine⟨by simp,⟨E6b v (rowP eIC 5 m) 2,rfl,?_⟩,by show 1<2;omega,by exact A1e _ [sv v,A1a eIC m,iv 2]⟩;show Row.cells _ [.t (sv v),frzP _ _ (rowP eIC 5 m),.t (iv 2)]=_;rw[frz];rfl
  ·simp only[List.mem_cons,List.not_mem_nil,or_false]at hz;rcases hz with rfl | rfl
   ·exact⟨⟨_,rfl,rfl⟩,rfl⟩
   ·exact⟨⟨_,rfl,rfl⟩,rfl⟩
 have y:=ldS (v:=v) (u:=A1a eIC m) (n:=2) (H:=[(1,sRow v (A1a eIC m) 2)]) (b:=1) rfl;refine A0c C ?_;simp -implicitDefEqProofs [y.a,hPe]
end Go.Proofs.YtmplckgbeaifkaaGreatDoor
namespace Go.Abs
open Go
noncomputable def gAt (a0:List T) (r0:T):List T->Option T:=open Classical in fun args=>if args=a0 then some r0 else none
theorem F8i {P:Program} {G:A0w} {F:FuncId} {a0:List T} {r0:T} (h:A0v P G F a0 (· = r0)):GOK P G F (gAt a0 r0):=fun args r hr=>by
 unfold gAt at hr;split at hr
 ·rename_i e;injection hr with hr;subst hr;subst e;exact h
 ·cases hr
theorem F8j (a0:List T) (r0:T):gAt a0 r0 a0=some r0:=by unfold gAt;rw[if_pos rfl]
end Go.Abs
namespace Go.Proofs.YtmplckgbeaifkaaGreatDoor
open Go Go.Abs
variable {q : Gl}
structure InvR (k:Nat) (s:RSt):Prop where
 n3:s.next<=3
 ne:2<=s.next->s.items≠[]
 len:s.items.length<=k
 dl:∀x∈s.items,x.decs.length<=k
 sm:∀x∈s.items,SmI x
 vs:s.ver.size<=lim
theorem F8k:InvR 0 ⟨⟨#[]⟩,[],0⟩:=⟨by show 0<=3;omega,fun h=>(by have h:2<=0:=h;omega),Nat.le_refl _,fun x hx=>(by cases hx),fun x hx=>(by cases hx),by show 0<=lim;unfold lim;omega⟩
theorem B8a {l:List It} (h:l≠[]):A4x l∈l:=by
 have e:=D5b h;rw[e];rw[A3t];simp
theorem E1x {l:List It} {x y:It} (h:y∈B1x l x):y=x\/y∈l:=by
 unfold B1x at h;rcases List.mem_append.1 h with h | h
 ·exact .inr (List.dropLast_subset _ h)
 ·exact .inl (List.mem_singleton.1 h)
theorem F6z {l:List It} (x:It) (h:l≠[]):(B1x l x).length=l.length:=by
 have:=List.length_pos_iff.2 h;unfold B1x;simp;omega
theorem D0o {k:Nat} {s:RSt} (hi:InvR k s) {x:It} {n:Nat} (h2:2<=s.next) (hn:n<=3) (hx:SmI x) (hd:x.decs.length<=k+1):InvR (k+1) ⟨s.ver,B1x s.items x,n⟩:=
 ⟨hn,fun _=>by show B1x _ _≠[];unfold B1x;simp,by show(B1x _ _).length<=_;rw[F6z x (hi.ne h2)];have:=hi.len;omega,
 fun y hy=>(E1x hy).elim (fun e=>by rw[e];exact hd) fun h=>Nat.le_succ_of_le (hi.dl y h),fun y hy=>(E1x hy).elim (fun e=>by rw[e];exact hx) fun h=>hi.sm y h,hi.vs⟩
theorem F3e {k:Nat} {s s':RSt} {w:List (List UInt8)} (hi:InvR k s) (hw:∀x∈w,x.length<=1000000) (h:begR s w = .ok s'):InvR (k+1) s':=by
 unfold begR at h;split at h
 ·rename_i i id st;split at h
  ·split at h
   ·rename_i kk _;injection h with h;subst h;refine⟨by show 2<=3;omega,fun _=>by simp,by simp;exact hi.len,fun x hx=>?_,fun x hx=>?_,hi.vs⟩
    ·rcases List.mem_append.1 hx with hx | hx
     ·exact Nat.le_succ_of_le (hi.dl x hx)
     ·rw[List.mem_singleton.1 hx];show 0<=_;omega
    ·rcases List.mem_append.1 hx with hx | hx
     ·exact hi.sm x hx
     ·rw[List.mem_singleton.1 hx];refine⟨⟨by show 0<=_;omega,fun w hw=>(by cases hw)⟩,by show 0<=_;omega,fun d hd=>(by cases hd),wdZ,?_⟩;show(bs id).size<=_;rw[A0k];have:=hw id (by simp);unfold lim;omega
   ·cases h
  ·cases h
 ·cases h
theorem E1y {k:Nat} {s s':RSt} {l:List UInt8} (hi:InvR k s) (hl:l.length<=1000000) (hk:k<=900000) (h:A5p s l = .ok s'):InvR (k+1) s':=by
 unfold A5p at h;split at h
 ·rename_i hg
  have h3:s.next=3:=by
   have:=hg.1;unfold A6d at this;rw[Bool.and_eq_true,decide_eq_true_iff]at this;exact this.1
  split at h
  ·cases h
  ·rename_i d hp;injection h with h;subst h;have hm:=B8a (hi.ne (by omega));have sm:=hi.sm _ hm;exact D0o hi (by omega) (by omega) ⟨sm.words,sm.len,sm.decs,F2i hp,sm.id⟩ (Nat.le_succ_of_le (hi.dl (A4x s.items) hm))
 ·split at h
  ·cases h
  ·cases h
  ·rename_i x w hw;obtain⟨hw1,hw2⟩:=B1o hw;have hw3:∀y∈x::w,y.length<=1000000:=fun y hy=>Nat.le_trans (hw2 y hy) hl;split at h
   ·split at h
    ·split at h
     ·rename_i vv;injection h with h;subst h;refine⟨by show 1<=3;omega,fun h=>(by have h:2<=1:=h;omega),by show 0<=_;omega,fun x hx=>(by cases hx),fun x hx=>(by cases hx),?_⟩;show(bs vv).size<=_;rw[A0k];have:=hw3 vv (by simp);unfold lim;omega
     ·cases h
    ·cases h
   ·split at h
    ·rename_i h2;split at h
     ·injection h with h;subst h;have hm:=B8a (hi.ne (by omega));have sm:=hi.sm _ hm;refine D0o hi (by omega) (by omega) ⟨⟨?_,fun y hy=>?_⟩,sm.len,sm.decs,sm.gold,sm.id⟩ (Nat.le_succ_of_le (hi.dl (A4x s.items) hm))
      ·show(w.map bs).length<=_;rw[List.length_map];simp only[List.length_cons]at hw1;omega
      ·obtain⟨z,hz,rfl⟩:=List.mem_map.1 hy;rw[A0k];have:=hw3 z (by simp[hz]);unfold lim;omega
     ·cases h
    ·split at h
     ·rename_i h3;split at h
      ·rename_i d hd;injection h with h;subst h;have hm:=B8a (hi.ne (by omega));have sm:=hi.sm _ hm;have hdl:=hi.dl _ hm
       have hdp:decP (x::w)=some d:=by
        unfold decQ at hd;split at hd
        ·exact hd
        ·cases hd
       have hdn:=D4u hdp hw3;refine D0o hi (by omega) (by omega) ⟨sm.words,?_,fun y hy=>?_,sm.gold,sm.id⟩ ?_
       ·show(_++[d]).length<=_;rw[List.length_append];simp;omega
       ·rcases List.mem_append.1 hy with hy | hy
        ·exact sm.decs y hy
        ·rw[List.mem_singleton.1 hy];unfold lim;omega
       ·show(_++[d]).length<=_;rw[List.length_append];simp;omega
      ·split at h
       ·cases h
       ·exact F3e hi hw3 h
     ·exact F3e hi hw3 h
def errT (s:RSt) (l:List UInt8):T:=if A6d s=true/\l.take 5=[103,111,108,100,32]then stT ⟨s.ver,B1x s.items { A4x s.items with gold:=A1n },1⟩else stT s
def E6d (s:RSt) (l:List UInt8):T:=match A5p s l with
 | .ok s'=>.tu [stT s',iv 0]
 | .error e=>.tu [errT s l,iv e]
theorem C1a (v:ByteArray) (l:List It) (x:It) (n:Nat) (hn:n≠2):stT ⟨v,B1x l x,n⟩ = .ag [sv v,A1a eIC (l.dropLast.map icW++[icW x]),iv (n:Int)]:=by
 unfold stT cl;rw[if_neg hn];unfold B1x;rw[List.map_append];rfl
theorem F3f {s:RSt} {l:List UInt8} (h:A6d s=true/\l.take 5=[103,111,108,100,32]):∃(d:Dv) (e:Int),parT (l.drop 5) = .tu [.ag (encD d),iv e] /\
  E6d s l = .tu [.ag [sv s.ver,A1a eIC (s.items.dropLast.map icW++[icW { A4x s.items with gold:=d }]),iv 1],iv e]:=by
 unfold E6d A5p errT parT;rw[if_pos h,if_pos h]
 cases parD (l.drop 5)with
 | error e=>exact⟨A1n,e,rfl,by simp only;rw[C1a _ _ _ _ (by omega)];rfl⟩
 | ok d=>exact⟨d,0,rfl,by simp only;rw[C1a _ _ _ _ (by omega)];rfl⟩
noncomputable def gRWs:List T->Option T:=gStr (fun s=>A3r s.data.toList) 1000000
theorem hRWs:GOK Tryz.prog (G q) 145 gRWs:=A5y D6j
theorem G1v {l:List UInt8} (h:l.length<=1000000):gRWs [sv (bs l)]=some (A3r l):=by
 have:=A9w (f:=fun s=>A3r s.data.toList) (s:=bs l) (n:=1000000) (by rw[A0k];exact h);rwa[A5z]at this
theorem bd3t (Φ:A0n) (H:Heap) (nx:Nat) (v:ByteArray) (t:T) (n:Int):A0f Φ H nx (.build [(0,2),(2,1)] [.string ⟨#[]⟩,.slice none 0 0,.int .i64 0] [0,1]) [.t (.ag [sv v,t]),.t (iv n)]=some (.t (.ag [sv v,t,iv n]),H,nx):=rfl
theorem sI4b {R:Heap} (b:Nat) (id:ByteArray) (tw:T) (st:Int) (td:T) (k:Int) (nm:ByteArray) (f t:Int) (tk:T) (k':Int) (nm':ByteArray) (f' t':Int) (tk':T) :
  A0h 5 ((b,iRow id tw st td k nm f t tk)::R) (.ptr b 4) (.t (.ag [iv k',sv nm',iv f',iv t',tk']))=some ((b,iRow id tw st td k' nm' f' t' tk')::R):=by
 simp[A0h,A0q,A3h,look,iRow]
theorem sI1b {R:Heap} (b:Nat) (id:ByteArray) (tw:T) (st:Int) (td:T) (k:Int) (nm:ByteArray) (f t:Int) (tk:T) (n:Nat) (cs:List T) :
  A0h 1 ((b,iRow id tw st td k nm f t tk)::R) (.ptr b 1) (.t (.sl n cs))=some ((b,iRow id (.sl n cs) st td k nm f t tk)::R):=by
 simp[A0h,A0q,A3h,look,iRow]
structure LnQ (v:ByteArray) (u:T) (n:Int) (X Z:Row) (l:List IC):Prop where
 hX:X=sRow v u n
 hZ:Z=sRow ⟨#[]⟩ nilS 0
 hu:IsS eIC u l
theorem LnQ.out {v:ByteArray} {u:T} {n:Int} {X Z:Row} {l:List IC} (_:LnQ v u n X Z l) {v':ByteArray} {u':T} {n':Int} {l':List IC} (hu:IsS eIC u' l') {H:Heap} (h1:Abs.look H 1=some Z) (hZ:Z=sRow ⟨#[]⟩ nilS 0) :
  ∃H',A0h 3 H (.ptr 1 0) (.t (.ag [sv v',u',iv n']))=some H'/\A0e true 3 H' (.ptr 1 0)=some (.t (.ag [sv v',u',iv n'])):=by
 refine⟨upd H 1 (sRow v' u' n'),sSt (v':=⟨#[]⟩) (u':=nilS) (n':=0) (by rw[h1,hZ]) hu,(ldS (A1s h1)).a⟩
theorem E6e {k:Nat} (s:RSt) (l:List UInt8) (hi:InvR k s) (hk:k<=800000) (hl:l.length<=1000000):A0v Tryz.prog (G q) 95 [stT s,sv (bs l)] (· = E6d s l):=by
 obtain⟨P,hP⟩:∃P,P=E6d s l:=⟨_,rfl⟩
 rw[<-hP];have hil:=hi.len;have hu:IsS eIC (A1a eIC (cl s)) (cl s):=IsS.tree _ _
 obtain⟨u,hue⟩:∃u,u=A1a eIC (cl s):=⟨_,rfl⟩
 have hst:stT s = .ag [sv s.ver,u,iv (s.next:Int)]:=by rw[hue];rfl
 rw[hst];rw[<-hue]at hu
 obtain⟨v,hv⟩:∃v,v=s.ver:=⟨_,rfl⟩
 obtain⟨sn,hsn⟩:∃sn,sn=(s.next:Int):=⟨_,rfl⟩
 rw[<-hv,<-hsn];have cd:A0q (.t (.ag [sv v,u,iv sn]))=some [.t (sv v),.t u,.t (iv sn)]:=rfl
 obtain⟨X,hX⟩:∃X,X=sRow v u sn:=⟨_,rfl⟩
 obtain⟨Z,hZ⟩:∃Z,Z=sRow ⟨#[]⟩ nilS 0:=⟨_,rfl⟩
 have zz:∀H,Abs.look H 0=some X->LdS v u sn H 0:=fun H h=>ldS (by rw[h,hX]);have z2:∀H,Abs.look H 0=some X->A0e false 1 H (.ptr 0 2)=some (.t (iv sn)):=fun H h=>(zz H h).l2;have zb:∀H,Abs.look H 0=some X->A0e true 2 H (.ptr 0 0)=some (.t (.ag [sv v,u])):=fun H h=>(zz H h).bb;have za:∀H,Abs.look H 0=some X->A0e true 3 H (.ptr 0 0)=some (.t (.ag [sv v,u,iv sn])):=fun H h=>(zz H h).a
 obtain⟨x,hx⟩:∃x,x=A4x s.items:=⟨_,rfl⟩
 obtain⟨l0,hl0⟩:∃l0,l0=s.items.dropLast.map icW:=⟨_,rfl⟩
 have hl0l:l0.length<=800000:=by rw[hl0];simp;omega
 obtain⟨c,hc⟩:∃c,c=if s.next=2 then IC.of x else icW x:=⟨_,rfl⟩
 have hcx:c.x=x:=by rw[hc];split<;>rfl
 have hcl:2<=s.next->cl s=l0++[c]:=fun h=>by rw[F3d (hi.ne h),<-hx,<-hl0,<-hc]
 have eL:2<=s.next->gLst [.ag [sv v,u]]=some (.ag c.cs):=fun h=>F3c (l:=l0) (c:=c) (by rw[<-hcl h];exact hu) (by omega)
 have eW:∀c':IC,2<=s.next->gWth [.ag [sv v,u],.ag c'.cs]=some (.ag [sv v,A1a eIC (l0++[c'])]):=fun c' h=>G1u (l:=l0) (c0:=c) (by rw[<-hcl h];exact hu) (by omega) c'
 obtain⟨tw,td,kk,nm,f,tt,tk,ks,ecs,hgd,_,htw,htd,hgD⟩:=A1g c.ok;rw[hcx]at ecs hgd htw htd hgD
 have zI9:∀(b:Nat) (R:Heap),A0h 9 ((b,.cells 28 [.t (.v (.string ⟨#[]⟩)),.t (.v (.slice none 0 0)),.t (.v (.int .i64 0)),.t (.v (.slice none 0 0)),.t (.v (.int .i64 0)),.t (.v (.string ⟨#[]⟩)),.t (.v (.int .i64 0)),.t (.v (.int .i64 0)),.t (.v (.slice none 0 0))])::R) (.ptr b 0) (.t (.ag c.cs))=some ((b,iRow x.id tw x.state td kk nm f tt tk)::R):=fun b R=>by
  rw[ecs];exact sI9 _ _ _ _ _ _ _ _ _ R b _ rfl
 have C:Ctx Tryz.prog (G q) _:=(A0x.cons (hLst (q:=q)) (.cons (hWth (q:=q)) (.cons (G2x (q:=q)) (.cons (hRWs (q:=q)) (.cons (hDcq (q:=q)) .nil))))).ctx mixed;have bd3:=bd3t
 have op3:A6d s=true->s.next=3:=fun h=>by
  unfold A6d at h;rw[Bool.and_eq_true,decide_eq_true_iff]at h;exact h.1
 refine E4y.call rfl ?_;(conv in C7n=>cbv);refine A0a C ?_;simp -implicitDefEqProofs [cd]
 rw[show Row.cells 124 [.t (sv v),.t u,.t (iv sn)]=X from hX.symm,
  show Row.cells 124 [.t (.v (.string ⟨#[]⟩)),.t (.v (.slice none 0 0)),.t (.v (.int .i64 0))]=Z from hZ.symm]
 refine A0s (α:=Unit) (fun _=>⟨[(6,.t (bv (A6d s))),(4,.ptr 1 0),(2,.ptr 0 0),(1,.t (sv (bs l)))],[(1,Z),(0,X)],2,135⟩) (fun _=>True) (fun _=>rfl) ?_ ?_
 ·by_cases h3:s.next=3
  ·have hsn3:sn=3:=by rw[hsn,h3];rfl
   have hop:A6d s=(x.state==1):=by
    unfold A6d;rw[decide_eq_true h3,Bool.true_and,<-hx,Bool.eq_iff_iff,decide_eq_true_iff,beq_iff_eq]
   have e2:C6a 2 false 1 (.t (.ag c.cs))=some (.t (iv x.state)):=by rw[ecs];rfl
   have eL:=eL (by omega);subst hsn3;refine A0c C ?_;simp -implicitDefEqProofs [z2,zb,eL,e2];exact Abs.Next.mk () trivial (A0d (by simp -implicitDefEqProofs [hop]))
  ·have hop:A6d s=false:=by
    cases h:A6d s with
    | false=>rfl
    | true=>exact absurd (op3 h) h3
   have hb:(sn==3)=false:=by rw[beq_eq_false_iff_ne,hsn];omega
   refine A0c C ?_;simp -implicitDefEqProofs [z2,hb];exact Abs.Next.mk () trivial (A0d (by simp -implicitDefEqProofs [hop]))
 rintro _ -
 by_cases hg:A6d s=true/\l.take 5=[103,111,108,100,32]
 ·
  have h3:=op3 hg.1;obtain⟨d,e,hp,hln⟩:=F3f hg;rw[<-hP,<-hl0,<-hv,<-hx]at hln;have eL:=eL (by omega)
  have h5:5<=l.length:=by
   have:=congrArg List.length hg.2;rw[List.length_take]at this;simp at this;omega
  have h5':(5:Int)<=(l.length:Int):=by omega
  have s5:=E4h l (j:=5) h5;have s5:A3j (.t (.v (.string ⟨l.toArray⟩))) none (some (.t (iv 5)))=some (.t (sv (bs (l.take 5)))):=s5;have f5:=B2v l (j:=5) h5;have f5:A3j (.t (.v (.string ⟨l.toArray⟩))) (some (.t (iv 5))) none=some (.t (sv (bs (l.drop 5)))):=f5;rw[hg.2]at s5;have eP:=E9t (l:=l.drop 5) (by rw[List.length_drop];omega);rw[hp]at eP;obtain⟨k',nm',f',t',tk',ed⟩:=B0q d;rw[ed]at eP
  obtain⟨DR,hDR⟩:∃DR,DR=Row.cells 26 [.t (iv k'),.t (sv nm'),.t (iv f'),.t (iv t'),.t tk']:=⟨_,rfl⟩
  have sd:A0h 5 ((2,.cells 26 [.t (.v (.int .i64 0)),.t (.v (.string ⟨#[]⟩)),.t (.v (.int .i64 0)),.t (.v (.int .i64 0)),.t (.v (.slice none 0 0))])::[(1,Z),(0,X)]) (.ptr 2 0) (.t (.ag [iv k',sv nm',iv f',iv t',tk']))=some ((2,DR)::[(1,Z),(0,X)]):=by rw[hDR];rfl
  have ld5:∀Y,A0e true 5 [(3,Y),(2,DR),(1,Z),(0,X)] (.ptr 2 0)=some (.t (.ag [iv k',sv nm',iv f',iv t',tk'])):=fun Y=>by rw[hDR];rfl
  have s9:=zI9 3 [(2,DR),(1,Z),(0,X)];have s4:=sI4b (R:=[(2,DR),(1,Z),(0,X)]) 3 x.id tw x.state td kk nm f tt tk k' nm' f' t' tk'
  obtain⟨c',hc'⟩:∃c':IC,c'=icW { x with gold:=d }:=⟨_,rfl⟩
  have ec':c'.cs=[sv x.id,tw,iv x.state,td,iv k',sv nm',iv f',iv t',tk']:=by
   have hcc:c=icW x:=by rw[hc,if_neg (by omega)]
   have e0:c.cs=encW x:=by rw[hcc];rfl
   rw[ecs]at e0;unfold encW at e0;simp only[List.cons_append,List.nil_append]at e0;injection e0 with _ e0;injection e0 with e1 e0;injection e0 with _ e0;injection e0 with e2 _;rw[hc',e1,e2];show encW _=_;unfold encW;show [sv x.id,slT eStr x.words,iv x.state,A1a eDc x.decs]++encD d=_;rw[ed];rfl
  have l9:=(ldI x.id tw x.state td k' nm' f' t' tk' (H:=[(3,iRow x.id tw x.state td k' nm' f' t' tk'),(2,DR),(1,Z),(0,X)]) (b:=3) rfl).a;rw[<-ec']at l9;have eW:=eW c' (by omega);obtain⟨H',so,lo⟩:=LnQ.out ⟨hX,hZ,hu⟩ (v':=v) (n':=1) (IsS.tree eIC (l0++[c'])) (H:=[(3,iRow x.id tw x.state td k' nm' f' t' tk'),(2,DR),(1,Z),(0,X)]) rfl hZ;rw[<-hc']at hln;rw[hg.1];generalize A1a eIC (l0++[c'])=U at *
  obtain⟨Y1,hY1⟩:∃Y,Y=iRow x.id tw x.state td kk nm f tt tk:=⟨_,rfl⟩
  obtain⟨Y2,hY2⟩:∃Y,Y=iRow x.id tw x.state td k' nm' f' t' tk':=⟨_,rfl⟩
  rw[<-hY1]at s9 s4;rw[<-hY2]at s4 l9 so;refine A0a C ?_;simp -implicitDefEqProofs [A0k,h5',s5,f5,eP,sd,zb,eL,s9,ld5,s4,l9,eW,bd3,so,lo,hln,-evalK_build]
 have hstep:A5p s l=(match A2r l with
  | none=>.error 8
  | some []=>.error 8
  | some (x::w)=>
   if s.next=0 then(if x=A1m then(match w with
    | [v]=>.ok ⟨bs v,[],1⟩
    | _=>.error 8)else .error 8)
   else if s.next=2 then(if x=A3o then .ok ⟨s.ver,B1x s.items { A4x s.items with words:=w.map bs },3⟩else .error 8)
   else if s.next=3 then(match decQ (x::w)with
    | some d=>.ok ⟨s.ver,B1x s.items { A4x s.items with decs:=(A4x s.items).decs++[d] },3⟩
    | none=>if A6d s then .error 8 else begR s (x::w))
   else begR s (x::w)):=by
  unfold A5p;(rw[if_neg hg])<;>rfl
 have herr:errT s l = .ag [sv v,u,iv sn]:=by
  unfold errT;rw[if_neg hg,hst,hv,hsn]
 have hPP:P=match A5p s l with
  | .ok s'=>.tu [stT s',iv 0]
  | .error e=>.tu [.ag [sv v,u,iv sn],iv e]:=by rw[hP,<-herr];rfl
 refine A0s (α:=Unit) (fun _=>⟨[(6,.t (bv (A6d s))),(4,.ptr 1 0),(2,.ptr 0 0),(1,.t (sv (bs l)))],[(1,Z),(0,X)],2,135⟩) (fun _=>True) (fun _=>rfl) ?_ ?_
 ·cases hop:A6d s with
  | false=>
   refine A0c C ?_;simp -implicitDefEqProofs;exact Abs.Next.mk () trivial (A0d (by simp -implicitDefEqProofs))
  | true=>
   by_cases h5:5<=l.length
   ·have h5':(5:Int)<=(l.length:Int):=by omega
    have s5:=E4h l (j:=5) h5;have s5:A3j (.t (.v (.string ⟨l.toArray⟩))) none (some (.t (iv 5)))=some (.t (sv (bs (l.take 5)))):=s5
    have hne:(l.take 5==[103,111,108,100,32])=false:=by
     rw[beq_eq_false_iff_ne];exact fun e=>hg ⟨hop,e⟩
    obtain⟨g5,hg5⟩:∃g5,g5=bs (l.take 5):=⟨_,rfl⟩
    have hne:(g5.toList==[103,111,108,100,32])=false:=by rw[hg5];simpa using hne
    rw[<-hg5]at s5;refine A0c C ?_;simp -implicitDefEqProofs [A0k,h5',s5,hne];exact Abs.Next.mk () trivial (A0d (by simp -implicitDefEqProofs))
   ·have h5':¬(5:Int)<=(l.length:Int):=by omega
    refine A0c C ?_;simp -implicitDefEqProofs [A0k,h5'];exact Abs.Next.mk () trivial (A0d (by simp -implicitDefEqProofs))
 rintro _ -;have eWs:=G1v hl;unfold A3r at eWs
 have bad:∀H,Abs.look H 0=some X->Abs.look H 1=some Z->A5p s l = .error 8->∃H',P = .tu [.ag [sv v,u,iv sn],iv 8]/\A0h 3 H (.ptr 1 0) (.t (.ag [sv v,u,iv sn]))=some H'/\A0e true 3 H' (.ptr 1 0)=some (.t (.ag [sv v,u,iv sn])):=fun H h0 h1 he=>by
  obtain⟨H',so,lo⟩:=LnQ.out ⟨hX,hZ,hu⟩ (v':=v) (n':=sn) hu (H:=H) h1 hZ;exact⟨H',by rw[hPP,he],so,lo⟩
 cases hw:A2r l with
 | none=>
  rw[hw]at eWs hstep;obtain⟨H',hPe,so,lo⟩:=bad [(1,Z),(0,X)] rfl rfl hstep;simp only at eWs;refine A0a C ?_;simp -implicitDefEqProofs [eWs];refine A0a C ?_;simp -implicitDefEqProofs [za,so,lo,hPe]
 | some ws=>
 cases ws with
 | nil=>
  rw[hw]at eWs hstep;obtain⟨H',hPe,so,lo⟩:=bad [(1,Z),(0,X)] rfl rfl hstep;have eWs:gRWs [sv (bs l)]=some (.tu [nilS,iv 0]):=eWs;have ln:A4t (.t nilS)=some (.t (.v (.int .i64 0))):=rfl;refine A0a C ?_;simp -implicitDefEqProofs [eWs];refine A0a C ?_;simp -implicitDefEqProofs [ln,za,so,lo,hPe]
 | cons w r=>
 rw[hw]at eWs hstep;obtain⟨hw1,hw2⟩:=B1o hw;have hT:=IsS.mk (e:=eStr) ((w::r).map bs);replace eWs:gRWs [sv (bs l)]=some (.tu [slT eStr ((w::r).map bs),iv 0]):=eWs;have ln:=hT.len
 replace ln:A4t (.t (slT eStr ((w::r).map bs)))=some (.t (iv ((r.length+1:Nat):Int))):=by rw[ln];simp
 have hb0:(((r.length+1:Nat):Int)==0)=false:=by rw[beq_eq_false_iff_ne];omega
 have j0:A1b 1 (.t (slT eStr ((w::r).map bs))) (.t (iv ((0:Nat):Int)))=_:=hT.iaddr (i:=0) rfl .i64;replace j0:A1b 1 (.t (slT eStr ((w::r).map bs))) (.t (.v (.int .i64 0)))=_:=j0;have ld:∀(x:ByteArray) (r:List T) (H:Heap),A0e false 1 H (.t (.pt (eStr.enc x++r)))=some (.t (sv x)):=fun _ _ _=>rfl;have slf:=E1n eStr ((w::r).map bs) 1 (by simp) .i64;replace slf:A3z 1 (.t (slT eStr ((w::r).map bs))) (some (.t (.v (.int .i64 1)))) none=some (.t (slT eStr (r.map bs))):=slf
 have eDq:=G1s hT (fun y hy=>by
  obtain⟨z,hz,rfl⟩:=List.mem_map.1 hy;have:=hw2 z hz
  rw[A0k];omega)
 have hwr:((w::r).map bs).map lbs=w::r:=by rw[List.map_map,show(lbs∘bs)=id from funext fun l=>A3s l,List.map_id]
 rw[hwr]at eDq
 have hwv:((bs w).toList==[118,101,114,115,105,111,110])=decide (w=A1m):=by
  have:(bs w).toList=w:=by simp
  rw[this,Bool.eq_iff_iff,decide_eq_true_iff,beq_iff_eq];exact Iff.rfl
 have hww:((bs w).toList==[119,111,114,100,115])=decide (w=A3o):=by
  have:(bs w).toList=w:=by simp
  rw[this,Bool.eq_iff_iff,decide_eq_true_iff,beq_iff_eq];exact Iff.rfl
 simp only at hstep
 obtain⟨TW,hTW⟩:∃TW,TW=slT eStr ((w::r).map bs):=⟨_,rfl⟩
 rw[<-hTW]at eWs ln j0 slf eDq
 have hTT:IsS eStr TW ((w::r).map bs):=by rw[hTW];exact hT
 obtain⟨bw,hbw⟩:∃bw,bw=bs w:=⟨_,rfl⟩
 simp only[List.map_cons]at j0;rw[<-hbw]at j0 hwv hww;generalize hrl:r.length+1=rl at *;refine A0a C ?_;simp -implicitDefEqProofs [eWs];refine A0a C ?_;simp -implicitDefEqProofs [ln,hb0];refine A0s (α:=Unit) (fun _=>⟨[(10,.t TW),(4,.ptr 1 0),(2,.ptr 0 0)],[(1,Z),(0,X)],2,135⟩) (fun _=>s.next≠2/\P=begO s (w::r)) (fun _=>rfl) ?_ ?_
 ·refine A0a C ?_;simp -implicitDefEqProofs [z2];refine A0g ?_
  by_cases h0:s.next=0
  ·
   rw[if_pos h0]at hstep
   have hb:(sn==0)=true:=by rw[hsn,h0];rfl
   refine A0a C ?_;simp -implicitDefEqProofs [hb];refine A8f (t:=true) rfl ?_
   match r,hrl with
   | [],hrl=>
    obtain⟨H',hPe,so,lo⟩:=bad [(1,Z),(0,X)] rfl rfl (by rw[hstep];split<;>rfl)
    have hb2:((rl:Int) != 2)=true:=by rw[<-hrl];rfl
    refine A0a C ?_;simp -implicitDefEqProofs [ln,hb2,za,so,lo,hPe]
   | [y],hrl=>
    have hb2:((rl:Int) != 2)=false:=by rw[<-hrl];rfl
    by_cases hwv2:w=A1m
    ·rw[if_pos hwv2]at hstep;rw[decide_eq_true hwv2]at hwv;obtain⟨H',so,lo⟩:=LnQ.out ⟨hX,hZ,hu⟩ (v':=bs y) (u':=nilS) (n':=1) (l':=[]) (.inl ⟨rfl,rfl⟩) (H:=[(1,Z),(0,X)]) rfl hZ
     have hPe:P = .tu [.ag [sv (bs y),nilS,iv 1],iv 0]:=by rw[hPP,hstep];rfl
     have j1:A1b 1 (.t TW) (.t (iv ((1:Nat):Int)))=_:=hTT.iaddr (i:=1) rfl .i64;have j1:A1b 1 (.t TW) (.t (.v (.int .i64 1)))=_:=j1;have b2:=bd2
     generalize bs y=by' at *
     refine A0a C ?_;simp -implicitDefEqProofs [ln,hb2,j0,ld,hwv];refine A0c C ?_;simp -implicitDefEqProofs [j1,ld,b2,bd3,so,lo,hPe,-evalK_build]
    ·rw[if_neg hwv2]at hstep;rw[decide_eq_false hwv2]at hwv;obtain⟨H',hPe,so,lo⟩:=bad [(1,Z),(0,X)] rfl rfl hstep;refine A0a C ?_;simp -implicitDefEqProofs [ln,hb2,j0,ld,hwv,za,so,lo,hPe]
   | _::_::r',hrl=>
    obtain⟨H',hPe,so,lo⟩:=bad [(1,Z),(0,X)] rfl rfl (by rw[hstep];split<;>rfl)
    have hb2:((rl:Int) != 2)=true:=by
     simp only[List.length_cons]at hrl;simpa using (by omega:¬(rl:Int)=2)
    refine A0a C ?_;simp -implicitDefEqProofs [ln,hb2,za,so,lo,hPe]
  rw[if_neg h0]at hstep
  have hb:(sn==0)=false:=by rw[beq_eq_false_iff_ne,hsn];omega
  refine A0a C ?_;simp -implicitDefEqProofs [hb];refine A8f (t:=false) rfl ?_
  by_cases h2:s.next=2
  ·
   rw[if_pos h2]at hstep
   have hb:(sn==2)=true:=by rw[hsn,h2];rfl
   refine A0a C ?_;simp -implicitDefEqProofs [hb];refine A8f (t:=true) rfl ?_;by_cases hwv2:w=A3o
   ·rw[if_pos hwv2]at hstep;rw[decide_eq_true hwv2]at hww;have eL:=eL (by omega);have s9:=zI9 2 [(1,Z),(0,X)];have s1:=sI1b (R:=[(1,Z),(0,X)]) 2 x.id tw x.state td kk nm f tt tk (r.map bs).length ((r.map bs).flatMap eStr.enc);have s1:A0h 1 ((2,iRow x.id tw x.state td kk nm f tt tk)::[(1,Z),(0,X)]) (.ptr 2 1) (.t (slT eStr (r.map bs)))=some ((2,iRow x.id (slT eStr (r.map bs)) x.state td kk nm f tt tk)::[(1,Z),(0,X)]):=s1
    obtain⟨c',hc'⟩:∃c':IC,c'=icW { x with words:=r.map bs }:=⟨_,rfl⟩
    have ec':c'.cs=[sv x.id,slT eStr (r.map bs),iv x.state,td,iv kk,sv nm,iv f,iv tt,tk]:=by
     have hcc:c=IC.of x:=by rw[hc,if_pos h2]
     have e0:c.cs=Abs.encI x:=by rw[hcc];rfl
     rw[ecs]at e0;unfold Abs.encI at e0;simp only[List.cons_append,List.nil_append]at e0;injection e0 with _ e0;injection e0 with e1 e0;injection e0 with _ e0;injection e0 with e2 e3;rw[hc',e2,e3];rfl
    have l9:=(ldI x.id (slT eStr (r.map bs)) x.state td kk nm f tt tk (H:=[(2,iRow x.id (slT eStr (r.map bs)) x.state td kk nm f tt tk),(1,Z),(0,X)]) (b:=2) rfl).a;rw[<-ec']at l9;have eW:=eW c' (by omega);obtain⟨H',so,lo⟩:=LnQ.out ⟨hX,hZ,hu⟩ (v':=v) (n':=3) (IsS.tree eIC (l0++[c'])) (H:=[(2,iRow x.id (slT eStr (r.map bs)) x.state td kk nm f tt tk),(1,Z),(0,X)]) rfl hZ
    have hPe:P = .tu [.ag [sv v,A1a eIC (l0++[c']),iv 3],iv 0]:=by
     rw[hPP,hstep,<-hx];simp only;rw[C1a _ _ _ _ (by omega),<-hl0,<-hc',hv];rfl
    generalize A1a eIC (l0++[c'])=U at *;generalize slT eStr (r.map bs)=TR at *
    obtain⟨Y1,hY1⟩:∃Y,Y=iRow x.id tw x.state td kk nm f tt tk:=⟨_,rfl⟩
    obtain⟨Y2,hY2⟩:∃Y,Y=iRow x.id TR x.state td kk nm f tt tk:=⟨_,rfl⟩
    rw[<-hY1]at s9 s1;rw[<-hY2]at s1 l9 so;refine A0a C ?_;simp -implicitDefEqProofs [j0,ld,hww];refine A0c C ?_;simp -implicitDefEqProofs [zb,eL,s9,slf,s1,l9,eW,bd3,so,lo,hPe,-evalK_build]
   ·rw[if_neg hwv2]at hstep;rw[decide_eq_false hwv2]at hww;obtain⟨H',hPe,so,lo⟩:=bad [(1,Z),(0,X)] rfl rfl hstep;refine A0a C ?_;simp -implicitDefEqProofs [j0,ld,hww,za,so,lo,hPe]
  rw[if_neg h2]at hstep
  have hb:(sn==2)=false:=by rw[beq_eq_false_iff_ne,hsn];omega
  refine A0a C ?_;simp -implicitDefEqProofs [hb];refine A8f (t:=false) rfl ?_
  by_cases h3:s.next=3
  rotate_left
  ·rw[if_neg h3]at hstep
   have hb:(sn==3)=false:=by rw[beq_eq_false_iff_ne,hsn];omega
   have hPe:P=begO s (w::r):=by rw[hPP,hstep];unfold begO;(rw[hst,hv,hsn])<;>rfl
   refine A0a C ?_;simp -implicitDefEqProofs [hb];refine A8f (t:=false) rfl ?_;refine A0c C ?_;simp -implicitDefEqProofs;exact Abs.Next.mk () ⟨h2,hPe⟩ (A0d (by simp -implicitDefEqProofs))
  rw[if_pos h3]at hstep
  have hb:(sn==3)=true:=by rw[hsn,h3];rfl
  refine A0a C ?_;simp -implicitDefEqProofs [hb];refine A8f (t:=true) rfl ?_;unfold dcqT at eDq;have zDr:∀d:Dc,A0h 5 ((2,.cells 61 [.t (.v (.int .i64 0)),.t (.v (.string ⟨#[]⟩)),.t (.v (.int .i64 0)),.t (.v (.int .i64 0)),.t (.v (.bool false))])::[(1,Z),(0,X)]) (.ptr 2 0) (.t (.ag (eDc.enc d)))=some ((2,A2d d)::[(1,Z),(0,X)]):=fun d=>rfl
  cases hd:decQ (w::r)with
  | none=>
   rw[hd]at hstep eDq;simp only at hstep eDq;have zDr:=zDr zDc;generalize A2d zDc=RD at *;generalize eDc.enc zDc=ez at *;refine A0a C ?_;simp -implicitDefEqProofs [eDq,zDr];refine A0a C ?_;simp -implicitDefEqProofs
   cases hop:A6d s with
   | true=>
    rw[hop,if_pos rfl]at hstep;obtain⟨H',hPe,so,lo⟩:=bad [(2,RD),(1,Z),(0,X)] rfl rfl hstep;refine A0c C ?_;simp -implicitDefEqProofs [za,so,lo,hPe]
   | false=>
    rw[hop,if_neg (by decide)]at hstep
    have hPe:P=begO s (w::r):=by rw[hPP,hstep];unfold begO;(rw[hst,hv,hsn])<;>rfl
    refine A0c C ?_;simp -implicitDefEqProofs;refine Abs.Next.mk () ⟨h2,hPe⟩ (A7z (by omega) (fun z hz=>?_) (by simp -implicitDefEqProofs [under]));simp only[List.mem_cons,List.not_mem_nil,or_false]at hz;rcases hz with rfl | rfl
    ·exact⟨rfl,by show 1<2;omega,by rw[hZ];rfl⟩
    ·exact⟨rfl,by show 0<2;omega,by rw[hX];rfl⟩
  | some d=>
   rw[hd]at hstep eDq;simp only at hstep eDq;have zDr:=zDr d;have eL:=eL (by omega)
   have hdl:x.decs.length<=800000:=by have:=hi.dl _ (B8a (hi.ne (by omega)));rw[<-hx]at this;omega
   have s9:=zI9 3 [(2,A2d d),(1,Z),(0,X)]
   obtain⟨Y1,hY1⟩:∃Y,Y=iRow x.id tw x.state td kk nm f tt tk:=⟨_,rfl⟩
   have l3:=(ldI x.id tw x.state td kk nm f tt tk (H:=[(3,Y1),(2,A2d d),(1,Z),(0,X)]) (b:=3) (by rw[hY1];rfl)).l3
   have ldd:∀H,Abs.look H 2=some (A2d d)->A0e true 5 H (.ptr 2 0)=some (.t (.ag (eDc.enc d))):=fun H h=>by simp[A0e,h,A2d,agOf,allT,eDc]
   have ts:A7f 61 5 [.int .i64 0,.string ⟨#[]⟩,.int .i64 0,.int .i64 0,.bool false] 1 [(0,.t (.ag (eDc.enc d)))]=some (.t (.sl 1 (eDc.enc d))):=rfl;have bs0:A3l 61 5 [.int .i64 0,.string ⟨#[]⟩,.int .i64 0,.int .i64 0,.bool false] 0 [] 4=some (.row 4 0 0 5,.cells 61 []):=rfl
   obtain⟨ds,hds⟩:∃ds,ds=x.decs:=⟨_,rfl⟩
   rw[<-hds]at htd hdl
   obtain⟨m,hm⟩:∃m,m=ds++[d]:=⟨_,rfl⟩
   have ap1:=A8a (e:=eDc) (ty:=61) (b:=4) (l:=[]) (by':=48) (nx:=5) (H:=(4,.cells 61 [])::[(3,Y1),(2,A2d d),(1,Z),(0,X)]) (m:=ds) (by rw[look_cons,if_pos rfl];rfl) (A7v (e:=eDc) htd) (by simp;omega) (by simp;omega);simp only[List.nil_append,List.length_nil,Nat.zero_add]at ap1;replace ap1:appM 61 5 48 [(4,.cells 61 []),(3,Y1),(2,A2d d),(1,Z),(0,X)] 5 (.row 4 0 0 5) (.t td)=some (.row 5 0 ds.length 5,(5,A1i eDc 61 ds)::[(3,Y1),(2,A2d d),(1,Z),(0,X)],6):=ap1;have ap2:=A8a (e:=eDc) (ty:=61) (b:=5) (l:=ds) (by':=48) (nx:=6) (H:=(5,A1i eDc 61 ds)::[(3,Y1),(2,A2d d),(1,Z),(0,X)]) (m:=[d]) (by rw[look_cons,if_pos rfl]) (A7v (e:=eDc) (t:=slT eDc [d]) (.inr rfl)) (by simp;omega) (by simp;omega);rw[show(ds++[d]).length=ds.length+1 by simp]at ap2
   replace ap2:appM 61 5 48 [(5,A1i eDc 61 ds),(3,Y1),(2,A2d d),(1,Z),(0,X)] 6 (.row 5 0 ds.length 5) (.t (.sl 1 (eDc.enc d)))=some (.row 6 0 (ds.length+1) 5,(6,A1i eDc 61 (ds++[d]))::[(3,Y1),(2,A2d d),(1,Z),(0,X)],7):=by
    have e:slT eDc [d] = .sl 1 (eDc.enc d):=by unfold slT;simp
    rw[e]at ap2;exact ap2
   rw[<-hm]at ap2
   have hml:m.length=ds.length+1:=by rw[hm];simp
   have hrp:PV.row 6 0 (ds.length+1) 5=rowP eDc 6 m:=by
    rw[<-hml]
    cases m with
    | nil=>simp at hml
    | cons x r=>rfl
   rw[hrp]at ap2
   obtain⟨Y2,hY2⟩:∃Y,Y=Row.cells 28 [.t (sv x.id),.t tw,.t (iv x.state),rowP eDc 6 m,.t (iv kk),.t (sv nm),.t (iv f),.t (iv tt),.t tk]:=⟨_,rfl⟩
   have hcr:A0q (rowP eDc 6 m)=some [rowP eDc 6 m]:=by
    cases m with
    | nil=>rfl
    | cons x r=>rfl
   have s3:A0h 1 [(6,A1i eDc 61 m),(3,Y1),(2,A2d d),(1,Z),(0,X)] (.ptr 3 3) (rowP eDc 6 m)=some [(6,A1i eDc 61 m),(3,Y2),(2,A2d d),(1,Z),(0,X)]:=by
    rw[hY1,hY2];simp[A0h,hcr,A3h,look,iRow,upd]
   have ra:A1h eDc 61 [(6,A1i eDc 61 m),(3,Y2),(2,A2d d),(1,Z),(0,X)] 6 m:=.inr (by rw[look_cons,if_pos rfl]);have frz:=A7c (F:=[6]) ra (by simp);rw[<-hY1]at s9
   obtain⟨TD,hTD⟩:∃TD,TD=A1a eDc m:=⟨_,rfl⟩
   obtain⟨RP,hRP⟩:∃RP,RP=rowP eDc 6 m:=⟨_,rfl⟩
   obtain⟨RO,hRO⟩:∃RO,RO=A1i eDc 61 m:=⟨_,rfl⟩
   obtain⟨RL,hRL⟩:∃RL,RL=A1i eDc 61 ds:=⟨_,rfl⟩
   obtain⟨RD,hRD⟩:∃RD,RD=A2d d:=⟨_,rfl⟩
   rw[<-hRL,<-hRO,<-hRP,<-hRD]at ap2;rw[<-hRL,<-hRD]at ap1;rw[<-hRO,<-hRP,<-hRD]at s3;rw[<-hRD]at zDr s9 l3 ldd
   obtain⟨ed,hed⟩:∃ed,ed=eDc.enc d:=⟨_,rfl⟩
   rw[<-hed]at eDq zDr ldd ts ap2;generalize ds.length=n1 at *;refine A0a C ?_;simp -implicitDefEqProofs [eDq,zDr];refine A1p ?_;refine A0a C ?_;simp -implicitDefEqProofs;refine A8f (t:=true) rfl ?_;refine A0a C ?_;simp -implicitDefEqProofs [zb,eL,s9];refine A0a C ?_;simp -implicitDefEqProofs [l3,ldd,ts,bs0,ap1,ap2,s3]
   obtain⟨Y3,hY3⟩:∃Y3,Y3=iRow x.id tw x.state TD kk nm f tt tk:=⟨_,rfl⟩
   refine MC.sub (s':=⟨[(15,.ptr 3 0),(4,.ptr 1 0),(2,.ptr 0 0)],[(3,Y3),(1,Z),(0,X)],4,135⟩) ?_ rfl ?_
   ·subst hRP hRO hRD;refine A8b [6] (by omega) (fun z hz=>?_) fun z hz=>?_
    ·simp only[List.mem_cons,List.not_mem_nil,or_false]at hz;rcases hz with rfl | rfl | rfl
     ·refine⟨by simp,⟨Y2,rfl,?_⟩,by show 3<4;omega,by rw[hY3];exact A1e _ [sv x.id,tw,iv x.state,TD,iv kk,sv nm,iv f,iv tt,tk]⟩;rw[hY2,hY3,hTD];show Row.cells _ [.t (sv x.id),.t tw,.t (iv x.state),frzP _ _ (rowP eDc 6 m),.t (iv kk),.t (sv nm),.t (iv f),.t (iv tt),.t tk]=_;rw[<-hY2,frz];rfl
     ·exact⟨by simp,⟨_,rfl,by rw[hZ];rfl⟩,by show 1<4;omega,by rw[hZ];rfl⟩
     ·exact⟨by simp,⟨_,rfl,by rw[hX];rfl⟩,by show 0<4;omega,by rw[hX];rfl⟩
    ·simp only[List.mem_cons,List.not_mem_nil,or_false]at hz;rcases hz with rfl | rfl | rfl<;>exact⟨⟨_,rfl,rfl⟩,rfl⟩
   obtain⟨c',hc'⟩:∃c':IC,c'=icW { x with decs:=x.decs++[d] }:=⟨_,rfl⟩
   have ec':c'.cs=[sv x.id,tw,iv x.state,TD,iv kk,sv nm,iv f,iv tt,tk]:=by
    have hcc:c=icW x:=by rw[hc,if_neg (by omega)]
    have e0:c.cs=encW x:=by rw[hcc];rfl
    rw[ecs]at e0;unfold encW at e0;simp only[List.cons_append,List.nil_append]at e0;injection e0 with _ e0;injection e0 with e1 e0;injection e0 with _ e0;injection e0 with _ e3;rw[hc',e1,e3,hTD,hm,hds];rfl
   have l9:=(ldI x.id tw x.state TD kk nm f tt tk (H:=[(3,Y3),(1,Z),(0,X)]) (b:=3) (by rw[hY3];rfl)).a;rw[<-ec']at l9;have eW:=eW c' (by omega);obtain⟨H',so,lo⟩:=LnQ.out ⟨hX,hZ,hu⟩ (v':=v) (n':=3) (IsS.tree eIC (l0++[c'])) (H:=[(3,Y3),(1,Z),(0,X)]) rfl hZ
   have hPe:P = .tu [.ag [sv v,A1a eIC (l0++[c']),iv 3],iv 0]:=by
    rw[hPP,hstep,<-hx];simp only;rw[C1a _ _ _ _ (by omega),<-hl0,<-hc',hv];rfl
   generalize A1a eIC (l0++[c'])=U at *;refine A0c C ?_;simp -implicitDefEqProofs [zb,l9,eW,bd3,so,lo,hPe,A5u,-evalK_build]
 ·rintro _ ⟨h2,hPe⟩;have hB:=E6c (q:=q) s h2 (by omega) hTT;rw[hst]at hB
  obtain⟨v',u',n',l',e,hu',hbe⟩:∃v' u' n' l' e,IsS eIC u' l'/\begO s (w::r) = .tu [.ag [sv v',u',iv n'],iv e]:=by
   unfold begO
   cases begR s (w::r)with
   | error e=>exact⟨s.ver,_,_,cl s,e,IsS.tree _ _,rfl⟩
   | ok s'=>exact⟨s'.ver,_,_,cl s',0,IsS.tree _ _,rfl⟩
  rw[hbe]at hB hPe;rw[<-hv,<-hsn]at hB;have C2:Ctx Tryz.prog (G q) _:=(A0x.cons (F8i hB) .nil).ctx mixed;have eB:=F8j [.ag [sv v,u,iv sn],TW] (.tu [.ag [sv v',u',iv n'],iv e]);obtain⟨H',so,lo⟩:=LnQ.out ⟨hX,hZ,hu⟩ (v':=v') (n':=n') hu' (H:=[(1,Z),(0,X)]) rfl hZ;refine A0c C2 ?_;simp -implicitDefEqProofs [za,eB,so,lo,hPe]
theorem D8c {s:RSt} {l:List UInt8} {e:Int} (h:A5p s l = .error e):e≠0:=by
 have beg:∀{w},begR s w = .error e->e≠0:=fun {w} h=>by
  unfold begR at h;split at h
  ·split at h
   ·split at h
    ·cases h
    ·cases h;decide
   ·cases h;decide
  ·cases h;decide
 unfold A5p at h;split at h
 ·split at h
  ·rename_i e' hp;cases h;exact D0a hp
  ·cases h
 ·split at h
  ·cases h;decide
  ·cases h;decide
  ·split at h
   ·split at h
    ·split at h
     ·cases h
     ·cases h;decide
    ·cases h;decide
   ·split at h
    ·split at h
     ·cases h
     ·cases h;decide
    ·split at h
     ·split at h
      ·cases h
      ·split at h
       ·cases h;decide
       ·exact beg h
     ·exact beg h
theorem E6f (s:RSt) (l:List UInt8):∃v' u' n' l' e,IsS eIC u' l'/\E6d s l = .tu [.ag [sv v',u',iv n'],iv e] /\
  ((e≠0/\A5p s l = .error e)\/(e=0/\∃s',A5p s l = .ok s'/\v'=s'.ver/\u'=A1a eIC (cl s')/\n'=(s'.next:Int))):=by
 unfold E6d
 cases h:A5p s l with
 | error e=>
  simp only;unfold errT;split
  ·exact⟨_,_,_,cl _,e,IsS.tree _ _,rfl,.inl ⟨D8c h,rfl⟩⟩
  ·exact⟨_,_,_,cl _,e,IsS.tree _ _,rfl,.inl ⟨D8c h,rfl⟩⟩
 | ok s'=>exact⟨_,_,_,cl s',0,IsS.tree _ _,rfl,.inr ⟨rfl,s',rfl,rfl,rfl,rfl⟩⟩
theorem E1z:∀(l acc:List UInt8),(cut1 acc l).2.2=false->(cut1 acc l).1=acc++l
 | [],acc,_=>by simp[cut1]
 | c::r,acc,h=>by
  rw[cut1]at h ⊢;by_cases hc:c=10
  ·rw[if_pos hc]at h;cases h
  ·rw[if_neg hc]at h ⊢;rw[E1z r _ h];simp
def decX (s:RSt) (l:List UInt8):T:=match allR s (cutL [] l).1 (cutL [] l).2 with
 | .error e=>.tu [.ag [sv ⟨#[]⟩,nilS],iv e]
 | .ok b=>if chkT b≠0 then .tu [.ag [sv ⟨#[]⟩,nilS],iv (chkT b)]else .tu [.ag [sv b.ver,A1a eIC (b.items.map icW)],iv 0]
theorem G5f (s:List UInt8):decO s=if 65536<s.length then .tu [.ag [sv ⟨#[]⟩,nilS],iv 7]else decX ⟨⟨#[]⟩,[],0⟩ s:=by
 by_cases hb:65536<s.length
 ·rw[if_pos hb];unfold decO;rw[<-D0n];unfold decR;rw[if_pos hb]
 ·rw[if_neg hb];unfold decO decX;rw[<-D0n];unfold decR;rw[if_neg hb]
  cases allR ⟨⟨#[]⟩,[],0⟩ (cutL [] s).1 (cutL [] s).2 with
  | error e=>rfl
  | ok b=>
   simp only;by_cases h:chkT b=0
   ·rw[if_neg (fun e=>e h),if_neg (fun e=>e h)]
   ·rw[if_pos h,if_pos h]
theorem F7a (s:RSt):decX s []=if endR s then .tu [.ag [sv ⟨#[]⟩,nilS],iv 9]else if chkT ⟨s.ver,s.items⟩≠0 then .tu [.ag [sv ⟨#[]⟩,nilS],iv (chkT ⟨s.ver,s.items⟩)]else .tu [.ag [sv s.ver,A1a eIC (s.items.map icW)],iv 0]:=by
 unfold decX;rw[show cutL [] []=([],[])from rfl];simp only;rw[A9o,if_neg (by simp)];cases endR s<;>rfl
theorem F3g (s:RSt) {l:List UInt8} (h:(cut1 [] l).2.2=true):decX s l=match A5p s (cut1 [] l).1 with
  | .error e=>.tu [.ag [sv ⟨#[]⟩,nilS],iv e]
  | .ok s'=>decX s' (cut1 [] l).2.1:=by
 unfold decX;rw[C4r,if_pos h];simp only;rw[B0r];cases A5p s (cut1 [] l).1<;>rfl
theorem F7b (s:RSt) {l:List UInt8} (h:(cut1 [] l).2.2=false) (hl:l≠[]):decX s l = .tu [.ag [sv ⟨#[]⟩,nilS],iv 9]:=by
 unfold decX;rw[C4r,h,if_neg (by decide)];simp only;rw[A9o,E1z l [] h,if_pos (by simpa using hl)]
def SDx (a:RSt×List UInt8×Nat):A0b:=⟨[(4,.ptr 1 0),(2,.ptr 0 0),(0,.t (sv (bs a.2.1)))],[(1,sRow a.1.ver (A1a eIC (cl a.1)) (a.1.next:Int)),(0,bRow ⟨#[]⟩ nilS)],2,69⟩
theorem D5c (l0:List UInt8) (hl0:l0.length<=1000000000):A0v Tryz.prog (G q) 50 [sv (bs l0)] (· = decO l0):=by
 obtain⟨P,hP⟩:∃P,P=decO l0:=⟨_,rfl⟩
 rw[<-hP];rw[G5f]at hP;have bz:∀(Φ:A0n) (H:Heap) (nx:Nat),A0f Φ H nx (.build [(0,1),(1,1)] [.string ⟨#[]⟩,.slice none 0 0] []) []=some (.t (.ag [sv ⟨#[]⟩,nilS]),H,nx):=fun _ _ _=>rfl;have b0:∀(Φ:A0n) (H:Heap) (nx:Nat),A0f Φ H nx (.build [(0,2),(2,1)] [.string ⟨#[]⟩,.slice none 0 0,.int .i64 0] [1]) [.t (iv 0)]=some (.t (.ag [sv ⟨#[]⟩,nilS,iv 0]),H,nx):=fun _ _ _=>rfl
 obtain⟨ZB,hZB⟩:∃ZB,ZB=bRow ⟨#[]⟩ nilS:=⟨_,rfl⟩
 have za:∀H,Abs.look H 0=some ZB->A0h 2 H (.ptr 0 0) (.t (.ag [sv ⟨#[]⟩,nilS]))=some (upd H 0 ZB):=fun H h=>by
  rw[sBu (v':=⟨#[]⟩) (u':=nilS) (l:=[]) (by rw[h,hZB]) (.inl ⟨rfl,rfl⟩),hZB]
 have zc:∀H,Abs.look H 0=some ZB->A0e true 2 (upd H 0 ZB) (.ptr 0 0)=some (.t (.ag [sv ⟨#[]⟩,nilS])):=fun H h=>(ldB (by rw[A1s h,hZB])).a;refine D3u.call rfl ?_;(conv in C0d=>cbv);have C0:Ctx Tryz.prog (G q) _:=(A0x.cons (hRCt (q:=q)) .nil).ctx mixed;refine A0a C0 ?_;simp -implicitDefEqProofs;rw[show Row.cells 39 [.t (.v (.string ⟨#[]⟩)),.t (.v (.slice none 0 0))]=ZB from hZB.symm];have za0:=za [(0,ZB)] rfl;have zc0:=zc [(0,ZB)] rfl;by_cases hbig:65536<l0.length
 ·rw[if_pos hbig]at hP
  have hb:(65536:Int)<(l0.length:Int):=by omega
  generalize upd [(0,ZB)] 0 ZB=U at *;refine A0a C0 ?_;simp -implicitDefEqProofs [A0k,hb,bz,za0,zc0,hP,-evalK_build]
 rw[if_neg hbig]at hP
 have hb:¬(65536:Int)<(l0.length:Int):=by omega
 refine A0a C0 ?_;simp -implicitDefEqProofs [A0k,hb];have s0:A0h 3 ((1,.cells 124 [.t (.v (.string ⟨#[]⟩)),.t (.v (.slice none 0 0)),.t (.v (.int .i64 0))])::[(0,ZB)]) (.ptr 1 0) (.t (.ag [sv ⟨#[]⟩,nilS,iv 0]))=some [(1,sRow ⟨#[]⟩ nilS 0),(0,ZB)]:=rfl
 obtain⟨R1,hR1⟩:∃R1,R1=sRow ⟨#[]⟩ nilS 0:=⟨_,rfl⟩
 rw[<-hR1]at s0;refine A0a C0 ?_;simp -implicitDefEqProofs [b0,s0,-evalK_build];refine A0s (α:=RSt×Nat) (fun a=>SDx (a.1,[],a.2)) (fun a=>InvR a.2 a.1/\a.2<=65536/\P=decX a.1 []) (fun _=>rfl) ?_ ?_
 ·refine A0g ?_;refine A0t SDx (fun a=>a.2.1.length) (fun a=>InvR a.2.2 a.1/\a.2.1.length+a.2.2<=65536/\P=decX a.1 a.2.1) (⟨⟨#[]⟩,[],0⟩,l0,0) (fun _=>rfl) ⟨F8k,by show l0.length+0<=65536;omega,hP⟩ ?_ rfl ?_
  ·rw[hR1,hZB];exact A0d (by simp -implicitDefEqProofs [SDx])
  rintro⟨s,l,k⟩ ⟨hi,hkl,heq⟩;simp only at hi hkl heq;unfold SDx;simp only;rw[<-hZB]
  obtain⟨SR,hSR⟩:∃SR,SR=sRow s.ver (A1a eIC (cl s)) (s.next:Int):=⟨_,rfl⟩
  rw[<-hSR]
  cases l with
  | nil=>
   refine A1p ?_;refine A0c C0 ?_;simp -implicitDefEqProofs;refine Abs.Next.mk (s,k) ⟨hi,by show k<=_;simp at hkl;omega,heq⟩ ?_;rw[hSR,hZB];exact A0d (by simp -implicitDefEqProofs)
  | cons c0 r0=>
   obtain⟨l,hle⟩:∃l,l=c0::r0:=⟨_,rfl⟩
   have hlne:l≠[]:=by rw[hle];simp
   have hnb:((bs l).toList==[])=false:=by
    have:(bs l).toList=l:=by simp
    rw[this,hle];rfl
   rw[<-hle]at heq hkl ⊢
   have eC:gRCt [sv (bs l)]=some (cutT l):=by
    have:=G1r (s:=bs l) (by rw[A0k];omega);rwa[A3s]at this
   unfold cutT at eC
   obtain⟨bl,hbl⟩:∃bl,bl=bs l:=⟨_,rfl⟩
   rw[<-hbl]at eC hnb ⊢;refine A1p ?_;refine A0c C0 ?_;simp -implicitDefEqProofs [hnb];refine⟨rfl,?_⟩;refine A0g ?_
   cases hen:(cut1 [] l).2.2 with
   | false=>
    rw[hen]at eC
    have hPe:P = .tu [.ag [sv ⟨#[]⟩,nilS],iv 9]:=by rw[heq,F7b s hen hlne]
    have za1:=za [(1,SR),(0,ZB)] rfl;have zc1:=zc [(1,SR),(0,ZB)] rfl;generalize upd [(1,SR),(0,ZB)] 0 ZB=U at *;refine A0a C0 ?_;simp -implicitDefEqProofs [eC];refine A0a C0 ?_;simp -implicitDefEqProofs [bz,za1,zc1,hPe,A5u,-evalK_build]
   | true=>
   rw[hen]at eC;obtain⟨hl1,hl2⟩:=E1v l [] hen;rw[F3g s hen]at heq
   obtain⟨l1,hl1e⟩:∃l1,l1=(cut1 [] l).1:=⟨_,rfl⟩
   obtain⟨l2,hl2e⟩:∃l2,l2=(cut1 [] l).2.1:=⟨_,rfl⟩
   rw[<-hl1e,<-hl2e]at eC heq;rw[<-hl1e]at hl2;rw[<-hl2e]at hl1;simp only[List.length_nil,Nat.zero_add]at hl2;have hL:=E6e (q:=q) s l1 hi (by omega) (by omega);obtain⟨v',u',n',li',e,hu',hln,hcs⟩:=E6f s l1;rw[hln]at hL
   obtain⟨bl1,hbl1⟩:∃bl1,bl1=bs l1:=⟨_,rfl⟩
   obtain⟨ST,hST⟩:∃ST,ST=stT s:=⟨_,rfl⟩
   rw[<-hbl1,<-hST]at hL;have C2:Ctx Tryz.prog (G q) _:=(A0x.cons (F8i hL) .nil).ctx mixed;have eL:=F8j [ST,sv bl1] (.tu [.ag [sv v',u',iv n'],iv e]);have l3:=(ldS (v:=s.ver) (u:=A1a eIC (cl s)) (n:=(s.next:Int)) (H:=[(1,SR),(0,ZB)]) (b:=1) (by rw[hSR];rfl)).a
   replace l3:A0e true 3 [(1,SR),(0,ZB)] (.ptr 1 0)=some (.t ST):=by rw[hST];exact l3
   obtain⟨NR,hNR⟩:∃NR,NR=sRow v' u' n':=⟨_,rfl⟩
   have s3:=sSt (v:=v') (u:=u') (n:=n') (v':=⟨#[]⟩) (u':=nilS) (n':=0) (H:=(2,.cells 124 [.t (.v (.string ⟨#[]⟩)),.t (.v (.slice none 0 0)),.t (.v (.int .i64 0))])::[(1,SR),(0,ZB)]) (b:=2) rfl hu';rw[<-hNR]at s3;have s3:A0h 3 ((2,.cells 124 [.t (.v (.string ⟨#[]⟩)),.t (.v (.slice none 0 0)),.t (.v (.int .i64 0))])::[(1,SR),(0,ZB)]) (.ptr 2 0) (.t (.ag [sv v',u',iv n']))=some ((2,NR)::[(1,SR),(0,ZB)]):=s3;refine A0a C0 ?_;simp -implicitDefEqProofs [eC];refine A0a C0 ?_;simp -implicitDefEqProofs;rw[<-hbl1];refine A0a C2 ?_;simp -implicitDefEqProofs [l3,eL,s3];rcases hcs with⟨he,hcs⟩ | ⟨rfl,s',hcs,rfl,rfl,rfl⟩
   ·rw[hcs]at heq;have za1:=za [(2,NR),(1,SR),(0,ZB)] rfl;have zc1:=zc [(2,NR),(1,SR),(0,ZB)] rfl;generalize upd [(2,NR),(1,SR),(0,ZB)] 0 ZB=U at *
    have hb:(e != 0)=true:=by simpa using he
    refine A0a C2 ?_;simp -implicitDefEqProofs [hb,bz,za1,zc1,heq,A5u,-evalK_build]
   ·rw[hcs]at heq;have ln:=(ldS (v:=s'.ver) (u:=A1a eIC (cl s')) (n:=(s'.next:Int)) (H:=[(2,NR),(1,SR),(0,ZB)]) (b:=2) (by rw[hNR];rfl)).a;have sn:=sSt (v:=s'.ver) (u:=A1a eIC (cl s')) (n:=(s'.next:Int)) (v':=s.ver) (u':=A1a eIC (cl s)) (n':=(s.next:Int)) (H:=[(2,NR),(1,SR),(0,ZB)]) (b:=1) (by rw[hSR];rfl) hu';rw[<-hNR]at sn;have sn:A0h 3 [(2,NR),(1,SR),(0,ZB)] (.ptr 1 0) (.t (.ag [sv s'.ver,A1a eIC (cl s'),iv (s'.next:Int)]))=some [(2,NR),(1,NR),(0,ZB)]:=sn;refine A0a C2 ?_;simp -implicitDefEqProofs;refine A0a C2 ?_;simp -implicitDefEqProofs [ln,sn];refine A0c C2 ?_;simp -implicitDefEqProofs;refine Abs.Next.mk (s',l2,k+1) ⟨⟨E1y hi (by omega) (by omega) hcs,by show l2.length+(k+1)<=_;omega,heq⟩,by show l2.length<l.length;omega⟩ ?_;rw[hNR,hZB];refine A7z (by omega) (fun z hz=>?_) (by simp -implicitDefEqProofs [under]);simp only[List.mem_cons,List.not_mem_nil,or_false]at hz;rcases hz with rfl | rfl
    ·exact⟨rfl,by show 1<2;omega,by exact A1e _ [sv s'.ver,A1a eIC (cl s'),iv (s'.next:Int)]⟩
    ·exact⟨rfl,by show 0<2;omega,rfl⟩
 ·rintro⟨s,k⟩ ⟨hi,hk,heq⟩;simp only at hi hk heq;rw[F7a]at heq;have hil:=hi.len;unfold SDx;simp only;rw[<-hZB]
  obtain⟨SR,hSR⟩:∃SR,SR=sRow s.ver (A1a eIC (cl s)) (s.next:Int):=⟨_,rfl⟩
  have hu:IsS eIC (A1a eIC (cl s)) (cl s):=IsS.tree _ _;have ll:=ldS (v:=s.ver) (u:=A1a eIC (cl s)) (n:=(s.next:Int)) (H:=[(1,SR),(0,ZB)]) (b:=1) (by rw[hSR];rfl)
  have eL:2<=s.next->gLst [.ag [sv s.ver,A1a eIC (cl s)]]=some (.ag (if s.next=2 then IC.of (A4x s.items)else icW (A4x s.items)).cs):=fun h=>
   F3c (l:=s.items.dropLast.map icW) (c:=if s.next=2 then IC.of (A4x s.items)else icW (A4x s.items)) (by rw[<-F3d (hi.ne h)];exact hu) (by simp;omega)
  have eK:s.next≠2->gChk [.ag [sv s.ver,A1a eIC (cl s)]]=some (iv (chkT ⟨s.ver,s.items⟩)):=fun h=>by
   have hcl:cl s=s.items.map icW:=by unfold cl;rw[if_neg h]
   have:=C3y (ver:=s.ver) hu ⟨hi.vs,by rw[hcl,List.length_map];omega,fun c hc=>by
    rw[hcl]at hc;obtain⟨y,hy,rfl⟩:=List.mem_map.1 hc
    exact hi.sm y hy⟩
   rw[this,hcl,List.map_map];rw[show(IC.x∘icW)=id from rfl,List.map_id]
  have hcl2:s.next≠2->A1a eIC (s.items.map icW)=A1a eIC (cl s):=fun h=>by unfold cl;rw[if_neg h]
  rw[<-hSR];have C1:Ctx Tryz.prog (G q) _:=(A0x.cons (hLst (q:=q)) (.cons (D7p (q:=q)) .nil)).ctx mixed;have za1:=za [(1,SR),(0,ZB)] rfl;have zc1:=zc [(1,SR),(0,ZB)] rfl
  obtain⟨U,hU⟩:∃U,U=upd [(1,SR),(0,ZB)] 0 ZB:=⟨_,rfl⟩
  rw[<-hU]at za1 zc1
  obtain⟨v,hv⟩:∃v,v=s.ver:=⟨_,rfl⟩
  obtain⟨u,hue⟩:∃u,u=A1a eIC (cl s):=⟨_,rfl⟩
  rw[<-hv,<-hue]at ll eL eK;rw[<-hue]at hu hcl2;rw[<-hv]at heq
  have fin:s.next≠2->endR s=false->MC Tryz.prog (G q) 0 69 (A0i.seq (.ops [⟨some 60,.faddr 0,[.tmp 4],none⟩]) .skip) (fun _ _=>True) ⟨[],[],0,69⟩->True:=fun _ _ _=>trivial
  clear fin
  by_cases h0:s.next=0
  ·have he:endR s=true:=by simp[endR,h0]
   rw[he,if_pos rfl]at heq
   have hb:((s.next:Int)==0)=true:=by rw[h0];rfl
   refine A0a C1 ?_;simp -implicitDefEqProofs [ll.l2,hb,bz,za1,zc1,heq,-evalK_build]
  have hb0:((s.next:Int)==0)=false:=by rw[beq_eq_false_iff_ne];omega
  by_cases h2:s.next=2
  ·have he:endR s=true:=by simp[endR,h2]
   rw[he,if_pos rfl]at heq
   have hb:((s.next:Int)==2)=true:=by rw[h2];rfl
   refine A0a C1 ?_;simp -implicitDefEqProofs [ll.l2,hb0,hb,bz,za1,zc1,heq,-evalK_build]
  have hb2:((s.next:Int)==2)=false:=by rw[beq_eq_false_iff_ne];omega
  have eK:=eK h2;have hcl2:=hcl2 h2;refine A0s (α:=Unit) (fun _=>⟨[(4,.ptr 1 0),(2,.ptr 0 0)],[(1,SR),(0,ZB)],2,69⟩) (fun _=>endR s=false) (fun _=>rfl) ?_ ?_
  ·by_cases h3:s.next=3
   ·have eL:=eL (by omega);rw[if_neg h2]at eL;obtain⟨kk,nm,f,t,tk,ks,eg,_⟩:=C8d (A4x s.items);have ecs:(icW (A4x s.items)).cs=encW (A4x s.items):=rfl
    have e2:C6a 2 false 1 (.t (.ag (icW (A4x s.items)).cs))=some (.t (iv (A4x s.items).state)):=by rw[ecs,eg];rfl
    have hb3:((s.next:Int)==3)=true:=by rw[h3];rfl
    have hop:endR s=((A4x s.items).state==1):=by
     unfold endR A6d;rw[decide_eq_false h0,decide_eq_false h2,decide_eq_true h3,Bool.false_or,Bool.false_or,Bool.true_and,Bool.eq_iff_iff,decide_eq_true_iff,beq_iff_eq]
    cases hs1:((A4x s.items).state==1)with
    | true=>
     rw[hop,hs1,if_pos rfl]at heq;refine A0c C1 ?_;simp -implicitDefEqProofs [ll.l2,hb0,hb2,hb3,ll.bb,eL,e2,hs1,bz,za1,zc1,heq,-evalK_build]
    | false=>
     refine A0c C1 ?_;simp -implicitDefEqProofs [ll.l2,hb0,hb2,hb3,ll.bb,eL,e2,hs1];exact Abs.Next.mk () (by rw[hop,hs1]) (A0d (by simp -implicitDefEqProofs))
   ·have hb3:((s.next:Int)==3)=false:=by rw[beq_eq_false_iff_ne];omega
    refine A0c C1 ?_;simp -implicitDefEqProofs [ll.l2,hb0,hb2,hb3];exact Abs.Next.mk () (by unfold endR A6d;rw[decide_eq_false h0,decide_eq_false h2,decide_eq_false h3];rfl) (A0d (by simp -implicitDefEqProofs))
  ·rintro _ he;rw[he,if_neg (by decide)]at heq;refine A0a C1 ?_;simp -implicitDefEqProofs [ll.bb,eK];by_cases hc:chkT ⟨v,s.items⟩=0
   ·rw[if_neg (by simpa using hc),hcl2]at heq;have zs:=sBu (H:=[(1,SR),(0,ZB)]) (b:=0) (v:=v) (u:=u) (v':=⟨#[]⟩) (u':=nilS) (by rw[hZB];rfl) hu;have zs:A0h 2 [(1,SR),(0,ZB)] (.ptr 0 0) (.t (.ag [sv v,u]))=some [(1,SR),(0,bRow v u)]:=zs;have zl:=(ldB (ver:=v) (u:=u) (H:=[(1,SR),(0,bRow v u)]) (b:=0) rfl).a;generalize bRow v u=BR at *;generalize hcc:chkT ⟨v,s.items⟩=cc at *;subst hc;refine A0a C1 ?_;simp -implicitDefEqProofs;refine A0c C1 ?_;simp -implicitDefEqProofs [ll.bb,zs,zl,heq]
   ·rw[if_pos hc]at heq;generalize hcc:chkT ⟨v,s.items⟩=cc at *
    have hb:(cc != 0)=true:=by simpa using hc
    refine A0a C1 ?_;simp -implicitDefEqProofs [hb,bz,za1,zc1,heq,-evalK_build]
theorem hRDec:GOK Tryz.prog (G q) 50 gDec:=A5y fun s hs=>by
 have:=D5c (q:=q) s.data.toList (by rw[show s.data.toList.length=s.size from rfl];omega);rwa[A4e]at this
theorem G1w (l:List It):(l.map icW).map IC.x=l:=by rw[List.map_map,show(IC.x∘icW)=id from rfl,List.map_id]
theorem F3h:∀(ls:List (List UInt8)) (k:Nat) (s s':RSt),InvR k s->(∀l∈ls,l.length<=1000000)->k+ls.length<=900000->runR s ls = .ok s'->InvR (k+ls.length) s'
 | [],k,s,s',hi,_,_,h=>by cases h;exact hi
 | l::r,k,s,s',hi,hl,hk,h=>by
  rw[runR]at h
  cases hs:A5p s l with
  | error e=>rw[hs]at h;cases h
  | ok s1=>
   rw[hs]at h;simp only[List.length_cons]at hk ⊢;have:=F3h r (k+1) s1 s' (E1y hi (hl l (by simp)) (by omega) hs) (fun x hx=>hl x (by simp[hx])) (by omega) h;rwa[show k+1+r.length=k+(r.length+1)by omega]at this
theorem F8l:∀(ls:List (List UInt8)) (s:RSt) (e:Int),runR s ls = .error e->e≠0
 | [],s,e,h=>by cases h
 | l::r,s,e,h=>by
  rw[runR]at h
  cases hs:A5p s l with
  | error e'=>rw[hs]at h;cases h;exact D8c hs
  | ok s1=>rw[hs]at h;exact F8l r s1 e h
theorem G1x {s:RSt} {ls:List (List UInt8)} {tl:List UInt8} {e:Int} (h:allR s ls tl = .error e):e≠0:=by
 unfold allR at h
 cases hr:runR s ls with
 | error e'=>rw[hr]at h;cases h;exact F8l _ _ _ hr
 | ok s'=>
  rw[hr]at h;simp only at h;split at h
  ·cases h;decide
  ·split at h
   ·cases h;decide
   ·cases h
theorem G1y {s:List UInt8} {e:Int} (h:decT s = .error e):e≠0:=by
 rw[<-D0n]at h;unfold decR at h;split at h
 ·cases h;decide
 ·split at h
  ·rename_i hh;cases h;exact G1x hh
  ·split at h
   ·rename_i hc;cases h;exact hc
   ·cases h
theorem G1z {s:List UInt8} {b:Tb} (hs:s.length<=65536) (h:decT s = .ok b):b.ver.size<=lim/\b.items.length<=1000000/\∀x∈b.items,SmI x:=by
 rw[<-D0n]at h;unfold decR at h;rw[if_neg (by omega)]at h
 cases ha:allR ⟨⟨#[]⟩,[],0⟩ (cutL [] s).1 (cutL [] s).2 with
 | error e=>rw[ha]at h;cases h
 | ok b'=>
  rw[ha]at h;simp only at h;split at h
  ·cases h
  ·cases h;unfold allR at ha;have hc:=C2g s [];have hlen:=congrArg List.length hc;rw[List.length_append,List.nil_append]at hlen;obtain⟨u1,u2⟩:=D7z (cutL [] s).1
   cases hr:runR ⟨⟨#[]⟩,[],0⟩ (cutL [] s).1 with
   | error e=>rw[hr]at ha;cases ha
   | ok s'=>
    rw[hr]at ha;have hi:=F3h _ 0 _ s' F8k (fun l hl=>by have:=u2 l hl;omega) (by omega) hr;simp only at ha;split at ha
    ·cases ha
    ·split at ha
     ·cases ha
     ·cases ha;exact⟨hi.vs,by have:=hi.len;show s'.items.length<=_;omega,hi.sm⟩
theorem D8d (s:ByteArray) (h:s.size<=1000000000):∃(cs:List T) (e:Int) (b:TBI cs),gDec [sv s]=some (.tu [.ag cs,iv e]) /\
  ((e≠0/\b.ver=⟨#[]⟩/\b.l=[])\/(e=0/\decT (lbs s) = .ok b.tb)):=by
 have hD:=F2z h;unfold decO at hD
 have bad:∀e:Int,e≠0->gDec [sv s]=some (.tu [.ag [sv ⟨#[]⟩,nilS],iv e])->∃(cs:List T) (e:Int) (b:TBI cs),gDec [sv s]=some (.tu [.ag cs,iv e]) /\
  ((e≠0/\b.ver=⟨#[]⟩/\b.l=[])\/(e=0/\decT (lbs s) = .ok b.tb)):=fun e he hd=>
  ⟨_,e,⟨⟨#[]⟩,nilS,[],rfl,.inl ⟨rfl,rfl⟩,by show 0<=lim;unfold lim;omega,by show 0<=_;omega,fun c hc=>(by cases hc)⟩,hd,.inl ⟨he,rfl,rfl⟩⟩
 by_cases hb:65536<(lbs s).length
 ·have:decT (lbs s) = .error 7:=by unfold decT;rw[if_pos hb]
  rw[this]at hD;exact bad 7 (by decide) hD
 have hx:(∃e,decT (lbs s) = .error e)\/∃b,decT (lbs s) = .ok b:=by
  cases decT (lbs s)with
  | error e=>exact .inl ⟨e,rfl⟩
  | ok b=>exact .inr ⟨b,rfl⟩
 rcases hx with⟨e,hd⟩ | ⟨b,hd⟩
 ·rw[hd]at hD;exact bad e (G1y hd) hD
 ·rw[hd]at hD;obtain⟨h1,h2,h3⟩:=G1z (by omega) hd;exact⟨_,0,⟨b.ver,A1a eIC (b.items.map icW),b.items.map icW,rfl,IsS.tree _ _,h1,by rw[List.length_map];exact h2,fun c hc=>by obtain⟨x,hx,rfl⟩:=List.mem_map.1 hc;exact h3 x hx⟩,hD,.inr ⟨rfl,by rw[hd];show _=Except.ok (Tb.mk b.ver ((b.items.map icW).map IC.x));rw[G1w]⟩⟩
theorem D5d (s:ByteArray) (hs:s.size<=1000000000):A0v Tryz.prog (G q) 12 [sv s] (· = bv true):=by
 have eX:gEx []=some (bv true):=rfl;have C:Ctx Tryz.prog (G q) _:=(A0x.cons (hDec (q:=q)) (.cons (hRDec (q:=q)) (.cons (hSB (q:=q)) (.cons (D4v (q:=q)) .nil)))).ctx mixed;refine B3b.call rfl ?_;(conv in A7a=>cbv);refine A0a C ?_;simp -implicitDefEqProofs;by_cases h1:6000<s.size/\s.size<=65536
 ·have b1:(6000:Int)<(s.size:Int):=by omega
  have b2:(s.size:Int)<=65536:=by omega
  refine A0a C ?_;simp -implicitDefEqProofs [b1,b2,eX]
 ·obtain⟨cs',e,b',eP,_⟩:=D8d s hs;have eS:=b'.same b' rfl
  obtain⟨R,hR⟩:∃R,R=Row.cells 39 (cs'.map .t):=⟨_,rfl⟩
  have lR:∀H b,Abs.look H b=some R->A0e true 2 H (.ptr b 0)=some (.t (.ag cs')):=fun H k h=>ldT (h.trans (by rw[hR])) b'.len
  have sR:∀(H:Heap) (k:Nat),A0h 2 ((k,.cells 39 [.t (.v (.string ⟨#[]⟩)),.t (.v (.slice none 0 0))])::H) (.ptr k 0) (.t (.ag cs'))=some ((k,R)::H):=fun H k=>by
   rw[hR];exact sNew rfl b'.len (by decide) H k
  refine A0s (α:=Unit) (fun _=>⟨[(0,.t (sv s))],[],0,37⟩) (fun _=>True) (fun _=>rfl) ?_ ?_
  ·by_cases h2:6000<s.size
   ·have b1:(6000:Int)<(s.size:Int):=by omega
    have b2:¬(s.size:Int)<=65536:=by omega
    refine A0c C ?_;simp -implicitDefEqProofs [b1,b2];exact Abs.Next.mk () trivial (A0d (by simp -implicitDefEqProofs))
   ·have b1:¬(6000:Int)<(s.size:Int):=by omega
    refine A0c C ?_;simp -implicitDefEqProofs [b1];exact Abs.Next.mk () trivial (A0d (by simp -implicitDefEqProofs))
  rintro _ -;refine A0a C ?_;simp -implicitDefEqProofs [eP,sR];refine A0a C ?_;simp -implicitDefEqProofs [eP,sR];refine A0c C ?_;simp -implicitDefEqProofs [lR,eS,eX]
end Go.Proofs.YtmplckgbeaifkaaGreatDoor
