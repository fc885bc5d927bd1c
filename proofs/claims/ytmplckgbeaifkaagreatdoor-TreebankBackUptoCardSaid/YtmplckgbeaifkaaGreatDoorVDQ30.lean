/- Auxiliary facts. -/
import Derived.Test.YtmplckgbeaifkaaGreatDoorVDQ14
set_option linter.unusedSimpArgs false
set_option linter.unusedVariables false
namespace Go.Proofs.YtmplckgbeaifkaaGreatDoor
open Go Go.Abs
structure RSt where
 ver:ByteArray
 items:List It
 next:Nat
def B7v (l:List It):It:=l.getLast?.getD ⟨⟨#[]⟩,[],0,[],A1y⟩
def B6r (s:RSt):Bool:=decide (s.next=3)&&decide ((B7v s.items).state=1)
def B6s (l:List It) (x:It):List It:=l.dropLast++[x]
def begR (s:RSt) (w:List (List UInt8)):Except Int RSt:=match w with
 | [i,id,st]=>if i=A5m then match idxW st 0 stN with
   | some k=>.ok ⟨s.ver,s.items++[⟨bs id,[],k,[],A1y⟩],2⟩
   | none=>.error 8
  else .error 8
 | _=>.error 8
def decQ (w:List (List UInt8)):Option Dc:=if w.head?=some wYes\/w.head?=some wNo then decP w else none
def A9s (s:RSt) (l:List UInt8):Except Int RSt:=
 if B6r s=true/\l.take 5=[103,111,108,100,32]then
  match parD (l.drop 5)with
  | .error e=>.error e
  | .ok d=>.ok ⟨s.ver,B6s s.items { B7v s.items with gold:=d },1⟩
 else match A2y l with
 | none=>.error 8
 | some []=>.error 8
 | some (x::w)=>
  if s.next=0 then(if x=A1h then(match w with
   | [v]=>.ok ⟨bs v,[],1⟩
   | _=>.error 8)else .error 8)
  else if s.next=2 then(if x=A3i then .ok ⟨s.ver,B6s s.items { B7v s.items with words:=w.map bs },3⟩else .error 8)
  else if s.next=3 then(match decQ (x::w)with
   | some d=>.ok ⟨s.ver,B6s s.items { B7v s.items with decs:=(B7v s.items).decs++[d] },3⟩
   | none=>if B6r s then .error 8 else begR s (x::w))
  else begR s (x::w)
def runR:RSt->List (List UInt8)->Except Int RSt
 | s,[]=>.ok s
 | s,l::r=>match A9s s l with
  | .error e=>.error e
  | .ok s'=>runR s' r
def endR (s:RSt):Bool:=decide (s.next=0)||decide (s.next=2)||B6r s
def allR (s:RSt) (ls:List (List UInt8)) (tl:List UInt8):Except Int Tb:=match runR s ls with
 | .error e=>.error e
 | .ok s'=>if tl≠[]then .error 9 else if endR s' then .error 9 else .ok ⟨s'.ver,s'.items⟩
def decR (s:List UInt8):Except Int Tb:=
 if 65536<s.length then .error 7 else
 match allR ⟨⟨#[]⟩,[],0⟩ (cutL [] s).1 (cutL [] s).2 with
 | .error e=>.error e
 | .ok b=>if chkT b≠0 then .error (chkT b)else .ok b
theorem A3u (l:List It) (x:It):B7v (l++[x])=x:=by simp[B7v]
theorem B1f (l:List It) (x y:It):B6s (l++[x]) y=l++[y]:=by simp[B6s]
theorem B1g (s:RSt) (l:List UInt8) (r:List (List UInt8)) (tl:List UInt8):allR s (l::r) tl=match A9s s l with
  | .error e=>.error e
  | .ok s'=>allR s' r tl:=by
 unfold allR;rw[runR];cases A9s s l<;>rfl
theorem B2a (s:RSt) (tl:List UInt8):allR s [] tl=if tl≠[]then .error 9 else if endR s then .error 9 else .ok ⟨s.ver,s.items⟩:=rfl
theorem C9w (s:RSt) (l:List UInt8):(match A2y l with
  | some (x::w)=>begR s (x::w)
  | _=>.error 8)=(match parts A5m l with
  | some [id,st]=>(match idxW st 0 stN with
   | some k=>.ok ⟨s.ver,s.items++[⟨bs id,[],k,[],A1y⟩],2⟩
   | none=>.error 8)
  | _=>.error 8):=by
 unfold parts
 cases A2y l with
 | none=>rfl
 | some ws=>
  cases ws with
  | nil=>rfl
  | cons x w=>
   simp only;by_cases hx:x=A5m
   ·rw[if_pos hx]
    match w with
    | []=>rfl
    | [a]=>rfl
    | [a,b]=>simp only[begR,if_pos hx]
    | a::b::c::d=>rfl
   ·rw[if_neg hx]
    match w with
    | []=>rfl
    | [a]=>rfl
    | [a,b]=>simp only[begR,if_neg hx]
    | a::b::c::d=>rfl
theorem F6e (v:ByteArray) (xs:List It) (l:List UInt8):A9s ⟨v,xs,1⟩ l=(match parts A5m l with
  | some [id,st]=>(match idxW st 0 stN with
   | some k=>.ok ⟨v,xs++[⟨bs id,[],k,[],A1y⟩],2⟩
   | none=>.error 8)
  | _=>.error 8):=by
 rw[<-C9w ⟨v,xs,1⟩ l];unfold A9s;rw[if_neg (by simp[B6r])]
 cases A2y l with
 | none=>rfl
 | some ws=>cases ws<;>rfl
theorem step2 (v:ByteArray) (xs:List It) (x:It) (l:List UInt8):A9s ⟨v,xs++[x],2⟩ l=(match parts A3i l with
  | some w=>.ok ⟨v,xs++[{ x with words:=w.map bs }],3⟩
  | none=>.error 8):=by
 unfold A9s parts;rw[if_neg (by simp[B6r])]
 cases A2y l with
 | none=>rfl
 | some ws=>
  cases ws with
  | nil=>rfl
  | cons y w=>
   simp only[A3u,B1f];by_cases h:y=A3i<;>simp[h]
theorem step0 (l:List UInt8):A9s ⟨⟨#[]⟩,[],0⟩ l=(match parts A1h l with
  | some [n]=>.ok ⟨bs n,[],1⟩
  | _=>.error 8):=by
 unfold A9s parts;rw[if_neg (by simp[B6r])]
 cases A2y l with
 | none=>rfl
 | some ws=>
  cases ws with
  | nil=>rfl
  | cons y w=>
   simp only[if_true];by_cases h:y=A1h
   ·rw[if_pos h,if_pos h]
    match w with
    | []=>rfl
    | [a]=>rfl
    | a::b::c=>rfl
   ·rw[if_neg h,if_neg h]
theorem D5o (v:ByteArray) (xs:List It) (tl:List UInt8):∀(ls:List (List UInt8)) (x:It),allR ⟨v,xs++[x],3⟩ ls tl=(match A5u ls with
  | .error e=>.error e
  | .ok (ds,r)=>if x.state=1 then
    (match A7h r with
    | .error e=>.error e
    | .ok (g,r')=>allR ⟨v,xs++[{ x with decs:=x.decs++ds,gold:=g }],1⟩ r' tl)
   else allR ⟨v,xs++[{ x with decs:=x.decs++ds }],1⟩ r tl)
 | [],x=>by
  simp only[A5u,List.append_nil];by_cases h:x.state=1
  ·rw[if_pos h];simp only[A7h];rw[B2a]
   have:endR ⟨v,xs++[x],3⟩=true:=by simp[endR,B6r,A3u,h]
   rw[this];simp
  ·rw[if_neg h,B2a,B2a]
   have e1:endR ⟨v,xs++[x],3⟩=false:=by simp[endR,B6r,A3u,h]
   have e2:endR ⟨v,xs++[x],1⟩=false:=by simp[endR,B6r]
   rw[e1,e2]
 | l::r,x=>by
  have hop:B6r ⟨v,xs++[x],3⟩=decide (x.state=1):=by simp[B6r,A3u]
  rw[B1g]
  by_cases h5:x.state=1/\l.take 5=[103,111,108,100,32]
  ·
   obtain⟨hs,h5⟩:=h5
   have hl:l=A8i++32::l.drop 5:=by
    have:=List.take_append_drop 5 l;rw[h5]at this;exact this.symm
   have hd:A5u (l::r) = .ok ([],l::r):=by
    rw[A5u,if_neg];rw[hl];exact D3v _
   rw[hd];simp only[if_pos hs,A7h,if_pos h5,List.append_nil]
   have:A9s ⟨v,xs++[x],3⟩ l=(match parD (l.drop 5)with
    | .error e=>.error e
    | .ok d=>.ok ⟨v,xs++[{ x with gold:=d }],1⟩):=by
    unfold A9s;rw[hop,if_pos ⟨by simp[hs],h5⟩];simp only[A3u,B1f]
   rw[this];cases parD (l.drop 5)<;>rfl
  ·have hst:A9s ⟨v,xs++[x],3⟩ l=(match A2y l with
    | none=>.error 8
    | some []=>.error 8
    | some (y::w)=>match decQ (y::w)with
     | some d=>.ok ⟨v,xs++[{ x with decs:=x.decs++[d] }],3⟩
     | none=>if x.state=1 then .error 8 else begR ⟨v,xs++[x],3⟩ (y::w)):=by
    unfold A9s;rw[hop,if_neg (by simpa using h5)]
    cases A2y l with
    | none=>rfl
    | some ws=>
     cases ws with
     | nil=>rfl
     | cons y w=>
      simp only[A3u,B1f];rw[if_neg (by decide),if_neg (by decide),if_pos trivial];cases decQ (y::w)<;>simp
   rw[hst,A5u];by_cases hh:hdW l=wYes\/hdW l=wNo
   ·rw[if_pos hh]
    cases hw:A2y l with
    | none=>rfl
    | some ws=>
     cases ws with
     | nil=>simp[decP]
     | cons y w=>
      have hy:y=wYes\/y=wNo:=by rw[C8c hw]at hh;exact hh
      have hq:decQ (y::w)=decP (y::w):=by unfold decQ;rw[if_pos (by simpa using hy)]
      simp only[hq]
      cases hp:decP (y::w)with
      | none=>
       simp only;by_cases hs:x.state=1
       ·rw[if_pos hs]
       ·rw[if_neg hs]
        have hyi:y≠A5m:=by rcases hy with rfl | rfl<;>decide
        have:begR ⟨v,xs++[x],3⟩ (y::w) = .error 8:=by
         match w with
         | []=>rfl
         | [a]=>rfl
         | [a,b]=>simp only[begR,if_neg hyi]
         | a::b::c::d=>rfl
        rw[this]
      | some d=>
       simp only;rw[D5o v xs tl r { x with decs:=x.decs++[d] }]
       cases A5u r with
       | error e=>rfl
       | ok q=>simp
   ·rw[if_neg hh];simp only[List.append_nil];by_cases hs:x.state=1
    ·rw[if_pos hs];have h5':¬l.take 5=[103,111,108,100,32]:=fun e=>h5 ⟨hs,e⟩;simp only[A7h,if_neg h5']
     cases hw:A2y l with
     | none=>rfl
     | some ws=>
      cases ws with
      | nil=>rfl
      | cons y w=>
       have hy:¬(y=wYes\/y=wNo):=by rw[C8c hw]at hh;exact hh
       have hq:decQ (y::w)=none:=by unfold decQ;rw[if_neg (by simpa using hy)]
       simp only[hq,if_pos hs]
    ·rw[if_neg hs,B1g,F6e,<-C9w ⟨v,xs++[x],1⟩ l]
     cases hw:A2y l with
     | none=>rfl
     | some ws=>
      cases ws with
      | nil=>rfl
      | cons y w=>
       have hy:¬(y=wYes\/y=wNo):=by rw[C8c hw]at hh;exact hh
       have hq:decQ (y::w)=none:=by unfold decQ;rw[if_neg (by simpa using hy)]
       simp only[hq,if_neg hs];rfl
theorem D8w:∀{ls:List (List UInt8)} {ds:List Dc} {r:List (List UInt8)},A5u ls = .ok (ds,r)->r.length<=ls.length
 | [],ds,r,h=>by cases h;exact Nat.le_refl _
 | l::ls,ds,r,h=>by
  have e:=B9n h;rw[e];simp
theorem C1b (v:ByteArray) (tl:List UInt8):∀(n:Nat) (ls:List (List UInt8)) (xs:List It),ls.length<n->allR ⟨v,xs,1⟩ ls tl=(match A2m n ls tl with
  | .error e=>.error e
  | .ok ys=>.ok ⟨v,xs++ys⟩)
 | 0,ls,xs,h=>by omega
 | n+1,[],xs,h=>by
  rw[B2a,A2m]
  have:endR ⟨v,xs,1⟩=false:=by simp[endR,B6r]
  rw[this];by_cases ht:tl=[]<;>simp[ht]
 | n+1,l::ls,xs,h=>by
  rw[B1g,F6e,A2m,B0m]
  cases hp:parts A5m l with
  | none=>rfl
  | some ps=>
   match ps with
   | []=>rfl
   | [a]=>rfl
   | a::b::c::d=>rfl
   | [id,st]=>
    simp only
    cases hi:idxW st 0 stN with
    | none=>rfl
    | some k=>
     simp only
     cases ls with
     | nil=>
      rw[B2a]
      have:endR ⟨v,xs++[⟨bs id,[],k,[],A1y⟩],2⟩=true:=by simp[endR]
      rw[this];by_cases ht:tl=[]<;>simp[ht]
     | cons l2 r2=>
      rw[B1g,step2];simp only
      cases hw:parts A3i l2 with
      | none=>rfl
      | some ws=>
       simp only;rw[D5o]
       cases hd:A5u r2 with
       | error e=>rfl
       | ok q=>
        obtain⟨ds,r3⟩:=q;have hl:=D8w hd;simp only[List.length_cons]at h;simp only[List.nil_append];by_cases hk:k=1
        ·rw[if_pos (by show(k:Int)=1;omega),if_pos hk]
         cases r3 with
         | nil=>rfl
         | cons g r4=>
          simp only[A7h]
          by_cases h5:g.take 5=[103,111,108,100,32]
          ·rw[if_pos h5]
           cases parD (g.drop 5)with
           | error e=>rfl
           | ok d=>
            simp only;simp only[List.length_cons]at hl;rw[C1b v tl n r4 _ (by omega)];cases A2m n r4 tl<;>simp
          ·rw[if_neg h5]
        ·rw[if_neg (by show ¬(k:Int)=1;omega),if_neg hk];simp only;rw[C1b v tl n r3 _ (by omega)];cases A2m n r3 tl<;>simp
theorem E5c (s:List UInt8):decR s=decT s:=by
 unfold decR decT;split
 ·rfl
 ·cases hc:cutL [] s with
  | mk ls tl=>
   cases ls with
   | nil=>
    simp only;rw[B2a]
    have:endR ⟨⟨#[]⟩,[],0⟩=true:=by simp[endR]
    rw[this];by_cases ht:tl=[]<;>simp[ht]
   | cons l ls=>
    simp only;rw[B1g,step0]
    cases hp:parts A1h l with
    | none=>rfl
    | some ps=>
     match ps with
     | []=>rfl
     | a::b::c=>rfl
     | [n]=>
      simp only;rw[C1b (bs n) tl (ls.length+1) ls [] (by omega)]
      cases A2m (ls.length+1) ls tl with
      | error e=>rfl
      | ok ys=>simp
end Go.Proofs.YtmplckgbeaifkaaGreatDoor
