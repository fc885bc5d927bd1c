/-
 Auxiliary facts. No statement of the program stands here.
-/
import Derived.Test.YtmplckgbeaifkaaGreatDoorVBQ27
namespace Go.Proofs.YtmplckgbeaifkaaGreatDoor
set_option linter.unusedSimpArgs false
set_option linter.unusedVariables false
open Go Go.Abs
variable {q : Gl}
theorem B8m (c:UInt8) (s:List UInt8):(rTak c s).1.length<=s.length:=by
 unfold rTak
 cases s with
 | nil=>exact Nat.le_refl _
 | cons x r=>
  rw[takB];split
  ·rename_i e;split at e
   ·injection e with e;subst e;simp
   ·cases e
  ·exact Nat.le_refl _
theorem D5z (s:List UInt8):(rNam s).2.1.length<=s.length:=by
 unfold rNam;split
 ·exact Nat.le_refl _
 ·split
  ·exact Nat.le_refl _
  ·simp
theorem C5x (s:List UInt8):(rNum s).2.1.length<=s.length:=by
 unfold rNum;split
 ·exact Nat.le_refl _
 ·split
  ·exact Nat.le_refl _
  ·split
   ·exact Nat.le_refl _
   ·simp
theorem D6a (s:List UInt8):(plus s).2.length<=s.length:=by
 unfold plus;split<;>simp
theorem C9r (s:List UInt8):(A3p s).2.1.length<=s.length:=by
 unfold A3p;have h0:=D6a s;have h1:=D5z (plus s).2;have h2:=B8m 32 (rNam (plus s).2).2.1;have h3:=C5x (rTak 32 (rNam (plus s).2).2.1).1;have h4:=B8m 32 (rNum (rTak 32 (rNam (plus s).2).2.1).1).2.1;have h5:=C5x (rTak 32 (rNum (rTak 32 (rNam (plus s).2).2.1).1).2.1).1;simp only;split
 ·simp only;omega
 ·split
  ·simp only;omega
  ·split
   ·simp only;omega
   ·split
    ·simp only;omega
    ·split<;>simp only<;>omega
noncomputable def gTk:List T->Option T
 | [.v (.string s),.v (.string ⟨⟨[c]⟩⟩)]=>if s.size<=2100000000000 then some (takT c s.data.toList)else none
 | _=>none
theorem hTk:GOK Tryz.prog (G q) 236 gTk:=fun args r hr=>by
 unfold gTk at hr;split at hr
 ·rename_i s c;split at hr
  ·rename_i h;injection hr with hr;subst hr;have:=D9m (q:=q) s.data.toList c h;rwa[A7x]at this
  ·cases hr
 ·cases hr
theorem E4k {l:List UInt8} (c:UInt8) (h:l.length<=2100000000000):gTk [sv (bs l),sv (bs [c])]=some (takT c l):=by
 show(if(bs l).size<=_ then some (takT c (bs l).data.toList)else none)=_;rw[A0q,if_pos h,A5n]
noncomputable def gN28:List T->Option T:=gStr (fun s=>namT s.data.toList) 2100000000000
theorem hN28:GOK Tryz.prog (G q) 237 gN28:=A9j fun s h=>by
 have:=C9q (q:=q) s.data.toList h;rwa[A7x]at this
theorem F4n {l:List UInt8} (h:l.length<=2100000000000):gN28 [sv (bs l)]=some (namT l):=by
 have:=B5x (f:=fun s=>namT s.data.toList) (s:=bs l) (n:=2100000000000) (by rw[A0q];exact h);rwa[A5n]at this
noncomputable def gM28:List T->Option T:=gStr (fun s=>nmbT s.data.toList) 2100000000000
theorem hM28:GOK Tryz.prog (G q) 238 gM28:=A9j fun s h=>by
 have:=C1y (q:=q) s.data.toList h;rwa[A7x]at this
theorem E4l {l:List UInt8} (h:l.length<=2100000000000):gM28 [sv (bs l)]=some (nmbT l):=by
 have:=B5x (f:=fun s=>nmbT s.data.toList) (s:=bs l) (n:=2100000000000) (by rw[A0q];exact h);rwa[A5n]at this
abbrev lexI (b:Bool):Int:=if b then 1 else 0
def hdT (h:Hd):T:=.ag [iv (lexI h.lex),sv (bs h.name),iv h.frm,iv h.to,nilS]
def F0f (s:List UInt8):T:=.tu [hdT (A3p s).1,sv (bs (A3p s).2.1),iv (A3p s).2.2]
abbrev zRow:Row:=dRow 0 ⟨#[]⟩ 0 0 nilS
section
variable (k k' f t : Int) (n n' : ByteArray)
theorem hst0:A0t 1 [(1,dRow k n f t nilS),(0,zRow)] (.ptr 1 0) (.t (iv k'))=some [(1,dRow k' n f t nilS),(0,zRow)]:=rfl
theorem hst1:A0t 1 [(1,dRow k n f t nilS),(0,zRow)] (.ptr 1 1) (.t (sv n'))=some [(1,dRow k n' f t nilS),(0,zRow)]:=rfl
theorem hst2:A0t 1 [(1,dRow k n f t nilS),(0,zRow)] (.ptr 1 2) (.t (iv k'))=some [(1,dRow k n k' t nilS),(0,zRow)]:=rfl
theorem hst3:A0t 1 [(1,dRow k n f t nilS),(0,zRow)] (.ptr 1 3) (.t (iv k'))=some [(1,dRow k n f k' nilS),(0,zRow)]:=rfl
theorem hld:A0g true 5 [(1,dRow k n f t nilS),(0,zRow)] (.ptr 1 0)=some (.t (.ag [iv k,sv n,iv f,iv t,nilS])):=rfl
theorem hsto (X:Row):A0t 5 [(1,X),(0,zRow)] (.ptr 0 0) (.t (.ag [iv k,sv n,iv f,iv t,nilS]))=some [(1,X),(0,dRow k n f t nilS)]:=rfl
theorem hldr (X:Row):A0g true 5 [(1,X),(0,dRow k n f t nilS)] (.ptr 0 0)=some (.t (.ag [iv k,sv n,iv f,iv t,nilS])):=rfl
theorem hst5:A0t 5 [(1,zRow),(0,zRow)] (.ptr 1 0) (.t (.ag [iv k,sv n,iv f,iv t,nilS]))=some [(1,dRow k n f t nilS),(0,zRow)]:=rfl
end
theorem A2h (k f t:Int) (n:ByteArray) (tk:T):Row.cells 26 [.t (iv k),.t (sv n),.t (iv f),.t (iv t),.t tk]=dRow k n f t tk:=rfl
theorem bld5:A8e (fun k=>[(0,1),(1,1),(2,1),(3,1),(4,1)][k]?) [.t (iv 0),.t (sv ⟨#[]⟩),.t (iv 0),.t (iv 0),.t nilS] []=some [.t (iv 0),.t (sv ⟨#[]⟩),.t (iv 0),.t (iv 0),.t nilS]:=rfl
theorem ag5 (k f t:Int) (n:ByteArray) (tk:T):agOf [.t (iv k),.t (sv n),.t (iv f),.t (iv t),.t tk] = .t (.ag [iv k,sv n,iv f,iv t,tk]):=rfl
theorem D9n (s:List UInt8) (hl:s.length<2100000000000):A0w Tryz.prog (G q) 212 [sv (bs (40::s))] (· = F0f s):=by
 have C:Ctx Tryz.prog (G q) (orc [(236,gTk),(237,gN28),(238,gM28)]):=(A0y.cons hTk (.cons hN28 (.cons hM28 .nil))).ctx mixed;refine D9h.call rfl ?_;unfold C3l
 obtain⟨R,hR⟩:∃R,R=F0f s:=⟨_,rfl⟩
 rw[<-hR];have g0:gTk [sv (bs (40::s)),sv (bs [40])]=some (.tu [sv (bs s),iv 0]):=E4k (l:=40::s) 40 (by simp;omega);refine A0a C ?_;simp -implicitDefEqProofs [A2h];refine A0a C ?_;simp -implicitDefEqProofs [A2h,bld5,ag5,hst5];refine A0a C ?_;simp -implicitDefEqProofs [g0];refine A0a C ?_;simp -implicitDefEqProofs
 obtain⟨a,ha⟩:∃a,a=(plus s).2:=⟨_,rfl⟩
 obtain⟨lx,hlx⟩:∃lx,lx=(plus s).1:=⟨_,rfl⟩
 have hal:a.length<2100000000000:=by have:=D6a s;rw[ha];omega
 refine A0o (α:=Unit) (fun _=>⟨[(0,.t (sv (bs a))),(5,.ptr 1 0),(2,.ptr 0 0)],[(1,dRow (lexI lx) ⟨#[]⟩ 0 0 nilS),(0,zRow)],2,93⟩) (fun _=>True) (fun _=>rfl) ?_ ?_
 ·refine A0c C ?_
  cases hx:s[0]? with
  | none=>
   have h0:s=[]:=by
    cases s with
    | nil=>rfl
    | cons _ _=>cases hx
   subst h0;have e1:a=[]:=ha;have e2:lx=false:=hlx;subst e1;subst e2;simp -implicitDefEqProofs [A0q];exact Abs.Next.mk () trivial (A0d (by simp -implicitDefEqProofs))
  | some x=>
   have hpos:0<s.length:=(List.getElem?_eq_some_iff.1 hx).1
   obtain⟨r,hr⟩:∃r,s=x::r:=by
    cases s with
    | nil=>simp at hx
    | cons y r=>simp at hx;subst hx;exact⟨r,rfl⟩
   have i1:=C0p s hx;have b1:=D2z x 43 (by omega);by_cases hc:x=43
   ·have e1:a=r:=by rw[ha,hr,hc];rfl
    have e2:lx=true:=by rw[hlx,hr,hc];rfl
    rw[decide_eq_true (show x=UInt8.ofNat 43 from hc)]at b1;have b1:((x.toNat:Int)==43)=true:=b1;have s1:=B5y s (j:=1) (by omega)
    have s2:s.drop 1=r:=by rw[hr];rfl
    rw[s2]at s1;have s1:A3e (.t (.v (.string ⟨s.toArray⟩))) (some (.t (iv 1))) none=some (.t (sv (bs r))):=s1;subst e2;simp -implicitDefEqProofs [A0q,hpos,i1,b1,hst0,s1];refine Abs.Next.mk () trivial ?_;rw[e1];exact A0d (by simp -implicitDefEqProofs)
   ·have e1:a=s/\lx=false:=by
     rw[ha,hlx,hr];unfold plus;split
     ·rename_i e;injection e with e _;exact absurd e hc
     ·exact⟨rfl,rfl⟩
    rw[decide_eq_false (show ¬x=UInt8.ofNat 43 from hc)]at b1;have b1:((x.toNat:Int)==43)=false:=b1;simp -implicitDefEqProofs [A0q,hpos,i1,b1];refine Abs.Next.mk () trivial ?_;rw[e1.1,e1.2];exact A0d (by simp -implicitDefEqProofs)
 rintro _ -;have eR:R = .tu [hdT (A3p s).1,sv (bs (A3p s).2.1),iv (A3p s).2.2]:=hR;unfold A3p at eR;simp only at eR;rw[<-ha,<-hlx]at eR;have g1:gN28 [sv (bs a)]=some (.tu [sv (bs (rNam a).1),sv (bs (rNam a).2.1),iv (rNam a).2.2]):=F4n (by omega);have n1:=D5z a;generalize rNam a=n at g1 n1 eR;obtain⟨n,s1,e1⟩:=n;simp only at g1 n1 eR;refine A0a C ?_;simp -implicitDefEqProofs [g1];by_cases h1:e1=0
 ·have b1:(e1 != 0)=false:=by simpa using h1
  rw[if_neg (by simp[h1])]at eR;refine A0a C ?_;simp -implicitDefEqProofs [b1];refine A0a C ?_;simp -implicitDefEqProofs [hst1];have g2:gTk [sv (bs s1),sv (bs [32])]=some (.tu [sv (bs (rTak 32 s1).1),iv (rTak 32 s1).2]):=E4k 32 (by omega);have n2:=B8m 32 s1;generalize rTak 32 s1=b at g2 n2 eR;obtain⟨s2,e2⟩:=b;simp only at g2 n2 eR;refine A0a C ?_;simp -implicitDefEqProofs [g2];by_cases h2:e2=0
  ·have b2:(e2 != 0)=false:=by simpa using h2
   rw[if_neg (by simp[h2])]at eR;refine A0a C ?_;simp -implicitDefEqProofs [b2];have g3:gM28 [sv (bs s2)]=some (.tu [iv (rNum s2).1,sv (bs (rNum s2).2.1),iv (rNum s2).2.2]):=E4l (by omega);have n3:=C5x s2;generalize rNum s2=m at g3 n3 eR;obtain⟨v3,s3,e3⟩:=m;simp only at g3 n3 eR;refine A0a C ?_;simp -implicitDefEqProofs [g3];by_cases h3:e3=0
   ·have b3:(e3 != 0)=false:=by simpa using h3
    rw[if_neg (by simp[h3])]at eR;refine A0a C ?_;simp -implicitDefEqProofs [b3];refine A0a C ?_;simp -implicitDefEqProofs [hst2];have g4:gTk [sv (bs s3),sv (bs [32])]=some (.tu [sv (bs (rTak 32 s3).1),iv (rTak 32 s3).2]):=E4k 32 (by omega);have n4:=B8m 32 s3;generalize rTak 32 s3=b at g4 n4 eR;obtain⟨s4,e4⟩:=b;simp only at g4 n4 eR;refine A0a C ?_;simp -implicitDefEqProofs [g4];by_cases h4:e4=0
    ·have b4:(e4 != 0)=false:=by simpa using h4
     rw[if_neg (by simp[h4])]at eR;refine A0a C ?_;simp -implicitDefEqProofs [b4];have g5:gM28 [sv (bs s4)]=some (.tu [iv (rNum s4).1,sv (bs (rNum s4).2.1),iv (rNum s4).2.2]):=E4l (by omega);generalize rNum s4=m at g5 eR;obtain⟨v5,s5,e5⟩:=m;simp only at g5 eR;refine A0a C ?_;simp -implicitDefEqProofs [g5];by_cases h5:e5=0
     ·have b5:(e5 != 0)=false:=by simpa using h5
      rw[if_neg (by simp[h5])]at eR;refine A0a C ?_;simp -implicitDefEqProofs [b5];refine A0a C ?_;simp -implicitDefEqProofs [hst3];refine A0c C ?_;simp -implicitDefEqProofs [hld,hsto,hldr,eR,hdT]
     ·have b5:(e5 != 0)=true:=by simpa using h5
      rw[if_pos h5]at eR;refine A0a C ?_;simp -implicitDefEqProofs [b5,hld,hsto,hldr,eR,hdT]
    ·have b4:(e4 != 0)=true:=by simpa using h4
     rw[if_pos h4]at eR;refine A0a C ?_;simp -implicitDefEqProofs [b4,hld,hsto,hldr,eR,hdT]
   ·have b3:(e3 != 0)=true:=by simpa using h3
    rw[if_pos h3]at eR;refine A0a C ?_;simp -implicitDefEqProofs [b3,hld,hsto,hldr,eR,hdT]
  ·have b2:(e2 != 0)=true:=by simpa using h2
   rw[if_pos h2]at eR;refine A0a C ?_;simp -implicitDefEqProofs [b2,hld,hsto,hldr,eR,hdT]
 ·have b1:(e1 != 0)=true:=by simpa using h1
  rw[if_pos h1]at eR;refine A0a C ?_;simp -implicitDefEqProofs [b1,hld,hsto,hldr,eR,hdT]
theorem C9s {rr:List UInt8->Dv×List UInt8×Int} (hrr:∀s,(rr s).2.1.length<=s.length):∀(n:Nat) (lex:Bool) (acc:List Dv) (s:List UInt8),(A7j rr n lex acc s).2.1.length<=s.length
 | 0,lex,acc,s=>by rw[A7j];exact Nat.le_refl _;intros;omega
 | n+1,lex,acc,s=>by
  by_cases hs:∃t,s=32::t
  ·obtain⟨t,rfl⟩:=hs;rw[A7j];have h1:=hrr t;split
   ·exact Nat.le_refl _
   ·split
    ·simp only[List.length_cons];omega
    ·have:=C9s hrr n lex (acc++[(rr t).1]) (rr t).2.1;simp only[List.length_cons];omega
  ·rw[A7j]
   ·exact Nat.le_refl _
   ·intro n' t _ e;exact hs ⟨t,e⟩
theorem C9t:∀(k:Nat) (s:List UInt8),(A3q k s).2.1.length<=s.length
 | k,[]=>by cases k<;>exact Nat.le_refl _
 | 0,c::s=>by rw[A3q];split<;>exact Nat.le_refl _
 | k+1,c::s=>by
  rw[A3q];split
  ·have h1:=C9r s;have h2:=C9s (C9t k) (A3p s).2.1.length (A3p s).1.lex [] (A3p s).2.1
   have h3:(if(A3p s).2.2≠0 then(([]:List Dv),(A3p s).2.1,(A3p s).2.2)else A7j (A3q k) (A3p s).2.1.length (A3p s).1.lex [] (A3p s).2.1).2.1.length<=s.length:=by
    split
    ·exact h1
    ·omega
   simp only;generalize (if(A3p s).2.2≠0 then(([]:List Dv),(A3p s).2.1,(A3p s).2.2)else A7j (A3q k) (A3p s).2.1.length (A3p s).1.lex [] (A3p s).2.1)=l at h3;split
   ·simp only[List.length_cons];omega
   ·cases hl:l.2.1 with
    | nil=>simp
    | cons x r=>
     rw[hl]at h3;simp only[List.length_cons]at h3 ⊢;split<;>simp only[List.length_cons]<;>omega
  ·exact Nat.le_refl _
def rdT (x:Dv×List UInt8×Int):T:=.tu [.ag (encD x.1),sv (bs x.2.1),iv x.2.2]
noncomputable def gHd:List T->Option T
 | [.v (.string ⟨⟨c::s⟩⟩)]=>if c=40/\s.length<2100000000000 then some (F0f s)else none
 | _=>none
theorem hHd:GOK Tryz.prog (G q) 212 gHd:=fun args r hr=>by
 unfold gHd at hr;split at hr
 ·split at hr
  ·rename_i h;injection hr with hr;subst hr;obtain⟨rfl,h⟩:=h;exact D9n _ h
  ·cases hr
 ·cases hr
theorem F7d {s:List UInt8} (h:s.length<2100000000000):gHd [sv (bs (40::s))]=some (F0f s):=if_pos ⟨rfl,h⟩
noncomputable def gRd (k:Nat):List T->Option T
 | [.v (.string s),.v (.int .i64 m)]=>if m=k/\s.size<=2100000000000 then some (rdT (A3q k s.data.toList))else none
 | _=>none
theorem F2k {k:Nat} {l:List UInt8} (h:l.length<=2100000000000):gRd k [sv (bs l),iv (k:Int)]=some (rdT (A3q k l)):=by
 show(if(k:Int)=k/\(bs l).size<=2100000000000 then some (rdT (A3q k (bs l).data.toList))else none)=_;rw[A0q,if_pos ⟨rfl,h⟩,A5n]
theorem B1a (lex:Bool) (ks:List Dv):(A1f lex ks != 1) = !lex:=by
 unfold A1f;cases lex
 ·cases ks<;>rfl
 ·rfl
theorem C0r (lex:Bool) (ks:List Dv) (x:Dv):A1f lex (ks++[x])=if(A1f lex ks==0)=true then 2 else A1f lex ks:=by
 unfold A1f;cases lex
 ·cases ks<;>rfl
 ·rfl
def kRow (k:Int) (n:ByteArray) (f t:Int) (p:PV):Row:=.cells 26 [.t (iv k),.t (sv n),.t (iv f),.t (iv t),p]
structure Rk where
 ks:List Dv
 s:List UInt8
 e:Int
def SRk (k:Nat) (h:Hd) (a:Rk):A0b:=⟨[(8,.t (iv a.e)),(7,.ptr 1 0),(4,.ptr 0 0),(1,.t (iv (k:Int))),(0,.t (sv (bs a.s)))],[(1,kRow (A1f h.lex a.ks) (bs h.name) h.frm h.to (rowP eD 2 a.ks)),(0,zRow)]++rowH eD 26 2 a.ks,3,105⟩
structure OkRk (k:Nat) (lex:Bool) (L:Nat) (Res:List Dv×List UInt8×Int) (a:Rk):Prop where
 le:a.s.length+a.ks.length<=L
 eq:(a.e=0/\∃n,a.s.length<=n/\A7j (A3q k) n lex a.ks a.s=Res)\/(a.e≠0/\Res=(a.ks,a.s,a.e))
theorem D9o {rr:List UInt8->Dv×List UInt8×Int} {n:Nat} {lex:Bool} {acc:List Dv} {s:List UInt8} (h:(∀t,s≠32::t)\/(lex && !acc.isEmpty)=true):A7j rr n lex acc s=(acc,s,0):=by
 cases n with
 | zero=>rw[A7j];intros;omega
 | succ n=>
  by_cases hs:∃t,s=32::t
  ·obtain⟨t,rfl⟩:=hs;rw[A7j,if_pos (h.resolve_left (fun e=>e t rfl))]
  ·rw[A7j];intro n' t _ e;exact hs ⟨t,e⟩
section
variable (k : Int) (n : ByteArray) (f t : Int) (p p' : PV)
theorem kl0 (R:Heap):A0g false 1 ((1,kRow k n f t p)::R) (.ptr 1 0)=some (.t (iv k)):=rfl
theorem kl4 (R:Heap):A0g false 1 ((1,kRow k n f t p)::R) (.ptr 1 4)=some p:=rfl
end
section
variable (k k' : Int) (n : ByteArray) (f t : Int) (p : PV) (R : Heap)
theorem zst5 (tk:T):A0t 5 ((1,zRow)::R) (.ptr 1 0) (.t (.ag [iv k,sv n,iv f,iv t,tk]))=some ((1,kRow k n f t (.t tk))::R):=rfl
theorem krow5 (b m:Nat):A0g true 5 ((1,kRow k n f t (.row b 0 m 5))::R) (.ptr 1 0)=some (.ag [.t (iv k),.t (sv n),.t (iv f),.t (iv t),.row b 0 m 5]):=rfl
theorem ktre5 (tk:T):A0g true 5 ((1,kRow k n f t (.t tk))::R) (.ptr 1 0)=some (.t (.ag [iv k,sv n,iv f,iv t,tk])):=rfl
theorem rst5 (X:Row) (b m:Nat):A0t 5 ((1,X)::(0,zRow)::R) (.ptr 0 0) (.ag [.t (iv k),.t (sv n),.t (iv f),.t (iv t),.row b 0 m 5])=some ((1,X)::(0,kRow k n f t (.row b 0 m 5))::R):=rfl
theorem F7e (X:Row) (tk:T):A0t 5 ((1,X)::(0,zRow)::R) (.ptr 0 0) (.t (.ag [iv k,sv n,iv f,iv t,tk]))=some ((1,X)::(0,dRow k n f t tk)::R):=rfl
theorem rld5 (X:Row) (b m:Nat):A0g true 5 ((1,X)::(0,kRow k n f t (.row b 0 m 5))::R) (.ptr 0 0)=some (.ag [.t (iv k),.t (sv n),.t (iv f),.t (iv t),.row b 0 m 5]):=rfl
theorem F7f (X:Row) (tk:T):A0g true 5 ((1,X)::(0,dRow k n f t tk)::R) (.ptr 0 0)=some (.t (.ag [iv k,sv n,iv f,iv t,tk])):=rfl
end
theorem zst0 (R:Heap) (k f t:Int) (n:ByteArray) (tk:T):A0t 5 ((0,zRow)::R) (.ptr 0 0) (.t (.ag [iv k,sv n,iv f,iv t,tk]))=some ((0,dRow k n f t tk)::R):=rfl
theorem zld0 (R:Heap) (k f t:Int) (n:ByteArray) (tk:T):A0g true 5 ((0,dRow k n f t tk)::R) (.ptr 0 0)=some (.t (.ag [iv k,sv n,iv f,iv t,tk])):=rfl
theorem F4o {H:Heap} {p:PV} {x:T} {F:List Nat} (h:toT H p=some (x,F)) (a b c d u v:T):toT H (.tu [.ag [.t a,.t b,.t c,.t d,p],.t u,.t v])=some (.tu [.ag [a,b,c,d,x],u,v],F):=by
 simp only[toT,toTs,h,Option.map_some,List.append_nil,List.nil_append]
theorem encZ:encD A2c=[iv 0,sv ⟨#[]⟩,iv 0,iv 0,nilS]:=rfl
theorem D9p {k:Nat} (hrec:∀k',k=k'+1->GOK Tryz.prog (G q) 178 (gRd k')) (l:List UInt8) (hk:k<=1000) (hl:l.length<=2100000000000):A0w Tryz.prog (G q) 178 [sv (bs l),iv (k:Int)] (· = rdT (A3q k l)):=by
 refine D9g.call rfl ?_;unfold C3k
 obtain⟨R,hR⟩:∃R,R=rdT (A3q k l):=⟨_,rfl⟩
 rw[<-hR];have zz:∀s e,rdT (A2c,s,e) = .tu [.ag [iv 0,sv ⟨#[]⟩,iv 0,iv 0,nilS],sv (bs s),iv e]:=fun _ _=>rfl
 cases hx:l[0]? with
 | none=>
  have h0:l=[]:=by
   cases l with
   | nil=>rfl
   | cons _ _=>cases hx
  subst h0
  have eR:R=rdT (A2c,[],9):=by rw[hR];cases k<;>rfl
  rw[zz]at eR;refine A0a A0x ?_;simp -implicitDefEqProofs [A2h];refine A0a A0x ?_;simp -implicitDefEqProofs [A3f,A3i,A2h,bld5,ag5,zst0,zld0,eR]
 | some x=>
  have hpos:0<l.length:=(List.getElem?_eq_some_iff.1 hx).1
  obtain⟨s,hs⟩:∃s,l=x::s:=by
   cases l with
   | nil=>simp at hx
   | cons y r=>simp at hx;subst hx;exact⟨r,rfl⟩
  have hnil:l.isEmpty=false:=by rw[hs];rfl
  have i1:=C0p l hx;have b1:=C0q x 40;by_cases hc:x=40
  ·rw[decide_eq_true hc,Bool.not_true]at b1;have b1:((x.toNat:Int) != 40)=false:=b1
   cases k with
   | zero=>
    have eR:R=rdT (A2c,l,7):=by rw[hR,hs,A3q,if_pos hc]
    rw[zz]at eR;refine A0a A0x ?_;simp -implicitDefEqProofs [A2h];refine A0a A0x ?_;simp -implicitDefEqProofs [A3f,A3i,hnil];refine A0a A0x ?_;simp -implicitDefEqProofs [i1,b1];refine A0a A0x ?_;simp -implicitDefEqProofs [A2h,bld5,ag5,zst0,zld0,eR]
   | succ k=>
    have C:Ctx Tryz.prog (G q) (orc [(178,gRd k),(212,gHd)]):=(A0y.cons (hrec k rfl) (.cons hHd .nil)).ctx mixed
    have bk:(((k+1:Nat):Int)==0)=false:=by rw[beq_eq_false_iff_ne];omega
    obtain⟨k1,hk1⟩:∃k1,k1=k+1:=⟨_,rfl⟩
    have ek:IntKind.i64.wrap ((k1:Int)-1)=(k:Int):=A0h (by omega) (by omega);rw[<-hk1]at bk ⊢;subst hc
    have hsl:s.length<2100000000000:=by rw[hs,List.length_cons]at hl;omega
    have hg:gHd [sv (bs l)]=some (.tu [hdT (A3p s).1,sv (bs (A3p s).2.1),iv (A3p s).2.2]):=by rw[hs];exact F7d hsl
    refine A0a C ?_;simp -implicitDefEqProofs [A2h];refine A0a C ?_;simp -implicitDefEqProofs [A3f,A3i,hnil];refine A0a C ?_;simp -implicitDefEqProofs [i1,b1];refine A0a C ?_;simp -implicitDefEqProofs [bk]
    have eR:R=rdT (A3q (k+1) (40::s)):=by rw[hR,hs]
    rw[A3q,if_pos rfl]at eR;simp only at eR;have hhl:=C9r s;generalize A3p s=H at hg eR hhl;obtain⟨h,s1,e1⟩:=H;simp only at hg eR hhl;unfold hdT at hg
    obtain⟨Res,hRes⟩:∃Res,Res=(if e1≠0 then(([]:List Dv),s1,e1)else A7j (A3q k) s1.length h.lex [] s1):=⟨_,rfl⟩
    rw[<-hRes]at eR;refine A0a C ?_;simp -implicitDefEqProofs [hg,A2h,zst5];refine A0o (α:=Rk) (SRk k1 h) (fun a=>Res=(a.ks,a.s,a.e)/\a.s.length+a.ks.length<=s1.length) (fun _=>rfl) ?_ ?_
    ·refine A0f ?_;refine A0k (SRk k1 h) (fun a=>a.s.length+(if a.e=0 then 1 else 0)) (OkRk k h.lex s1.length Res) ⟨[],s1,e1⟩ (fun _=>rfl) ⟨by simp,?_⟩ ?_ rfl ?_
     ·by_cases h0:e1=0
      ·rw[if_neg (by simp[h0])]at hRes;exact .inl ⟨h0,s1.length,Nat.le_refl _,hRes.symm⟩
      ·rw[if_pos h0]at hRes;exact .inr ⟨h0,hRes⟩
     ·have e:A1f h.lex []=lexI h.lex:=by unfold A1f;cases h.lex<;>rfl
      show Abs.Sub _ _ _ _ ⟨_,_,_,_⟩;rw[e];exact B0z (by omega) (by simp -implicitDefEqProofs [rowH,rowP,A1y,kRow,dRow,A1w,under]) (by simp -implicitDefEqProofs [under])
     ·rintro⟨ks,st,e⟩ ⟨hle,heq⟩;simp only at hle heq;have K1:=kl0 (A1f h.lex ks) (bs h.name) h.frm h.to (rowP eD 2 ks);have K4:=kl4 (A1f h.lex ks) (bs h.name) h.frm h.to (rowP eD 2 ks);have kn:=B1a h.lex ks;have ln:=B4c eD 2 ks
      have stop:∀(hstop:e≠0\/((∀t,st≠32::t)\/(h.lex && !ks.isEmpty)=true)),Res=(ks,st,e):=fun hstop=>by
       rcases heq with⟨h0,n,hn,hr⟩ | ⟨_,hr⟩
       ·rw[D9o (hstop.resolve_left (fun hh=>hh h0))]at hr;rw[<-hr,h0]
       ·exact hr
      by_cases h0:e=0
      ·have be:(e==0)=true:=by simpa using h0
       cases hy:st[0]? with
       | none=>
        have hst:st=[]:=by
         cases st with
         | nil=>rfl
         | cons _ _=>cases hy
        have hz:¬0<st.length:=by rw[hst];simp
        refine A0c C ?_;simp -implicitDefEqProofs [SRk,be,A0q,hz];exact Abs.Next.mk (⟨ks,st,e⟩:Rk) ⟨stop (.inr (.inl (by rw[hst];intro t h;cases h))),hle⟩ (A0d (by simp -implicitDefEqProofs [SRk]))
       | some y=>
        have hz:0<st.length:=(List.getElem?_eq_some_iff.1 hy).1
        obtain⟨t,ht⟩:∃t,st=y::t:=by
         cases st with
         | nil=>simp at hy
         | cons z r=>simp at hy;subst hy;exact⟨r,rfl⟩
        have i2:=C0p st hy;have b2:=D2z y 32 (by omega);by_cases hsp:y=32
        ·rw[decide_eq_true (show y=UInt8.ofNat 32 from hsp)]at b2;have b2:((y.toNat:Int)==32)=true:=b2
         cases hlk:h.lex && !ks.isEmpty with
         | true=>
          rw[Bool.and_eq_true]at hlk
          have hkl:((ks.length:Int)==0)=false:=by
           rw[beq_eq_false_iff_ne];intro e;have:ks=[]:=List.eq_nil_of_length_eq_zero (by omega);rw[this]at hlk;exact absurd hlk.2 (by simp)
          have kn:(A1f h.lex ks != 1)=false:=by rw[B1a,hlk.1];rfl
          refine A0c C ?_;simp -implicitDefEqProofs [SRk,be,A0q,hz,i2,b2,K1,kn,K4,ln,hkl];exact Abs.Next.mk (⟨ks,st,e⟩:Rk) ⟨stop (.inr (.inr (by rw[hlk.1,hlk.2];rfl))),hle⟩ (A0d (by simp -implicitDefEqProofs [SRk]))
         | false=>
          have c2:(∃bb,(A1f h.lex ks != 1)=bb/\(bb=false->((ks.length:Int)==0)=true)):=by
           refine⟨_,rfl,fun e=>?_⟩;rw[B1a]at e
           have:h.lex=true:=by simpa using e
           rw[this,Bool.true_and]at hlk
           have:ks=[]:=by simpa using hlk
           rw[this];rfl
          obtain⟨bb,hbb,hbb2⟩:=c2;have s1t:=B5y st (j:=1) (by omega)
          have e1t:st.drop 1=t:=by rw[ht];rfl
          rw[e1t]at s1t;have s1t:A3e (.t (.v (.string ⟨st.toArray⟩))) (some (.t (iv 1))) none=some (.t (sv (bs t))):=s1t
          have hstl:st.length=t.length+1:=by rw[ht];rfl
          have hg2:=F2k (k:=k) (l:=t) (by omega);unfold rdT at hg2;have hrl:=C9t k t
          have hstep:∃n,t.length<=n/\Res=(if(A3q k t).2.2≠0 then(ks++[(A3q k t).1],(A3q k t).2.1,(A3q k t).2.2)else A7j (A3q k) n h.lex (ks++[(A3q k t).1]) (A3q k t).2.1):=by
           rcases heq with⟨_,n,hn,hr⟩ | ⟨hh,_⟩
           ·obtain⟨n',rfl⟩:∃n',n=n'+1:=⟨n-1,by omega⟩
            refine⟨n',by omega,?_⟩;rw[<-hr,ht,hsp,A7j,if_neg (by rw[hlk];simp)]
           ·exact absurd h0 hh
          generalize A3q k t=X at hg2 hrl hstep;obtain⟨kid,rest,e'⟩:=X;simp only at hg2 hrl hstep;obtain⟨n',hn',hstep⟩:=hstep;have stn:∀R:Heap,A0t 5 ((3,zRow)::R) (.ptr 3 0) (.t (.ag (encD kid)))=some ((3,.cells 26 ((encD kid).map .t))::R):=fun R=>A7d 3 R kid (IsD.enc kid);refine A0o (α:=Unit) (fun _=>SRk k1 h ⟨ks,st,e⟩) (fun _=>True) (fun _=>rfl) ?_ ?_
          ·refine A0c C ?_
           cases bb with
           | true=>
            simp -implicitDefEqProofs [SRk,be,A0q,hz,i2,b2,K1,hbb];exact Abs.Next.mk () trivial (A0d (by simp -implicitDefEqProofs [SRk]))
           | false=>
            have hkl:=hbb2 rfl;simp -implicitDefEqProofs [SRk,be,A0q,hz,i2,b2,K1,hbb,K4,ln,hkl];exact Abs.Next.mk () trivial (A0d (by simp -implicitDefEqProofs [SRk]))
          rintro _ -;refine A0f ?_;refine A0a C ?_;simp -implicitDefEqProofs [SRk,s1t,ek,hg2,A2h,stn]
          obtain⟨K,hK⟩:∃K,K=A1f h.lex ks:=⟨_,rfl⟩
          obtain⟨K',hK'⟩:∃K',K'=A1f h.lex (ks++[kid]):=⟨_,rfl⟩
          have hKK:K'=if(K==0)=true then 2 else K:=by rw[hK',hK];exact C0r _ _ _
          obtain⟨X3,hX3⟩:∃X3:Row,X3 = .cells 26 ((encD kid).map .t):=⟨_,rfl⟩
          obtain⟨T0,hT0⟩:∃T0:Heap,T0=(0,zRow)::rowH eD 26 2 ks:=⟨_,rfl⟩
          refine A0o (α:=Unit) (fun _=>⟨[(11,.t (iv e')),(10,.t (sv (bs rest))),(9,.ptr 3 0),(7,.ptr 1 0),(4,.ptr 0 0),(1,.t (iv (k1:Int)))],(3,X3)::(1,kRow K' (bs h.name) h.frm h.to (rowP eD 2 ks))::T0,4,105⟩) (fun _=>True) (fun _=>rfl) ?_ ?_
          ·have kl:∀R,A0g false 1 ((3,X3)::(1,kRow K (bs h.name) h.frm h.to (rowP eD 2 ks))::R) (.ptr 1 0)=some (.t (iv K)):=fun _=>rfl;have ks':∀R,A0t 1 ((3,X3)::(1,kRow K (bs h.name) h.frm h.to (rowP eD 2 ks))::R) (.ptr 1 0) (.t (iv 2))=some ((3,X3)::(1,kRow 2 (bs h.name) h.frm h.to (rowP eD 2 ks))::R):=fun _=>rfl;rw[<-hX3,<-hT0,<-hK];refine A0c C ?_
           cases hK0:(K==0)with
           | true=>
            rw[hK0,if_pos rfl]at hKK;simp -implicitDefEqProofs [kl,hK0,ks'];refine Abs.Next.mk () trivial ?_;rw[hKK];exact A0d (by simp -implicitDefEqProofs)
           | false=>
            rw[hK0,if_neg (by simp)]at hKK;simp -implicitDefEqProofs [kl,hK0];refine Abs.Next.mk () trivial ?_;rw[hKK];exact A0d (by simp -implicitDefEqProofs)
          rintro _ -
          obtain⟨H4,hH4⟩:∃H4:Heap,H4=(4,.cells 26 ((encD kid).map .t))::(3,X3)::(1,kRow K' (bs h.name) h.frm h.to (rowP eD 2 ks))::T0:=⟨_,rfl⟩
          have r4:A0p eD 26 H4 2 ks:=by
           rw[hH4,hT0]
           exact(((A0p.head' eD 26 2 ks).cons (k:=0) (by omega)).cons (k:=1) (by omega)).cons (k:=3) (by omega) |>.cons (k:=4) (by omega)
          have l44:Abs.look H4 4=some (.cells 26 ((eD.enc kid).map .t)):=by rw[hH4];rfl
          obtain⟨b2',H5,n5,ap,r5,ne5,le5,old5,hb5⟩:=A9g (e:=eD) (ty:=26) (by':=64) (nx:=5) (m:=[kid]) r4 (A9d (e:=eD) kid l44) (by simp;omega) (by simp;omega);have ap:appM 26 5 64 H4 5 (rowP eD 2 ks) (.row 4 0 1 5)=some (rowP eD b2' (ks++[kid]),H5,n5):=ap
          have l51:Abs.look H5 1=some (kRow K' (bs h.name) h.frm h.to (rowP eD 2 ks)):=by rw[old5 1 (by omega) (by omega),hH4];rfl
          have l50:Abs.look H5 0=some zRow:=by rw[old5 0 (by omega) (by omega),hH4,hT0];rfl
          obtain⟨H6,hH6⟩:∃H6:Heap,H6=upd H5 1 (kRow K' (bs h.name) h.frm h.to (rowP eD b2' (ks++[kid]))):=⟨_,rfl⟩
          have st6:A0t 1 H5 (.ptr 1 4) (rowP eD b2' (ks++[kid]))=some H6:=by
           rw[hH6,C0n];simp only[A0t,A1m,l51,kRow];rfl
          have r6:A0p eD 26 H6 b2' (ks++[kid]):=r5.imp id fun hh=>by rw[hH6,A1h,if_neg (by omega)];exact hh
          have l61:Abs.look H6 1=some (kRow K' (bs h.name) h.frm h.to (rowP eD b2' (ks++[kid]))):=by rw[hH6,A1h,if_pos rfl,l51];rfl
          have l60:Abs.look H6 0=some zRow:=by rw[hH6,A1h,if_neg (by omega)];exact l50
          have kl4':∀R,A0g false 1 ((3,X3)::(1,kRow K' (bs h.name) h.frm h.to (rowP eD 2 ks))::R) (.ptr 1 4)=some (rowP eD 2 ks):=fun _=>rfl
          have kl3:∀R,A0g true 5 ((3,X3)::R) (.ptr 3 0)=some (.t (.ag (encD kid))):=fun R=>by rw[hX3];exact A9i 3 R kid (IsD.enc kid)
          have bsl:∀m,A3l 26 5 [.int .i64 0,.string ⟨#[]⟩,.int .i64 0,.int .i64 0,.slice none 0 0] 1 [(0,.t (.ag (encD kid)))] m=some (.row m 0 1 5,.cells 26 ((encD kid).map .t)):=fun m=>by cases kid;rw[encD];rfl
          refine A0c C ?_;simp -implicitDefEqProofs [kl4',kl3,bsl,<-hH4,ap,st6];refine Abs.Next.mk (⟨ks++[kid],rest,e'⟩:Rk) ⟨⟨by simp;omega,?_⟩,?_⟩ ?_
          ·by_cases h9:e'=0
           ·rw[if_neg (by simp[h9])]at hstep;exact .inl ⟨h9,n',by show rest.length<=n';omega,hstep.symm⟩
           ·rw[if_pos h9]at hstep;exact .inr ⟨h9,hstep⟩
          ·show rest.length+(if e'=0 then 1 else 0)<st.length+(if e=0 then 1 else 0);rw[if_pos h0];split<;>omega
          ·refine B8g (k:=b2') r6 (by omega) (by omega) ?_ ?_
           ·intro x hx;rcases List.mem_cons.1 hx with rfl | hx
            ·refine⟨?_,by show 1<3;omega,by show 1≠2;omega,by show 1≠b2';omega,?_⟩
             ·rw[<-hK'];show Abs.look H6 1=some (kRow K' (bs h.name) h.frm h.to (ren _ (rowP eD 2 (ks++[kid]))));rw[A2b,if_pos rfl];exact l61
             ·simp only[kRow,A1y,A1w,under,A1j _ _ _ _ (show 2<3 by omega),Bool.and_self]
            ·simp only[List.mem_singleton]at hx;subst hx;exact⟨l60,by show 0<3;omega,by show 0≠2;omega,by show 0≠b2';omega,rfl⟩
           ·simp -implicitDefEqProofs [SRk,ren,under]
        ·rw[decide_eq_false (show ¬y=UInt8.ofNat 32 from hsp)]at b2;have b2:((y.toNat:Int)==32)=false:=b2;refine A0c C ?_;simp -implicitDefEqProofs [SRk,be,A0q,hz,i2,b2];exact Abs.Next.mk (⟨ks,st,e⟩:Rk) ⟨stop (.inr (.inl (by rw[ht];intro t h;injection h with h _;exact hsp h))),hle⟩ (A0d (by simp -implicitDefEqProofs [SRk]))
      ·have be:(e==0)=false:=by simpa using h0
       refine A0c C ?_;simp -implicitDefEqProofs [SRk,be];exact Abs.Next.mk (⟨ks,st,e⟩:Rk) ⟨stop (.inl h0),hle⟩ (A0d (by simp -implicitDefEqProofs [SRk]))
    ·rintro⟨ks,st,e⟩ ⟨hres,hle⟩;simp only at hres hle;rw[hres]at eR;simp only at eR;have K1:=kl0 (A1f h.lex ks) (bs h.name) h.frm h.to (rowP eD 2 ks);have K4:=kl4 (A1f h.lex ks) (bs h.name) h.frm h.to (rowP eD 2 ks);have ln:=B4c eD 2 ks
     have kq:(A1f h.lex ks==1)=h.lex:=by
      unfold A1f;cases h.lex
      ·cases ks<;>rfl
      ·rfl
     have z1:=fun R=>F7e 0 ⟨#[]⟩ 0 0 R (kRow (A1f h.lex ks) (bs h.name) h.frm h.to (rowP eD 2 ks)) nilS;have z2:=fun R=>F7f 0 ⟨#[]⟩ 0 0 R (kRow (A1f h.lex ks) (bs h.name) h.frm h.to (rowP eD 2 ks)) nilS;by_cases h0:e=0
     ·have be:(e==0)=true:=by simpa using h0
      have be':(e != 0)=false:=by simpa using h0
      rw[if_neg (by simp[h0])]at eR
      cases hst:st with
      | nil=>
       rw[hst]at eR;simp only at eR;rw[zz]at eR;refine A0a C ?_;simp -implicitDefEqProofs [SRk,be,A3f];refine A0a C ?_;simp -implicitDefEqProofs [A2h,bld5,ag5,z1,z2,eR]
      | cons x r=>
       rw[hst]at eR;simp only at eR;have hnl:(x::r==([]:List UInt8))=false:=rfl;have i1:=C0p (x::r) (c:=x) rfl;have b3:=C0q x 41;refine A0a C ?_;simp -implicitDefEqProofs [SRk,be,A3f,hnl];refine A0a C ?_;simp -implicitDefEqProofs [be'];by_cases hc:x=41
       ·rw[decide_eq_true hc,Bool.not_true]at b3;have b3:((x.toNat:Int) != 41)=false:=b3
        cases hb:h.lex && !decide (ks.length=1)with
        | true=>
         rw[Bool.and_eq_true,Bool.not_eq_true',decide_eq_false_iff_not]at hb;rw[if_pos (.inr hb),zz]at eR;rw[hb.1]at kq
         have kq:(A1f h.lex ks==1)=true:=by rw[hb.1];exact kq
         have hl1:((ks.length:Int) != 1)=true:=by rw[bne_iff_ne];omega
         refine A0a C ?_;simp -implicitDefEqProofs [i1,b3,K1,kq,K4,ln,hl1,A2h,bld5,ag5,z1,z2,eR]
        | false=>
         have hno:¬(x≠41\/h.lex=true/\ks.length≠1):=by
          rintro(e | ⟨e1,e2⟩)
          ·exact e hc
          ·rw[e1,decide_eq_false e2]at hb;cases hb
         rw[if_neg hno]at eR;have s1t:A3e (.t (.v (.string ⟨(x::r).toArray⟩))) (some (.t (iv 1))) none=some (.t (sv (bs r))):=B5y (x::r) (j:=1) (by simp);refine A0o (α:=Unit) (fun _=>SRk k1 h ⟨ks,x::r,e⟩) (fun _=>True) (fun _=>rfl) ?_ ?_
         ·refine A0c C ?_;by_cases hlx:h.lex=true
          ·have kq:(A1f h.lex ks==1)=true:=by rw[kq,hlx]
           rw[hlx,Bool.true_and]at hb
           have hk1:ks.length=1:=by simpa using hb
           have hl1:((ks.length:Int) != 1)=false:=by rw[hk1];rfl
           simp -implicitDefEqProofs [i1,b3,K1,kq,K4,ln,hl1];exact Abs.Next.mk () trivial (A0d (by simp -implicitDefEqProofs [SRk]))
          ·have kq:(A1f h.lex ks==1)=false:=by rw[kq];simpa using hlx
           simp -implicitDefEqProofs [i1,b3,K1,kq];exact Abs.Next.mk () trivial (A0d (by simp -implicitDefEqProofs [SRk]))
         rintro _ -
         have eR2:R = .tu [.ag [iv (A1f h.lex ks),sv (bs h.name),iv h.frm,iv h.to,A1g eD ks],sv (bs r),iv 0]:=by
          rw[eR,rdT,B9p]
         have r0:=A0p.head' eD 26 2 ks
         cases ks with
         | nil=>
          have w1:=fun R=>ktre5 (A1f h.lex []) (bs h.name) h.frm h.to R nilS;have w2:=fun R=>F7e (A1f h.lex []) (bs h.name) h.frm h.to R (kRow (A1f h.lex []) (bs h.name) h.frm h.to (.t nilS)) nilS;have w3:=fun R=>F7f (A1f h.lex []) (bs h.name) h.frm h.to R (kRow (A1f h.lex []) (bs h.name) h.frm h.to (.t nilS)) nilS;have eR2:R = .tu [.ag [iv (A1f h.lex []),sv (bs h.name),iv h.frm,iv h.to,nilS],sv (bs r),iv 0]:=eR2;refine A0c C ?_;simp -implicitDefEqProofs [SRk,rowP,rowH,w1,w2,w3,s1t,eR2]
         | cons y ys=>
          obtain⟨m,hm⟩:∃m,m=(y::ys).length:=⟨_,rfl⟩
          have erow:rowP eD 2 (y::ys) = .row 2 0 m 5:=by rw[hm];rfl
          obtain⟨K,hK⟩:∃K,K=A1f h.lex (y::ys):=⟨_,rfl⟩
          obtain⟨TT,hTT⟩:∃TT,TT=A1g eD (y::ys):=⟨_,rfl⟩
          obtain⟨T0,hT0⟩:∃T0,T0=rowH eD 26 2 (y::ys):=⟨_,rfl⟩
          have w1:=fun R=>krow5 K (bs h.name) h.frm h.to R 2 m;have w2:=fun R=>rst5 K (bs h.name) h.frm h.to R (kRow K (bs h.name) h.frm h.to (.row 2 0 m 5)) 2 m;have w3:=fun R=>rld5 K (bs h.name) h.frm h.to R (kRow K (bs h.name) h.frm h.to (.row 2 0 m 5)) 2 m
          have ht:toT ((1,kRow K (bs h.name) h.frm h.to (.row 2 0 m 5))::(0,kRow K (bs h.name) h.frm h.to (.row 2 0 m 5))::T0) (oneOf [.ag [.t (iv K),.t (sv (bs h.name)),.t (iv h.frm),.t (iv h.to),.row 2 0 m 5],.t (sv (bs r)),.t (iv 0)])=some (R,[2]):=by
           have h9:=((r0.cons (k:=0) (r:=kRow K (bs h.name) h.frm h.to (.row 2 0 m 5)) (by omega)).cons (k:=1) (r:=kRow K (bs h.name) h.frm h.to (.row 2 0 m 5)) (by omega)).toT;rw[erow,<-hTT,<-hT0]at h9;rw[<-hK,<-hTT]at eR2;rw[eR2];exact F4o h9 _ _ _ _ _ _
          refine A0c C ?_;simp -implicitDefEqProofs [SRk,erow,<-hK,<-hT0,w1,w2,w3,s1t,-oneOf,ht]
       ·rw[decide_eq_false hc,Bool.not_false]at b3;have b3:((x.toNat:Int) != 41)=true:=b3;rw[if_pos (.inl hc),zz]at eR;refine A0a C ?_;simp -implicitDefEqProofs [i1,b3,A2h,bld5,ag5,z1,z2,eR]
     ·have be:(e==0)=false:=by simpa using h0
      have be':(e != 0)=true:=by simpa using h0
      rw[if_pos h0,zz]at eR;refine A0a C ?_;simp -implicitDefEqProofs [SRk,be];refine A0a C ?_;simp -implicitDefEqProofs [be',A2h,bld5,ag5,z1,z2,eR]
  ·rw[decide_eq_false hc,Bool.not_false]at b1;have b1:((x.toNat:Int) != 40)=true:=b1
   have eR:R=rdT (A2c,l,8):=by rw[hR,hs];cases k<;>rw[A3q,if_neg hc]
   rw[zz]at eR;refine A0a A0x ?_;simp -implicitDefEqProofs [A2h];refine A0a A0x ?_;simp -implicitDefEqProofs [A3f,A3i,hnil];refine A0a A0x ?_;simp -implicitDefEqProofs [i1,b1,A2h,bld5,ag5,zst0,zld0,eR]
theorem D6b:∀k,k<=1000->GOK Tryz.prog (G q) 178 (gRd k)
 | k,hk=>fun args r hr=>by
  have hrec:∀k',k=k'+1->GOK Tryz.prog (G q) 178 (gRd k'):=fun k' e=>by
   subst e;exact D6b k' (by omega)
  unfold gRd at hr;split at hr
  ·split at hr
   ·rename_i s m h;obtain⟨rfl,h⟩:=h;injection hr with hr;subst hr;have:=D9p hrec s.data.toList hk h;rwa[A7x]at this
   ·cases hr
  ·cases hr
def parT (l:List UInt8):T:=match parD l with
 | .ok d=>.tu [.ag (encD d),iv 0]
 | .error e=>.tu [.ag (encD A2c),iv e]
theorem D6c {l:List UInt8} (h:65536<l.length):parT l = .tu [.ag (encD A2c),iv 7]:=by
 unfold parT parD;rw[if_pos h]
theorem E4m {l:List UInt8} (h:¬65536<l.length):parT l=(if(A3q 64 l).2.2=0 then(if(A3q 64 l).2.1=[]then .tu [.ag (encD (A3q 64 l).1),iv 0]else .tu [.ag (encD A2c),iv 8])else .tu [.ag (encD A2c),iv (A3q 64 l).2.2]):=by
 have hr:=C0o 64 l;unfold parT parD;rw[if_neg h];unfold RelE at hr
 cases hx:A2w 64 l with
 | error e=>
  rw[hx]at hr;obtain⟨h1,h2,h3⟩:=hr;simp only;rw[if_neg (by rw[h2];exact h3),h2]
 | ok x=>
  obtain⟨d,r⟩:=x;rw[hx]at hr;simp only at hr;rw[hr];simp only
  cases r with
  | nil=>rfl
  | cons c r=>rfl
theorem D3a (l:List UInt8) (hl:l.length<=2100000000000):A0w Tryz.prog (G q) 143 [sv (bs l)] (· = parT l):=by
 have C:Ctx Tryz.prog (G q) (orc [(178,gRd 64)]):=(A0y.cons (D6b 64 (by omega)) .nil).ctx mixed;refine D2q.call rfl ?_;unfold C0g
 obtain⟨R,hR⟩:∃R,R=parT l:=⟨_,rfl⟩
 rw[<-hR];refine A0a C ?_;simp -implicitDefEqProofs [A2h];by_cases hb:65536<l.length
 ·rw[D6c hb,encZ]at hR
  have hb':(65536:Int)<(l.length:Int):=by omega
  refine A0a C ?_;simp -implicitDefEqProofs [A0q,hb',hb,A2h,bld5,ag5,zst0,zld0,hR]
 ·rw[E4m hb,encZ]at hR
  have hb':¬(65536:Int)<(l.length:Int):=by omega
  refine A0a C ?_;simp -implicitDefEqProofs [A0q,hb',hb];have hg:gRd 64 [sv (bs l),iv 64]=some (rdT (A3q 64 l)):=F2k (k:=64) hl;unfold rdT at hg;generalize A3q 64 l=X at hg hR;obtain⟨d,rest,e⟩:=X;simp only at hg hR;have s1:∀R:Heap,A0t 5 ((1,zRow)::R) (.ptr 1 0) (.t (.ag (encD d)))=some ((1,.cells 26 ((encD d).map .t))::R):=fun R=>A7d 1 R d (IsD.enc d);have l1:∀R:Heap,A0g true 5 ((1,.cells 26 ((encD d).map .t))::R) (.ptr 1 0)=some (.t (.ag (encD d))):=fun R=>A9i 1 R d (IsD.enc d);refine A0a C ?_;simp -implicitDefEqProofs [hg,A2h,s1];have z1:∀X R,A0t 5 ((1,X)::(0,zRow)::R) (.ptr 0 0) (.t (.ag [iv 0,sv ⟨#[]⟩,iv 0,iv 0,nilS]))=some ((1,X)::(0,zRow)::R):=fun _ _=>rfl;have z2:∀X R,A0g true 5 ((1,X)::(0,zRow)::R) (.ptr 0 0)=some (.t (.ag [iv 0,sv ⟨#[]⟩,iv 0,iv 0,nilS])):=fun _ _=>rfl;by_cases h0:e=0
  ·have be:(e==0)=true:=by simpa using h0
   have be':(e != 0)=false:=by simpa using h0
   rw[if_pos h0]at hR
   cases hn:rest.isEmpty with
   | true=>
    have hn':rest=[]:=by simpa using hn
    rw[if_pos hn']at hR;refine A0a C ?_;simp -implicitDefEqProofs [be,A3f,A3i,hn];refine A0a C ?_;simp -implicitDefEqProofs [be']
    have s2:∀X R,A0t 5 ((1,X)::(0,zRow)::R) (.ptr 0 0) (.t (.ag (encD d)))=some ((1,X)::(0,.cells 26 ((encD d).map .t))::R):=fun X R=>by
     cases d;rw[encD];rfl
    have l2:∀X R,A0g true 5 ((1,X)::(0,.cells 26 ((encD d).map .t))::R) (.ptr 0 0)=some (.t (.ag (encD d))):=fun X R=>by
     cases d;rw[encD];rfl
    refine A0c C ?_;simp -implicitDefEqProofs [l1,s2,l2,hR]
   | false=>
    have hn':¬rest=[]:=by simpa using hn
    rw[if_neg hn']at hR;refine A0a C ?_;simp -implicitDefEqProofs [be,A3f,A3i,hn];refine A0a C ?_;simp -implicitDefEqProofs [A2h,bld5,ag5,z1,z2,hR]
  ·have be:(e==0)=false:=by simpa using h0
   have be':(e != 0)=true:=by simpa using h0
   rw[if_neg h0]at hR;refine A0a C ?_;simp -implicitDefEqProofs [be];refine A0a C ?_;simp -implicitDefEqProofs [be',A2h,bld5,ag5,z1,z2,hR]
noncomputable def gPar:List T->Option T:=gStr (fun s=>parT s.data.toList) 2100000000000
theorem hRPar:GOK Tryz.prog (G q) 143 gPar:=A9j fun s h=>by
 have:=D3a (q:=q) s.data.toList h;rwa[A7x]at this
theorem F4p {l:List UInt8} (h:l.length<=2100000000000):gPar [sv (bs l)]=some (parT l):=by
 have:=B5x (f:=fun s=>parT s.data.toList) (s:=bs l) (n:=2100000000000) (by rw[A0q];exact h);rwa[A5n]at this
end Go.Proofs.YtmplckgbeaifkaaGreatDoor
namespace Go.Abs
set_option linter.unusedSimpArgs false
set_option linter.unusedVariables false
open Go
def D9q (f:A0b->Option (Exit×A0b)):Nat->A0b->Option (Exit×A0b)
 | 0,_=>none
 | k+1,s=>match f s with
  | some (.normal,s')=>D9q f k s'
  | r=>r
def C5y:List (Nat×PV)->List Nat->List (Nat×PV)
 | [],_=>[]
 | (k,p)::r,seen=>if seen.contains k then C5y r seen else(k,p)::C5y r (k::seen)
theorem C0s:∀(l:List (Nat×PV)) (seen:List Nat) q,q∈C5y l seen->look l q.1=some q.2/\q.1∉seen
 | [],seen,q,h=>by simp[C5y]at h
 | (k,p)::r,seen,q,h=>by
  simp only[C5y]at h;split at h
  ·rename_i hk;obtain⟨h1,h2⟩:=C0s r seen q h;have:k≠q.1:=fun e=>h2 (by rw[<-e];simpa using hk);simp[this,h1,h2]
  ·rename_i hk;rcases List.mem_cons.1 h with rfl | h
   ·simpa using hk
   ·obtain⟨h1,h2⟩:=C0s r (k::seen) q h;simp only[List.mem_cons,not_or]at h2;have:k≠q.1:=fun e=>h2.1 e.symm;simp[this,h1,h2.2]
def F2l:PV->List Nat
 | .row b _ _ _=>[b]
 | _=>[]
def F4q (H:Heap):List Nat:=H.flatMap fun q=>match q.2 with
 | .cells _ cs=>cs.flatMap F2l
 | _=>[]
def F7g:MK->Bool
 | .call _=>true
 | _=>false
def F7h:List Nat:=[]
def given (m:Mini) (s:A0b):List Nat:=match m.k with
 | .call f=>if F7h.contains f then m.xs.flatMap (fun x=>F2l (x.ev s.env))else []
 | _=>[]
def preZ (m:Mini) (s:A0b):A0b:=if F7g m.k then(match F4q s.H++given m s with | []=>s | F=>s.frz F)else s
def runZ (Φ:A0v):List Mini->A0b->Option A0b
 | [],s=>some s
 | m::r,s=>match C1t Φ (preZ m s) m with
  | some s'=>runZ Φ r s'
  | none=>none
def eqV:Value->Value->Bool
 | .int k a,.int k' b=>decide (k=k')&&(a==b)
 | .bool a,.bool b=>a==b
 | .string a,.string b=>a.data.toList==b.data.toList
 | .slice none 0 0,.slice none 0 0=>true
 | _,_=>false
theorem F7i {a b:Value} (h:eqV a b=true):a=b:=by
 unfold eqV at h;split at h
 ·simp only[Bool.and_eq_true,decide_eq_true_eq,beq_iff_eq]at h;rw[h.1,h.2]
 ·simp at h;rw[h]
 ·rename_i a b;simp only[beq_iff_eq]at h
  have:a=b:=by
   cases a;cases b;congr;exact Array.toList_inj.1 h
  rw[this]
 ·rfl
 ·cases h
mutual
def eqT:T->T->Bool
 | .v a,.v b=>eqV a b
 | .sl n l,.sl m r=>(n==m)&&eqTs l r
 | .ag l,.ag r=>eqTs l r
 | .tu l,.tu r=>eqTs l r
 | _,_=>false
def eqTs:List T->List T->Bool
 | [],[]=>true
 | a::l,b::r=>eqT a b&&eqTs l r
 | _,_=>false
end
mutual
theorem F2m:∀(a b:T),eqT a b=true->a=b
 | .v a,.v b,h=>by simp only[eqT]at h;rw[F7i h]
 | .sl n l,.sl m r,h=>by
  simp only[eqT,Bool.and_eq_true,beq_iff_eq]at h;rw[h.1,C0t l r h.2]
 | .ag l,.ag r,h=>by simp only[eqT]at h;rw[C0t l r h]
 | .tu l,.tu r,h=>by simp only[eqT]at h;rw[C0t l r h]
 | .v _,.sl _ _,h=>by simp[eqT]at h
 | .v _,.ag _,h=>by simp[eqT]at h
 | .v _,.tu _,h=>by simp[eqT]at h
 | .v _,.pt _,h=>by simp[eqT]at h
 | .sl _ _,.v _,h=>by simp[eqT]at h
 | .sl _ _,.ag _,h=>by simp[eqT]at h
 | .sl _ _,.tu _,h=>by simp[eqT]at h
 | .sl _ _,.pt _,h=>by simp[eqT]at h
 | .ag _,.v _,h=>by simp[eqT]at h
 | .ag _,.sl _ _,h=>by simp[eqT]at h
 | .ag _,.tu _,h=>by simp[eqT]at h
 | .ag _,.pt _,h=>by simp[eqT]at h
 | .tu _,.v _,h=>by simp[eqT]at h
 | .tu _,.sl _ _,h=>by simp[eqT]at h
 | .tu _,.ag _,h=>by simp[eqT]at h
 | .tu _,.pt _,h=>by simp[eqT]at h
 | .pt _,_,h=>by simp[eqT]at h
theorem C0t:∀(a b:List T),eqTs a b=true->a=b
 | [],[],_=>rfl
 | a::l,b::r,h=>by
  simp only[eqTs,Bool.and_eq_true]at h;rw[F2m a b h.1,C0t l r h.2]
 | [],_::_,h=>by simp[eqTs]at h
 | _::_,[],h=>by simp[eqTs]at h
end
def eqP:PV->PV->Bool
 | .t x,.t y=>eqT x y
 | .row b o n z,.row b' o' n' z'=>b==b'&&o==o'&&n==n'&&z==z'
 | .ptr b o,.ptr b' o'=>b==b'&&o==o'
 | _,_=>false
theorem F7j (x y:PV) (h:eqP x y=true):x=y:=by
 unfold eqP at h;split at h
 ·rw[F2m _ _ h]
 ·simp at h;obtain⟨⟨⟨rfl,rfl⟩,rfl⟩,rfl⟩:=h;rfl
 ·simp at h;obtain⟨rfl,rfl⟩:=h;rfl
 ·cases h
def agnB (Φ:A0v) (pd:Pend) (H:Heap) (nx:Nat) (ks:List Nat):Bool:=ks.all fun i=>match look pd i with
 | some x=>(match A1z Φ H nx x.1 x.2.1 with
  | some v=>eqP v x.2.2
  | none=>false)
 | none=>false
theorem D9r {Φ:A0v} {pd:Pend} {H:Heap} {nx:Nat} {ks:List Nat} (h:agnB Φ pd H nx ks=true):agnP Φ pd H nx ks:=by
 intro i hi;have:=List.all_eq_true.1 h i hi;split at this
 ·rename_i x hx;split at this
  ·rename_i v hv;exact⟨x,hx,by rw[hv,F7j _ _ this]⟩
  ·cases this
 ·cases this
def runB (Φ:A0v) (k:Nat):Nat->Nat->Pend->List GI->A0b->Option A0b
 | _,_,_,[],s=>some s
 | n,b,pd,.o m kp ag::r,s=>match valD Φ s m with
  | some (v,H',nx')=>if agnB Φ pd H' nx' ag then runB Φ k (n+1) b (B2o kp n m s v pd) r (({ s with H:=H',nx:=nx' }:A0b).put m.dst v)else none
  | none=>none
 | n,b,pd,.g j m::r,s=>match A0e Φ s.H ((if j=0 then s.nx else b)+k+j) m.k (m.xs.map (·.ev s.env))with
  | some (v,H',_)=>runB Φ k (n+1) (if j=0 then s.nx else b) pd r (({ s with H:=H',nx:=(if j=0 then s.nx else b)+2*k }:A0b).put m.dst v)
  | none=>none
theorem B1y {Φ:A0v} {k:Nat}:∀(l:List GI) {n b:Nat} {pd:Pend} {s s':A0b},runB Φ k n b pd l s=some s'->runG Φ k n b pd l s=some s'
 | [],n,b,pd,s,s',h=>h
 | .o m kp ag::r,n,b,pd,s,s',h=>by
  simp only[runB]at h;simp only[runG];split at h
  ·rename_i hv;split at h
   ·rename_i ha;simp only[hv,if_pos (D9r ha)];exact B1y r h
   ·cases h
  ·cases h
 | .g j m::r,n,b,pd,s,s',h=>by
  simp only[runB]at h;simp only[runG];split at h
  ·rename_i hv;simp only[hv];exact B1y r h
  ·cases h
def runF (Φ:A0v) (k:Nat):A0i->A0b->Option (Exit×A0b)
 | .skip,s=>some (.normal,s)
 | .ops l,s=>match runZ Φ l s with
  | some s1=>some (.normal,s1)
  | none=>none
 | .draw l,s=>match runD Φ l s with
  | some s1=>some (.normal,s1)
  | none=>none
 | .drawG k l,s=>match runB Φ k 0 0 [] l s with
  | some s1=>some (.normal,s1)
  | none=>none
 | .seq a b,s=>match runF Φ k a s with
  | some (.normal,s1)=>runF Φ k b s1
  | r=>r
 | .cond c a b,s=>match c.ev s.env with
  | .t (.v (.bool t))=>bif t then runF Φ k a s else runF Φ k b s
  | _=>none
 | .block id b,s=>match runF Φ k b s with
  | some (.exit i,s1)=>if i=id then some (.normal,s1)else some (.exit i,s1)
  | r=>r
 | .loop b,s=>D9q (fun s=>match runF Φ k b { s with env:=C5y s.env [] }with
  | r=>r) k s
 | .exit id,s=>some (.exit id,s)
 | .ret,s=>some (.ret,s)
 | .scope b,s=>match runF Φ k b s with
  | some (.goto _,_)=>none
  | r=>r
section
variable {P : Program} {G : A0u} {B N : Nat} {Φ : A0v}
theorem F2n (m:Mini) (s:A0b):(preZ m s).n=s.n:=by
 unfold preZ;split
 ·split<;>rfl
 ·rfl
theorem F0g (m:Mini) (s:A0b):Sub P G B s (preZ m s):=by
 unfold preZ;split
 ·split
  ·exact Sub.refl s
  ·exact B9i _
 ·exact Sub.refl s
theorem F2o:∀{l:List Mini} {s s':A0b},runZ Φ l s=some s'->s'.n=s.n
 | [],s,s',h=>by simp only[runZ,Option.some.injEq]at h;rw[h]
 | m::r,s,s',h=>by
  simp only[runZ]at h;split at h
  ·rename_i s1 h1;rw[F2o h,E2n h1,F2n]
  ·cases h
theorem D3b {ops:Array Oper} {Q Q':Exit->Act->World->Prop} (hq:∀e a w,Q e a w->Q' e a w):∀(l:List Oper) (a:Act) (w:World),wpList P ops Q l a w->wpList P ops Q' l a w:=by
 intro l
 induction l with
 | nil=>intro a w2 h;exact hq _ _ _ h
 | cons o r ih=>
  intro a w2 h;unfold wpList at h ⊢;split
  ·rename_i hw;rw[if_pos hw]at h;rcases h with h | ⟨h1,a0,w0,h2⟩
   ·exact .inl (A1s ih hq h)
   ·exact .inr ⟨h1,a0,w0,hq _ _ _ h2⟩
  ·rename_i hw;rw[if_neg hw]at h;exact ih _ _ h
theorem AOps.sub {ops:Array Oper} {l:List Oper} {Q:A0b->Prop} {s s':A0b} (h:Sub P G B s s') (hc:AOps P G B ops l Q s'):AOps P G B ops l Q s:=fun L a w hi=>by
 obtain⟨L',hi',hx,hb⟩:=h L a w hi;exact D3b (fun _ _ _ hp=>Post.later hx hb hp) _ _ _ (hc L' a w hi')
theorem B6a (hΦ:Φ.Sound P G) {d:Bool} {ops:Array Oper} {Q:A0b->Prop}:∀(os:List Oper) {l:List Mini} {s s':A0b},A9b P G N d ops os l->s.n=N->runZ Φ l s=some s'->Q s'->AOps P G B ops os Q s
 | [],l,s,s',ha,hn,h,hq=>by
  simp only[A9b]at ha;subst ha;simp only[runZ,Option.some.injEq]at h;subst h;exact D4i hq
 | o::rest,l,s,s',ha,hn,h,hq=>by
  simp only[A9b]at ha;obtain⟨m,l',rfl,hm,hr⟩:=ha;obtain⟨hc,hdst,hd,hw⟩:=A4z hm;simp only[runZ]at h;refine AOps.sub (F0g m s) ?_;have hn:(preZ m s).n=N:=(F2n m s).trans hn;generalize preZ m s=s at h hn;split at h
  ·rename_i s1 h1;unfold C1t at h1;rw[<-hw s]at h1
   have hd':∀k,o.dst=some k->k<s.n:=fun k hk=>by rw[hn];exact hd k hk
   rw[hdst]at h1;split at h1
   ·rename_i hww;split at h1
    ·rename_i r H' nx' hv;injection h1 with h1;subst h1;exact C7g hww hd' (B0g hΦ hc hv) (B6a hΦ rest hr (by rw[B2m];exact hn) h hq)
    ·cases h1
   ·rename_i hww;injection h1 with h1;subst h1;exact C7h hww hd' (B6a hΦ rest hr (by rw[B2m];exact hn) h hq)
   ·cases h1
  ·cases h
theorem A8o (k:Nat):∀(M:A0i) {s:A0b} {e:Exit} {s':A0b},runF Φ k M s=some (e,s')->s'.n=s.n
 | .skip,s,e,s',h=>by simp only[runF,Option.some.injEq,Prod.mk.injEq]at h;rw[h.2]
 | .ops l,s,e,s',h=>by
  simp only[runF]at h;split at h
  ·rename_i s1 h1;simp only[Option.some.injEq,Prod.mk.injEq]at h;rw[<-h.2,F2o h1]
  ·cases h
 | .draw l,s,e,s',h=>by
  simp only[runF]at h;split at h
  ·rename_i s1 h1;simp only[Option.some.injEq,Prod.mk.injEq]at h;rw[<-h.2,E2o h1]
  ·cases h
 | .drawG k l,s,e,s',h=>by
  simp only[runF]at h;split at h
  ·rename_i s1 h1;simp only[Option.some.injEq,Prod.mk.injEq]at h;rw[<-h.2,D5c l (B1y l h1)]
  ·cases h
 | .seq a b,s,e,s',h=>by
  simp only[runF]at h;split at h
  ·rename_i s1 h1;rw[A8o k b h,A8o k a h1]
  ·exact A8o k a h
 | .cond c a b,s,e,s',h=>by
  simp only[runF]at h;split at h
  ·rename_i t ht;cases t
   ·exact A8o k b h
   ·exact A8o k a h
  ·cases h
 | .block id b,s,e,s',h=>by
  simp only[runF]at h;split at h
  ·rename_i i s1 h1;split at h
   ·simp only[Option.some.injEq,Prod.mk.injEq]at h;rw[<-h.2,A8o k b h1]
   ·simp only[Option.some.injEq,Prod.mk.injEq]at h;rw[<-h.2,A8o k b h1]
  ·exact A8o k b h
 | .loop b,s,e,s',h=>by
  simp only[runF]at h
  have:∀(m:Nat) (s:A0b),D9q (fun s=>runF Φ k b { s with env:=C5y s.env [] }) m s=some (e,s')->s'.n=s.n:=by
   intro m
   induction m with
   | zero=>intro s h;cases h
   | succ m ih=>
    intro s h;simp only[D9q]at h;split at h
    ·rename_i s1 h1;have:=A8o k b h1;rw[ih s1 h,this]
    ·have:=A8o k b h;exact this
  exact this k s h
 | .exit id,s,e,s',h=>by simp only[runF,Option.some.injEq,Prod.mk.injEq]at h;rw[h.2]
 | .ret,s,e,s',h=>by simp only[runF,Option.some.injEq,Prod.mk.injEq]at h;rw[h.2]
 | .scope b,s,e,s',h=>by
  simp only[runF]at h;split at h
  ·cases h
  ·exact A8o k b h
theorem E4n {s:A0b} (hu:True):Sub P G B s { s with env:=C5y s.env [] }:=by
 intro L a w hi;exact⟨L,⟨hi.heap,hi.nx,hi.base,hi.size,hi.defers,fun k p h=>hi.env k p (C0s _ _ _ (A0n h)).1⟩,Ext.refl _ _ _,fun _ _=>rfl⟩
theorem A5o (hΦ:Ctx P G Φ) (k:Nat):∀(M:A0i) {Q:Exit->A0b->Prop} {s:A0b} {e:Exit} {s':A0b},runF Φ k M s=some (e,s')->Q e s'->MC P G B N M Q s
 | .skip,Q,s,e,s',h,hq=>A5y hΦ .skip h hq
 | .ops l,Q,s,e,s',h,hq=>by
  simp only[runF]at h;split at h
  ·rename_i s1 h1;simp only[Option.some.injEq,Prod.mk.injEq]at h;obtain⟨rfl,rfl⟩:=h;intro c hc hn;obtain⟨id,ops,rfl,hl⟩:=A1r hc;exact B6k (B6a hΦ.sound _ (A3z hl) hn h1 hq)
  ·cases h
 | .draw l,Q,s,e,s',h,hq=>A5y hΦ (.draw l) h hq
 | .drawG k l,Q,s,e,s',h,hq=>by
  simp only[runF]at h;split at h
  ·rename_i s1 h1;exact A5y hΦ (.drawG k l) (by simp only[runM,B1y l h1];exact h) hq
  ·cases h
 | .seq a b,Q,s,e,s',h,hq=>by
  intro c hc hn;refine A3m ?_ c hc hn;simp only[runF]at h;split at h
  ·rename_i s1 h1;exact A5o hΦ k a h1 ⟨(A8o k a h1).trans hn,A5o hΦ k b h hq⟩
  ·rename_i hne;refine A5o hΦ k a h ?_;cases e
   case normal=>exact absurd h (hne s')
   all_goals exact hq
 | .cond c a b,Q,s,e,s',h,hq=>by
  simp only[runF]at h;split at h
  ·rename_i t ht;refine B2r ht ?_;cases t
   ·exact A5o hΦ k b h hq
   ·exact A5o hΦ k a h hq
  ·cases h
 | .block id b,Q,s,e,s',h,hq=>by
  refine A0f ?_;simp only[runF]at h;split at h
  ·rename_i i s1 h1;refine A5o hΦ k b h1 ?_;simp only[inBlock_exit];split at h
   ·rename_i hid;rw[if_pos hid];simp only[Option.some.injEq,Prod.mk.injEq]at h;obtain⟨rfl,rfl⟩:=h;exact hq
   ·rename_i hid;rw[if_neg hid];simp only[Option.some.injEq,Prod.mk.injEq]at h;obtain⟨rfl,rfl⟩:=h;exact hq
  ·rename_i hne;refine A5o hΦ k b h ?_;cases e
   case exit i=>exact absurd h (hne i s')
   all_goals exact hq
 | .loop b,Q,s,e,s',h,hq=>by
  simp only[runF]at h;intro c hc hn;refine D1w (fun m s=>s.n=N/\D9q (fun s=>runF Φ k b { s with env:=C5y s.env [] }) m s=some (e,s')) k ⟨hn,h⟩ (fun _ _ h=>h.1) ?_ c hc hn;rintro m s ⟨hsn,hm⟩
  cases m with
  | zero=>cases hm
  | succ m=>
   refine MC.sub (E4n trivial) rfl ?_;simp only[D9q]at hm;split at hm
   ·rename_i s1 h1;exact A5o hΦ k b h1 ⟨m,by omega,s1,Sub.refl s1,(A8o k b h1).trans hsn,hm⟩
   ·rename_i hne;refine A5o hΦ k b hm ?_;cases e
    case normal=>exact absurd hm (hne s')
    all_goals exact hq
 | .exit id,Q,s,e,s',h,hq=>A5y hΦ (.exit id) h hq
 | .ret,Q,s,e,s',h,hq=>A5y hΦ .ret h hq
 | .scope b,Q,s,e,s',h,hq=>by
  refine B8f ?_;simp only[runF]at h;split at h
  ·cases h
  ·rename_i hne;refine A5o hΦ k b h ?_;cases e
   case goto l=>exact absurd h (hne l s')
   all_goals exact hq
structure FnM where
 k:Nat
 N:Nat
 M:A0i
 vs:List RV
def endZ (s:A0b):A0b:=match F4q s.H with | []=>s | F=>s.frz F
def resT (vs:List RV) (s:A0b):Option T:=match resM s vs with
 | some ps=>match toT s.H (oneOf ps)with
  | some (r,_)=>some r
  | none=>none
 | none=>none
def callNT (tab:List (Nat×FnM)) (rounds:Nat) (Φ:A0v) (f:FuncId) (args:List T):Option T:=
 match look tab f with
 | some fm=>if args.length=fm.k then
   (match runF Φ rounds fm.M (startM fm.N args)with
   | some (.ret,s)=>resT fm.vs (endZ s)
   | _=>none)
  else none
 | none=>none
def C5z (nx:Nat) (H:Heap):Bool:=H.all fun q=>decide (q.1<nx)
def E4o (tab:List (Nat×FnM)) (rounds:Nat) (Φ:A0v) (f:FuncId) (ps:List PV) (H:Heap) (nx:Nat):Option (PV×Heap×Nat):=
 match look tab f with
 | some fm=>if ps.length=fm.k then
   (match runF Φ rounds fm.M ⟨startsP 0 ps,H,nx,fm.N⟩with
   | some (.normal,s)=>match resM s fm.vs with
    | some rs=>if C5z s.nx s.H then some (oneOf rs,s.H,s.nx)else none
    | none=>none
   | some (.ret,s)=>match resM s fm.vs with
    | some rs=>if C5z s.nx s.H then some (oneOf rs,s.H,s.nx)else none
    | none=>none
   | _=>none)
  else none
 | none=>none
def E4p (P:Program) (G:A0u) (tab:List (Nat×FnM)):Prop:=∀q∈tab,FnOK P G q.1 q.2.k q.2.N q.2.M q.2.vs
theorem D6d {nx:Nat} {H:Heap} (h:C5z nx H=true) (b:Nat) (x:Row) (hb:look H b=some x):b<nx:=by
 have:=List.all_eq_true.1 h _ (A0n hb);simpa using this
theorem B7h (hm:P.follows .mixedOrders=true) {tab:List (Nat×FnM)} (ht:E4p P G tab) (rounds:Nat) (hΦ:Φ.Sound P G) (f:FuncId) (ps:List PV) (H:Heap) (nx:Nat) (r:PV) (H':Heap) (nx':Nat)
  (h:E4o tab rounds Φ f ps H nx=some (r,H',nx')):A2g P G f ps H nx r H' nx'/\∀b x,look H' b=some x->b<nx':=by
 unfold E4o at h;split at h
 ·rename_i fm hf;split at h
  ·rename_i hk;split at h
   ·rename_i s hr;split at h
    ·rename_i rs hps;split at h
     ·rename_i ha;injection h with h;injection h with h1 h2;injection h2 with h2 h3;subst h1;subst h2;subst h3;exact⟨(ht _ (A0n hf)).callP hk (A5o ⟨hm,hΦ⟩ rounds fm.M hr ⟨.inl rfl,s,rs,Sub.refl s,hps,rfl,rfl,rfl⟩),D6d ha⟩
     ·cases h
    ·cases h
   ·rename_i s hr;split at h
    ·rename_i rs hps;split at h
     ·rename_i ha;injection h with h;injection h with h1 h2;injection h2 with h2 h3;subst h1;subst h2;subst h3;exact⟨(ht _ (A0n hf)).callP hk (A5o ⟨hm,hΦ⟩ rounds fm.M hr ⟨.inr rfl,s,rs,Sub.refl s,hps,rfl,rfl,rfl⟩),D6d ha⟩
     ·cases h
    ·cases h
   ·cases h
  ·cases h
 ·cases h
end
abbrev Memo:=List (Nat×List T×T)
def Memo.get (m:Memo) (f:Nat) (args:List T):Option T:=match m with
 | []=>none
 | (g,as',r)::rest=>if g=f then(if eqTs as' args then some r else Memo.get rest f args)else Memo.get rest f args
def B4p (P:Program) (G:A0u) (m:Memo):Prop:=∀q∈m,A0w P G q.1 q.2.1 (· = q.2.2)
theorem B4p.nil {P:Program} {G:A0u}:B4p P G []:=fun _ h=>by cases h
theorem B4p.cons {P:Program} {G:A0u} {m:Memo} {f:Nat} {as':List T} {r:T} (h:A0w P G f as' (· = r)) (hm:B4p P G m):B4p P G ((f,as',r)::m):=fun q hq=>by
 rcases List.mem_cons.1 hq with rfl | hq
 ·exact h
 ·exact hm q hq
theorem Memo.get_sound {P:Program} {G:A0u}:∀{m:Memo} {f:Nat} {args:List T} {r:T},B4p P G m->m.get f args=some r->A0w P G f args (· = r)
 | [],f,args,r,_,h=>by cases h
 | (g,as',r0)::rest,f,args,r,hm,h=>by
  have hr:B4p P G rest:=fun q hq=>hm q (List.mem_cons_of_mem _ hq);simp only[Memo.get]at h;split at h
  ·rename_i hg;split at h
   ·rename_i ha;injection h with h;subst h;subst hg;rw[<-C0t _ _ ha];exact hm (g,as',r0) List.mem_cons_self
   ·exact Memo.get_sound hr h
  ·exact Memo.get_sound hr h
abbrev A2q:=List PanicEntry
def B6b (P:Program) (G:A0u) (f:FuncId) (ps:List PV) (H:Heap) (nx:Nat) (ch:A2q) (H':Heap):Prop:=
 IsFn P f/\∀(L:Loc) (w:World) (us:Array Value),A1l P G L H w->L.nx=nx->A0r P L w ps us.toList ->
  Calls P f us w fun e w'=>∃L',e = .panicked ch/\A1l P G L' H' w'/\L'.nx=nx/\Mono L w L' w'/\Ext L H w L' H' w'
inductive Out where
 | ret (r:PV) (H:Heap) (nx:Nat)
 | pan (ch:A2q)
def F0h (P:Program) (G:A0u) (f:FuncId) (ps:List PV) (H:Heap) (nx:Nat):Out->Prop
 | .ret r H' nx'=>A2g P G f ps H nx r H' nx'
 | .pan ch=>B6b P G f ps H nx ch []
abbrev Pans:=FuncId->List PV->Heap->Nat->Option A2q
def POK (P:Program) (G:A0u) (E:Pans):Prop:=∀f ps H nx ch,E f ps H nx=some ch->B6b P G f ps H nx ch []
def B3c:List PV->Option A2q
 | [.t (.ic t (.v x))]=>some [{ v:=.iface t x,recovered:=false }]
 | [.t (.ic t (.ag [.v x]))]=>some [{ v:=.iface t (.agg #[x]),recovered:=false }]
 | _=>none
def panK (E:Pans) (H:Heap) (nx:Nat) (k:MK) (ps:List PV):Option A2q:=
 match k with
 | .hcall f=>E f ps H nx
 | .hx .pan=>B3c ps
 | _=>none
def D3c (x:Option A2q) (X:A2q->Prop) (C:Prop):Prop:=
 match x with
 | some ch=>X ch
 | none=>C
@[simp] theorem onPan_some (ch:A2q) (X:A2q->Prop) (C:Prop):D3c (some ch) X C=X ch:=rfl
@[simp] theorem onPan_none (X:A2q->Prop) (C:Prop):D3c none X C=C:=rfl
def A2n (Φ:A0v) (E:Pans):List Mini->A0b->(A0b->Prop)->(A2q->Prop)->Prop
 | [],s,K,_=>K s
 | m::r,s,K,X=>B9j (m.wants s.env)
   (D3c (panK E s.H s.nx m.k (m.xs.map (·.ev s.env))) X (A1t (A0e Φ s.H s.nx m.k (m.xs.map (·.ev s.env))) fun q=>A2n Φ E r (s.set m.dst q) K X))
   (A2n Φ E r (s.set m.dst (.t (.v undef),s.H,s.nx)) K X)
def anyP (Q:Exit->A0b->Prop) (ch:A2q):Prop:=∀s,Q (.panic ch) s
def A5e (Φ:A0v) (E:Pans):A0i->A0b->(Exit->A0b->Prop)->Prop
 | .skip,s,Q=>Q .normal s
 | .ops l,s,Q=>A2n Φ E l s (Q .normal) (anyP Q)
 | .draw l,s,Q=>A5a Φ l s (Q .normal)
 | .drawG k l,s,Q=>A7w Φ k 0 0 [] l s (Q .normal)
 | .seq a b,s,Q=>A5e Φ E a s (A5u (fun s1=>A5e Φ E b s1 Q) Q)
 | .cond c a b,s,Q=>C2x (c.ev s.env) (A5e Φ E a s Q) (A5e Φ E b s Q)
 | .block id b,s,Q=>A5e Φ E b s (A6d id Q)
 | .loop _,_,_=>False
 | .exit id,s,Q=>Q (.exit id) s
 | .ret,s,Q=>Q .ret s
 | .scope b,s,Q=>A5e Φ E b s (B3z Q)
section
variable {P : Program} {G : A0u} {B N : Nat} {Φ : A0v} {E : Pans} {Q : Exit -> A0b -> Prop} {s : A0b}
def APan (P:Program) (G:A0u) (B:Nat) (o:Oper) (s:A0b) (ch:A2q):Prop:=
 ∀L a w,Interp P G B L s a w->o.wp P a w (fun _ _=>False) (fun e a' w'=>e = .panic ch/\a'=a/\∃L',A1l P G L' [] w'/\L'.nx=s.nx/\Mono L w L' w'/\Ext L s.H w L' [] w')
theorem B1b {L:Loc} {H:Heap} {w:World} (h:A1l P G L H w):A1l P G L [] w/\Ext L H w L [] w:=
 ⟨⟨h.lt,fun _ _ hb=>(by cases hb),fun _ _ hb=>(by cases hb),fun _ _ _ _ hb=>(by cases hb),fun _ _ hb=>(by cases hb),h.glob⟩,
  ⟨Nat.le_refl _,fun _ _ _=>rfl,fun _ h=>h,fun _ h=>.inl h,fun _ ⟨_,_,hb,_⟩=>(by cases hb),A2d.refl w,A1v.refl w⟩⟩
theorem E4q {o:Oper} {f:FuncId} {args:Array Operand} {ts:Array TypeId} {ch:A2q} (ho:o.op = .call ⟨.value (.func f),args,ts⟩) (hc:B6b P G f (args.toList.map (s.ev G)) s.H s.nx ch []):APan P G B o s ch:=fun L a w hi=>by
 unfold Oper.wp
 have hr:(execOp a.eval o).run P w = .ok (.enter f (args.map a.eval)) w:=by simp[execOp,ho,resolve,Act.eval,Deferred.ofValue,invoke,hc.1.run]
 rw[hr,Oper.upon_enter];refine(hc.2 L w _ hi.heap hi.nx (B8d hi args)).mono ?_;rintro e w' ⟨L',rfl,h1,h2,h3,h4⟩;exact⟨rfl,rfl,L',h1,h2,h3,h4⟩
theorem F0i {o:Oper} {x:Operand} {ch:A2q} (ho:o.op = .panic x) (hc:B3c [s.ev G x]=some ch):APan P G B o s ch:=fun L a w hi=>by
 have h:=hi.ev x;generalize s.ev G x=p at h hc;unfold B3c at hc;split at hc
 ·rename_i t v e;injection e with e e2;subst e;injection hc with hc;subst hc;simp only[RepV,RepT]at h;obtain⟨y,hy,rfl⟩:=h;unfold Oper.wp
  have hr:(execOp a.eval o).run P w = .halt (.panic (.iface t y)) w:=by
   simp[execOp,ho,hy,Instr.panic,goPanic]
  rw[hr];exact⟨rfl,rfl,L,(B1b hi.heap).1,hi.nx,Mono.refl L w,(B1b hi.heap).2⟩
 ·rename_i t v e;injection e with e e2;subst e;injection hc with hc;subst hc;simp only[RepV,RepT,RepL]at h;obtain⟨y,hy,us,rfl,_,x,xs,e1,rfl,rfl⟩:=h;have e3:us = #[x]:=Array.ext' e1;subst e3;unfold Oper.wp
  have hr:(execOp a.eval o).run P w = .halt (.panic (.iface t (.agg #[x]))) w:=by
   simp[execOp,ho,hy,Instr.panic,goPanic]
  rw[hr];exact⟨rfl,rfl,L,(B1b hi.heap).1,hi.nx,Mono.refl L w,(B1b hi.heap).2⟩
 ·cases hc
def D3d (P:Program) (G:A0u) (B:Nat) (ops:Array Oper) (l:List Oper) (Q:Exit->A0b->Prop) (s:A0b):Prop:=
 ∀L a w,Interp P G B L s a w->wpList P ops (Post P G B Q L s.H w) l a w
theorem C9u {ops:Array Oper} {L L':Loc} {H H':Heap} {w w':World} (hq:∀e a w2,Post P G B Q L' H' w' e a w2->Post P G B Q L H w e a w2):∀(l:List Oper) (a:Act) (w2:World),wpList P ops (Post P G B Q L' H' w') l a w2->wpList P ops (Post P G B Q L H w) l a w2:=by
 intro l
 induction l with
 | nil=>intro a w2 h;exact hq _ _ _ h
 | cons o l ih=>
  intro a w2 h;unfold wpList at h ⊢;split
  ·rename_i hw;rw[if_pos hw]at h;rcases h with h | ⟨h1,a0,w0,h2⟩
   ·exact .inl (A1s ih hq h)
   ·exact .inr ⟨h1,a0,w0,hq _ _ _ h2⟩
  ·rename_i hw;rw[if_neg hw]at h;exact ih _ _ h
theorem D9s {ops:Array Oper} {o:Oper} {rest:List Oper} {r:PV} {H':Heap} {nx':Nat} (hw:s.wants ops o=some true) (hd:∀k,o.dst=some k->k<s.n)
  (ho:AOp P G B o s r H' nx') (h:D3d P G B ops rest Q (({ s with H:=H',nx:=nx' }:A0b).put o.dst r)):D3d P G B ops (o::rest) Q s:=fun L a w hi=>by
 unfold wpList;rw[if_pos (hi.wants hw)];refine .inl (A1s ?_ (fun _ _ _ h=>h.elim) (ho L a w hi));rintro a' w' ⟨v,L',rfl,hr,hok,rfl,hm,hx⟩;have hp:=h L' _ w' (B1o hi hd hr hok hm);rw[B0b]at hp;refine C9u ?_ _ _ _ hp;rintro e a w2 ⟨s2,L2,q,hi2,hx2,hb2⟩;exact⟨s2,L2,q,hi2,hx.trans hx2,fun b hb=>(hb2 b hb).trans (hm.μ b (Nat.lt_of_lt_of_le hb hi.base))⟩
theorem D9t {ops:Array Oper} {o:Oper} {rest:List Oper} (hw:s.wants ops o=some false) (hd:∀k,o.dst=some k->k<s.n)
  (h:D3d P G B ops rest Q (s.put o.dst (.t (.v undef)))):D3d P G B ops (o::rest) Q s:=fun L a w hi=>by
 unfold wpList;rw[if_neg (by rw[hi.wants hw];simp)];have hi':=B1o hi (r:=.t (.v undef)) (v:=undef) hd (by simp only[RepV,RepT]) hi.heap (Mono.refl L w)
 have e:({ s with H:=s.H,nx:=L.nx }:A0b)=s:=by rw[hi.nx]
 rw[e]at hi';have:=h L _ w hi';rw[B0b]at this;exact this
theorem F0j {L L':Loc} {a:Act} {w w':World} {ch:A2q} (hi:Interp P G B L s a w) (h1:A1l P G L' [] w') (h2:L'.nx=s.nx) (h3:Mono L w L' w') (h4:Ext L s.H w L' [] w') (hx:anyP Q ch):Post P G B Q L s.H w (.panic ch) a w':=
 ⟨⟨[],[],L'.nx,s.n⟩,L',hx _,⟨h1,rfl,by rw[h2,<-hi.nx];exact hi.base,hi.size,hi.defers,fun k p hl=>by cases hl⟩,h4,fun b hb=>h3.μ b (Nat.lt_of_lt_of_le hb hi.base)⟩
theorem E4r {ops:Array Oper} {o:Oper} {rest:List Oper} {ch:A2q} (hw:s.wants ops o=some true) (ho:APan P G B o s ch) (hx:anyP Q ch):D3d P G B ops (o::rest) Q s:=fun L a w hi=>by
 unfold wpList;rw[if_pos (hi.wants hw)];refine .inl (A1s (fun _ _ h=>h.elim) ?_ (ho L a w hi));rintro e a' w' ⟨rfl,rfl,L',h1,h2,h3,h4⟩;exact F0j hi h1 h2 h3 h4 hx
theorem C6a {id:Nat} {ops:Array Oper} (h:D3d P G B ops ops.toList Q s):A5g P G B (.region id ops false) Q s:=fun L a w hi=>
 wp_region_list (h L a w hi)
theorem F4r {d:Bool} {o:Op} {k:MK} {xs:List Opd} (hc:opK P G d o=(k,xs)) {H:Heap} {nx:Nat} {ps:List PV} {ch:A2q} (hp:panK E H nx k ps=some ch) :
  (∃f args ts,o = .call ⟨.value (.func f),args,ts⟩/\k = .hcall f/\xs=args.toList.map (A0j G))\/(∃x,o = .panic x/\k = .hx .pan/\xs=[A0j G x]):=by
 unfold opK at hc;split at hc
 ·rename_i q hq;subst hc;unfold extK at hq;split at hq
  all_goals (first
   | (injection hq with hq;injection hq with e1 e2;subst e1;subst e2;exact .inr ⟨_,rfl,rfl,rfl⟩)
   | (obtain⟨ks,_,e⟩:=Option.map_eq_some_iff.1 hq;injection e with e1 e2;subst e1;cases hp;done)
   | (split at hq<;>(first | (cases hq;done) | (obtain⟨ks,_,e⟩:=Option.map_eq_some_iff.1 hq;injection e with e1 e2;subst e1;cases hp;done) | (injection hq with hq;injection hq with e1 e2;subst e1;cases hp;done) | (split at hq<;>(first | (cases hq;done) | (injection hq with hq;injection hq with e1 e2;subst e1;cases hp;done))));done)
   | (injection hq with hq;injection hq with e1 e2;subst e1;cases hp;done)
   | (cases hq;done))
 ·split at hc
  ·split at hc
   ·injection hc with e1 e2;subst e1;cases hp
   ·injection hc with e1 e2;subst e1;cases hp
  ·split at hc
   ·rename_i q hq;subst hc;unfold D4y at hq;split at hq
    all_goals (first
     | (
       split at hq
       ·injection hq with hq;injection hq with e1 e2;subst e1;subst e2;exact .inl ⟨_,_,_,rfl,rfl,rfl⟩
       ·injection hq with hq;injection hq with e1 e2;subst e1;cases hp)
     | (injection hq with hq;injection hq with e1 e2;subst e1;cases hp;done)
     | (obtain⟨ks,_,e⟩:=Option.map_eq_some_iff.1 hq;injection e with e1 e2;subst e1;cases hp;done)
     | (cases hq;done)
     | skip)
    all_goals repeat' (first
     | (cases hq;done)
     | (injection hq with hq;injection hq with e1 e2;subst e1;cases hp;done)
     | (obtain⟨ks,_,e⟩:=Option.map_eq_some_iff.1 hq;injection e with e1 e2;subst e1;cases hp;done)
     | split at hq)
   ·injection hc with e1 e2;subst e1;cases hp
theorem D6e (hE:POK P G E) {d:Bool} {o:Oper} {k:MK} {xs:List Opd} {ch:A2q} (hc:opK P G d o.op=(k,xs)) (hp:panK E s.H s.nx k (xs.map (·.ev s.env))=some ch):APan P G B o s ch:=by
 rcases F4r hc hp with⟨f,args,ts,ho,rfl,rfl⟩ | ⟨x,ho,rfl,rfl⟩
 ·refine E4q ho (hE _ _ _ _ _ ?_)
  have:(args.toList.map (A0j G)).map (·.ev s.env)=args.toList.map (s.ev G):=by
   rw[List.map_map];exact List.map_congr_left fun x _=>A5l G s x
  rw[this]at hp;exact hp
 ·refine F0i ho ?_;simp only[List.map_cons,List.map_nil,A5l]at hp;exact hp
theorem B1c (hΦ:Φ.Sound P G) (hE:POK P G E) {ops:Array Oper}:∀(os:List Oper) {l:List Mini} {s:A0b},A9b P G N false ops os l->s.n=N->A2n Φ E l s (Q .normal) (anyP Q)->D3d P G B ops os Q s
 | [],l,s,ha,hn,h=>by
  simp only[A9b]at ha;subst ha;exact fun L a w hi=>A8b hi h
 | o::rest,l,s,ha,hn,h=>by
  simp only[A9b]at ha;obtain⟨m,l',rfl,hm,hr⟩:=ha;obtain⟨hc,hdst,hd,hw⟩:=A4z hm
  have hd':∀k,o.dst=some k->k<s.n:=fun k hk=>by rw[hn];exact hd k hk
  simp only[A2n]at h;rw[<-hw s,hdst]at h
  cases hww:s.wants ops o with
  | none=>rw[hww]at h;exact h.elim
  | some b=>
   rw[hww]at h
   cases b with
   | false=>
    simp only[onWants_false,B0m]at h;exact D9t hww hd' (B1c hΦ hE rest hr (by rw[B2m];exact hn) h)
   | true=>
    simp only[onWants_true]at h
    cases hp:panK E s.H s.nx m.k (m.xs.map (·.ev s.env))with
    | some ch=>
     rw[hp]at h;exact E4r hww (D6e hE hc hp) h
    | none=>
     rw[hp,onPan_none]at h;obtain⟨⟨r,H',nx'⟩,hv,hk⟩:=A2j h;rw[B0m]at hk;exact D9s hww hd' (B0g hΦ hc hv) (B1c hΦ hE rest hr (by rw[B2m];exact hn) hk)
def F4s (n:Nat) (e:Exit) (s:A0b):Prop:=(∀ch,e ≠ .panic ch)->s.n=n
theorem D6f:∀{l:List Mini} {s:A0b} {K:A0b->Prop} {X:A2q->Prop},A2n Φ E l s K X->A2n Φ E l s (fun s'=>K s'/\s'.n=s.n) X
 | [],s,K,X,h=>⟨h,rfl⟩
 | m::r,s,K,X,h=>by
  have key:∀q:PV×Heap×Nat,A2n Φ E r (s.set m.dst q) K X->A2n Φ E r (s.set m.dst q) (fun s'=>K s'/\s'.n=s.n) X:=by
   intro q hq;have:=D6f hq
   have e:(s.set m.dst q).n=s.n:=by unfold A0b.set;cases m.dst<;>rfl
   rw[e]at this;exact this
  simp only[A2n]at h ⊢
  cases hw:m.wants s.env with
  | none=>rw[hw]at h;exact h.elim
  | some b=>
   rw[hw]at h
   cases b with
   | false=>exact key _ h
   | true=>
    simp only[onWants_true]at h ⊢
    cases hp:panK E s.H s.nx m.k (m.xs.map (·.ev s.env))with
    | some ch=>rw[hp]at h;exact h
    | none=>
     rw[hp,onPan_none]at h;rw[onPan_none];obtain⟨q,hv,hk⟩:=A2j h;rw[hv];exact key _ hk
theorem A7q (hΦ:Ctx P G Φ) (hE:POK P G E):∀(M:A0i) {Q:Exit->A0b->Prop} {s:A0b},A5e Φ E M s Q->s.n=N->MC P G B N M (fun e s'=>Q e s'/\F4s N e s') s
 | .skip,Q,s,h,hn=>fun c hc _=>by
  rcases A1r hc with rfl | ⟨l,rfl⟩
  ·exact C2g ⟨h,fun _=>hn⟩
  ·exact B8w ⟨h,fun _=>hn⟩
 | .ops l,Q,s,h,hn=>fun c hc _=>by
  obtain⟨id,ops,rfl,ho⟩:=A1r hc;refine C6a (B1c hΦ.sound hE _ (A3z ho) hn ?_);have h2:=D6f h
  have e1:(fun s':A0b=>Q .normal s'/\F4s N .normal s')=fun s'=>Q .normal s'/\s'.n=s.n:=by
   funext s';refine propext ⟨fun h=>⟨h.1,by rw[hn];exact h.2 (fun _ h=>by cases h)⟩,fun h=>⟨h.1,fun _=>by rw[<-hn];exact h.2⟩⟩
  have e2:anyP (fun e s'=>Q e s'/\F4s N e s')=anyP Q:=by
   funext ch;refine propext ⟨fun h s=>(h s).1,fun h s=>⟨h s,fun hh=>absurd rfl (hh ch)⟩⟩
  rw[e1,e2];exact h2
 | .draw l,Q,s,h,hn=>by
  obtain⟨e,s',h1,h2⟩:=A4d (Φ:=Φ) (.draw l) (Q:=Q) h;exact A5y hΦ _ h1 ⟨h2,fun _=>(A8f _ h1).trans hn⟩
 | .drawG k l,Q,s,h,hn=>by
  obtain⟨e,s',h1,h2⟩:=A4d (Φ:=Φ) (.drawG k l) (Q:=Q) h;exact A5y hΦ _ h1 ⟨h2,fun _=>(A8f _ h1).trans hn⟩
 | .seq a b,Q,s,h,hn=>by
  refine A3m ((A7q hΦ hE a h hn).mono fun e s1 q=>?_);cases e
  case normal=>
   have hs:s1.n=N:=q.2 fun _ h=>by cases h
   exact⟨hs,A7q hΦ hE b q.1 hs⟩
  all_goals exact q
 | .cond c a b,Q,s,h,hn=>by
  simp only[A5e]at h;unfold C2x at h;split at h
  ·rename_i hc;exact B2r (t:=true) hc (A7q hΦ hE a h hn)
  ·rename_i hc;exact B2r (t:=false) hc (A7q hΦ hE b h hn)
  ·exact h.elim
 | .block id b,Q,s,h,hn=>by
  refine A0f ((A7q hΦ hE b h hn).mono fun e s1 q=>?_);cases e
  case exit i=>
   have hs:s1.n=N:=q.2 fun _ h=>by cases h
   have q1:=q.1;simp only[inBlock_exit]at q1 ⊢;split at q1
   ·rename_i hi;rw[if_pos hi];exact⟨q1,fun _=>hs⟩
   ·rename_i hi;rw[if_neg hi];exact⟨q1,fun _=>hs⟩
  all_goals exact q
 | .loop _,Q,s,h,_=>h.elim
 | .exit id,Q,s,h,hn=>fun c hc _=>by
  have:=A1r hc;simp only at this;subst this;exact C2h ⟨h,fun _=>hn⟩
 | .ret,Q,s,h,hn=>fun c hc _=>by
  have:=A1r hc;simp only at this;subst this;exact C7f ⟨h,fun _=>hn⟩
 | .scope b,Q,s,h,hn=>by
  refine B8f ((A7q hΦ hE b h hn).mono fun e s1 q=>?_);cases e
  case goto l=>exact q.1
  all_goals exact q
def F7k (P:Program) (G:A0u) (B:Nat) (vs:List RV) (o:Out) (e:Exit) (s:A0b):Prop:=
 match o with
 | .ret r H nx=>E9i P G B vs (fun r0 H0 nx0=>r0=r/\H0=H/\nx0=nx) e s
 | .pan ch=>e = .panic ch
theorem F7l {f:FuncId} {fn:Func} {c:Code} {M:A0i} {ps:List PV} {H:Heap} {nx:Nat} {ch:A2q} (hf:P.funcs[f]?=some fn) (hb:fn.body=some c) (hname:(fn.name == "runtime.NumGoroutine")=false)
  (hc:comp P G N c=some M) (hN:ps.length+(fn.ntmps-ps.length)=N)
  (h:MC P G nx N M (fun e _=>e = .panic ch) ⟨startsP 0 ps,H,nx,N⟩):B6b P G f ps H nx ch []:=by
 refine⟨⟨fn,c,hf,hb,hname⟩,fun L w us hok hnx hargs=>calls_of_wp hf hb ?_⟩
 have hlen:us.size=ps.length:=by simpa using hargs.length
 have hi:Interp P G nx L ⟨startsP 0 ps,H,nx,N⟩ { tmps:=us++Array.replicate (fn.ntmps-us.size) undef,defers:=[] } w:=by
  refine⟨hok,hnx,by rw[hnx];exact Nat.le_refl _,by simp[hlen,hN],rfl,fun k p hl=>?_⟩;simp only[B5n]at hl;obtain⟨_,hk⟩:=A8x _ k 0 p hl;simp only[Nat.sub_zero]at hk;obtain⟨x,hx,hr⟩:=hargs.at_ k hk
  have hx':us[k]?=some x:=by simpa using hx
  have hk':k<us.size:=(Array.getElem?_eq_some_iff.1 hx').1;rw[Array.getD_eq_getD_getElem?,Array.getElem?_append_left hk',hx'];exact hr
 refine wp_mono (h c hc rfl L _ w hi) fun e a' w' ⟨s1,L1,q,hi1,hx,hμ⟩=>?_;subst q
 have hb1:L.nx<=L1.nx:=by rw[hnx];exact hi1.base
 have hkp:B3l L.I L1.I w w':=Ext.keeps hok hx
 have hm:Mono L w { L1 with nx:=L.nx } w':=⟨hkp,Nat.le_refl _,fun b hb=>hμ b (by omega),hx.size,hx.shape⟩
 refine⟨hi1.defers,{ L1 with nx:=L.nx },rfl,⟨hi1.heap.lt,fun _ _ hb=>(by cases hb),fun _ _ hb=>(by cases hb),fun _ _ _ _ hb=>(by cases hb),fun _ _ hb=>(by cases hb),hi1.heap.glob⟩,hnx,hm,?_⟩;exact⟨hx.size,hx.same,hx.more,hx.new,fun g ⟨b,r,hb,_⟩=>(by cases hb),hx.shape,hx.outer⟩
theorem FnOK.callO {f:FuncId} {k:Nat} {M:A0i} {vs:List RV} (h:FnOK P G f k N M vs) {ps:List PV} {H:Heap} {nx:Nat} {o:Out} (hk:ps.length=k)
  (hm:MC P G nx N M (F7k P G nx vs o) ⟨startsP 0 ps,H,nx,N⟩):F0h P G f ps H nx o:=by
 cases o with
 | ret r H' nx'=>exact h.callP hk hm
 | pan ch=>
  obtain⟨fn,hf,hn,hb,hr,hN⟩:=h
  cases hbody:fn.body with
  | none=>rw[hbody]at hb;cases hb
  | some c=>
   rw[hbody]at hb;exact F7l hf hbody hn hb (by rw[hk];exact hN) hm
theorem B6b.lift1 {f:FuncId} {ty:TypeId} {cs args:List T} {ch:A2q} (h:B6b P G f (.ptr 0 0::args.map .t) [(0,.cells ty (cs.map .t))] 1 ch [])
  {b NX:Nat} {Hb:Heap} (hb:look Hb b=some (.cells ty (cs.map .t))) (hlt:b<NX):B6b P G f (.ptr b 0::args.map .t) Hb NX ch (rem Hb b):=by
 refine⟨h.1,fun L w us hok hnx hargs=>?_⟩
 have one:∀k r,look [(0,Row.cells ty (cs.map .t))] k=some r->k=0/\r = .cells ty (cs.map .t):=by
  intro k r hk;simp only[look]at hk;split at hk
  ·rename_i e;injection hk with hk;exact⟨e.symm,hk.symm⟩
  ·cases hk
 have hrow:=hok.rep b _ hb
 have hok0:A1l P G ⟨L.I,fun _=>L.μ b,1⟩ [(0,.cells ty (cs.map .t))] w:=by
  refine⟨hok.lt,fun k r hk=>?_,fun k r hk=>?_,fun k k' r r' hk hk' _=>by rw[(one k r hk).1,(one k' r' hk').1],fun k r hk=>by rw[(one k r hk).1];exact Nat.lt_succ_self _,hok.glob⟩
  ·obtain⟨rfl,rfl⟩:=one k r hk;obtain⟨arr,ha,hl,hc⟩:=hrow;refine⟨arr,ha,hl,fun j c hj=>?_⟩;obtain⟨v,hv,h1,hr⟩:=hc j c hj;refine⟨v,hv,h1,?_⟩;rw[List.getElem?_map]at hj;obtain⟨c0,_,rfl⟩:=A0m hj;simp only[RepV]at hr ⊢;exact hr
  ·exact hok.apart b _ hb
 have hargs0:A0r P ⟨L.I,fun _=>L.μ b,1⟩ w (.ptr 0 0::args.map .t) us.toList:=by
  simp only[A0r,RepV]at hargs ⊢;obtain⟨u,r,e,⟨_,h2⟩,h3⟩:=hargs;refine⟨u,r,e,⟨by omega,h2⟩,?_⟩;clear e
  have:∀(args:List T) (r:List Value),A0r P L w (args.map .t) r->A0r P ⟨L.I,fun _=>L.μ b,1⟩ w (args.map .t) r:=by
   intro args
   induction args with
   | nil=>intro r h;simpa only[List.map_nil,A0r]using h
   | cons a args ih=>
    intro r h;simp only[List.map_cons,A0r,RepV]at h ⊢;obtain⟨x,xs,e,hx,hxs⟩:=h;exact⟨x,xs,e,hx,ih xs hxs⟩
  exact this _ _ h3
 refine(h.2 _ w us hok0 rfl hargs0).mono ?_;rintro e w' ⟨L1,rfl,hok1,hnx1,hm,hx⟩;have mine0:∀g,Mine ⟨L.I,fun _=>L.μ b,1⟩ [(0,Row.cells ty (cs.map .t))] g->g=L.μ b:=fun g ⟨_,_,_,e⟩=>e.symm
 have hm':Mono L w ⟨L1.I,L.μ,NX⟩ w':=⟨hm.keeps,by rw[hnx];exact Nat.le_refl _,fun _ _=>rfl,hm.size,hm.shape⟩
 have hsame:∀k r,look (rem Hb b) k=some r->look Hb k=some r/\L.μ k≠L.μ b:=by
  intro k r hk;rw[A2i]at hk;split at hk
  ·cases hk
  ·rename_i hne;exact⟨hk,fun e=>hne (hok.inj k b r _ hk hb e)⟩
 refine⟨⟨L1.I,L.μ,NX⟩,rfl,⟨hok1.lt,fun k r hk=>?_,fun k r hk hI=>?_,fun k k' r r' hk hk' e=>hok.inj k k' r r' (hsame k r hk).1 (hsame k' r' hk').1 e,fun k r hk=>by rw[<-hnx];exact hok.nx k r (hsame k r hk).1,hok1.glob⟩,rfl,hm',?_⟩
 ·obtain⟨hk1,hk2⟩:=hsame k r hk;have hr:=hok.rep k r hk1;exact hr.keep hm' (hx.same _ hr.lt fun hmn=>hk2 (mine0 _ hmn))
 ·obtain⟨hk1,hk2⟩:=hsame k r hk;have hr:=(hok.rep k r hk1).lt;rcases hx.new _ hI with h1 | h1 | h1
  ·exact hok.apart k r hk1 h1
  ·exact absurd hr (by have h':w.heap.size<=L.μ k:=h1;omega)
  ·exact hk2 (mine0 _ h1)
 ·refine⟨hx.size,fun g hg hmn=>hx.same g hg fun h0=>hmn ⟨b,_,hb,(mine0 g h0).symm⟩,hx.more,fun g hg=>?_,fun g ⟨k,r,hk,e⟩=>.inr ⟨k,r,(hsame k r hk).1,e⟩,hx.shape,hx.outer⟩;rcases hx.new g hg with h1 | h1 | h1
  ·exact .inl h1
  ·exact .inr (.inl h1)
  ·exact .inr (.inr ⟨b,_,hb,(mine0 g h1).symm⟩)
end
end Go.Abs
