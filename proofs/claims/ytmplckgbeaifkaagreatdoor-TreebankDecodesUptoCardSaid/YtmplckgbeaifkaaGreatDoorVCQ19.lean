/- Auxiliary facts. -/
import Derived.Test.YtmplckgbeaifkaaGreatDoorVCQ18
import Derived.Test.YtmplckgbeaifkaaGreatDoorVCQ13
import Derived.Test.YtmplckgbeaifkaaGreatDoorVCQ11
set_option linter.unusedSimpArgs false
set_option maxRecDepth 100000
set_option maxHeartbeats 0
set_option linter.unusedVariables false
namespace Go.Proofs.YtmplckgbeaifkaaGreatDoor
open Go Go.Abs
variable {q : Gl}
theorem F9g {α:Type} {e:Enc α} {ty:Nat} {H:Heap} {b:Nat} {l:List α} (h:A1h e ty H b l) (y:T) :
  toT H (oneOf [rowP e b l,.t y])=some (.tu [A1a e l,y],E3c b l):=by
 have ht:=h.toT
 cases l with
 | nil=>rfl
 | cons x r=>
  show toT H (.tu [rowP e b (x::r),.t y])=_;simp only[toT,toTs,ht,Option.map_some,List.append_nil]
def SRw (s:ByteArray) (a:RW):A0b:=⟨[(6,.t (iv (a.j:Int))),(5,.t (sv (bs a.w))),(4,rowP eStr 0 (a.out.map bs)),(0,.t (sv s))],rowH eStr 9 0 (a.out.map bs),1,57⟩
structure OkRw (l:List UInt8) (a:RW):Prop where
 le:a.j<=l.length
 prt:∀(i:Nat) c,i<a.j->l[i]?=some c->prt c=true
 eq:a.out++A1d a.w (l.drop a.j)=A1d [] l
 ne:∀x∈a.out,x.isEmpty=false
 wl:a.w.length<=a.j
 ol:a.out.length<=a.j
 em:a.w=[]->a.j=0\/a.j<l.length
theorem D2s {l:List UInt8} (h:l.all prt=false):A3r l = .tu [nilS,iv 8]:=by simp[A3r,A2r,h]
theorem C2h {l:List UInt8} (h0:l≠[]) (h:[]∈A1d [] l):A3r l = .tu [nilS,iv 8]:=by
 have h1:(A1d [] l).any List.isEmpty=true:=List.any_eq_true.2 ⟨[],h,rfl⟩
 have h2:l.isEmpty=false:=by cases l with | nil=>exact absurd rfl h0 | cons _ _=>rfl
 cases h3:l.all prt with
 | false=>exact D2s h3
 | true=>simp[A3r,A2r,h1,h2,h3]
theorem D6j (s:ByteArray) (hs:s.size<=1000000):A0v Tryz.prog (G q) 145 [sv s] (· = A3r s.data.toList):=by
 refine D6b.call rfl ?_;(conv in C2c=>cbv)
 obtain⟨l,hl⟩:∃l,l=s.data.toList:=⟨_,rfl⟩
 have hlen:l.length=s.size:=by rw[hl];rfl
 rw[<-hl];refine A0a ctx0 ?_;simp -implicitDefEqProofs;refine A0a ctx0 ?_;simp -implicitDefEqProofs;refine A0a ctx0 ?_;simp -implicitDefEqProofs;refine A0s (α:=RW) (SRw s) (fun a=>OkRw l a/\a.j=s.size) (fun _=>rfl) ?_ ?_
 ·refine A0a ctx0 ?_;simp -implicitDefEqProofs;refine A0g ?_;refine A0t (SRw s) (fun a=>s.size-a.j) (OkRw l) ⟨0,[],[]⟩ (fun _=>rfl) ⟨Nat.zero_le _,fun i c h=>by simp at h,by simp,by simp,by simp,by simp,fun _=>.inl rfl⟩ ?_ rfl ?_
  ·exact A5w (by omega) (by simp -implicitDefEqProofs [SRw,under,rowP])
  ·rintro⟨j,out,w⟩ hok;have hok':=hok;obtain⟨hj,hp,heq,hne,hwl,hol,hem⟩:=hok;simp only at hj hp heq hne hwl hol hem;refine A0c ctx0 ?_;have r0:A1h eStr 9 (rowH eStr 9 0 (out.map bs)) 0 (out.map bs):=A1h.head' _ _ _ _;by_cases hlt:j<s.size
   ·obtain⟨x,hx⟩:∃x,l[j]?=some x:=⟨_,List.getElem?_eq_getElem (by omega)⟩
    have ixj:=A4a s j x (by rw[<-hl];exact hx);have e1:IntKind.i64.wrap ((j:Int)+1)=((j+1:Nat):Int):=A0j (by omega) (by omega);have hk:=E8h x
    have hdrop:l.drop j=x::l.drop (j+1):=by
     have:=List.drop_eq_getElem_cons (l:=l) (i:=j) (by omega);rw[this,(List.getElem?_eq_some_iff.1 hx).2]
    have hb:prt x=false->A3r l = .tu [nilS,iv 8]:=fun h=>D2s (List.all_eq_false.2 ⟨x,List.mem_of_getElem? hx,by rw[h];simp⟩)
    have h0:l≠[]:=by intro e;rw[e]at hx;simp at hx
    have hp':prt x=true->∀(i:Nat) c,i<j+1->l[i]?=some c->prt c=true:=by
     intro h i c hi hc;by_cases e:i=j
     ·subst e;rw[hx]at hc;injection hc with hc;subst hc;exact h
     ·exact hp i c (by omega) hc
    cases t1:decide ((x.toNat:Int)<32)with
    | true=>rw[t1]at hk;simp -implicitDefEqProofs [SRw,hlt,ixj,t1,hb hk]
    | false=>
     cases t2:decide (126<(x.toNat:Int))with
     | true=>rw[t1,t2]at hk;simp -implicitDefEqProofs [SRw,hlt,ixj,t1,t2,hb hk]
     | false=>
      rw[t1,t2]at hk;by_cases hsp:x=32
      ·have t3:((x.toNat:Int) != 32)=false:=by rw[hsp];rfl
       have hsl:A1d w (l.drop j)=w::A1d [] (l.drop (j+1)):=by rw[hdrop,A1d,if_pos hsp]
       rw[hsl]at heq
       cases hw:w.isEmpty with
       | true=>
        have hw0:w=[]:=by simpa using hw
        have hb2:=C2h h0 (by rw[<-heq,hw0];simp);simp -implicitDefEqProofs [SRw,hlt,ixj,t1,t2,t3,A2q,A2u,hw,hb2]
       | false=>
        by_cases hlast:j=s.size-1
        ·have t4:((j:Int)==(s.size:Int)-1)=true:=by rw[beq_iff_eq];omega
         have e2:IntKind.i64.wrap ((s.size:Int)-1)=(s.size:Int)-1:=wrap_i64 (by omega) (by omega);have hd0:l.drop (j+1)=[]:=List.drop_eq_nil_of_le (by omega);have hb2:=C2h h0 (by rw[<-heq,hd0];simp[A1d]);simp -implicitDefEqProofs [SRw,hlt,ixj,t1,t2,t3,A2q,A2u,hw,e2,t4,hb2]
        ·have t4:((j:Int)==(s.size:Int)-1)=false:=by rw[beq_eq_false_iff_ne];omega
         have e2:IntKind.i64.wrap ((s.size:Int)-1)=(s.size:Int)-1:=wrap_i64 (by omega) (by omega);have hbs:A3l 9 1 [.string ⟨#[]⟩] 1 [(0,.t (sv (bs w)))] 1=some (.row 1 0 1 1,.cells 9 [.t (sv (bs w))]):=rfl;obtain⟨b2,H2,n2,ap2,r2,ne2,_⟩:=A9a (e:=eStr) (ty:=9) (by':=16) (nx:=2) (m:=[bs w]) (r0.cons (k:=1) (r:=.cells 9 [.t (sv (bs w))]) (by omega)) (B2k (b:=1) (ty:=9) _ (by simp[eStr])) (by simp;omega) (by simp;omega);have ap2':appM 9 1 16 ((1,.cells 9 [.t (sv (bs w))])::rowH eStr 9 0 (out.map bs)) 2 (rowP eStr 0 (out.map bs)) (.row 1 0 1 1)=some (rowP eStr b2 (out.map bs++[bs w]),H2,n2):=ap2;simp -implicitDefEqProofs [SRw,hlt,ixj,t1,t2,t3,A2q,A2u,hw,e2,t4,hbs,ap2',e1];refine Abs.Next.mk ⟨j+1,out++[w],[]⟩ ⟨⟨by show j+1<=l.length;omega,hp' hk,?_,?_,by simp,by simp;omega,fun _=>.inr (by show j+1<l.length;omega)⟩,by show s.size-(j+1)<s.size-j;omega⟩ ?_
         ·show(out++[w])++A1d [] (l.drop (j+1))=_;rw[<-heq];simp
         ·intro y hy;rcases List.mem_append.1 hy with h | h
          ·exact hne y h
          ·have:y=w:=by simpa using h
           rw[this];exact hw
         ·unfold SRw;simp only[List.map_append,List.map_cons,List.map_nil];exact C8r (k:=b2) r2 (by omega) (by omega) (by simp -implicitDefEqProofs [A3p,A2h,ren,under])
      ·have t3:((x.toNat:Int) != 32)=true:=by
        rw[bne_iff_ne];intro e;exact hsp (UInt8.toNat_inj.1 (by show x.toNat=32;omega))
       have hsl:A1d w (l.drop j)=A1d (w++[x]) (l.drop (j+1)):=by rw[hdrop,A1d,if_neg hsp]
       obtain⟨j1,hj1⟩:∃j1,j1=j+1:=⟨_,rfl⟩
       have e1':IntKind.i64.wrap ((j:Int)+1)=(j1:Int):=by rw[e1,hj1]
       have hst:A3j (.t (sv s)) (some (.t (iv (j:Int)))) (some (.t (iv (j1:Int))))=some (.t (sv (bs [x]))):=by
        rw[D2m s j j1 (by omega) (by omega)]
        have e3:s.extract j j1=bs [x]:=by
         rw[<-A4e (s.extract j j1),Lib.extract_data,<-hl,hdrop,hj1];simp
        rw[e3]
       have sa:=cat (Φ:=orc []) (a:=w) (b:=[x]) (by simp;omega);simp -implicitDefEqProofs [SRw,hlt,ixj,t1,t2,t3,e1',hst,sa];subst hj1;refine Abs.Next.mk ⟨j+1,out,w++[x]⟩ ⟨⟨by show j+1<=l.length;omega,hp' hk,?_,hne,by simp;omega,by show out.length<=j+1;omega,fun h=>by simp at h⟩,by show s.size-(j+1)<s.size-j;omega⟩ ?_
       ·show out++A1d (w++[x]) (l.drop (j+1))=_;rw[<-hsl];exact heq
       ·unfold SRw;exact C8r (k:=0) r0 (by omega) (by omega) (by simp -implicitDefEqProofs [A3p,A2h,ren,under])
   ·have e:j=s.size:=by omega
    subst e;simp -implicitDefEqProofs [SRw];refine Abs.Next.mk ⟨s.size,out,w⟩ ⟨hok',rfl⟩ ?_;exact C8r (k:=0) r0 (by omega) (by omega) (by simp -implicitDefEqProofs [A3p,A2h,ren,under])
 rintro⟨j,out,w⟩ ⟨hok,hje⟩;simp only at hje;subst hje;obtain⟨_,hp,heq,hne,hwl,hol,hem⟩:=hok;simp only at hp heq hne hwl hol hem;have hd0:l.drop s.size=[]:=List.drop_eq_nil_of_le (by omega);rw[hd0,A1d]at heq;have r0:A1h eStr 9 (rowH eStr 9 0 (out.map bs)) 0 (out.map bs):=A1h.head' _ _ _ _
 have hall:l.all prt=true:=by
  rw[List.all_eq_true];intro x hx;obtain⟨i,hi,e⟩:=List.getElem_of_mem hx;exact hp i x (by omega) (by rw[List.getElem?_eq_getElem hi,e])
 refine A0c ctx0 ?_
 cases hw:w.isEmpty with
 | true=>
  have hw0:w=[]:=by simpa using hw
  have hl0:l=[]:=by
   rcases hem hw0 with h | h
   ·exact List.eq_nil_of_length_eq_zero (by omega)
   ·omega
  have ho:out=[]:=by
   rw[hl0,hw0]at heq;have:out++[[]]=[]++[[]]:=heq;exact List.append_cancel_right this
  simp -implicitDefEqProofs [SRw,A2q,A2u,hw,ho,hl0,rowP,A3r,A2r,A1a]
 | false=>
  have hbs:A3l 9 1 [.string ⟨#[]⟩] 1 [(0,.t (sv (bs w)))] 1=some (.row 1 0 1 1,.cells 9 [.t (sv (bs w))]):=rfl;obtain⟨b2,H2,n2,ap2,r2,ne2,_⟩:=A9a (e:=eStr) (ty:=9) (by':=16) (nx:=2) (m:=[bs w]) (r0.cons (k:=1) (r:=.cells 9 [.t (sv (bs w))]) (by omega)) (B2k (b:=1) (ty:=9) _ (by simp[eStr])) (by simp;omega) (by simp;omega);have ap2':appM 9 1 16 ((1,.cells 9 [.t (sv (bs w))])::rowH eStr 9 0 (out.map bs)) 2 (rowP eStr 0 (out.map bs)) (.row 1 0 1 1)=some (rowP eStr b2 (out.map bs++[bs w]),H2,n2):=ap2
  have hl0:l.isEmpty=false:=by
   cases l with
   | nil=>
    have:out++[w]=[]++[[]]:=heq;have:=(List.append_inj' this rfl).2;injection this with this;rw[this]at hw;cases hw
   | cons _ _=>rfl
  have hany:(A1d [] l).any List.isEmpty=false:=by
   rw[<-heq,List.any_eq_false];intro y hy;rcases List.mem_append.1 hy with h | h
   ·rw[hne y h];simp
   ·have:y=w:=by simpa using h
    rw[this,hw];simp
  have hwt:A3r l = .tu [A1a eStr (out.map bs++[bs w]),iv 0]:=by
   unfold A3r A2r;rw[hall,hl0,hany];simp[<-heq]
  have ht:=F9g r2 (iv 0);simp -implicitDefEqProofs [SRw,A2q,A2u,hw,hbs,ap2',hwt,-oneOf,ht]
theorem D6k {w:List UInt8}:∀{l:List (List UInt8)} {i n:Nat},idxW w i l=some n->i<=n/\l[n-i]?=some w
 | [],i,n,h=>by cases h
 | x::r,i,n,h=>by
  rw[idxW]at h;split at h
  ·rename_i e;cases h;exact⟨Nat.le_refl _,by simp[e]⟩
  ·obtain⟨h1,h2⟩:=D6k h;refine⟨by omega,?_⟩;rw[show n-i=(n-(i+1))+1 by omega,List.getElem?_cons_succ];exact h2
theorem D2t {l:List UInt8} {w:List UInt8} {ws:List (List UInt8)} (h:A2r l=some (w::ws)):hdW l=w:=by
 unfold A2r at h;split at h
 ·split at h
  ·cases h
  ·split at h
   ·cases h
   ·injection h with h
    have key:∀(s acc:List UInt8) (w:List UInt8) (ws:List (List UInt8)),A1d acc s=w::ws->acc++s.takeWhile (fun c=>c≠32)=w:=by
     intro s
     induction s with
     | nil=>intro acc w ws h;simp[A1d]at h;simp[h]
     | cons c r ih=>
      intro acc w ws h;rw[A1d]at h;split at h
      ·rename_i hc;injection h with h _;simp[hc,h]
      ·rename_i hc;have:=ih _ _ _ h;rw[List.takeWhile_cons,if_pos (by simpa using hc),<-this];simp
    exact key l [] w ws h
 ·cases h
theorem F9h {w:List (List UInt8)} {d:Dc} (h:decP w=some d) (hy:w.head?=some wYes\/w.head?=some wNo):lnD d=jn w:=by
 unfold decP at h;split at h
 ·rename_i y k n f t;split at h
  ·cases h
  ·rename_i i hi;split at h
   ·cases h
   ·rename_i hc;simp only[not_or,Decidable.not_not,not_and]at hc;obtain⟨c1,c2,c3⟩:=hc;cases h;obtain⟨_,hk⟩:=D6k hi;have hk3:i<kdN.length:=(List.getElem?_eq_some_iff.1 hk).1
    have e1:kdN.getD ((i:Int)).toNat []=k:=by
     rw[Int.toNat_natCast,List.getD_eq_getElem?_getD];rw[Nat.sub_zero]at hk;rw[hk];rfl
    have e2:(if decide (y=wYes)=true then wYes else wNo)=y:=by
     rcases hy with e | e
     ·injection e with e;simp[e]
     ·injection e with e;subst e;simp[wYes,wNo]
    have e3:Lib.itoa (numS f).1=f:=B5s f _ (by rw[<-c1]);have e4:Lib.itoa (numS t).1=t:=B5s t _ (by rw[<-c2])
    have e5:(if((i:Nat):Int)=3 then [45]else lbs (if i=3 then⟨#[]⟩else bs n))=n:=by
     by_cases h3:i=3
     ·rw[if_pos (by omega)];exact(c3 h3).symm
     ·rw[if_neg (by omega),if_neg h3,A3s]
    simp only[lnD];rw[e1,e2,e3,e4,e5]
 ·cases h
theorem C2i:∀{ls:List (List UInt8)} {ds:List Dc} {r:List (List UInt8)},A6x ls = .ok (ds,r)->ls=ds.map lnD++r
 | [],ds,r,h=>by cases h;rfl
 | l::ls,ds,r,h=>by
  rw[A6x]at h;split at h
  ·rename_i hh;split at h
   ·cases h
   ·rename_i w hw;split at h
    ·cases h
    ·rename_i d hd;split at h
     ·cases h
     ·rename_i ds' r' hr;cases h
      have hy:w.head?=some wYes\/w.head?=some wNo:=by
       cases w with
       | nil=>simp[decP]at hd
       | cons x t=>
        have:=D2t hw;rw[this]at hh;simpa using hh
      rw[List.map_cons,F9h hd hy,B7g hw,List.cons_append,<-C2i hr]
  ·cases h;rfl
def A9s (w:List UInt8):Prop:=w≠[]/\∀c∈w,33<=c.toNat/\c.toNat<=126
theorem A9s.sp {w:List UInt8} (h:A9s w):32∉w:=fun hm=>by have:=(h.2 _ hm).1;revert this;decide
theorem D9n {w r:List UInt8} (h:32∉w):hdW (w++32::r)=w:=by
 unfold hdW;rw[List.takeWhile_append_of_pos,List.takeWhile_cons,if_neg (by simp)]
 ·simp
 ·intro c hc;simp only[ne_eq,decide_eq_true_eq];rintro rfl;exact h hc
theorem E3w:A9s A8h:=⟨by decide,by decide⟩
theorem D9o (r:List UInt8):¬(hdW (A8h++32::r)=wYes\/hdW (A8h++32::r)=wNo):=by
 rw[D9n E3w.sp];decide
end Go.Proofs.YtmplckgbeaifkaaGreatDoor
