/-
 Auxiliary facts. No statement of the program stands here.
-/
import Derived.Test.YtmplckgbeaifkaaGreatDoorVBQ39
import Derived.Test.YtmplckgbeaifkaaGreatDoorVBQ47
import Derived.Test.YtmplckgbeaifkaaGreatDoorVBQ48
namespace Go.Proofs.YtmplckgbeaifkaaGreatDoor
set_option linter.unusedSimpArgs false
set_option linter.unusedVariables false
open Go Go.Abs
variable {q : Gl}
theorem E7r {t:T} {l:List Dv} (ht:IsK t l) (hs:SmK l):A0w Tryz.prog (G q) 53 [t] (· = bv (ascD l)):=by
 have C:Ctx Tryz.prog (G q) _:=(A0y.cons (F0c (q:=q)) .nil).ctx mixed;have l1:=ht.len;have hl:=hs.len;refine B7z.call rfl ?_;unfold A9v
 obtain⟨R,hR⟩:∃R,R=ascD l:=⟨_,rfl⟩
 rw[<-hR];refine A0a C ?_;simp -implicitDefEqProofs;refine A0o (α:=Unit) (fun _=>⟨[],[],0,21⟩) (fun _=>R=true) (fun _=>rfl) ?_ ?_
 ·refine A0a C ?_;simp -implicitDefEqProofs;refine A0f ?_;refine A0k (SAs t) (fun j=>l.length-j) (fun j=>1<=j/\(j<=l.length\/j=1)/\ascD (l.drop (j-1))=R) 1 (fun _=>rfl) ⟨Nat.le_refl _,.inr rfl,by simp[hR]⟩ ?_ rfl ?_
  ·refine A0d ?_;simp -implicitDefEqProofs [SAs]
  rintro j ⟨h1,hj,heq⟩;refine A0c C ?_;by_cases hlt:j<l.length
  ·obtain⟨y,hy⟩:∃y,l[j]?=some y:=⟨_,List.getElem?_eq_getElem hlt⟩
   obtain⟨x,hx⟩:∃x,l[j-1]?=some x:=⟨_,List.getElem?_eq_getElem (by omega)⟩
   obtain⟨p1,c1,i1,ld1,hc1⟩:=A5d ht hx;obtain⟨p2,c2,i2,ld2,hc2⟩:=A5d ht hy;have e1:IntKind.i64.wrap ((j:Int)+1)=((j+1:Nat):Int):=A0h (by omega) (by omega);have e0:IntKind.i64.wrap ((j:Int)-1)=((j-1:Nat):Int):=A0h (by omega) (by omega);have n1:=hs.kid (List.mem_of_getElem? hx);have n2:=hs.kid (List.mem_of_getElem? hy);have eC:=A9r hc1 hc2 (by omega) (by omega)
   have hd:l.drop (j-1)=x::y::l.drop (j+1):=by
    rw[List.drop_eq_getElem_cons (by omega),(List.getElem?_eq_some_iff.1 hx).2,show j-1+1=j by omega,List.drop_eq_getElem_cons hlt,(List.getElem?_eq_some_iff.1 hy).2]
   have hd2:l.drop (j+1-1)=y::l.drop (j+1):=by
    rw[show j+1-1=j by omega,List.drop_eq_getElem_cons hlt,(List.getElem?_eq_some_iff.1 hy).2]
   rw[hd,ascD]at heq;by_cases h0:cmpD x y<0
   ·have hb:¬0<=cmpD x y:=by omega
    simp -implicitDefEqProofs [SAs,l1,hlt,i1,ld1,i2,ld2,eC,hb,e0,e1];exact Abs.Next.mk (j+1) ⟨⟨by omega,.inl (by omega),by rw[hd2,<-heq];simp[h0]⟩,by omega⟩ (A0d (by simp -implicitDefEqProofs [SAs]))
   ·have hb:0<=cmpD x y:=by omega
    have hr:R=false:=by rw[<-heq];simp[h0]
    simp -implicitDefEqProofs [SAs,l1,hlt,i1,ld1,i2,ld2,eC,hb,e0,hr]
  ·have hr:R=true:=by
    rw[<-heq]
    have:(l.drop (j-1)).length<=1:=by rw[List.length_drop];omega
    match hd:l.drop (j-1)with
    | []=>rfl
    | [_]=>rfl
    | _::_::_=>rw[hd]at this;simp at this
   simp -implicitDefEqProofs [SAs,l1,hlt];exact Abs.Next.mk () hr (A0s rfl rfl (by simp -implicitDefEqProofs) (by simp -implicitDefEqProofs))
 ·rintro _ h0;refine A0c C ?_;simp -implicitDefEqProofs [h0]
noncomputable def F9e:List T->Option T:=g1 tK fun l=>open Classical in if SmK l then some (bv (ascD l))else none
theorem hUAsc:GOK Tryz.prog (G q) 53 F9e:=A4c fun a x r ha hr=>by
 split at hr
 ·rename_i h;injection hr with hr;subst hr;exact E7r ha h
 ·cases hr
theorem F1v {t:T} {l:List Dv} (ht:IsK t l) (hs:SmK l):F9e [t]=some (bv (ascD l)):=by
 show g1 _ _ _=_;rw[A5b (τ:=tK) ht,if_pos hs]
theorem D4a {l:List Dv} (hs:SmK l):(disc l).length<=20000:=by
 have h1:=B6g l.length (srtP (l.flatMap prp)).length (srtP (l.flatMap prp));rw[E5n]at h1;have h2:=B8o (l.flatMap prp);have h3:=E7p hs;omega
theorem F9f (d:Dc) (H:Heap):A0t 5 ((0,Row.cells 61 [.t (.v (.int .i64 0)),.t (.v (.string ⟨#[]⟩)),.t (.v (.int .i64 0)),.t (.v (.int .i64 0)),.t (.v (.bool false))])::H) (.ptr 0 0) (.t (.ag (eDc.enc d)))=some ((0,A5r d)::H):=rfl
def SKp (td tl tq:T) (n:Nat) (a:Nat×List Dc):A0b:=⟨[(16,.t (iv (a.1:Int))),(15,.t (iv (n:Int))),(14,.t td),(6,.t (A1g eDc a.2)),(5,.t tq),(1,.t tl)],[],0,50⟩
def SKi (td tl tq tt:T) (n j m:Nat) (d:Dc) (i:Nat):A0b:=⟨[(27,.t (iv (i:Int))),(26,.t (iv (m:Int))),(25,.t tt),(16,.t (iv (j:Int))),(15,.t (iv (n:Int))),(14,.t td),(8,.ptr 0 0),(6,.t tt),(5,.t tq),(1,.t tl)],[(0,A5r d)],1,50⟩
set_option maxHeartbeats 4000000 in
theorem D4b {td tl:T} {l:List Dv} {ds:List Dc} (hl:IsK tl l) (hd:IsS eDc td ds) (hs:SmK l) (hds:ds.length<=200000):A0w Tryz.prog (G q) 54 [td,tl] (· = A1g eDc (keep l [] ds)):=by
 have l1:=hd.len;have eD:=E7q hl hs;have hdl:=D4a hs;have C:Ctx Tryz.prog (G q) _:=(A0y.cons (hDsc (q:=q)) (.cons (hHasP (q:=q)) (.cons (hRem (q:=q)) .nil))).ctxH (A2s.cons (F5s (q:=q)) .nil) mixed
 obtain⟨tq,htq⟩:∃tq,tq=A1g ePr (disc l):=⟨_,rfl⟩
 have hq:IsS ePr tq (disc l):=by rw[htq];exact IsS.tree _ _
 rw[<-htq]at eD
 obtain⟨R,hR⟩:∃R,R=keep l [] ds:=⟨_,rfl⟩
 rw[<-hR];refine C1h.call rfl ?_;unfold B1j;refine A0a C ?_;simp -implicitDefEqProofs;refine B8f ?_;refine A0a C ?_;simp -implicitDefEqProofs [eD];refine A0a C ?_;simp -implicitDefEqProofs;refine A0a C ?_;simp -implicitDefEqProofs;refine A0o (α:=Unit) (fun _=>⟨[(6,.t (A1g eDc R))],[],0,50⟩) (fun _=>True) (fun _=>rfl) ?_ ?_
 ·refine A0a C ?_;simp -implicitDefEqProofs [l1];refine A0f ?_;refine A0k (SKp td tl tq ds.length) (fun a=>ds.length-a.1) (fun a=>a.1<=ds.length/\a.2.length<=a.1/\keep l a.2 (ds.drop a.1)=R) (0,[]) (fun _=>rfl) ⟨Nat.zero_le _,Nat.le_refl _,hR.symm⟩ ?_ rfl ?_
  ·refine A0d ?_;simp -implicitDefEqProofs [SKp];rfl
  rintro⟨j,out⟩ ⟨hj,hol,heq⟩;simp only at hj hol heq;by_cases hlt:j<ds.length
  ·obtain⟨d,hdx⟩:∃d,ds[j]?=some d:=⟨_,List.getElem?_eq_getElem hlt⟩
   obtain⟨pp,i1,ld5,_⟩:=B7u hd hdx;have e1:IntKind.i64.wrap ((j:Int)+1)=((j+1:Nat):Int):=A0h (by omega) (by omega);have st5:=F9f d [];have eH:=C6u d.p hq (by omega);rw[List.drop_eq_getElem_cons hlt,(List.getElem?_eq_some_iff.1 hdx).2,keep]at heq;unfold SKp;refine A0a C ?_;simp -implicitDefEqProofs [hlt];refine A3m ?_;refine A0c C ?_;simp -implicitDefEqProofs;refine⟨rfl,?_⟩;refine A0o (α:=List Dc) (fun o=>⟨[(16,.t (iv (j:Int))),(15,.t (iv (ds.length:Int))),(14,.t td),(6,.t (A1g eDc o)),(5,.t tq),(1,.t tl)],[],0,50⟩) (fun o=>o.length<=j+1/\keep l o (ds.drop (j+1))=R) (fun _=>rfl) ?_ ?_
   ·have hto:=IsS.tree eDc out;have lo:=hto.len
    obtain⟨tt,htt⟩:∃tt,tt=A1g eDc out:=⟨_,rfl⟩
    rw[<-htt]at hto lo ⊢;have ldp:∀R:Heap,A0g true 4 ((0,A5r d)::R) (.ptr 0 0)=some (.t (.ag (ePr.enc d.p))):=fun _=>rfl;refine A0f ?_;refine A0a C ?_;simp -implicitDefEqProofs [i1,ld5,st5];by_cases hin:d.p∈disc l
    rotate_left
    ·rw[decide_eq_false hin]at eH
     have hok:okD l out d=false:=by simp[okD,hin]
     rw[if_neg (by simp[hok])]at heq;refine A0a C ?_;simp -implicitDefEqProofs [ldp,eH];exact Abs.Next.mk out ⟨by omega,heq⟩ (A2x (by omega) (by simp -implicitDefEqProofs [under,htt]))
    rw[decide_eq_true hin]at eH;refine A0a C ?_;simp -implicitDefEqProofs [ldp,eH];refine A0o (α:=Unit) (fun _=>⟨[(16,.t (iv (j:Int))),(15,.t (iv (ds.length:Int))),(14,.t td),(8,.ptr 0 0),(6,.t tt),(5,.t tq),(1,.t tl)],[(0,A5r d)],1,50⟩) (fun _=>∀x:Dc,x∈out->¬x.p=d.p) (fun _=>rfl) ?_ ?_
    ·refine A0a C ?_;simp -implicitDefEqProofs [lo];refine A0f ?_;refine A0k (SKi td tl tq tt ds.length j out.length d) (fun i=>out.length-i) (fun i=>i<=out.length/\∀x:Dc,x∈out.take i->¬x.p=d.p) 0 (fun _=>rfl) ⟨Nat.zero_le _,by simp⟩ ?_ rfl ?_
     ·refine A0d ?_;simp -implicitDefEqProofs [SKi]
     rintro i ⟨hi,hno⟩;by_cases hlt2:i<out.length
     ·obtain⟨y,hy⟩:∃y,out[i]?=some y:=⟨_,List.getElem?_eq_getElem hlt2⟩
      obtain⟨p2,i2,g2,_⟩:=B7u hto hy;have e2:IntKind.i64.wrap ((i:Int)+1)=((i+1:Nat):Int):=A0h (by omega) (by omega);have st10:=F8u y [(0,A5r d)];have ly:A0g true 4 [(1,A5r y),(0,A5r d)] (.ptr 1 0)=some (.t (.ag (ePr.enc y.p))):=rfl;have ld:A0g true 4 [(1,A5r y),(0,A5r d)] (.ptr 0 0)=some (.t (.ag (ePr.enc d.p))):=rfl;have eq:=C2b y.p d.p;by_cases hyd:y.p=d.p
      ·rw[decide_eq_true hyd]at eq
       have hok:okD l out d=false:=by
        have:(out.any fun y=>decide (y.p=d.p))=true:=List.any_eq_true.2 ⟨y,List.mem_of_getElem? hy,decide_eq_true hyd⟩;simp[okD,this]
       rw[if_neg (by simp[hok])]at heq;refine A0c C ?_;simp -implicitDefEqProofs [SKi,hlt2,i2,g2,st10,ly,ld,eq];exact Abs.Next.mk out ⟨by omega,heq⟩ (A2x (by omega) (by simp -implicitDefEqProofs [under,htt]))
      ·rw[decide_eq_false hyd]at eq;refine A0c C ?_;simp -implicitDefEqProofs [SKi,hlt2,i2,g2,st10,ly,ld,eq,e2];refine Abs.Next.mk (i+1) ⟨⟨by omega,?_⟩,by omega⟩ ?_
       ·rw[List.take_add_one,hy];intro x hx;rcases List.mem_append.1 hx with hx | hx
        ·exact hno x hx
        ·rw[List.mem_singleton.1 hx];exact hyd
       ·refine B0z (by omega) (fun r hr=>?_) (by simp -implicitDefEqProofs [under]);simp only[List.mem_singleton]at hr;subst hr;exact⟨rfl,by show 0<1;omega,rfl⟩
     ·rw[List.take_of_length_le (by omega)]at hno;refine A0c C ?_;simp -implicitDefEqProofs [SKi,hlt2];exact Abs.Next.mk () hno (A0d (by simp -implicitDefEqProofs))
    rintro _ hno;have hno:(out.any fun y=>decide (y.p=d.p))=false:=List.any_eq_false.2 fun x hx e=>hno x hx (of_decide_eq_true e)
    have hok:okD l out d = !(remD l (out++[d])).isEmpty:=by simp only[okD,decide_eq_true hin,hno,Bool.not_false,Bool.true_and]
    have ts:A9a 61 5 [.int .i64 0,.string ⟨#[]⟩,.int .i64 0,.int .i64 0,.bool false] 1 [(0,.t (.ag (eDc.enc d)))]=some (.t (.sl 1 (eDc.enc d))):=rfl;have hcl:=F5t hto (by omega) (fun e=>by rw[htt,e];rfl) [(0,A5r d)] 1;obtain⟨b2,H2,n2,ap,r2,ne2,le2,lk2,ge2⟩:=A9g (e:=eDc) (ty:=61) (by':=48) (nx:=2) (m:=[d]) (A0p.head eDc 61 [(0,A5r d)] 1 out) (A7m (t:=.sl 1 (eDc.enc d)) (.inr rfl)) (by simp;omega) (by simp;omega);have ap:appM 61 5 48 (rowH eDc 61 1 out++[(0,A5r d)]) 2 (rowP eDc 1 out) (.t (.sl 1 (eDc.enc d)))=some (rowP eDc b2 (out++[d]),H2,n2):=ap
    have l8:∀H:Heap,Abs.look H 0=some (A5r d)->A0g true 5 H (.ptr 0 0)=some (.t (.ag (eDc.enc d))):=fun H hl=>by
     simp[A0g,hl,A5r,agOf,allT,eDc]
    have a1:=l8 [(0,A5r d)] rfl;have a2:=l8 (rowH eDc 61 1 out++[(0,A5r d)]) (by cases out<;>rfl);have a3:=l8 H2 (by rw[lk2 0 (by omega) (by omega)];cases out<;>rfl);have eR:=C6w hl (IsS.tree eDc (out++[d])) hs (by simp;omega);have lr:=(IsS.tree eInt (natI (remD l (out++[d])))).len;rw[natI_len]at lr;refine A0a C ?_;simp -implicitDefEqProofs [ts,hcl,ap,a1,a2,a3];refine MC.sub (s':=⟨[(11,.t (A1g eDc (out++[d]))),(16,.t (iv (j:Int))),(15,.t (iv (ds.length:Int))),(14,.t td),(6,.t tt),(5,.t tq),(1,.t tl)],[],0,50⟩) ?_ rfl ?_
    ·refine C6t [b2] (by omega) (fun z hz=>by cases hz) fun z hz=>?_;have f9:=F1p r2;simp only[List.mem_cons,List.not_mem_nil,or_false]at hz;rcases hz with rfl | rfl | rfl | rfl | rfl | rfl | rfl
     ·exact⟨⟨_,rfl,f9⟩,rfl⟩
     all_goals exact⟨⟨_,rfl,rfl⟩,rfl⟩
    cases hem:(remD l (out++[d])).isEmpty with
    | true=>
     rw[hem]at hok;rw[if_neg (by simp[hok])]at heq
     have hr0:(remD l (out++[d])).length=0:=by rw[List.isEmpty_iff.1 hem];rfl
     rw[hr0]at lr;refine A0c C ?_;simp -implicitDefEqProofs [eR,lr];exact Abs.Next.mk out ⟨by omega,heq⟩ (A0d (by simp -implicitDefEqProofs [htt]))
    | false=>
     rw[hem]at hok;rw[if_pos (by simp[hok])]at heq
     have hr0:0<(remD l (out++[d])).length:=by
      cases h:remD l (out++[d])with
      | nil=>rw[h]at hem;cases hem
      | cons _ _=>simp
     refine A0c C ?_;simp -implicitDefEqProofs [eR,lr,hr0];exact Abs.Next.mk (out++[d]) ⟨by simp;omega,heq⟩ (A0d (by simp -implicitDefEqProofs))
   ·rintro o ⟨ho,hk⟩;refine A0c C ?_;simp -implicitDefEqProofs [e1];exact Abs.Next.mk (j+1,o) ⟨⟨by show j+1<=_;omega,ho,hk⟩,by show ds.length-(j+1)<ds.length-j;omega⟩ (A0d (by simp -implicitDefEqProofs [SKp]))
  ·rw[List.drop_of_length_le (by omega),keep]at heq;subst heq;refine A0c C ?_;simp -implicitDefEqProofs [SKp,hlt];exact Abs.Next.mk () trivial (A0d (by simp -implicitDefEqProofs))
 rintro _ _;refine A0c C ?_;simp -implicitDefEqProofs
noncomputable def gUKp:List T->Option T:=g2 (tSl eDc) tK fun ds l=>open Classical in if SmK l/\ds.length<=200000 then some (A1g eDc (keep l [] ds))else none
theorem hUKp:GOK Tryz.prog (G q) 54 gUKp:=A4e fun a b ds l r ha hb hr=>by
 split at hr
 ·rename_i h;injection hr with hr;subst hr;exact D4b hb ha h.1 h.2
 ·cases hr
theorem F5w {td tl:T} {l:List Dv} {ds:List Dc} (hl:IsK tl l) (hd:IsS eDc td ds) (hs:SmK l) (hds:ds.length<=200000):gUKp [td,tl]=some (A1g eDc (keep l [] ds)):=by
 show g2 _ _ _ _=_;rw[A4u (τ:=tSl eDc) (σ:=tK) hd hl,if_pos ⟨hs,hds⟩]
abbrev dvs (m:List DC):List Dv:=m.map DC.d
theorem E7s {u:T} {m:List DC} (h:IsS eDC u m) {i:Nat} {c:DC} (hx:m[i]?=some c):∃p,A1o 5 (.t u) (.t (iv (i:Int)))=some (.t (.pt p))/\∀H,A0g true 5 H (.t (.pt p))=some (.t (.ag c.cs)):=by
 refine⟨_,h.iaddr hx .i64,fun H=>?_⟩;have hl:c.cs.length=5:=c.ok.len;simp only[A0g,if_true];rw[if_pos (by simp[eDC,hl])];show some (PV.t (T.ag (List.take 5 (c.cs++_))))=_;rw[List.take_left' hl]
def oneC (m:List DC) (k:List Dc):Option DC:=match remD (dvs m) k with
 | [n]=>m[n]?
 | _=>none
theorem B6h (m:List DC) (k:List Dc):oneL (dvs m) k=(oneC m k).map DC.d:=by
 unfold oneL oneC;split
 ·rename_i n h;rw[h,List.getElem?_map]
 ·rename_i h;split
  ·rename_i n e;exact absurd e (h n)
  ·rfl
def zDC:DC:=⟨A2c,encD A2c,IsD.enc A2c⟩
def A9z (c:IC) (m:List DC):DC:=if c.x.state=1 then(oneC m (keep (dvs m) [] c.x.decs)).getD zDC else zDC
theorem A9l (c:IC) (m:List DC):repI c.x (dvs m)=⟨c.x.id,c.x.words,(repI c.x (dvs m)).state,keep (dvs m) [] c.x.decs,(A9z c m).d⟩:=by
 unfold repI A9z;simp only[B6h];by_cases h:c.x.state=1
 ·simp only[if_pos h];cases oneC m (keep (dvs m) [] c.x.decs)<;>rfl
 ·simp only[if_neg h];rfl
def repC (c:IC) (m:List DC):List T:=c.cs.take 2++([iv (repI c.x (dvs m)).state,A1g eDc (keep (dvs m) [] c.x.decs)]++(A9z c m).cs)
theorem E7t (c:IC) (m:List DC):IsIt (repI c.x (dvs m)) (repC c m):=by
 obtain⟨tw,td,g,e,h1,h2,h3⟩:=c.ok;rw[A9l];refine⟨tw,A1g eDc (keep (dvs m) [] c.x.decs),(A9z c m).cs,?_,h1,IsS.tree _ _,(A9z c m).ok⟩;simp[repC,e]
def C6x (c:IC) (m:List DC):IC:=⟨repI c.x (dvs m),repC c m,E7t c m⟩
def B1n (l:List Dv) (ds:List Dc):Nat:=ds.length-(keep l [] ds).length
def repT (c:IC) (m:List DC):T:=if ascD (dvs m)then .tu [.ag (repC c m),iv (B1n (dvs m) c.x.decs:Nat),iv 0]else .tu [.ag c.cs,iv 0,iv 3]
section
variable (id : ByteArray) (tw : T) (st : Int) (td : T) (k : Int) (nm : ByteArray) (f t : Int) (tk : T) (R : Heap)
theorem sI9 (b:Nat) (cs0:List PV) (h:cs0.length=9):A0t 9 ((b,.cells 28 cs0)::R) (.ptr b 0) (.t (.ag [sv id,tw,iv st,td,iv k,sv nm,iv f,iv t,tk]))=some ((b,iRow id tw st td k nm f t tk)::R):=by
 match cs0,h with
 | [_,_,_,_,_,_,_,_,_],_=>simp[A0t,A1m,A4y,look,iRow]
theorem sI2 (st':Int):A0t 1 ((2,iRow id tw st td k nm f t tk)::R) (.ptr 2 2) (.t (iv st'))=some ((2,iRow id tw st' td k nm f t tk)::R):=rfl
theorem sI4 (k':Int) (nm':ByteArray) (f' t':Int) (tk':T):A0t 5 ((2,iRow id tw st td k nm f t tk)::R) (.ptr 2 4) (.t (.ag [iv k',sv nm',iv f',iv t',tk']))=some ((2,iRow id tw st td k' nm' f' t' tk')::R):=rfl
theorem sI1 (Y:Row) (id':ByteArray) (tw':T) (st':Int) (td':T) (k':Int) (nm':ByteArray) (f' t':Int) (tk':T) :
  A0t 9 ((2,Y)::(1,iRow id' tw' st' td' k' nm' f' t' tk')::R) (.ptr 1 0) (.t (.ag [sv id,tw,iv st,td,iv k,sv nm,iv f,iv t,tk]))=some ((2,Y)::(1,iRow id tw st td k nm f t tk)::R):=rfl
theorem sI10 (id':ByteArray) (tw':T) (st':Int) (td':T) (k':Int) (nm':ByteArray) (f' t':Int) (tk':T) :
  A0t 9 ((1,iRow id' tw' st' td' k' nm' f' t' tk')::R) (.ptr 1 0) (.t (.ag [sv id,tw,iv st,td,iv k,sv nm,iv f,iv t,tk]))=some ((1,iRow id tw st td k nm f t tk)::R):=rfl
theorem bdI {ws:List ByteArray} {ds:List Dc} {tn:T} (hw:IsS eStr tw ws) (hn:IsS eDc tn ds) (Φ:A0v) (H:Heap) (nx:Nat):A0e Φ H nx (.build [(0,1),(1,1),(2,1),(3,1),(4,5)] [.string ⟨#[]⟩,.slice none 0 0,.int .i64 0,.slice none 0 0,.int .i64 0,.string ⟨#[]⟩,.int .i64 0,.int .i64 0,.slice none 0 0] [0,1,2,3]) [.t (sv id),.t tw,.t (iv st),.t tn]=some (.t (.ag [sv id,tw,iv st,tn,iv 0,sv ⟨#[]⟩,iv 0,iv 0,nilS]),H,nx):=by
 rcases hw with⟨rfl,_⟩ | rfl<;>rcases hn with⟨rfl,_⟩ | rfl<;>rfl
end
def zI:Row:=iRow ⟨#[]⟩ nilS 0 nilS 0 ⟨#[]⟩ 0 0 nilS
theorem A8t (l:List Dv) (ds:List Dc):(keep l [] ds).length<=ds.length:=by
 have:=C5c (l:=l) (r:=ds) (out:=[]);simpa using this
set_option maxHeartbeats 4000000 in
theorem A6c (c:IC) {tl:T} {m:List DC} (hm:IsS eDC tl m) (hs:SmK (dvs m)) (hds:c.x.decs.length<=200000):A0w Tryz.prog (G q) 19 [.ag c.cs,tl] (· = repT c m):=by
 obtain⟨P,hP⟩:∃P,P=repT c m:=⟨_,rfl⟩
 rw[<-hP];unfold repT at hP;obtain⟨tw,td,k,nm,f,t,tk,ks,ecs,hg,hk,hw,hd,hgD⟩:=A1a c.ok
 have hro:repC c m=[sv c.x.id,tw,iv (repI c.x (dvs m)).state,A1g eDc (keep (dvs m) [] c.x.decs)]++(A9z c m).cs:=by simp[repC,ecs]
 rw[hro]at hP;rw[ecs]at hP ⊢;have htl:=hm.isK;have eA:=F1v htl hs;have eK:=F5w htl hd hs hds;have hkl:=A8t (dvs m) c.x.decs
 have hst:(repI c.x (dvs m)).state=if c.x.state=1 then(if(oneC m (keep (dvs m) [] c.x.decs)).isSome then 1 else 0)else c.x.state:=by
  unfold repI;simp only[B6h];split
  ·cases oneC m (keep (dvs m) [] c.x.decs)<;>rfl
  ·rfl
 rw[hst]at hP;unfold A9z B1n at hP
 obtain⟨K,hK⟩:∃K,K=keep (dvs m) [] c.x.decs:=⟨_,rfl⟩
 rw[<-hK]at hP eK hkl;have hkt:=IsS.tree eDc K
 obtain⟨kt,hktt⟩:∃kt,kt=A1g eDc K:=⟨_,rfl⟩
 rw[<-hktt]at hP eK hkt;have eR:=C6w htl hkt hs (by omega);have lk:=hkt.len;have ld:=hd.len
 have hrl:(remD (dvs m) K).length<=10000:=by have:=B8s K (dvs m) 0;have:=hs.len;show(remF 0 (dvs m) K).length<=_;omega
 have hRt:=IsS.tree eInt (natI (remD (dvs m) K));have lr:=hRt.len;rw[natI_len]at lr
 obtain⟨rt,hrt⟩:∃rt,rt=A1g eInt (natI (remD (dvs m) K)):=⟨_,rfl⟩
 rw[<-hrt]at eR hRt lr;have e1:IntKind.i64.wrap ((c.x.decs.length:Int)-(K.length:Int))=((c.x.decs.length-K.length:Nat):Int):=A0h (by omega) (by omega);generalize c.x.id=id at *;generalize c.x.state=st at *;have C:Ctx Tryz.prog (G q) _:=(A0y.cons (hUAsc (q:=q)) (.cons (hUKp (q:=q)) (.cons (hRem (q:=q)) .nil))).ctx mixed;have cd:=A3c id tw st td k nm f t tk
 obtain⟨X,hX⟩:∃X,X=iRow id tw st td k nm f t tk:=⟨_,rfl⟩
 have z1:=ldI id tw st td k nm f t tk (H:=[(1,zI),(0,X)]) (b:=0) (by rw[hX];rfl);have z2:∀Y,LdI id tw st td k nm f t tk [(2,Y),(1,zI),(0,X)] 0:=fun Y=>ldI id tw st td k nm f t tk (by rw[hX];rfl);refine C1e.call rfl ?_;unfold B1h;refine A0a C ?_;simp -implicitDefEqProofs [cd];rw[show Row.cells 28 [.t (sv id),.t tw,.t (iv st),.t td,.t (iv k),.t (sv nm),.t (iv f),.t (iv t),.t tk]=X from hX.symm];rw[show Row.cells 28 [.t (.v (.string ⟨#[]⟩)),.t (.v (.slice none 0 0)),.t (.v (.int .i64 0)),.t (.v (.slice none 0 0)),.t (.v (.int .i64 0)),.t (.v (.string ⟨#[]⟩)),.t (.v (.int .i64 0)),.t (.v (.int .i64 0)),.t (.v (.slice none 0 0))]=zI from rfl]
 cases hasc:ascD (dvs m)with
 | false=>
  rw[hasc]at eA;rw[if_neg (by simp[hasc])]at hP;have s1:=sI10 id tw st td k nm f t tk [(0,X)] ⟨#[]⟩ nilS 0 nilS 0 ⟨#[]⟩ 0 0 nilS;have s1:A0t 9 [(1,zI),(0,X)] (.ptr 1 0) (.t (.ag [sv id,tw,iv st,td,iv k,sv nm,iv f,iv t,tk]))=_:=s1;have y:=ldI id tw st td k nm f t tk (H:=[(1,iRow id tw st td k nm f t tk),(0,X)]) (b:=1) rfl;refine A0a C ?_;simp -implicitDefEqProofs [eA,z1.a,s1,y.a,hP]
 | true=>
 rw[hasc]at eA;rw[if_pos hasc]at hP;refine A0a C ?_;simp -implicitDefEqProofs [eA];refine A0a C ?_;simp -implicitDefEqProofs [z1.l3,eK];have bd:=bdI id tw st hw hkt;have s9:=sI9 id tw st kt 0 ⟨#[]⟩ 0 0 nilS [(1,zI),(0,X)] 2 [.t (.v (.string ⟨#[]⟩)),.t (.v (.slice none 0 0)),.t (.v (.int .i64 0)),.t (.v (.slice none 0 0)),.t (.v (.int .i64 0)),.t (.v (.string ⟨#[]⟩)),.t (.v (.int .i64 0)),.t (.v (.int .i64 0)),.t (.v (.slice none 0 0))] rfl;refine A0a C ?_;simp -implicitDefEqProofs [z1.l0,z1.l1,z1.l2,bd,s9,-evalK_build]
 refine A0o (α:=Int×Int×ByteArray×Int×Int×T) (fun a=>⟨[(2,.ptr 0 0),(4,.ptr 1 0),(7,.t kt),(8,.ptr 2 0)],[(2,iRow id tw a.1 kt a.2.1 a.2.2.1 a.2.2.2.1 a.2.2.2.2.1 a.2.2.2.2.2),(1,zI),(0,X)],3,51⟩)
  (fun a=>P = .tu [.ag [sv id,tw,iv a.1,kt,iv a.2.1,sv a.2.2.1,iv a.2.2.2.1,iv a.2.2.2.2.1,a.2.2.2.2.2],iv ((c.x.decs.length-K.length:Nat):Int),iv 0]) (fun _=>rfl) ?_ ?_
 ·have z:=z2 (iRow id tw st kt 0 ⟨#[]⟩ 0 0 nilS);by_cases h1:st=1
  ·subst h1;simp only[if_true]at hP;have u1:=sI2 id tw 1 kt 0 ⟨#[]⟩ 0 0 nilS [(1,zI),(0,X)] 0;have u2:=sI2 id tw 0 kt 0 ⟨#[]⟩ 0 0 nilS [(1,zI),(0,X)] 1;by_cases h2:(remD (dvs m) K).length=1
   ·obtain⟨n,hn⟩:∃n,remD (dvs m) K=[n]:=List.length_eq_one_iff.1 h2;obtain⟨d,hd1,_⟩:=C5b (l:=dvs m) (ds:=K) (n:=n) (by rw[hn];simp)
    obtain⟨g,hg1⟩:∃g,m[n]?=some g:=by
     rw[List.getElem?_map]at hd1
     cases e:m[n]? with
     | none=>rw[e]at hd1;cases hd1
     | some g=>exact⟨g,rfl⟩
    have ho:oneC m K=some g:=by unfold oneC;rw[hn];exact hg1
    rw[ho]at hP;obtain⟨p2,i2,g2⟩:=E7s hm hg1
    have hR0:(natI (remD (dvs m) K))[0]?=some (n:Int):=by rw[hn];rfl
    have i0:A1o 1 (.t rt) (.t (iv ((0:Nat):Int)))=_:=hRt.iaddr hR0 .i64;have i0:A1o 1 (.t rt) (.t (.v (.int .i64 0)))=_:=i0
    obtain⟨k',nm',f',t',tk',ks',egd,_⟩:∃k' nm' f' t' tk' ks',g.cs=[iv k',sv nm',iv f',iv t',tk']/\g.d = .mk k' nm' f' t' ks':=by
     cases hgd:g.d with
     | mk k' nm' f' t' ks'=>
      have:=g.ok;rw[hgd]at this;obtain⟨tk',e,_⟩:=this.parts;exact⟨k',nm',f',t',tk',ks',e,rfl⟩
    rw[egd]at g2;simp only[Option.isSome_some,if_true,Option.getD_some]at hP;rw[egd]at hP;have u4:=sI4 id tw 1 kt 0 ⟨#[]⟩ 0 0 nilS [(1,zI),(0,X)] k' nm' f' t' tk';rw[h2]at lr;have lr:A7k (.t rt)=some (.t (.v (.int .i64 1))):=lr;refine A0c C ?_;have li:∀H:Heap,A0g false 1 H (.t (.pt (eInt.enc (n:Int)++rest eInt (natI (remD (dvs m) K)) 0)))=some (.t (iv (n:Int))):=fun _=>rfl;simp -implicitDefEqProofs [z.l2,u1,u2,u4,eR,lr,i0,li,i2,g2];refine Abs.Next.mk (α:=Int×Int×ByteArray×Int×Int×T) (1,k',nm',f',t',tk') hP ?_;exact A0d (by simp -implicitDefEqProofs)
   ·have ho:oneC m K=none:=by
     unfold oneC;split
     ·rename_i n e;rw[e]at h2;exact absurd rfl h2
     ·rfl
    rw[ho]at hP
    have hb:(((remD (dvs m) K).length:Int)==1)=false:=by simpa using (by omega:¬((remD (dvs m) K).length:Int)=1)
    generalize (remD (dvs m) K).length=rl at *;refine A0c C ?_;simp -implicitDefEqProofs [z.l2,u1,eR,lr,hb];refine Abs.Next.mk (α:=Int×Int×ByteArray×Int×Int×T) (0,0,⟨#[]⟩,0,0,nilS) hP ?_;exact A0d (by simp -implicitDefEqProofs)
  ·rw[if_neg h1,if_neg h1]at hP
   have hb:(st==1)=false:=by simpa using h1
   refine A0c C ?_;simp -implicitDefEqProofs [z.l2,h1,hb];refine Abs.Next.mk (α:=Int×Int×ByteArray×Int×Int×T) (st,0,⟨#[]⟩,0,0,nilS) hP ?_;exact A0d (by simp -implicitDefEqProofs)
 rintro⟨st',k',nm',f',t',tk'⟩ hP;simp only at hP;have w:=ldI id tw st' kt k' nm' f' t' tk' (H:=[(2,iRow id tw st' kt k' nm' f' t' tk'),(1,zI),(0,X)]) (b:=2) rfl;have z:=z2 (iRow id tw st' kt k' nm' f' t' tk');have s1:=sI1 id tw st' kt k' nm' f' t' tk' [(0,X)] (iRow id tw st' kt k' nm' f' t' tk') ⟨#[]⟩ nilS 0 nilS 0 ⟨#[]⟩ 0 0 nilS;have s1:A0t 9 [(2,iRow id tw st' kt k' nm' f' t' tk'),(1,zI),(0,X)] (.ptr 1 0) (.t (.ag [sv id,tw,iv st',kt,iv k',sv nm',iv f',iv t',tk']))=_:=s1;have y:=ldI id tw st' kt k' nm' f' t' tk' (H:=[(2,iRow id tw st' kt k' nm' f' t' tk'),(1,iRow id tw st' kt k' nm' f' t' tk'),(0,X)]) (b:=1) rfl;have z3:=ldI id tw st td k nm f t tk (H:=[(2,iRow id tw st' kt k' nm' f' t' tk'),(1,iRow id tw st' kt k' nm' f' t' tk'),(0,X)]) (b:=0) (by rw[hX];rfl);refine A0c C ?_;simp -implicitDefEqProofs [w.a,z.l3,z3.l3,ld,lk,e1,s1,y.a,hP]
def B0a (a b:It) (l:List Dv):Int:=if a.state≠1 then 4 else if l.length=0 then 3 else if b.state≠1 then 2 else if cmpD a.gold b.gold=0 then 0 else 1
set_option maxHeartbeats 2000000 in
theorem E1b (a b:IC) {tl:T} {m:List DC} (hm:IsS eDC tl m) (ha:nodD a.x.gold<=1000000) (hb:nodD b.x.gold<=1000000):A0w Tryz.prog (G q) 59 [.ag a.cs,.ag b.cs,tl] (· = iv (B0a a.x b.x (dvs m))):=by
 obtain⟨R,hR⟩:∃R,R=B0a a.x b.x (dvs m):=⟨_,rfl⟩
 rw[<-hR];unfold B0a at hR;obtain⟨tw,td,k,nm,f,t,tk,ks,ecs,hg,hk,hw,hd,hgD⟩:=A1a a.ok;obtain⟨tw',td',k',nm',f',t',tk',ks',ecs',hg',hk',hw',hd',hgD'⟩:=A1a b.ok;rw[ecs,ecs'];have lm:=hm.len;have eC:=A9r hgD hgD' ha hb;rw[show(dvs m).length=m.length from List.length_map _]at hR;generalize cmpD a.x.gold b.x.gold=cz at *;generalize a.x.id=id at *;generalize b.x.id=id' at *;generalize a.x.state=st at *;generalize b.x.state=st' at *;generalize m.length=ml at *;have cd:=A3c id tw st td k nm f t tk;have cd':=A3c id' tw' st' td' k' nm' f' t' tk'
 obtain⟨X,hX⟩:∃X,X=iRow id tw st td k nm f t tk:=⟨_,rfl⟩
 obtain⟨Y,hY⟩:∃Y,Y=iRow id' tw' st' td' k' nm' f' t' tk':=⟨_,rfl⟩
 have z:=ldI id tw st td k nm f t tk (H:=[(1,Y),(0,X)]) (b:=0) (by rw[hX];rfl);have y:=ldI id' tw' st' td' k' nm' f' t' tk' (H:=[(1,Y),(0,X)]) (b:=1) (by rw[hY];rfl);have C:Ctx Tryz.prog (G q) _:=(A0y.cons (F0c (q:=q)) .nil).ctx mixed;refine C6s.call rfl ?_;unfold B4z;refine A0a C ?_;simp -implicitDefEqProofs [cd,cd'];rw[show Row.cells 28 [.t (sv id),.t tw,.t (iv st),.t td,.t (iv k),.t (sv nm),.t (iv f),.t (iv t),.t tk]=X from hX.symm];rw[show Row.cells 28 [.t (sv id'),.t tw',.t (iv st'),.t td',.t (iv k'),.t (sv nm'),.t (iv f'),.t (iv t'),.t tk']=Y from hY.symm];refine A0c C ?_;by_cases h1:st=1
 ·subst h1;rw[if_neg (by simp)]at hR;by_cases h2:ml=0
  ·subst h2;rw[if_pos rfl]at hR;have lm:A7k (.t tl)=some (.t (.v (.int .i64 0))):=lm;simp -implicitDefEqProofs [z.l2,lm,hR]
  ·rw[if_neg h2]at hR
   have b2:((ml:Int)==0)=false:=by simpa using (by omega:¬(ml:Int)=0)
   by_cases h3:st'=1
   ·subst h3;rw[if_neg (by simp)]at hR;by_cases h4:cz=0
    ·subst h4;rw[if_pos rfl]at hR;simp -implicitDefEqProofs [z.l2,lm,b2,y.l2,z.g,y.g,eC,hR]
    ·rw[if_neg h4]at hR
     have b4:(cz==0)=false:=by simpa using h4
     simp -implicitDefEqProofs [z.l2,lm,b2,y.l2,z.g,y.g,eC,b4,hR]
   ·rw[if_pos h3]at hR
    have b3:(st' != 1)=true:=by simpa using h3
    simp -implicitDefEqProofs [z.l2,lm,b2,y.l2,b3,hR]
 ·rw[if_pos h1]at hR
  have b1:(st != 1)=true:=by simpa using h1
  simp -implicitDefEqProofs [z.l2,b1,hR]
noncomputable def gKnd:List T->Option T
 | [a,b,t]=>(g2 tIt tIt fun c d=>((tSl eDC).dec t).bind fun m=>if nodD c.x.gold<=1000000/\nodD d.x.gold<=1000000 then some (iv (B0a c.x d.x (dvs m)))else none) [a,b]
 | _=>none
theorem E7u {F:Nat} (H:∀(a b:IC) {tl:T} {m:List DC},IsS eDC tl m->nodD a.x.gold<=1000000->nodD b.x.gold<=1000000->A0w Tryz.prog (G q) F [.ag a.cs,.ag b.cs,tl] (· = iv (B0a a.x b.x (dvs m)))):GOK Tryz.prog (G q) F gKnd:=fun args r h=>by
 unfold gKnd at h;split at h
 ·rename_i a b t;unfold g2 at h;obtain⟨c,hc,h⟩:=Option.bind_eq_some_iff.1 h;obtain⟨d,hd,h⟩:=Option.bind_eq_some_iff.1 h;obtain⟨m,hm,h⟩:=Option.bind_eq_some_iff.1 h;split at h
  ·rename_i hn;injection h with h;subst h;have hc:a = .ag c.cs:=Ty.is_dec hc;have hd:b = .ag d.cs:=Ty.is_dec hd;subst hc;subst hd;exact H c d (Ty.is_dec hm) hn.1 hn.2
  ·cases h
 ·cases h
theorem hUKnd:GOK Tryz.prog (G q) 59 gKnd:=E7u fun a b _ _ hm ha hb=>E1b a b hm ha hb
theorem E7v (a b:IC) {t:T} {m:List DC} (hm:IsS eDC t m) (ha:nodD a.x.gold<=1000000) (hb:nodD b.x.gold<=1000000):gKnd [.ag a.cs,.ag b.cs,t]=some (iv (B0a a.x b.x (dvs m))):=by
 have h1:tIt.dec (.ag a.cs)=some a:=Ty.dec_is (τ:=tIt) rfl;have h2:tIt.dec (.ag b.cs)=some b:=Ty.dec_is (τ:=tIt) rfl;have h3:(tSl eDC).dec t=some m:=Ty.dec_is (τ:=tSl eDC) hm;simp only[gKnd,g2,h1,h2,h3,Option.bind_some,ha,hb,and_self,if_true]
def SmR (c:IC) (m:List DC):Prop:=SmK (dvs m)/\c.x.decs.length<=200000
noncomputable def gRep:List T->Option T:=g2 tIt (tSl eDC) fun c m=>open Classical in if SmR c m then some (repT c m)else none
theorem E7w:GOK Tryz.prog (G q) 19 gRep:=A4e fun a b c m r ha hb hr=>by
 split at hr
 ·rename_i h;injection hr with hr;subst hr;have ha:a = .ag c.cs:=ha;subst ha;exact A6c c hb h.1 h.2
 ·cases hr
theorem B3i (c:IC) {t:T} {m:List DC} (ht:IsS eDC t m) (h:SmR c m):gRep [.ag c.cs,t]=some (repT c m):=by
 show g2 _ _ _ _=_;rw[A4u (τ:=tIt) (σ:=tSl eDC) rfl ht,if_pos h]
end Go.Proofs.YtmplckgbeaifkaaGreatDoor
namespace Go.Abs
set_option linter.unusedSimpArgs false
set_option linter.unusedVariables false
open Go
section
variable {P : Program} {G : A0u} {B : Nat} {α β : Type}
theorem B6i {e:Enc α} {ty b c:Nat} {l:List α} {H:Heap} (h:c≠b):look (rowH e ty b l++H) c=look H c:=by
 cases l with
 | nil=>rfl
 | cons x r=>simp only[rowH,List.cons_append,List.nil_append,look_cons,if_neg (Ne.symm h)]
theorem D0w {e:Enc α} {e':Enc β} {ty ty' b b' k k' nx nx' n:Nat} {l:List α} {l':List β} {env env':List (Nat×PV)} {H R:Heap} (h:A0p e ty H k l) (h':A0p e' ty' H k' l') (hb:b<nx') (hb':b'<nx') (hB:B<=b) (hB':B<=b')
  (hne:b≠b') (hk:k≠k')
  (hR:∀q∈R,look H q.1=some (A3j (fun c=>if c=b then k else if c=b' then k' else c) q.2)/\q.1<nx'/\q.1≠b/\q.1≠b'/\q.1≠k/\q.1≠k'/\A1y nx' q.2=true)
  (he:∀q∈env',look env q.1=some (ren (fun c=>if c=b then k else if c=b' then k' else c) q.2)/\under nx' q.2=true) :
  Sub P G B ⟨env,H,nx,n⟩ ⟨env',R++(rowH e ty b l++rowH e' ty' b' l'),nx',n⟩:=by
 refine B0l (fun c=>if c=b then k else if c=b' then k' else c) rfl (by show B<=nx';omega) (fun c hc=>by show(if c=b then k else if c=b' then k' else c)=c;rw[if_neg (by omega),if_neg (by omega)]) he (fun q hq=>?_) (fun q hq q' hq' hx=>?_)
 ·rcases List.mem_append.1 hq with hq | hq
  ·obtain⟨h1,h2,h3,h4,_,_,h5⟩:=hR q hq;refine⟨?_,h2,h5⟩;show look H (if q.1=b then k else if q.1=b' then k' else q.1)=_;rw[if_neg h3,if_neg h4];exact h1
  rcases List.mem_append.1 hq with hq | hq
  ·obtain⟨hn,rfl⟩:=A2e hq;simp only[if_true,A2a,A1k];rcases h with h | h
   ·exact absurd h hn
   ·exact⟨h,hb,trivial⟩
  ·obtain⟨hn,rfl⟩:=A2e hq;simp only[if_neg (Ne.symm hne),if_true,A2a,A1k];rcases h' with h' | h'
   ·exact absurd h' hn
   ·exact⟨h',hb',trivial⟩
 ·have key:∀q∈R++(rowH e ty b l++rowH e' ty' b' l'),q.1=b\/q.1=b'\/(q.1≠b/\q.1≠b'/\q.1≠k/\q.1≠k'):=by
   intro q hq;rcases List.mem_append.1 hq with hq | hq
   ·obtain⟨_,_,h3,h4,h5,h6,_⟩:=hR q hq;exact .inr (.inr ⟨h3,h4,h5,h6⟩)
   rcases List.mem_append.1 hq with hq | hq
   ·obtain⟨_,rfl⟩:=A2e hq;exact .inl rfl
   ·obtain⟨_,rfl⟩:=A2e hq;exact .inr (.inl rfl)
  have hx:(if q.1=b then k else if q.1=b' then k' else q.1)=(if q'.1=b then k else if q'.1=b' then k' else q'.1):=hx;rcases key q hq with h1 | h1 | ⟨h1,h2,h3,h4⟩<;>rcases key q' hq' with g1 | g1 | ⟨g1,g2,g3,g4⟩
  ·rw[h1,g1]
  ·rw[if_pos h1,if_neg (by rw[g1];exact Ne.symm hne),if_pos g1]at hx;exact absurd hx hk
  ·rw[if_pos h1,if_neg g1,if_neg g2]at hx;exact absurd hx.symm g3
  ·rw[if_neg (by rw[h1];exact Ne.symm hne),if_pos h1,if_pos g1]at hx;exact absurd hx.symm hk
  ·rw[h1,g1]
  ·rw[if_neg (by rw[h1];exact Ne.symm hne),if_pos h1,if_neg g1,if_neg g2]at hx;exact absurd hx.symm g4
  ·rw[if_neg h1,if_neg h2,if_pos g1]at hx;exact absurd hx h3
  ·rw[if_neg h1,if_neg h2,if_neg (by rw[g1];exact Ne.symm hne),if_pos g1]at hx;exact absurd hx h4
  ·rw[if_neg h1,if_neg h2,if_neg g1,if_neg g2]at hx;exact hx
end
end Go.Abs
namespace Go.Proofs.YtmplckgbeaifkaaGreatDoor
set_option linter.unusedSimpArgs false
set_option linter.unusedVariables false
open Go Go.Abs
variable {q : Gl}
structure RD where
 t:T
 m:List DC
 ok:IsS eDC t m
theorem RD.ext {a b:RD} (h:a.t=b.t):a=b:=by
 obtain⟨t,m,ok⟩:=a;obtain⟨t',m',ok'⟩:=b;simp only at h;subst h;obtain rfl:=(tSl eDC).uniq t m m' ok ok';rfl
def eRD:Enc RD:=⟨1,fun r=>[r.t],fun _=>rfl,by omega,fun a b h=>RD.ext (by injection h)⟩
theorem E7x {u:T} {l:List RD} (h:IsS eRD u l) {i:Nat} {r:RD} (hx:l[i]?=some r):∃p,A1o 1 (.t u) (.t (iv (i:Int)))=some (.t (.pt p))/\∀H,A0g false 1 H (.t (.pt p))=some (.t r.t):=⟨_,h.iaddr hx .i64,fun _=>rfl⟩
def ntN (c:IC) (r:RD):Nt:=⟨c.x.id,B0a c.x (repI c.x (dvs r.m)) (dvs r.m),(B1n (dvs r.m) c.x.decs:Nat)⟩
def updI (l:List IC) (rs:List RD):List IC:=List.zipWith (fun c r=>C6x c r.m) l rs
def updN (l:List IC) (rs:List RD):List Nt:=List.zipWith ntN l rs
def updE (ver:ByteArray) (l:List IC) (version:ByteArray) (rs:List RD):Int:=
 if chkT ⟨ver,l.map IC.x⟩≠0 then chkT ⟨ver,l.map IC.x⟩else if A1e false version=false then 1 else if rs.length≠l.length then 17 else if rs.all (fun r=>ascD (dvs r.m))then 0 else 3
def updT (ver:ByteArray) (u:T) (l:List IC) (version:ByteArray) (rs:List RD):T:=
 if updE ver l version rs=0 then .tu [.ag [sv version,A1g eIC (updI l rs)],A1g eNt (updN l rs),iv 0]else .tu [.ag [sv ver,u],nilS,iv (updE ver l version rs)]
theorem B8u {α β γ:Type} (f:α->β->γ) {l:List α} {m:List β} {i:Nat} {x:α} {y:β} (hx:l[i]?=some x) (hy:m[i]?=some y):(List.zipWith f l m).take (i+1)=(List.zipWith f l m).take i++[f x y]:=by
 rw[List.take_add_one,List.getElem?_zipWith,hx,hy];rfl
structure SmU (ver:ByteArray) (l:List IC) (version:ByteArray) (rs:List RD):Prop where
 b:SmB ver l
 v:version.size<=lim
 decs:∀c∈l,c.x.decs.length<=200000
 rd:∀r∈rs,SmK (dvs r.m)
 len:rs.length<=1000000
noncomputable def gChk:List T->Option T:=g1 tTb fun b=>open Classical in if SmB b.ver b.items then some (iv (chkT b.tb))else none
theorem hChk:GOK Tryz.prog (G q) 37 gChk:=A4c fun a b r ha hr=>by
 split at hr
 ·rename_i h;injection hr with hr;subst hr;obtain⟨u,rfl,hu⟩:=ha;exact E0q hu h
 ·cases hr
theorem C6y {ver:ByteArray} {u:T} {l:List IC} (hu:IsS eIC u l) (hs:SmB ver l):gChk [.ag [sv ver,u]]=some (iv (chkT ⟨ver,l.map IC.x⟩)):=by
 show g1 _ _ _=_;rw[A5b (τ:=tTb) (x:=⟨ver,l⟩) ⟨u,rfl,hu⟩,if_pos hs];rfl
end Go.Proofs.YtmplckgbeaifkaaGreatDoor
