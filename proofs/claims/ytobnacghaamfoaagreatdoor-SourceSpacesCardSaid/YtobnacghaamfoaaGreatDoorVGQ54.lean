/- Auxiliary facts. -/
import Derived.Test.YtobnacghaamfoaaGreatDoorVGQ53
import Derived.Test.YtobnacghaamfoaaGreatDoorVGQ37
import Derived.Test.YtobnacghaamfoaaGreatDoorVGQ50
import Derived.Test.YtobnacghaamfoaaGreatDoorVGQ52
set_option linter.unusedSimpArgs false
set_option maxRecDepth 100000
set_option maxHeartbeats 0
set_option linter.unusedVariables false
open List renaming length_cons->Xa,length_append->Xb,length_nil->Xc,drop_succ_cons->Xd,length_map->Xf,flatMap_append->Xg,append_assoc->Xh
open Go.Proofs.Tryz renaming prog->Xe
namespace Go.Proofs.YtobnacghaamfoaaGreatDoor
open Go Go.Abs
theorem nJ {c:UInt8} (hc:c=9\/c=13) {X:List UInt8} {ks:List KT} (h:Scn X ks):Scn (c::X) ks:=λl f hf=>by
 rw[Xa]at hf
 have e:Au false (c::X)=((Au false X).1+1,(Au false X).2):=by
  rcases hc with rfl | rfl
  .rw[Au,zz (by decide),zz (by decide),zy (by decide)]
  .rw[Au,zz (by decide),zz (by decide),zy (by decide)]
 have:=h l f (by omega);rw[Ci,e,Xd];exact this
theorem B5v {X:List UInt8} {ks:List KT} (h:Scn X ks):Scn (37::32::34::10::X) ks:=λl f hf=>by
 simp only[Xa]at hf
 have e:Au false (37::32::34::10::X)=((Au false X).1+4,(Au false X).2+1):=by
  rw[Au,zz (by decide),zy (by decide)];rw[Au,zz (by decide),zy (by decide)];rw[Au,zz (by decide),zy (by decide)];rw[Au,zy (by decide)]
 have:=h (l+1) f (by omega);rw[Ci,e,Xd,Xd,Xd,Xd];rw[Ci]at this;rw[show l+((Au false X).2+1)=l+1+(Au false X).2 by omega];exact this
def spW (t:Tok):List UInt8:=if t.k=3 then [32,34]++(t.t++[34,32,37,32,34,10])else [32]++(t.t++[13,10])
def BZ (ts:List Tok):List UInt8:=ts.flatMap spW
theorem B5w (X:List UInt8):Sep (13::X):=λc r e=>by
 injection e with e _;subst e;exact .inr (.inr (.inr rfl))
theorem nK:∀ts:List Tok,(∀t∈ts,Nb t)->Scn (BZ ts) (ts.map kt)
 | [],_=>gD
 | t::ts,hok=>by
  have ih:=nK ts λx hx=>hok x (List.mem_cons_of_mem _ hx);have ht:=hok t List.mem_cons_self;have e:BZ (t::ts)=spW t++BZ ts:=rfl;rw[e,List.map_cons];unfold spW;by_cases h3:t.k=3
  .rw[zy h3];have hq:=kM ht h3
   have e2:[32,34]++(t.t++[34,32,37,32,34,10])++BZ ts=32::34::(t.t++34::32::37::32::34::10::BZ ts):=by simp
   have e3:kt t=(3,t.t):=by unfold kt;rw[h3]
   rw[e2,e3];exact CV (Ru (CV (B5v ih)) (RY hq _))
  .rw[zz h3]
   obtain⟨c,r,hw,he,hk,htt,hn⟩:=ht.next
   have hw:t.t=c::r:=by
    rw[<-hw];unfold wrT wr;rw[zz h3]
   have e2:[32]++(t.t++[13,10])++BZ ts=32::(t.t++13::10::BZ ts):=by simp
   rw[e2];refine CV (Dh (k:=t.k) (nJ (.inr rfl) (gE ih)) (by rw[hw];simp) ?_);have hx:Ax (c::r++13::10::BZ ts)=Ax (c::r):=dR c r (B5w _) he;rw[hw,hx];have h4:t.t=(Ax (c::r)).t:=htt.symm;rw[hw]at h4;rw[<-hk];generalize Ax (c::r)=tk at he h4 hn;obtain⟨k,u,e,n⟩:=tk;simp only at he h4 hn;rw[he,hn,<-h4]
theorem nL:∀ts:List Tok,(BZ ts).length<=(ts.flatMap wrT).length+6*ts.length
 | []=>Nat.le_refl _
 | t::ts=>by
  have ih:=nL ts;have e:BZ (t::ts)=spW t++BZ ts:=rfl
  have h:(spW t).length<=(wrT t).length+6:=by
   unfold spW wrT wr;by_cases h3:t.k=3
   .rw[zy h3,zy h3];simp only[Xb,Xa,Xc];omega
   .rw[zz h3,zz h3];simp only[Xb,Xa,Xc];omega
  rw[e,List.flatMap_cons,Xb,Xb,Xa];omega
theorem B5x {s s':List UInt8} {ts us:List Tok} (h:CZ s 1 = .ok ts) (h':CZ s' 1 = .ok us) (hk:us.map kt=ts.map kt) (hl:s.length<=65536) (hl':s'.length<=65536) :
  (∃L,Cd s = .ok L/\Cd s' = .ok L)\/∃(a b:Nat) (e:Int),Cd s = .error (a,e)/\Cd s' = .error (b,e):=by
 have hn:us.length=ts.length:=by
  have:=congrArg List.length hk;rwa[Xf,Xf]at this
 unfold Cd;rw[zz (by omega),zz (by omega),h,h'];simp only;rw[hk,hn]
 cases hp:CR (ts.map kt) (ts.length+1) 0 ⟨[],none⟩with
 | error x=>exact .inr ⟨_,_,_,rfl,rfl⟩
 | ok st=>exact .inl ⟨_,rfl,rfl⟩
theorem B5y {s:List UInt8} {ts:List Tok} (hs:s.length<=2000) (h:CZ s 1 = .ok ts):(9::BZ ts).length<=20000/\((∃L,Cd s = .ok L/\Cd (9::BZ ts) = .ok L)\/∃(a b:Nat) (e:Int),Cd s = .error (a,e)/\Cd (9::BZ ts) = .error (b,e)):=by
 obtain⟨h1,h2⟩:=OX _ _ _ _ h;have h4:=Rc h;rw[List.length_drop]at h2;have h5:=nL ts
 have hl:(9::BZ ts).length<=20000:=by rw[Xa];omega
 obtain⟨us,e1,e2⟩:=nJ (.inl rfl) (nK ts h1) 1 ((9::BZ ts).length+1) (by omega);exact⟨hl,B5x h e1 e2 (by omega) (by omega)⟩
variable {q : Gl}
def SLn (s:ByteArray) (tt:T) (ts:List Tok) (j:Nat):Ad:=⟨[(7,.t (iv (j:Int))),(6,.t (sv (bs (9::BZ (ts.take j))))),(3,.t tt),(0,.t (sv s))],[],0,80⟩
theorem B5z {ts:List Tok} {j:Nat} {t:Tok} (h:ts[j]?=some t):BZ (ts.take (j+1))=BZ (ts.take j)++spW t:=by
 unfold BZ;rw[List.take_add_one,h,Xg];simp
theorem nM (ts:List Tok) (j:Nat):(BZ (ts.take j)).length<=(BZ ts).length:=by
 conv=>rhs;rw[<-List.take_append_drop j ts]
 unfold BZ;rw[Xg,Xb];omega
theorem B6a (s:ByteArray):A1 Xe (G q) 6 [sv s] (· = bv true):=by
 have CE:Ctx Xe (G q) (orc [(9,gEx),(10,G6)]):=(As.cons hEx (.cons UG .nil)).ctx mixed;refine vG.call rfl ?_;have hl:s.data.toList.length=s.size:=rfl;(conv in aS=>cbv);refine Av AL ?_;simp -implicitDefEqProofs;by_cases hs:2000<s.size
 .have hs':(2000:Int)<(s.size:Int):=by omega
  refine Av CE ?_;simp -implicitDefEqProofs [hs,hs',ge0]
 have hs':¬(2000:Int)<(s.size:Int):=by omega
 refine Av CE ?_;simp -implicitDefEqProofs [hs,hs'];rcases nG (s:=s) (by omega)with⟨k,e,he,hg,_⟩ | ⟨ts,hts,hg,hlen⟩
 .have hb:(e != 0)=true:=by simpa using he
  refine Av CE ?_;simp -implicitDefEqProofs [hg];refine Av CE ?_;simp -implicitDefEqProofs [hb,he,ge0]
 refine Av CE ?_;simp -implicitDefEqProofs [hg];refine Av CE ?_;simp -implicitDefEqProofs;obtain⟨hL,hsame⟩:=B5y (s:=s.data.toList) (by omega) hts;have ht:=IsS.tree Aw ts;have hlt:AO (.t (Aq Aw ts))=some (.t (iv (ts.length:Int))):=ht.len;generalize Aq Aw ts=tt at hg hlt ht;refine Av AL ?_;simp -implicitDefEqProofs
 have hL2:(BZ ts).length<=20000:=by rw[Xa]at hL;omega
 refine BF (α:=Unit) (λ_=>⟨[(6,.t (sv (bs (9::BZ ts)))),(0,.t (sv s))],[],0,80⟩) (λ_=>True) (λ_=>rfl) ?_ ?_
 .refine Av AL ?_;simp -implicitDefEqProofs;refine BD ?_;refine Gv (SLn s tt ts) ts.length (λ_=>rfl) ?_ rfl ?_ ?_
  .refine AQ rfl rfl ?_ ?_<;>simp -implicitDefEqProofs [SLn,BZ]
  .intro j hj
   obtain⟨x,hx⟩:∃x,ts[j]?=some x:=⟨_,List.getElem?_eq_getElem hj⟩
   obtain⟨r,hr⟩:=IX ht hx;have hr:Bd 3 (.t tt) (.t (iv (j:Int)))=some (.t (.pt (iv x.k::sv (bs x.t)::iv (x.l:Int)::r))):=hr;have hn:=B5z hx;have hb1:=nM ts j;have hb2:=nM ts (j+1)
   obtain⟨W,hW⟩:∃W,W=9::BZ (ts.take j):=⟨_,rfl⟩
   have hW2:9::BZ (ts.take (j+1))=W++spW x:=by rw[hn,hW];rfl
   have hWl:W.length<=20001:=by rw[hW,Xa];omega
   have hxl:(spW x).length<=20001:=by
    have:=congrArg List.length hW2;rw[Xb,Xa]at this;omega
   have e1:IntKind.i64.wrap ((j:Int)+1)=((j+1:Nat):Int):=AP (by omega) (by omega);by_cases h3:x.k=3
   .have hk:(x.k==3)=true:=by rw[h3];rfl
    unfold spW at hW2 hxl;rw[zy h3]at hW2 hxl;simp only[Xb,Xa,Xc]at hxl;have b1:∀(Φ:A7) (H:Ab) (nx:Nat),Ai Φ H nx (.bin false .add none) [.t (sv (bs W)),.t (sv ⟨#[32,34]⟩)]=some (.t (sv (bs (W++[32,34]))),H,nx):=Ce (b:=[32,34]) rfl rfl (by simp only[Xa,Xc];omega)
    obtain⟨X1,hX1⟩:∃X,X=W++[32,34]:=⟨_,rfl⟩
    have l1:X1.length=W.length+2:=by rw[hX1];simp only[Xb,Xa,Xc]
    rw[<-hX1]at b1;have b2:=FT (a:=X1) (b:=x.t) (by omega)
    obtain⟨X2,hX2⟩:∃X,X=X1++x.t:=⟨_,rfl⟩
    have l2:X2.length=X1.length+x.t.length:=by rw[hX2];simp only[Xb]
    rw[<-hX2]at b2;have b3:∀(Φ:A7) (H:Ab) (nx:Nat),Ai Φ H nx (.bin false .add none) [.t (sv (bs X2)),.t (sv ⟨#[34,32,37,32,34,10]⟩)]=some (.t (sv (bs (X2++[34,32,37,32,34,10]))),H,nx):=Ce (b:=[34,32,37,32,34,10]) rfl rfl (by simp only[Xa,Xc];omega)
    have hf:9::BZ (ts.take (j+1))=X2++[34,32,37,32,34,10]:=by rw[hW2,hX2,hX1];simp only[Xh]
    refine Ap AL ?_;simp -implicitDefEqProofs [SLn,<-hW,hlt,hj,hr,ldS,DY,hk,b1,b2,b3,e1];refine AQ rfl rfl ?_ ?_<;>simp -implicitDefEqProofs [hf]
   .have hk:(x.k==3)=false:=by rw[zu];exact h3
    unfold spW at hW2 hxl;rw[zz h3]at hW2 hxl;simp only[Xb,Xa,Xc]at hxl;have b1:∀(Φ:A7) (H:Ab) (nx:Nat),Ai Φ H nx (.bin false .add none) [.t (sv (bs W)),.t (sv ⟨#[32]⟩)]=some (.t (sv (bs (W++[32]))),H,nx):=Ce (b:=[32]) rfl rfl (by simp only[Xa,Xc];omega)
    obtain⟨X1,hX1⟩:∃X,X=W++[32]:=⟨_,rfl⟩
    have l1:X1.length=W.length+1:=by rw[hX1];simp only[Xb,Xa,Xc]
    rw[<-hX1]at b1;have b2:=FT (a:=X1) (b:=x.t) (by omega)
    obtain⟨X2,hX2⟩:∃X,X=X1++x.t:=⟨_,rfl⟩
    have l2:X2.length=X1.length+x.t.length:=by rw[hX2];simp only[Xb]
    rw[<-hX2]at b2;have b3:∀(Φ:A7) (H:Ab) (nx:Nat),Ai Φ H nx (.bin false .add none) [.t (sv (bs X2)),.t (sv ⟨#[13,10]⟩)]=some (.t (sv (bs (X2++[13,10]))),H,nx):=Ce (b:=[13,10]) rfl rfl (by simp only[Xa,Xc];omega)
    have hf:9::BZ (ts.take (j+1))=X2++[13,10]:=by rw[hW2,hX2,hX1];simp only[Xh]
    refine Ap AL ?_;simp -implicitDefEqProofs [SLn,<-hW,hlt,hj,hr,ldS,DY,hk,b1,b2,b3,e1];refine AQ rfl rfl ?_ ?_<;>simp -implicitDefEqProofs [hf]
  .refine Ap AL ?_;simp -implicitDefEqProofs [SLn,hlt];exact Am.mk () trivial (AQ rfl rfl (by simp -implicitDefEqProofs) (by simp -implicitDefEqProofs))
 rintro _ _;have C:Ctx Xe (G q) (orc [(9,gEx),(14,gPs),(16,G5)]):=(As.cons hEx (.cons hPs (.cons Ub .nil))).ctx mixed;have g1:=Hp (s:=s) (by omega);have g2:=Hp (s:=bs (9::BZ ts)) (by show(9::BZ ts).toArray.size<=_;rw[List.size_toArray];omega);have e2:(bs (9::BZ ts)).data.toList=9::BZ ts:=rfl;rw[e2]at g2;rcases hsame with⟨L,h1,h2⟩ | ⟨a,b,e,h1,h2⟩
 .have hgd:=LR h1 (B:=2000) (by omega);have hg:=nF (λm hm=>(hgd.1 m hm).1) (by omega) hgd.2;rw[h1]at g1;rw[h2]at g2;have g1:gPs [sv s]=some (.tu [Cb L,iv 0,iv 0]):=g1;have g2:gPs [sv (bs (9::BZ ts))]=some (.tu [Cb L,iv 0,iv 0]):=g2;generalize Cb L=t at g1 g2 hg;generalize bs (9::BZ ts)=ln at g2 ⊢;refine Ap C ?_;simp -implicitDefEqProofs [g1,g2,hg,ge0]
 .have hg:G5 [Ah,Ah]=some (bv true):=OS IsL.nil IsL.nil (by simp) λm hm=>by cases hm
  rw[h1]at g1;rw[h2]at g2;have g1:gPs [sv s]=some (.tu [Ah,iv (a:Int),iv e]):=g1;have g2:gPs [sv (bs (9::BZ ts))]=some (.tu [Ah,iv (b:Int),iv e]):=g2;generalize bs (9::BZ ts)=ln at g2 ⊢;refine Ap C ?_;simp -implicitDefEqProofs [g1,g2,hg,ge0]
end Go.Proofs.YtobnacghaamfoaaGreatDoor
