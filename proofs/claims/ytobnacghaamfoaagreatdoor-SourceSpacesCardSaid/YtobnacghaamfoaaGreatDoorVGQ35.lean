/- Auxiliary facts. -/
import Derived.Test.YtobnacghaamfoaaGreatDoorVGQ34
import Derived.Test.YtobnacghaamfoaaGreatDoorVGQ27
set_option linter.unusedSimpArgs false
set_option linter.unusedVariables false
open List renaming length_cons->Xa,drop_succ_cons->Xb,cons_append->Xc,drop_left'->Xd,length_append->Xe,map_cons->Xf
namespace Go.Proofs.YtobnacghaamfoaaGreatDoor
open Go Go.Abs
theorem fZ (c:UInt8) (r:List UInt8) (he:(Ax (c::r)).e=0):Au false (c::r)=(0,0):=by
 have key:∀k:UInt8,(k=10\/k=37\/k=32\/k=9\/k=13)->(Ax (k::r)).e=8:=by
  intro k hk
  have h1:B7 k=false:=by rcases hk with h | h | h | h | h<;>subst h<;>decide
  have h2:Bq k=false:=by rcases hk with h | h | h | h | h<;>subst h<;>decide
  have h3:(AR k||decide (k.toNat=45))=false:=by rcases hk with h | h | h | h | h<;>subst h<;>decide
  have h4:¬k.toNat=34:=by rcases hk with h | h | h | h | h<;>subst h<;>decide
  rw[Ax,zz (by rw[h1];simp),zz (by rw[h2];simp),zz (by rw[h3];simp),zz h4];show(A8 (k::r)).2=8
  have h5:E1.contains k=false:=by rcases hk with h | h | h | h | h<;>subst h<;>decide
  have h6:(60==k)=false:=by rcases hk with h | h | h | h | h<;>subst h<;>decide
  have h7:(33==k)=false:=by rcases hk with h | h | h | h | h<;>subst h<;>decide
  cases r with
  | nil=>rw[L3,h5];rfl
  | cons d r=>rw[HY,h5,h6,h7];rfl
 have no:∀k:UInt8,(k=10\/k=37\/k=32\/k=9\/k=13)->c.toNat≠k.toNat:=by
  intro k hk e;have:c=k:=UInt8.toNat_inj.1 e;subst this;rw[key c hk]at he;cases he
 have n10:=no 10 (by simp);have n37:=no 37 (by simp);have n32:=no 32 (by simp);have n9:=no 9 (by simp);have n13:=no 13 (by simp);have a1:¬c.toNat=10:=n10;have a2:¬c.toNat=37:=n37;have a3:¬c.toNat=32:=n32;have a4:¬c.toNat=9:=n9;have a5:¬c.toNat=13:=n13;rw[Au,zz a1,zz (by simp[a2]),zz (by omega)]
def Scn (X:List UInt8) (ks:List KT):Prop:=∀(l f:Nat),X.length<f->∃us,Ci f false X l = .ok us/\us.map (λt=>(t.k,t.t))=ks
theorem gD:Scn [] []:=λl f hf=>by
 obtain⟨f,rfl⟩:∃g,f=g+1:=⟨f-1,by omega⟩
 exact⟨[],rfl,rfl⟩
theorem CV {X:List UInt8} {ks:List KT} (h:Scn X ks):Scn (32::X) ks:=λl f hf=>by
 rw[Xa]at hf
 have e:Au false (32::X)=((Au false X).1+1,(Au false X).2):=by
  rw[Au,zz (by decide),zz (by decide),zy (by decide)]
 have:=h l f (by omega);rw[Ci,e,Xb];exact this
theorem gE {X:List UInt8} {ks:List KT} (h:Scn X ks):Scn (10::X) ks:=λl f hf=>by
 rw[Xa]at hf
 have e:Au false (10::X)=((Au false X).1+1,(Au false X).2+1):=by
  rw[Au,zy (by decide)]
 have:=h (l+1) f (by omega);rw[Ci,e,Xb];rw[Ci]at this;rw[show l+((Au false X).2+1)=l+1+(Au false X).2 by omega];exact this
theorem Dh {k:Int} {t:List UInt8} {X:List UInt8} {ks:List KT} (h:Scn X ks) (ht:t≠[]) (hn:Ax (t++X)=⟨k,t,0,t.length⟩):Scn (t++X) ((k,t)::ks):=λl f hf=>by
 cases t with
 | nil=>exact absurd rfl ht
 | cons c r=>
  obtain⟨f,rfl⟩:∃g,f=g+1:=⟨f-1,by omega⟩
  have he:(Ax (c::(r++X))).e=0:=by
   have:Ax (c::(r++X))=_:=hn;rw[this]
  have hn':Ax (c::(r++X))=⟨k,c::r,0,(c::r).length⟩:=hn;have h0:=fZ c (r++X) he;rw[Xc,Ci,h0];have st:=Jg f c (r++X) l he;have e0:(c::(r++X)).drop (0,0).1=c::(r++X):=rfl;have el:l+((0,0):Nat×Nat).2=l:=rfl;rw[e0,el,st,hn'];have hd:(c::(r++X)).drop (c::r).length=X:=Xd rfl;simp only[hd];rw[Xc,Xa,Xe]at hf;obtain⟨us,h1,h2⟩:=h l f (by omega);rw[h1];exact⟨_,rfl,by rw[Xf,h2]⟩
theorem Ru {t:List UInt8} {X:List UInt8} {ks:List KT} (h:Scn X ks) (hn:Ax (34::(t++34::X))=⟨3,t,0,t.length+2⟩):Scn (34::(t++34::X)) ((3,t)::ks):=λl f hf=>by
 obtain⟨f,rfl⟩:∃g,f=g+1:=⟨f-1,by omega⟩
 have he:(Ax (34::(t++34::X))).e=0:=by rw[hn]
 have h0:=fZ 34 (t++34::X) he;rw[Ci,h0];have st:=Jg f 34 (t++34::X) l he;have e0:(34::(t++34::X)).drop (0,0).1=34::(t++34::X):=rfl;have el:l+((0,0):Nat×Nat).2=l:=rfl;rw[e0,el,st,hn]
 have hd:(34::(t++34::X)).drop (t.length+2)=X:=by
  rw[show(34::(t++34::X))=(34::t++[34])++X by simp];exact Xd (by simp)
 simp only[hd];rw[Xa,Xe,Xa]at hf;obtain⟨us,h1,h2⟩:=h l f (by omega);rw[h1];exact⟨_,rfl,by rw[Xf,h2]⟩
end Go.Proofs.YtobnacghaamfoaaGreatDoor
