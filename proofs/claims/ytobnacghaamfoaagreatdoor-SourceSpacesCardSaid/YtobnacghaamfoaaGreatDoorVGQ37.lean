/- Auxiliary facts. -/
import Derived.Test.YtobnacghaamfoaaGreatDoorVGQ28
import Derived.Test.YtobnacghaamfoaaGreatDoorVGQ35
import Derived.Test.YtobnacghaamfoaaGreatDoorVGQ25
import Derived.Test.YtobnacghaamfoaaGreatDoorVGQ15
set_option linter.unusedSimpArgs false
set_option linter.unusedVariables false
open List renaming take_succ_cons->Xa,take_take->Xb,takeWhile_cons->Xd,take_zero->Xe,length_cons->Xf
open Nat renaming min_self->Xc
namespace Go.Proofs.YtobnacghaamfoaaGreatDoor
open Go Go.Abs
theorem UD {p:UInt8->Bool}:∀D:List UInt8,(D.take (D.takeWhile p).length).takeWhile p=D.takeWhile p
 | []=>rfl
 | c::D=>by
  by_cases h:p c=true
  .rw[Xd,zy h,Xf,Xa,Xd,zy h,UD D]
  .rw[Xd,zz h];rfl
theorem gI (big:Bool) (D:List UInt8):AB big (D.take (AB big D))=AB big D:=by
 unfold AB;rw[UD]
theorem A5r (c:UInt8) (r:List UInt8) (h1:1<=AX (c::r)):AX ((c::r).take (AX (c::r)))=AX (c::r):=by
 obtain⟨n,hn⟩:∃n,AX (c::r)=n+1:=⟨AX (c::r)-1,by omega⟩
 have hm:Cu ((c::r).take (AX (c::r)))=Cu (c::r):=by rw[hn];rfl
 have key:((c::r).take (AX (c::r))).drop (Cu (c::r))=((c::r).drop (Cu (c::r))).take (((c::r).drop (Cu (c::r))).takeWhile AR).length:=by
  rw[List.drop_take];congr 1;unfold AX;omega
 have:AX ((c::r).take (AX (c::r)))=Cu (c::r)+(((c::r).drop (Cu (c::r))).takeWhile AR).length:=by
  rw[AX,hm,key,UD]
 rw[this];rfl
theorem gJ:∀D:List UInt8,(A9 D).2=0->A9 (D.take ((A9 D).1+1))=A9 D
 | [],h=>by cases h
 | c::D,h=>by
  rw[A9]at h;by_cases h1:c.toNat=34
  .rw[A9,zy h1,Xa,A9,zy h1]
  .rw[zz h1]at h;by_cases h2:prt c=true
   .rw[zy h2]at h;rw[A9,zz h1,zy h2,Xa,A9,zz h1,zy h2,gJ D h]
   .rw[zz h2]at h;cases h
theorem A5s (c:UInt8) (r:List UInt8) (h:(A8 (c::r)).2=0):A8 ((c::r).take (A8 (c::r)).1)=A8 (c::r):=by
 cases r with
 | nil=>
  rw[L3]at h ⊢;split at h
  .rename_i hc;rw[zy hc,Xa,Xe,L3,zy hc]
  .cases h
 | cons d r=>
  rw[HY]at h ⊢;split at h
  .rename_i hc;rw[zy hc,Xa,Xa,Xe,HY,zy hc]
  .rename_i hc;rw[zz hc];split at h
   .rename_i hd;rw[zy hd,Xa,Xe,L3,zy hd]
   .cases h
theorem A5t (c:UInt8) (r:List UInt8) (he:(Ax (c::r)).e=0):Ax ((c::r).take (Ax (c::r)).n)=Ax (c::r):=by
 obtain⟨n1,n2⟩:=IR (c::r) rfl he
 obtain⟨n,hn⟩:∃n,(Ax (c::r)).n=n+1:=⟨(Ax (c::r)).n-1,by omega⟩
 have ht:(c::r).take (Ax (c::r)).n=c::r.take n:=by rw[hn];rfl
 rw[ht]
 obtain⟨D,hD⟩:∃D,D=c::r:=⟨_,rfl⟩
 have hD':c::r.take n=D.take (n+1):=by rw[hD];rfl
 have hL:Ax (c::r.take n)=if B7 c then⟨1,(D.take (n+1)).take (AB false (D.take (n+1))),if 32<AB false (D.take (n+1))then 7 else 0,AB false (D.take (n+1))⟩
  else if Bq c then⟨2,(D.take (n+1)).take (AB true (D.take (n+1))),if 32<AB true (D.take (n+1))then 7 else 0,AB true (D.take (n+1))⟩
  else if AR c||decide (c.toNat=45)then⟨4,(D.take (n+1)).take (AX (D.take (n+1))),D0 ((D.take (n+1)).take (AX (D.take (n+1)))),AX (D.take (n+1))⟩
  else if c.toNat=34 then⟨3,(r.take n).take (A9 (r.take n)).1,(A9 (r.take n)).2,1+(A9 (r.take n)).1+(if(A9 (r.take n)).2=0 then 1 else 0)⟩
  else⟨5,(D.take (n+1)).take (A8 (D.take (n+1))).1,(A8 (D.take (n+1))).2,(A8 (D.take (n+1))).1⟩:=by
  rw[Ax,<-hD'];rfl
 have hR:Ax (c::r)=if B7 c then⟨1,D.take (AB false D),if 32<AB false D then 7 else 0,AB false D⟩
  else if Bq c then⟨2,D.take (AB true D),if 32<AB true D then 7 else 0,AB true D⟩
  else if AR c||decide (c.toNat=45)then⟨4,D.take (AX D),D0 (D.take (AX D)),AX D⟩
  else if c.toNat=34 then⟨3,r.take (A9 r).1,(A9 r).2,1+(A9 r).1+(if(A9 r).2=0 then 1 else 0)⟩
  else⟨5,D.take (A8 D).1,(A8 D).2,(A8 D).1⟩:=by
  rw[Ax,hD];rfl
 rw[hR]at he hn ⊢;rw[hL];split
 .rename_i t1;rw[zy t1]at he hn;have hn':AB false D=n+1:=hn;rw[<-hn',gI,Xb,Xc]
 .rename_i t1;rw[zz t1]at he hn;split
  .rename_i t2;rw[zy t2]at he hn;have hn':AB true D=n+1:=hn;rw[<-hn',gI,Xb,Xc]
  .rename_i t2;rw[zz t2]at he hn;split
   .rename_i t3;rw[zy t3]at he hn;have hn':AX D=n+1:=hn
    have hf:AX (D.take (AX D))=AX D:=by rw[hD];exact A5r c r (by rw[<-hD];omega)
    rw[<-hn',hf,Xb,Xc]
   .rename_i t3;rw[zz t3]at he hn;split
    .rename_i t4;rw[zy t4]at he hn;have he':(A9 r).2=0:=he;simp only[he',if_true]at hn
     have hn':n=(A9 r).1+1:=by omega
     have hq:=gJ r he';rw[hn',hq,Xb,Nat.min_eq_left (by omega)]
    .rename_i t4;rw[zz t4]at he hn;have hn':(A8 D).1=n+1:=hn
     have hf:A8 (D.take (A8 D).1)=A8 D:=by rw[hD]at he ⊢;exact A5s c r he
     rw[<-hn',hf,Xb,Xc]
theorem Nb.next {t:Tok} (h:Nb t):∃c r,wrT t=c::r/\(Ax (c::r)).e=0/\(Ax (c::r)).k=t.k/\(Ax (c::r)).t=t.t/\(Ax (c::r)).n=(c::r).length:=by
 obtain⟨c,r,he,hk,ht⟩:=h;obtain⟨n1,n2⟩:=IR (c::r) rfl he
 obtain⟨n,hn⟩:∃n,(Ax (c::r)).n=n+1:=⟨(Ax (c::r)).n-1,by omega⟩
 have hw:wrT t=(c::r).take (Ax (c::r)).n:=by rw[wrT,hk,ht];exact eY c r he
 have hx:=A5t c r he;rw[hn]at hw hx n2;rw[Xa]at hw hx;refine⟨c,r.take n,hw,by rw[hx];exact he,by rw[hx,hk],by rw[hx,ht],?_⟩;rw[hx,hn];simp only[Xf,List.length_take]at n2 ⊢;omega
end Go.Proofs.YtobnacghaamfoaaGreatDoor
