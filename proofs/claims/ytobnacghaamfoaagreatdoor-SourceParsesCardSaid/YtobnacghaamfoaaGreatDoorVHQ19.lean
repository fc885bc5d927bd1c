/- Auxiliary facts. -/
import Derived.Test.YtobnacghaamfoaaGreatDoorVHQ16
import Derived.Test.YtobnacghaamfoaaGreatDoorVHQ18
set_option linter.unusedSimpArgs false
set_option maxRecDepth 100000
set_option maxHeartbeats 0
set_option linter.unusedVariables false
open Go.Proofs.Tryz renaming prog->Xa,f118->Yf
open Go.Abs renaming upd->Xb
open List renaming length_append->Xc,length_map->Xd,mem_of_getElem?->Xf,mem_singleton->Xh,mem_append->Xi,mem_map->Xl,length_cons->Xm,all_eq_true->Xn,mem_cons->Xo,flatMap_cons->Xr,length_singleton->Xs,map_append->Xu,map_cons->Xv,getElem?_map->Xx,append_nil->Xy,getElem?_eq_some_iff->X0,flatMap_append->X2,length_nil->X3,eq_nil_of_length_eq_zero->X4,nil_append->Ya,getElem?_take->Yb,range->Yd,mem_range->Ye,not_mem_nil->Yg,getElem?_eq_getElem->Yh,sum_append->Yi,append_assoc->Yj,size_toArray->Yk,length_drop->Yl,map_nil->Yn,flatMap_nil->Yp,take_left'->Yq,drop_of_length_le->Yr,length_take->Yu,all_cons->Yv,filter_cons->Yw,take_left->Yx,length_pos_iff->Yz,mem_filter->Y1,flatMap_map->Y2
open Nat renaming zero_le->Xe,le_refl->Xg,le_succ->Xj,le_trans->Xk,le_of_eq->Xp,zero_add->X1,lt_succ_self->X9,le_add_right->Ys,lt_of_lt_of_le->Y0
open Array renaming getElem?_eq_some_iff->Xq,ext'->Xw,getElem?_setIfInBounds->X6,getElem?_modify->Yc,getElem?_push->Ym,size_modify->Yy
open Option renaming map_some->Xt,map_eq_some_iff->X5
open Go.IntKind renaming i64->Xz
open Bool renaming and_eq_true->X7,false_eq_true->X8,and_eq_false_iff->Yt
open Go.Result renaming andThen->Yo
namespace Go.Proofs.YtobnacghaamfoaaGreatDoor
open Go Go.Abs
variable {q : Gl}
set_option maxRecDepth 100000
def dI (ops:Array Oper) (dp:List (List Nat)):Bool:=(Yd ops.size).all λi=>(dp.getD i []).all λd=>match ops[i]? with
 | some o=>o.after.toList.any λe=>e.on==d&&Region.binds .any e
 | none=>false
def dJ (ops:Array Oper):Bool:=(Yd ops.size).all λi=>match ops[i]? with
 | some o=>o.after.toList.all λe=>!(Region.binds .any e)||decide (e.on<i)
 | none=>false
theorem A1q {ops:Array Oper} {dp:List (List Nat)} (h:dI ops dp=true) {i:Nat} {o:Oper} (ho:ops[i]?=some o) {b:Nat->Bool} (hb:∀e∈o.after.toList,Region.binds .any e=true->b e.on=true):∀d∈dp.getD i [],b d=true:=by
 intro d hd;have hi:i<ops.size:=(Xq.1 ho).1;have h1:=Xn.1 h i (Ye.2 hi);have h2:=Xn.1 h1 d hd;rw[ho]at h2;obtain⟨e,he,h3⟩:=List.any_eq_true.1 h2;simp only[X7,beq_iff_eq]at h3;rw[<-h3.1];exact hb e he h3.2
theorem A1r {ops:Array Oper} (h:dJ ops=true) (i:Nat) (o:Oper) (ho:ops[i]?=some o):∀e∈o.after.toList,Region.binds .any e=true->e.on<i:=by
 intro e he hb;have hi:i<ops.size:=(Xq.1 ho).1;have h1:=Xn.1 h i (Ye.2 hi);rw[ho]at h1;have h2:=Xn.1 h1 e he;rw[hb]at h2;simpa using h2
noncomputable def Hw:Code:=match Yf.body with
 | some c=>c
 | none=>.skip
def hdQ:Code->Code
 | .seq x _=>x
 | c=>c
def tlQ:Code->Code
 | .seq _ y=>y
 | c=>c
def A1s:Code->Array Oper
 | .region _ ops _=>ops
 | _=>#[]
noncomputable def KR:Array Oper:=A1s (hdQ (tlQ (tlQ Hw)))
theorem A1t:Yf.body=some Hw:=by kernel_rfl
theorem A1u:Hw = .seq (hdQ Hw) (.seq (hdQ (tlQ Hw)) (.seq (.region 2 KR true) (tlQ (tlQ (tlQ Hw))))):=by kernel_rfl
def dK:Ak:=.ops [⟨(some 2),.mv,[(.k (.t (.v (.int .i64 0))))],none⟩,⟨(some 3),.mv,[(.k (.t (.v (.int .i64 0))))],none⟩]
def dL:Ak:=.ops [⟨(some 7),(.load false 1),[(.tmp 0)],none⟩,⟨(some 8),(.hcall 117),[(.tmp 7)],none⟩,⟨(some 6),.mv,[(.tmp 8)],none⟩,⟨(some 9),(.ext 0),[(.tmp 6)],none⟩,⟨(some 10),(.ext 1),[(.tmp 6)],none⟩,⟨(some 4),(.alloc 57 [(.int .i64 0),(.string ⟨#[]⟩),(.slice none 0 0),(.slice none 0 0)]),[],none⟩,⟨none,(.store 4),[(.tmp 4),(.tmp 9)],none⟩,⟨(some 5),.mv,[(.tmp 10)],none⟩]
def dM:List Av:=[⟨(some 11),(.faddr 5),[(.tmp 1)],none⟩,⟨(some 12),(.load false 1),[(.tmp 11)],none⟩,⟨(some 13),(.load true 4),[(.tmp 4)],none⟩,⟨(some 14),.lensl,[(.tmp 12)],none⟩,⟨(some 15),(.tslice 57 4 [(.int .i64 0),(.string ⟨#[]⟩),(.slice none 0 0),(.slice none 0 0)] 1 [0]),[(.k (.t (.ag [(.v (.int .i64 0)),(.v (.string ⟨#[]⟩)),(.v (.slice none 0 0)),(.v (.slice none 0 0))])))],none⟩,⟨(some 16),(.app 57 4 72),[(.tmp 12),(.tmp 15)],none⟩,⟨(some 17),(.iaddr 4),[(.tmp 16),(.tmp 14)],none⟩,⟨none,(.store 4),[(.tmp 17),(.tmp 13)],none⟩,⟨(some 18),(.faddr 5),[(.tmp 1)],none⟩,⟨none,(.store 1),[(.tmp 18),(.tmp 16)],none⟩]
def dN:Ak:=.seq (.ops [⟨(some 19),(.faddr 5),[(.tmp 1)],none⟩,⟨(some 20),(.load false 1),[(.tmp 19)],none⟩,⟨(some 21),.lensl,[(.tmp 20)],none⟩,⟨(some 22),.mv,[(.tmp 5)],none⟩,⟨(some 2),.mv,[(.tmp 21)],none⟩,⟨(some 3),.mv,[(.tmp 22)],none⟩]) .ret
theorem A1v:comp Xa (G q) 23 (hdQ Hw)=some dK:=by kernel_rfl
theorem A1w:comp Xa (G q) 23 (hdQ (tlQ Hw))=some dL:=by kernel_rfl
theorem A1x:comp Xa (G q) 23 (tlQ (tlQ (tlQ Hw)))=some dN:=by kernel_rfl
theorem A1y:KR.toList.mapM (DX Xa (G q) 23 true KR)=some dM:=by kernel_rfl
def Fh:List (List Nat):=[[],[0],[],[1],[],[0,1,2,3,4],[5,3],[6,2,5],[],[8,5]]
theorem A1z:dI KR Fh=true:=by kernel_rfl
theorem A2a:dJ KR=true:=by kernel_rfl
theorem A2b:KR.size=10:=by kernel_rfl
structure Rg where
 kb:Nat
 kd:Nat
 nd:Nat
 na:Nat
 n:Int
 e:Int
 p:PV
 p':PV
 A:PV
 xs:List T
 Ha:Ab
 H2:Ab
 H27:Ab
 H29:Ab
 H279:Ab
abbrev zs4:List T:=[iv 0,sv ⟨#[]⟩,Ad,Ad]
structure dO (g:Rg):Prop where
 f1:Ao false 1 g.Ha (.ptr g.kd 5)=some g.p
 f2:Ao true 4 g.Ha (.ptr g.nd 0)=some (.t (.ag g.xs))
 f3:Bd g.p=some (.t (iv g.n))
 f5:B1 57 4 72 g.Ha g.na g.p (.t (.sl 1 zs4))=some (g.p',g.H2,g.na+1)
 f6:Bm 4 g.p' (.t (iv g.n))=some g.A
 f7:A8 4 g.H2 g.A (.t (.ag g.xs))=some g.H27
 f7b:A8 4 g.H29 g.A (.t (.ag g.xs))=some g.H279
 f9:A8 1 g.H2 (.ptr g.kd 5) g.p'=some g.H29
 f9b:A8 1 g.H27 (.ptr g.kd 5) g.p'=some g.H279
def Dt (g:Rg):List (Nat×PV×PV):=[(11,.ptr g.kd 5,.dead),(12,g.p,.dead),(13,.t (.ag g.xs),.dead),(14,.t (iv g.n),.dead),(15,.t (.sl 1 zs4),.dead),(16,g.p',.dead),(17,g.A,.dead),(101,.dead,.dead),(18,.ptr g.kd 5,.dead),(102,.dead,.dead)]
def DN (g:Rg):List (Nat×PV):=[(5,.t (iv g.e)),(4,.ptr g.nd 0),(1,.ptr g.kd 0)]
def Dc (g:Rg) (b:Nat->Bool):Ab:=if b 9 then(if b 7 then g.H279 else g.H29)else if b 7 then g.H27 else if b 5 then g.H2 else g.Ha
def D6 (g:Rg) (b:Nat->Bool):Ac:=⟨Dk (Dt g) 0 b++DN g,Dc g b,if b 5 then g.na+1 else g.na,23⟩
structure KS (b:Nat->Bool):Prop where
 a5:b 5=true->b 0=true/\b 1=true/\b 2=true/\b 3=true/\b 4=true
 a7:b 7=true->b 5=true/\b 6=true
 a9:b 9=true->b 5=true/\b 8=true
abbrev pls (b:Nat->Bool) (i:Nat):Nat->Bool:=λj=>if i=j then true else b j
theorem I7 {b:Nat->Bool} {i j:Nat} (h:b j=true):pls b i j=true:=by
 show(if i=j then true else b j)=true;split
 .rfl
 .exact h
theorem KS.pls {b:Nat->Bool} (ok:KS b) {i:Nat} (h5:i=5->b 0=true/\b 1=true/\b 2=true/\b 3=true/\b 4=true) (h7:i=7->b 5=true/\b 6=true) (h9:i=9->b 5=true/\b 8=true):KS (pls b i):=by
 refine⟨λh=>?_,λh=>?_,λh=>?_⟩
 .have:b 0=true/\b 1=true/\b 2=true/\b 3=true/\b 4=true:=by
   by_cases e:i=5
   .exact h5 e
   .exact ok.a5 (by simpa[e]using h)
  exact⟨I7 this.1,I7 this.2.1,I7 this.2.2.1,I7 this.2.2.2.1,I7 this.2.2.2.2⟩
 .have:b 5=true/\b 6=true:=by
   by_cases e:i=7
   .exact h7 e
   .exact ok.a7 (by simpa[e]using h)
  exact⟨I7 this.1,I7 this.2⟩
 .have:b 5=true/\b 8=true:=by
   by_cases e:i=9
   .exact h9 e
   .exact ok.a9 (by simpa[e]using h)
  exact⟨I7 this.1,I7 this.2⟩
section
variable {g : Rg} {b : Nat -> Bool} {Φ : AC}
theorem dP:((Dt g).map (·.1)).Nodup:=by
 show [11,12,13,14,15,16,17,101,18,102].Nodup;decide
theorem Th:∀p∈DN g,p.1∉(Dt g).map (·.1)/\Aa (DN g) p.1=some p.2:=by
 intro p hp;have e:(Dt g).map (·.1)=[11,12,13,14,15,16,17,101,18,102]:=rfl;rw[e];simp only[DN,Xo,Yg,or_false]at hp;rcases hp with rfl | rfl | rfl<;>exact⟨by simp,rfl⟩
theorem JD {B:Nat} {j:Nat} {x:Nat×PV×PV} {H0:Ab} {n0:Nat} (hx:(Dt g)[j]?=some x) (h:H0=Dc g (pls b j)) (hn:n0=if pls b j 5 then g.na+1 else g.na) :
  Sub Xa (G q) B (({ D6 g b with H:=H0,nx:=n0 }:Ac).put (some x.1) x.2.1) (D6 g (pls b j)):=by
 subst h;subst hn;exact A1m dP Th hx
theorem Qg {B:Nat} {j:Nat} {H0:Ab} {n0 k:Nat} (hx:(Dt g)[j]?=some (k,.dead,.dead)) (h:H0=Dc g (pls b j)) (hn:n0=if pls b j 5 then g.na+1 else g.na) :
  Sub Xa (G q) B (({ D6 g b with H:=H0,nx:=n0 }:Ac).put none (.t (.v undef))) (D6 g (pls b j)):=by
 subst h;subst hn;refine dF λp hp=>?_;rcases Xi.1 hp with hp | hp
 .obtain⟨i,y,h1,rfl⟩:=Qf hp;simp only[X1];by_cases e:j=i
  .subst e;rw[hx]at h1;injection h1 with h1;subst h1;left;simp
  .right;show Aa (Dk (Dt g) 0 b++DN g) y.1=_;rw[Tf dP h1,X1];simp[pls,e]
 .right;obtain⟨h1,h2⟩:=Th p hp;show Aa (Dk (Dt g) 0 b++DN g) p.1=_;rw[Tg h1];exact h2
theorem A2c {B:Nat} (hΦ:Φ.Sound Xa (G q)) {Q:Exit->Ac->Prop} {id:Nat} (K:dO g) (stop:Q .normal (D6 g λ_=>true)):Cd Xa (G q) B (.region id KR true) Q ⟨DN g,g.Ha,g.na,23⟩:=by
 refine A1k mixed hΦ A1y (D6 g) KS (λ_=>rfl) (A1r A2a) ?_ ⟨λh=>(by cases h),λh=>(by cases h),λh=>(by cases h)⟩ (λb ok i o m ho hm hbi hdeps=>?_) (λb ok hall=>?_)
 .refine dF λp hp=>?_;rcases Xi.1 hp with hp | hp
  .obtain⟨j,x,h1,rfl⟩:=Qf hp;left
   have:∀x∈Dt g,x.2.2 = .dead:=by simp[Dt]
   exact this x (Xf h1)
  .exact .inr (Th p hp).2
 .have hd:=A1q A1z ho hdeps;clear hdeps ho;have okp:i≠5->i≠7->i≠9->KS (pls b i):=λh1 h2 h3=>ok.pls (λh=>absurd h h1) (λh=>absurd h h2) (λh=>absurd h h3)
  have early:b 5=false->Dc g b=g.Ha:=λh5=>by
   have h7:b 7=false:=by cases h:b 7 with | false=>rfl | true=>have:=(ok.a7 h).1;rw[h5]at this;cases this
   have h9:b 9=false:=by cases h:b 9 with | false=>rfl | true=>have:=(ok.a9 h).1;rw[h5]at this;cases this
   unfold Dc;rw[h9,h7,h5];rfl
  have n5:∀k,k<5->b k=false->b 5=false:=λk hk hb=>by
   cases h:b 5 with
   | false=>rfl
   | true=>
    obtain⟨c0,c1,c2,c3,c4⟩:=ok.a5 h
    match k,hk with
    | 0,_=>rw[c0]at hb;cases hb
    | 1,_=>rw[c1]at hb;cases hb
    | 2,_=>rw[c2]at hb;cases hb
    | 3,_=>rw[c3]at hb;cases hb
    | 4,_=>rw[c4]at hb;cases hb
  rcases i with _ | _ | _ | _ | _ | _ | _ | _ | _ | _ | i
  .injection hm with hm;subst hm;exact⟨rfl,.ptr g.kd 5,Dc g b,if b 5 then g.na+1 else g.na,by simp -implicitDefEqProofs [D6,Dt,Dk,DN],okp (by omega) (by omega) (by omega),JD (j:=0) rfl rfl rfl⟩
  .injection hm with hm;subst hm;have d0:b 0=true:=hd 0 (by simp[Fh]);have hh:=early (n5 1 (by omega) hbi);exact⟨rfl,g.p,Dc g b,if b 5 then g.na+1 else g.na,by simp -implicitDefEqProofs [D6,Dt,Dk,DN,d0,hh,K.f1],okp (by omega) (by omega) (by omega),JD (j:=1) rfl rfl rfl⟩
  .injection hm with hm;subst hm;have hh:=early (n5 2 (by omega) hbi);exact⟨rfl,.t (.ag g.xs),Dc g b,if b 5 then g.na+1 else g.na,by simp -implicitDefEqProofs [D6,Dt,Dk,DN,hh,K.f2],okp (by omega) (by omega) (by omega),JD (j:=2) rfl rfl rfl⟩
  .injection hm with hm;subst hm;have d1:b 1=true:=hd 1 (by simp[Fh]);exact⟨rfl,.t (iv g.n),Dc g b,if b 5 then g.na+1 else g.na,by simp -implicitDefEqProofs [D6,Dt,Dk,DN,d1,K.f3],okp (by omega) (by omega) (by omega),JD (j:=3) rfl rfl rfl⟩
  .injection hm with hm;subst hm;exact⟨rfl,.t (.sl 1 zs4),Dc g b,if b 5 then g.na+1 else g.na,rfl,okp (by omega) (by omega) (by omega),JD (j:=4) rfl rfl rfl⟩
  .injection hm with hm;subst hm;have d1:b 1=true:=hd 1 (by simp[Fh]);have d4:b 4=true:=hd 4 (by simp[Fh]);have hh:=early hbi
   have h7:b 7=false:=by cases h:b 7 with | false=>rfl | true=>have:=(ok.a7 h).1;rw[hbi]at this;cases this
   have h9:b 9=false:=by cases h:b 9 with | false=>rfl | true=>have:=(ok.a9 h).1;rw[hbi]at this;cases this
   exact⟨rfl,g.p',g.H2,g.na+1,by simp -implicitDefEqProofs [D6,Dt,Dk,DN,d1,d4,hh,hbi,K.f5],ok.pls (λ_=>⟨hd 0 (by simp[Fh]),d1,hd 2 (by simp[Fh]),hd 3 (by simp[Fh]),d4⟩) (by omega) (by omega),JD (j:=5) rfl (by simp[Dc,pls,h7,h9]) rfl⟩
  .injection hm with hm;subst hm;have d5:b 5=true:=hd 5 (by simp[Fh]);have d3:b 3=true:=hd 3 (by simp[Fh]);exact⟨rfl,g.A,Dc g b,if b 5 then g.na+1 else g.na,by simp -implicitDefEqProofs [D6,Dt,Dk,DN,d5,d3,K.f6],okp (by omega) (by omega) (by omega),JD (j:=6) rfl rfl rfl⟩
  .injection hm with hm;subst hm;have d6:b 6=true:=hd 6 (by simp[Fh]);have d5:b 5=true:=hd 5 (by simp[Fh]);have d2:b 2=true:=hd 2 (by simp[Fh]);have ok':KS (pls b 7):=ok.pls (by omega) (λ_=>⟨d5,d6⟩) (by omega)
   cases h9:b 9 with
   | false=>
    have hh:Dc g b=g.H2:=by simp[Dc,h9,hbi,d5]
    exact⟨rfl,.t (.v undef),g.H27,g.na+1,by simp -implicitDefEqProofs [D6,Dt,Dk,DN,d6,d2,d5,hh,K.f7],ok',Qg (j:=7) (k:=101) rfl (by simp[Dc,pls,h9]) (by simp[pls,d5])⟩
   | true=>
    have hh:Dc g b=g.H29:=by simp[Dc,h9,hbi]
    exact⟨rfl,.t (.v undef),g.H279,g.na+1,by simp -implicitDefEqProofs [D6,Dt,Dk,DN,d6,d2,d5,hh,K.f7b],ok',Qg (j:=7) (k:=101) rfl (by simp[Dc,pls,h9]) (by simp[pls,d5])⟩
  .injection hm with hm;subst hm;exact⟨rfl,.ptr g.kd 5,Dc g b,if b 5 then g.na+1 else g.na,by simp -implicitDefEqProofs [D6,Dt,Dk,DN],okp (by omega) (by omega) (by omega),JD (j:=8) rfl rfl rfl⟩
  .injection hm with hm;subst hm;have d8:b 8=true:=hd 8 (by simp[Fh]);have d5:b 5=true:=hd 5 (by simp[Fh]);have ok':KS (pls b 9):=ok.pls (by omega) (by omega) (λ_=>⟨d5,d8⟩)
   cases h7:b 7 with
   | false=>
    have hh:Dc g b=g.H2:=by simp[Dc,h7,hbi,d5]
    exact⟨rfl,.t (.v undef),g.H29,g.na+1,by simp -implicitDefEqProofs [D6,Dt,Dk,DN,d8,d5,hh,K.f9],ok',Qg (j:=9) (k:=102) rfl (by simp[Dc,pls,h7]) (by simp[pls,d5])⟩
   | true=>
    have hh:Dc g b=g.H27:=by simp[Dc,h7,hbi]
    exact⟨rfl,.t (.v undef),g.H279,g.na+1,by simp -implicitDefEqProofs [D6,Dt,Dk,DN,d8,d5,hh,K.f9b],ok',Qg (j:=9) (k:=102) rfl (by simp[Dc,pls,h7]) (by simp[pls,d5])⟩
  .simp[dM]at hm
 .have hb:D6 g b=D6 g λ_=>true:=by
   have e:∀i,i<10->b i=true:=λi hi=>hall i (by rw[A2b];exact hi);unfold D6 Dc;simp only[Dt,Dk,e 0 (by omega),e 1 (by omega),e 2 (by omega),e 3 (by omega),e 4 (by omega),e 5 (by omega),e 6 (by omega),e 7 (by omega),e 8 (by omega),e 9 (by omega),X1,Nat.reduceAdd]
  rw[hb];exact stop
end
end Go.Proofs.YtobnacghaamfoaaGreatDoor
namespace Go.Abs
open Go
theorem dQ {α:Type}:∀(H:List (Nat×α)) {a b:Nat} (x y:α),a≠b->Xb (Xb H a x) b y=Xb (Xb H b y) a x
 | [],a,b,x,y,h=>rfl
 | (k,z)::r,a,b,x,y,h=>by
  by_cases e1:k=a
  .subst e1;simp only[Xb,if_true,zz h]
  .by_cases e2:k=b
   .subst e2;simp only[Xb,if_true,zz e1]
   .simp only[Xb,zz e1,zz e2];rw[dQ r x y h]
end Go.Abs
namespace Go.Proofs.YtobnacghaamfoaaGreatDoor
open Go Go.Abs
variable {q : Gl}
section
variable {t : T} {k0 kb kd o tyD i nx nx0 : Nat} {cs : List T} {X : List (Nat × Row)} {H H0 : Ab} {l : List Tok}
theorem A2d (ht:IsS Ap t l) (hlim:l.length<=1000000) (hB:Mq X kb k0) (hcs:cs.length=6):Qb q l t k0 118 [.ptr kb 0,.ptr kd 0] (As (l.map kt) 64) (LsI eD Bu l t k0 kd 5 tyD cs X H0 nx0) where
 rd I:=⟨I.rd,I.i⟩
 st I h:=I.st h
 fw h:=(D2 64 _ _ _ h).1
 one {i out H nx} I hoi:=by
  have hi:=I.i;have hk:=I.k0;have hn:=I.K.n;obtain⟨y,e,j1,H1,n1,ta,rd1,hj1,⟨d,rfl⟩,hd,K1,a1,a2⟩:=Ec (dE (q:=q) ht hlim I.rd (nx:=nx) (by omega) I.i);have I1:=I.kr K1 rd1 hj1;have b0:=Gq hB I.x;have n1':=K1.n;have CA:Ctx Xa (G q) _:=A5.nil.ctxH (B6.cons a2 .nil) mixed;have hdl:=Gf d;have Ka:Kr k0 H1 n1 ((n1,.cells Bu ((A4 d).map .t))::H1) (n1+1):=Kr.refl.cons (ClR.trees _ _ _);have st1:A8 4 ((n1,.cells Bu [.t (iv 0),.t (sv ⟨#[]⟩),.t Ad,.t Ad])::H1) (.ptr n1 0) (.t (.ag (A4 d)))=some ((n1,.cells Bu ((A4 d).map .t))::H1):=Fg rfl hdl H1
  obtain⟨Ha,hHa⟩:∃Ha:Ab,Ha=(n1,.cells Bu ((A4 d).map .t))::H1:=⟨_,rfl⟩
  have pa:Aa Ha n1=some (.cells Bu ((A4 d).map .t)):=by rw[hHa,A1,zy rfl]
  rw[<-hHa]at Ka st1
  have ra:Aa Ha k0=some (rr t j1):=by rw[hHa,A1,zz (by omega)];exact rd1
  have I2:=I1.kr Ka ra hj1;obtain⟨kv,d1,d2,d3,d4,d5,d6⟩:=I2.d;have hkd:=I2.kd;have hkd0:=I1.kd
  have hlen:5<(cs.map PV.t).length:=by rw[Xd];omega
  have hol:out.length<=1000000:=by omega
  obtain⟨H2,ap,row2,k2,f2,c2⟩:=aZ (e:=eD) (ty:=Bu) (by':=72) (nx:=n1+1) zDs 4 rfl zs4 rfl d2 d4 (by omega) (by omega)
  obtain⟨m,hm⟩:∃m:Int,m=((out++[d]).length:Int):=⟨_,rfl⟩
  obtain⟨p',hp'⟩:∃p',p'=rowP eD (n1+1) (out++[d]):=⟨_,rfl⟩
  have hp2:rowP eD (n1+1) (out++[zDs])=p':=by
   rw[hp',Kv _ _ _ (by simp),Kv _ _ _ (by simp),Xc,Xc];rfl
  rw[hp2]at ap;have row2':Aa H2 (n1+1)=some (rowOf eD Bu (out++[zDs])):=row2.resolve_left (by simp)
  obtain⟨A,hA⟩:∃A:PV,A = .ptr (n1+1) (out.length*4):=⟨_,rfl⟩
  have hia:Bm 4 p' (.t (iv (out.length:Int)))=some A:=by
   have:=tT (e:=eD) (b:=n1+1) (l:=out++[d]) (i:=out.length) (x:=d) (by simp);rw[hp',Kv _ _ _ (by simp),hA];exact this
  have hfl:(out.flatMap eD.enc).length=out.length*4:=Jc eD out
  have hsp:Bj (((out++[zDs]).flatMap eD.enc).map PV.t) (out.length*4) ((A4 d).map .t)=((out++[d]).flatMap eD.enc).map PV.t:=by
   have hz:(eD.enc zDs).length=4:=eD.len zDs;rw[Qc,X2,X2,O4 (by simp only[Xc,hfl,Xr,Yp,Xy,hz,hdl];omega)];simp only[Xr,Yp,Xy];rw[Yq hfl,hdl,Yr (by rw[Xc,hfl,hz];omega),Xy];rfl
  have wr:∀Hx,Aa Hx (n1+1)=some (rowOf eD Bu (out++[zDs]))->A8 4 Hx A (.t (.ag (A4 d)))=some (Xb Hx (n1+1) (rowOf eD Bu (out++[d]))):=λHx hx=>by
   rw[hA];have h1:=Em (n:=4) (o:=out.length*4) (t:=.t (.ag (A4 d))) (ns:=(A4 d).map .t) hx rfl (by rw[Xd];exact hdl) (by rw[Xd,Jc,Xc];show _<=(out.length+1)*4;omega);rw[h1,hsp];rfl
  obtain⟨D,hD⟩:∃D:Row,D = .cells tyD (Bj (cs.map .t) 5 [p']):=⟨_,rfl⟩
  have pd:Aa H2 kd=some (.cells tyD (Bj (cs.map .t) 5 [rowP eD kv out])):=by rw[k2 kd hkd.2 d5.symm];exact d1
  have cp:B7 p'=some [p']:=by rw[hp'];cases out<;>rfl
  have wf:∀Hx,Aa Hx kd=some (.cells tyD (Bj (cs.map .t) 5 [rowP eD kv out]))->A8 1 Hx (.ptr kd 5) p'=some (Xb Hx kd D):=λHx hx=>by
   have h1:=Em (n:=1) (o:=5) hx cp rfl (by rw[cV _ _ _ (show 5+1<=_ from hlen)];exact hlen);rw[cW]at h1;rw[h1,hD]
  obtain⟨H27,h27⟩:∃H27,H27=Xb H2 (n1+1) (rowOf eD Bu (out++[d])):=⟨_,rfl⟩
  obtain⟨H29,h29⟩:∃H29,H29=Xb H2 kd D:=⟨_,rfl⟩
  obtain⟨HF,hF⟩:∃HF,HF=Xb H27 kd D:=⟨_,rfl⟩
  have q27:Aa H27 kd=some (.cells tyD (Bj (cs.map .t) 5 [rowP eD kv out])):=by rw[h27,A9,zz (by omega)];exact pd
  have q29:Aa H29 (n1+1)=some (rowOf eD Bu (out++[zDs])):=by rw[h29,A9,zz (by omega)];exact row2'
  have w7:=wr H2 row2';have w7b:=wr H29 q29;have w9:=wf H2 pd;have w9b:=wf H27 q27;rw[<-h27]at w7;rw[h29,dQ _ _ _ (by omega),<-h27,<-hF,<-h29]at w7b;rw[<-h29]at w9;rw[<-hF]at w9b
  have ld1:Ao false 1 Ha (.ptr kd 5)=some (rowP eD kv out):=by
   simp only[Ao,d1,X8,if_false];exact SZ _ _ _ hlen
  have K:dO ⟨kb,kd,n1,n1+1,(out.length:Int),e,rowP eD kv out,p',A,A4 d,Ha,H2,H27,H29,HF⟩:=⟨ld1,ldN pa hdl,ED _ _ _,ap,hia,w7,w7b,w9,w9b⟩
  have gd:Aa HF kd=some D:=by rw[hF,A9,zy rfl,q27];rfl
  have ge:Aa HF (n1+1)=some (rowOf eD Bu (out++[d])):=by rw[hF,A9,zz (by omega),h27,A9,zy rfl,row2'];rfl
  have gk:∀c,c<n1+1->c≠kd->c≠kv->Aa HF c=Aa Ha c:=λc h1 h2 h3=>by
   rw[hF,A9,zz h2,h27,A9,zz (by omega)];exact k2 c h1 h3
  have KF:Kr k0 H0 nx0 HF (n1+2):=by
   have K1':=I2.K.app (H'':=H2) (nx'':=n1+2) d3 k2 (by omega) f2 c2;have K2':=K1'.upd (b:=n1+1) (.inr (by omega)) (ClR.rowOf (n1+2) eD Bu (out++[d]));rw[<-h27]at K2';rw[hF];refine K2'.upd (.inr hkd0.1) ?_;rw[hD];refine ClR.cells λp hp=>?_;rcases List.mem_or_eq_of_mem_set hp with hp | rfl
   .obtain⟨y,_,rfl⟩:=Xl.1 hp;exact ClP.t _ _
   .rw[hp']
    exact ClP.rowP λ_=>by omega
  have IF:LsI eD Bu l t k0 kd 5 tyD cs X H0 nx0 j1 (out++[d]) HF (n1+2):=by
   refine⟨by rw[gk k0 (by omega) (by omega) (by omega)];exact ra,hj1,λp hp=>?_,⟨n1+1,by rw[gd,hD,hp'],.inr ge,by omega,by omega,by omega,λp hp=>by have:=(I2.x p hp).2.2.1;omega⟩,KF,hk,hkd.1,by omega⟩;obtain⟨x1,x2,x3,x4,x5⟩:=I2.x p hp;exact⟨by rw[gk p.1 x3 x4 (d6 p hp)];exact x1,x2,by omega,x4,x5⟩
  have ld2:Ao false 1 HF (.ptr kd 5)=some p':=by
   simp only[Ao,gd,hD,X8,if_false];exact SZ _ _ _ hlen
  have hl2:Bd p'=some (.t (iv m)):=by rw[hp',hm];exact ED _ _ _
  have fF:Frs H nx->Frs HF (n1+2):=λh=>by
   have:=f2 (Ka.fr (K1.fr h));rw[hF,h27];exact this.upd.upd
  have hc:AB Xa (G q) 118 [.ptr kb 0,.ptr kd 0] H nx (.t (.tu [iv m,iv e])) HF (n1+2):=by
   refine A1p (fn:=Yf) (c:=Hw) (vs:=[(.tmp 2),(.tmp 3)]) (N:=23) Tryz.func118 A1t (by kernel_rfl) (by kernel_rfl) (by kernel_rfl) ?_;rw[A1u];refine dG Af A1v ?_;simp -implicitDefEqProofs [dK];refine dG CA A1w ?_;simp -implicitDefEqProofs [dL,b0,a1,st1];refine dH (s':=⟨DN ⟨kb,kd,n1,n1+1,(out.length:Int),e,rowP eD kv out,p',A,A4 d,Ha,H2,H27,H29,HF⟩,Ha,n1+1,23⟩) (sub_env (by simp -implicitDefEqProofs [DN])) rfl ?_;refine A1o (α:=Unit) (λ_=>D6 ⟨kb,kd,n1,n1+1,(out.length:Int),e,rowP eD kv out,p',A,A4 d,Ha,H2,H27,H29,HF⟩ λ_=>true) (λ_=>True) (λ_=>rfl) (λ_=>A2c Af.sound K ⟨(),trivial,Sub.refl _⟩) λ_ _=>?_;refine dH (s':=⟨[(5,.t (iv e)),(4,.ptr n1 0),(1,.ptr kd 0)],HF,n1+2,23⟩) (sub_env (by simp -implicitDefEqProofs [D6,Dt,Dk,DN])) rfl ?_;refine A1n Af A1x ?_;simp -implicitDefEqProofs [dN,ld2,hl2];exact ZP (by simp -implicitDefEqProofs)
  refine⟨⟨_,_,_⟩,⟨m,e,j1,out++[d],rfl,IF,?_⟩,fF,hc⟩;rcases hd with⟨x,hx,hxy,rfl⟩ | ⟨hx,he⟩
  .have:d=x:=by
    injection hxy with hxy;exact OW _ _ hxy
   subst this;exact .inl ⟨d,hx,rfl,hm,rfl⟩
  .exact .inr ⟨hx,he⟩
end
abbrev BK:Nat:=59
abbrev zDf:List T:=[sv ⟨#[]⟩,iv 0,sv ⟨#[]⟩,Ad,Ad,Ad]
theorem A2e (Φ:AC) (H:Ab) (nx:Nat) (a:ByteArray):Ah Φ H nx (.build [(0,1),(1,4),(5,1)] [.string ⟨#[]⟩,.int .i64 0,.string ⟨#[]⟩,.slice none 0 0,.slice none 0 0,.slice none 0 0] [0]) [.t (sv a)]=some (.t (.ag [sv a,iv 0,sv ⟨#[]⟩,Ad,Ad,Ad]),H,nx):=rfl
theorem A2f (a z1 z2 z3 z4 z5:T) (d:Ds):Bj [a,z1,z2,z3,z4,z5] 1 (A4 d)=a::(A4 d++[z5]):=by
 cases d;rw[A4];rfl
theorem A2g (a z y:T) (d:Ds):Bj (a::(A4 d++[z])) 5 [y]=a::(A4 d++[y]):=by
 cases d;rw[A4];rfl
theorem A2h (a z:T) (d:Ds):(a::(A4 d++[z]))[5]?=some z:=by
 cases d;rw[A4];rfl
theorem IC (a z:T) (d:Ds):(a::(A4 d++[z])).length=6:=by
 rw[Xm,Xc,Gf];rfl
section
variable {t : T} {k0 i nx : Nat} {H : Ab} {l : List Tok}
theorem Ti (ht:IsS Ap t l) (hlim:l.length<=1000000) (h0:Aa H k0=some (rr t i)) (hk:k0<nx) (hi:i<=l.length) (hC:Cl H nx) (name:ByteArray) :
  ∃f:Fin,StR l t k0 H nx (ShA 6) (λd=>.ag (Dfn.cs d)) (C4 (l.map kt) name i) f/\AB Xa (G q) 100 [.ptr k0 0,.t (sv name)] H nx f.r f.H f.nx:=by
 obtain⟨Z,hZ⟩:∃Z,Z=C4 (l.map kt) name i:=⟨_,rfl⟩
 rw[<-hZ];refine qT.callX rfl ?_;(conv in XI=>cbv);refine Ai Af ?_;simp -implicitDefEqProofs;refine Ai Af ?_
 obtain⟨ns,hns⟩:∃ns:List T,ns=[sv name,iv 0,sv ⟨#[]⟩,Ad,Ad,Ad]:=⟨_,rfl⟩
 have u1:∀R ys,ys.length=6->A8 6 ((nx+2,.cells BK ys)::R) (.ptr (nx+2) 0) (.t (.ag ns))=some ((nx+2,.cells BK (ns.map .t))::R):=λR ys h=>Fg h (by rw[hns];rfl) R;rw[hns]at u1;simp -implicitDefEqProofs [A2e,u1,-AF]
 obtain⟨X,hX⟩:∃X:List (Nat×Row),X=[(nx,.cells 64 [.ptr k0 0]),(nx+1,.cells BK (zDf.map .t))]:=⟨_,rfl⟩
 obtain⟨H3,hH3⟩:∃H3:Ab,H3=(nx+2,.cells BK (ns.map .t))::(nx+1,.cells BK (zDf.map .t))::(nx,.cells 64 [.ptr k0 0])::H:=⟨_,rfl⟩
 have I:DrI l t k0 (nx+2) BK ns X H nx i H3 (nx+3):=by
  refine⟨by rw[hH3,A1,zz (by omega),A1,zz (by omega),A1,zz (by omega)];exact h0,hi,λp hp=>?_,by rw[hH3,A1,zy rfl],?_,hk,by omega,by omega⟩
  .rw[hX]at hp;simp only[Xo,Yg,or_false]at hp;rcases hp with rfl | rfl
   .exact⟨by rw[hH3,A1,zz (by show nx+2≠nx;omega),A1,zz (by show nx+1≠nx;omega),A1,zy rfl],Xg _,by show nx<_;omega,by show nx≠_;omega,ClR.cells λp hp=>by
     rw[Xh]at hp;subst hp;exact ClP.ptr _ _ _⟩
   .exact⟨by rw[hH3,A1,zz (by show nx+2≠nx+1;omega),A1,zy rfl],Xj _,by show nx+1<_;omega,by show nx+1≠_;omega,ClR.trees _ _ _⟩
  .rw[hH3];exact((Kr.refl.cons (ClR.cells λp hp=>by rw[Xh]at hp;subst hp;exact ClP.ptr _ _ _)).cons (ClR.trees _ _ _)).cons (ClR.trees _ _ _)
 have hB:Mq X nx k0:=⟨64,by rw[hX];simp⟩
 have hA:(nx+1,Row.cells BK (zDf.map .t))∈X:=by rw[hX];simp
 refine B9 (s':=⟨[(6,.ptr (nx+2) 0),(4,.ptr (nx+1) 0),(2,.ptr nx 0)],H3,nx+3,43⟩) (by rw[hH3,hns];exact sub_env (by simp -implicitDefEqProofs)) rfl ?_;clear hH3 hX u1;have b0:=Gq hB I.x;obtain⟨e,j,H4,n4,ta,r4,hj,hd,K4,a1,a2⟩:=cS (cU (q:=q) (nx:=nx+3) ht hlim I.rd I.i ⟨#[61]⟩);rw[show(⟨#[61]⟩:ByteArray).data.toList=[61]from rfl]at hd;have CA:Ctx Xa (G q) _:=A5.nil.ctxH (B6.cons a2 .nil) mixed;have I4:=I.kr K4 r4 hj;have n4':=K4.n;refine Ai CA ?_;simp -implicitDefEqProofs [b0,a1];rcases hd with⟨hsk,rfl⟩ | ⟨hsk,he⟩
 rotate_left
 .have hb:(e != 0)=true:=by rw[bne_iff_ne];exact he
  have ld:=I4.ld (n:=6) (by rw[hns];rfl);obtain⟨H7,st7,ld7,K7,r7⟩:=I4.fin (n:=6) (ds:=ns) hA rfl (by rw[hns];rfl);refine Ai Af ?_;simp -implicitDefEqProofs [hb,ld,st7];exact A6 ⟨.t (.tu [.ag ns,iv e]),H7,n4⟩ ⟨⟨_,e,j,rfl,r7,hj,⟨_,rfl,by rw[hns];rfl⟩,.inr ⟨by rw[hZ];unfold C4;rw[hsk],he⟩⟩,K7⟩ (by simp -implicitDefEqProofs [ld7])
 refine Ai Af ?_;simp -implicitDefEqProofs;have b4:=Gq hB I4.x;obtain⟨y,e,j5,H5,n5,tb,r5,hj5,⟨d,rfl⟩,hd,K5,t1,t2⟩:=Ec (dE (q:=q) (nx:=n4) ht hlim I4.rd (by omega) I4.i);have I5:=I4.kr K5 r5 hj5;have n5':=K5.n;have CB:Ctx Xa (G q) _:=A5.nil.ctxH (B6.cons t2 .nil) mixed;obtain⟨st5,I6⟩:=I5.set (n:=4) (o:=1) (A4 d) (Gf d) (by rw[hns];show 1+4<=6;omega);rw[hns,A2f]at I6 st5
 obtain⟨H6,hH6⟩:∃H6,H6=Xb H5 (nx+2) (.cells BK ((sv name::(A4 d++[Ad])).map .t)):=⟨_,rfl⟩
 rw[<-hH6]at I6 st5;refine Ai CB ?_;simp -implicitDefEqProofs [b4,t1,st5];have b6:=Gq hB I6.x;have ld6:=I6.ld (n:=6) (IC _ _ _).symm;obtain⟨H7,st7,ld7,K7,r7⟩:=I6.fin (n:=6) (ds:=sv name::(A4 d++[Ad])) hA rfl (IC _ _ _);rcases hd with⟨d',hdd,hxy,rfl⟩ | ⟨hdd,he⟩
 rotate_left
 .have hb:(e != 0)=true:=by rw[bne_iff_ne];exact he
  refine Ai Af ?_;simp -implicitDefEqProofs [hb,ld6,st7];exact A6 ⟨.t (.tu [.ag (sv name::(A4 d++[Ad])),iv e]),H7,n5⟩ ⟨⟨_,e,j5,rfl,r7,hj5,⟨_,rfl,IC _ _ _⟩,.inr ⟨by rw[hZ];unfold C4;rw[hsk];simp only;rw[hdd],he⟩⟩,K7⟩ (by simp -implicitDefEqProofs [ld7])
 have hdx:d=d':=by
  injection hxy with hxy;exact OW _ _ hxy
 subst hdx;obtain⟨tn,m1,m2⟩:=Iy (q:=q) (nx:=n5) ht I6.rd ⟨#[47]⟩;rw[show(⟨#[47]⟩:ByteArray).data.toList=[47]from rfl]at m1;have CN:Ctx Xa (G q) _:=A5.nil.ctxH (B6.cons m2 .nil) mixed
 cases hs:Au (l.map kt) j5 [47]with
 | false=>
  rw[hs]at m1;refine Ai CN ?_;simp -implicitDefEqProofs [b6,m1,ld6,st7];exact A6 ⟨.t (.tu [.ag (sv name::(A4 d++[Ad])),iv 0]),H7,n5⟩ ⟨⟨_,0,j5,rfl,r7,hj5,⟨_,rfl,IC _ _ _⟩,.inl ⟨⟨name,d,[]⟩,by rw[hZ];unfold C4;rw[hsk];simp only;rw[hdd];simp only;unfold Cf;rw[zz (by rw[hs];decide)],rfl,rfl⟩⟩,K7⟩ (by simp -implicitDefEqProofs [ld7])
 | true=>
  rw[hs]at m1;have lj:=Bo hs;rw[Xd]at lj;have L6:=Eb I6.rd;have s3:=Ix I6.rd j5;have I8:=I6.st (j:=j5+1) lj;have e2:Xz.wrap ((j5:Int)+1)=(j5:Int)+1:=AH (n:=j5+1) (by omega) (by omega)
  obtain⟨H8,hH8⟩:∃H8,H8=Xb H6 k0 (rr t (j5+1)):=⟨_,rfl⟩
  rw[<-hH8]at s3 I8;have b8:=Gq hB I8.x;have I9:=I8.ls (o:=5) eD Bu (A2h _ _ _);obtain⟨⟨fr,HA,nA⟩,⟨e,jA,df,hr,IA,hd⟩,hf,hc⟩:=SY (q:=q) (A2d ht hlim hB (IC _ _ _)) ht hlim I9 ⟨#[47]⟩;simp only at hr IA hf hc;subst hr;obtain⟨tc,c1,c2⟩:=hAt hc hf;have CL:Ctx Xa (G q) _:=A5.nil.ctxH (B6.cons c2 .nil) mixed;obtain⟨kv,IB⟩:=IA.dr hC (by rw[IC];omega);rw[A2g]at IB;refine Ai CN ?_;simp -implicitDefEqProofs [b6,m1];refine Ai Af ?_;simp -implicitDefEqProofs [b6,L6.l1,e2,s3];refine B9 (s':=⟨[(6,.ptr (nx+2) 0),(4,.ptr (nx+1) 0),(2,.ptr nx 0)],H8,n5+1,43⟩) ((Jq (Xj _)).trans (sub_env (by simp -implicitDefEqProofs))) rfl ?_;refine Ai CL ?_;simp -implicitDefEqProofs [b8,Ta,c1];refine B9 (s':=⟨[(7,.t (iv e)),(6,.ptr (nx+2) 0),(4,.ptr (nx+1) 0),(2,.ptr nx 0)],B8 HA [kv],nA,43⟩) (EG [kv] (by simp -implicitDefEqProofs [Il,Gh])) rfl ?_
  obtain⟨HB,hHB⟩:∃HB,HB=B8 HA [kv]:=⟨_,rfl⟩
  rw[<-hHB]at IB ⊢;have ldB:=IB.ld (n:=6) (IC _ _ _).symm;obtain⟨HC,stC,ldC,KC,rC⟩:=IB.fin (n:=6) (ds:=sv name::(A4 d++[Am eD df])) hA rfl (IC _ _ _);refine A7 Af ?_;simp -implicitDefEqProofs [ldB,stC];refine A6 ⟨.t (.tu [.ag (sv name::(A4 d++[Am eD df])),iv e]),HC,nA⟩ ⟨⟨_,e,jA,rfl,rC,IB.i,⟨_,rfl,IC _ _ _⟩,?_⟩,KC⟩ (by simp -implicitDefEqProofs [ldC])
  have hop:Cf (l.map kt) [47] (Kw (l.map kt)) j5=Cb (l.map kt) (As (l.map kt) 64) (⟨#[47]⟩:ByteArray).data.toList 256 ((l.map kt).length+1) (j5+1) []:=by
   unfold Cf;rw[zy hs];rfl
  rcases hd with⟨hz,rfl⟩ | ⟨hz,he⟩
  .exact .inl ⟨⟨name,d,df⟩,by rw[hZ];unfold C4;rw[hsk];simp only;rw[hdd];simp only;rw[hop,hz],rfl,rfl⟩
  .exact .inr ⟨by rw[hZ];unfold C4;rw[hsk];simp only;rw[hdd];simp only;rw[hop,hz],he⟩
end
section
variable {l : List KT} {rec rec' : Nat -> Res Ds} {k : Nat}
theorem Tj {parts parts':List Ds} {p':Nat} {r:Res Ds} (h:DJ parts r = .ok (parts',p')):∃d,r = .ok (d,p')/\parts'=parts++[d]:=by
 unfold DJ at h;split at h
 .cases h
 .injection h with h;injection h with e1 e2;subst e1;subst e2;exact⟨_,rfl,rfl⟩
end
def Du {α:Type} (l:List KT) (step:Nat->Res α):Prop:=∀p x p',step p = .ok (x,p')->p<p'/\p'<=l.length
section
variable {l M : List KT} {d p p' : Nat} {α : Type}
theorem GL {step:Nat->Res α} (hs:Du l step) (sep:List UInt8) (mx:Nat):∀(f p:Nat) (out out':List α) (p':Nat),Cb l step sep mx f p out = .ok (out',p')->p<p'/\p'<=l.length/\out.length<out'.length/\(out.length+1<=mx->out'.length<=mx)
 | 0,p,out,out',p',h=>by cases h
 | f+1,p,out,out',p',h=>by
  rw[Cb]at h;split at h
  .cases h
  .rename_i x p1 h1;have h2:=hs _ _ _ h1;split at h
   .split at h
    .cases h
    .rename_i hl;have ih:=GL hs sep mx f _ _ _ _ h;simp only[Xc,Xs]at ih;omega
   .injection h with h;injection h with e1 e2;subst e1;subst e2;simp only[Xc,Xs];omega
theorem Mt (k:Int):Du l (λp=>AE l p k):=λp x p' h=>by have:=D1 h;omega
theorem dR {a b:Int} {f:Nat->Res (ByteArray×ByteArray)} (hf:∀p,f p=match AE l p a with
  | .error e=>.error e
  | .ok (s,p1)=>match AE l p1 b with
   | .error e=>.error e
   | .ok (v,p2)=>.ok ((s,v),p2)):Du l f:=λp x p' h=>by
 rw[hf]at h;split at h
 .cases h
 .rename_i s p1 h1;split at h
  .cases h
  .rename_i v p2 h2;injection h with h;injection h with _ h;subst h;have a1:=D1 h1;have a2:=D1 h2;omega
theorem Tl:Du l (ftS l):=dR λ_=>rfl
theorem Ob:Du l (Eo l):=dR λ_=>rfl
theorem dS:Du l (Fb l):=λp x p' h=>by have:=GL (Mt 1) _ _ _ _ _ _ _ h;exact⟨this.1,this.2.1⟩
theorem A2i:Du l (EI l):=λp x p' h=>by have:=GL Tl _ _ _ _ _ _ _ h;exact⟨this.1,this.2.1⟩
theorem A2j:Du l (En l):=λp x p' h=>by have:=GL (Mt 2) _ _ _ _ _ _ _ h;exact⟨this.1,this.2.1⟩
theorem A2k:Du l (Kw l):=λp x p' h=>by have:=GL (D2 64) _ _ _ _ _ _ _ h;exact⟨this.1,this.2.1⟩
theorem A2l:Du l (Jt l):=λp x p' h=>by have:=GL Ob _ _ _ _ _ _ _ h;exact⟨this.1,this.2.1⟩
def Qh (l:List KT) {α:Type} (f:Nat->Res α):Prop:=∀p x p',f p = .ok (x,p')->p<=p'/\(p<=l.length->p'<=l.length)
theorem Du.o {f:Nat->Res α} (h:Du l f):Qh l f:=λp x p' e=>by have:=h p x p' e;omega
theorem Tm {s:List UInt8} {f:Nat->Res (List α)} (hf:Du l f):Qh l (Cf l s f):=λp x p' h=>by
 unfold Cf at h;split at h
 .have:=hf _ _ _ h;omega
 .injection h with h;injection h with _ h;subst h;exact⟨Xg _,λh=>h⟩
theorem A2m (name:ByteArray):Qh l (FJ l name):=λp x p' h=>by
 unfold FJ at h;split at h
 .cases h
 .rename_i su p1 h1;split at h
  .cases h
  .rename_i fe p2 h2;injection h with h;injection h with _ h;subst h;have a1:=Tm dS _ _ _ h1;have a2:=Tm A2i _ _ _ h2;omega
theorem Oc (name:ByteArray):Du l (C4 l name):=λp x p' h=>by
 unfold C4 at h;split at h
 .cases h
 .rename_i p1 h1;split at h
  .cases h
  .rename_i x p2 h2;split at h
   .cases h
   .rename_i df p3 h3;injection h with h;injection h with _ h;subst h;have a1:=LW h1;have a2:=D2 64 _ _ _ h2;have a3:=Tm A2k _ _ _ h3;omega
theorem dU (k:Int):Du l (Fc l k):=λp x p' h=>by
 unfold Fc at h;split at h
 .cases h
 .rename_i c p1 h1;injection h with h;injection h with _ h;subst h;exact A2l _ _ _ h1
theorem Tn:Du l (Dz l):=λp x p' h=>by
 unfold Dz at h;split at h
 .cases h
 .rename_i s p1 h1;have a1:=D1 h1;split at h
  .injection h with h;injection h with _ h;subst h;omega
  .split at h
   .have:=dU _ _ _ _ h;omega
   .split at h
    .have:=dU _ _ _ _ h;omega
    .cases h
theorem A2n (name:ByteArray):Du l (E4 l name):=λp x p' h=>by
 unfold E4 at h;split at h
 .cases h
 .rename_i s p1 h1;split at h
  .cases h
  .split at h
   .cases h
   .rename_i df p2 h2;injection h with h;injection h with _ h;subst h;have a1:=D1 h1;have a2:=Oc _ _ _ _ h2;omega
theorem A2o (name:ByteArray):Du l (Fz l name):=λp x p' h=>by
 unfold Fz at h;split at h
 .cases h
 .rename_i s p1 h1;split at h
  .cases h
  .rename_i df p2 h2;injection h with h;injection h with _ h;subst h;have a1:=Tn _ _ _ h1;have a2:=Oc _ _ _ _ h2;omega
theorem Mv {f:Dfn->El} {r:Res Dfn} {x:El} (h:elD f r = .ok (x,p')):∃y,r = .ok (y,p')/\x=f y:=by
 unfold elD at h;split at h
 .cases h
 .injection h with h;injection h with e h;subst h;subst e;exact⟨_,rfl,rfl⟩
theorem A2p (k:Nat) (name:ByteArray):Qh l (EJ l k name):=λp x p' h=>by
 unfold EJ at h;split at h
 .injection h with h;injection h with _ h;subst h;exact⟨Xg _,λh=>h⟩
 .split at h
  .split at h
   .cases h
   .rename_i y p1 h1;injection h with h;injection h with _ h;subst h;exact A2m _ _ _ _ h1
  .split at h
   .exact(A2n _).o _ _ _ h
   .split at h
    .exact(A2o _).o _ _ _ h
    .split at h
     .obtain⟨y,h,_⟩:=Mv h;exact(Oc _).o _ _ _ h
     .split at h
      .obtain⟨y,h,_⟩:=Mv h;exact(Oc _).o _ _ _ h
      .obtain⟨y,h,_⟩:=Mv h;exact(Oc _).o _ _ _ h
theorem dV (k:Nat):Du l (elS l k):=λp x p' h=>by
 unfold elS at h;split at h
 .split at h
  .cases h
  .rename_i y p1 h1;injection h with h;injection h with _ h;subst h;exact A2j _ _ _ h1
 .split at h
  .split at h
   .cases h
   .rename_i y p1 h1;injection h with h;injection h with _ h;subst h;have:=D1 h1;omega
  .split at h
   .cases h
   .rename_i y p1 h1;have a1:=D1 h1;have a2:=A2p _ _ _ _ _ h;omega
theorem dW (k:Nat):Du l (C6 l k):=λp x p' h=>by
 unfold C6 at h;split at h
 .split at h
  .cases h
  .rename_i y p1 h1;injection h with h;injection h with _ h;subst h;have:=D1 h1;omega
 .split at h
  .cases h
  .rename_i y p1 h1;injection h with h;injection h with _ h;subst h;exact dV _ _ _ _ h1
def clA (l:List KT) (t:KT) (p:Nat):Res EL:=match C6 l (D0 t) (p+1)with
 | .error e=>.error e
 | .ok (a,p1)=>match Bk l p1 [59]with
  | .error e=>.error e
  | .ok p2=>.ok (a,p2)
theorem Mw (s:Sta) (t:KT) (p:Nat):K0 l s t p=if CP s (D0 t)≠0 then .error (CP s (D0 t))else clA l t p:=rfl
theorem dX (t:KT):Du l (clA l t):=λp x p' h=>by
 unfold clA at h;split at h
 .cases h
 .rename_i a p1 h1;split at h
  .cases h
  .rename_i p2 h2;injection h with h;injection h with _ h;subst h;have a1:=dW _ _ _ _ h1;have a2:=LW h2;omega
end
def JE (r:Res Afx):T:=match r with
 | .ok (a,p)=>.tu [.ag a.cs,iv (p:Int),iv 0]
 | .error e=>.tu [.ag [iv 0,Ad],iv 0,iv e]
abbrev Bp:Nat:=29
abbrev JF:Nat:=69
theorem A2q {l:List Tok} {t:T} (ht:IsS Ap t l) (Φ:AC) (H:Ab) (nx:Nat) (i:Nat):Ah Φ H nx (.build [(0,1),(1,1)] [.slice none 0 0,.int .i64 0] [0,1]) [.t t,.t (iv (i:Int))]=some (.t (.ag [t,iv (i:Int)]),H,nx):=by
 rcases ht with⟨rfl,_⟩ | rfl<;>rfl
theorem To {s:ByteArray} {L:List UInt8} (h:s≠⟨L.toArray⟩):(s.toList==L)=false:=by
 rw[Ft,zu];intro e;apply h;rw[<-e]
theorem KU (Φ:AC) (H:Ab) (nx:Nat):Ah Φ H nx (.build [(0,1),(1,1)] [.int .i64 0,.slice none 0 0] []) []=some (.t (.ag [iv 0,Ad]),H,nx):=rfl
theorem bsC (n:Nat) (a b:ByteArray):De JF 2 [.string ⟨#[]⟩,.string ⟨#[]⟩] 1 [(0,.t (.ag [sv a,sv b]))] n=some (.row n 0 1 2,.cells JF [.t (sv a),.t (sv b)]):=rfl
structure AfC where
 H:Ab
 nx:Nat
 i:Nat
 out:List (ByteArray×ByteArray)
 m:Nat
def SAf (kd:Nat) (c:AfC):Ac:=⟨[(10,.ptr kd 0),(7,.ptr 1 0),(4,.ptr 0 0)],c.H,c.nx,83⟩
abbrev zAf:List T:=[iv 0,Ad]
section
variable {t : T} {l : List Tok} {i : Nat}
theorem A2r (ht:IsS Ap t l) (hlim:l.length<=1000000) (hi:i<=l.length):AA Xa (G q) 11 [t,iv (i:Int)] (· = JE (Dz (l.map kt) i)):=by
 obtain⟨Z,hZ⟩:∃Z,Z=Dz (l.map kt) i:=⟨_,rfl⟩
 rw[<-hZ];refine Hn (args:=[t,iv (i:Int)]) ?_;refine pR.callX rfl ?_;(conv in WE=>cbv);refine Ai Af ?_;simp -implicitDefEqProofs;refine Ai Af ?_;simp -implicitDefEqProofs [A2q ht,-AF]
 obtain⟨H0,hH0⟩:∃H0:Ab,H0=[(1,rr t i),(0,.cells Bp (zAf.map .t))]:=⟨_,rfl⟩
 have r0:Aa H0 1=some (rr t i):=by rw[hH0];rfl
 have z0:Aa H0 0=some (.cells Bp (zAf.map .t)):=by rw[hH0];rfl
 have C0:Cl H0 2:=λc x hx=>by
  rw[hH0,A1]at hx;split at hx
  .injection hx with hx;subst hx;exact Hs 2 t i
  .rw[A1]at hx;split at hx
   .injection hx with hx;subst hx;exact ClR.trees _ _ _
   .cases hx
 refine B9 (s':=⟨[(7,.ptr 1 0),(4,.ptr 0 0)],H0,2,83⟩) (by rw[hH0];exact sub_env (by simp -implicitDefEqProofs)) rfl ?_;obtain⟨y,e,j,H1,n1,ta,r1,hj,⟨s,rfl⟩,hd,K1,a1,a2⟩:=Ec (Ht (q:=q) ht hlim r0 (nx:=2) (by omega) hi 1);have CA:Ctx Xa (G q) _:=A5.nil.ctxH (B6.cons a2 .nil) mixed;have n1':=K1.n
 have z1:Aa H1 0=some (.cells Bp (zAf.map .t)):=by rw[K1.k 0 (by omega) (by omega)];exact z0
 have fin:∀(Hx:Ab) (ds:List T),ds.length=2->Aa Hx 0=some (.cells Bp (zAf.map .t))->∃Hy,A8 2 Hx (.ptr 0 0) (.t (.ag ds))=some Hy/\Ao true 2 Hy (.ptr 0 0)=some (.t (.ag ds))/\Aa Hy 1=Aa Hx 1:=λHx ds hd hx=>by
  refine⟨_,Hu hx rfl hd,ldN (ty:=Bp) (ds:=ds) ?_ hd,by rw[A9,zz (by omega)]⟩;rw[A9,zy rfl,hx];rfl
 refine Ai CA ?_;simp -implicitDefEqProofs [a1];rcases hd with⟨x,hx,hxy,rfl⟩ | ⟨hx,he⟩
 rotate_left
 .have hb:(e != 0)=true:=by rw[bne_iff_ne];exact he
  obtain⟨Hy,sy,ly,_⟩:=fin H1 zAf rfl z1;refine Ai Af ?_;simp -implicitDefEqProofs [hb,KU,sy,-AF];exact A6 ⟨.t (.tu [.ag zAf,iv 0,iv e]),Hy,n1⟩ ⟨by rw[hZ];unfold Dz;rw[hx];rfl⟩ (by simp -implicitDefEqProofs [ly])
 injection hxy with hxy;injection hxy with hxy;subst hxy;unfold Dz at hZ;rw[hx]at hZ;simp only at hZ;refine Ai Af ?_;simp -implicitDefEqProofs;refine Ai Af ?_;simp -implicitDefEqProofs
 obtain⟨Hk,hHk⟩:∃Hk:Int->Ab,Hk=λk=>(n1,.cells Bp ([iv k,Ad].map .t))::H1:=⟨_,rfl⟩
 refine B9 (s':=⟨[(10,.ptr n1 0),(8,.t (sv s)),(7,.ptr 1 0),(4,.ptr 0 0)],Hk 0,n1+1,83⟩) (by rw[hHk];exact sub_env (by simp -implicitDefEqProofs)) rfl ?_
 have rk:∀k,Aa (Hk k) 1=some (rr t j):=λk=>by rw[hHk];show Aa (_::H1) 1=_;rw[A1,zz (by omega)];exact r1
 have zk:∀k,Aa (Hk k) 0=some (.cells Bp (zAf.map .t)):=λk=>by rw[hHk];show Aa (_::H1) 0=_;rw[A1,zz (by omega)];exact z1
 have dk:∀k,Aa (Hk k) n1=some (.cells Bp ([iv k,Ad].map .t)):=λk=>by rw[hHk];show Aa (_::H1) n1=_;rw[A1,zy rfl]
 have wk:∀k,A8 1 (Hk 0) (.ptr n1 0) (.t (iv k))=some (Hk k):=λk=>by
  have h1:=Em (n:=1) (o:=0) (ns:=[.t (iv k)]) (t:=.t (iv k)) (dk 0) rfl rfl (by show 0+1<=2;omega);rw[h1,hHk];simp only[Xb,if_true];rfl
 have Kk:∀k,Kr 1 H0 2 (Hk k) (n1+1):=λk=>by rw[hHk];exact K1.cons (ClR.trees _ _ _)
 have L0:=Eb (rk 0);have ld0:Ao true 2 (Hk 0) (.ptr n1 0)=some (.t (.ag [iv 0,Ad])):=ldN (dk 0) rfl;clear hHk;refine D5 (λk:Int=>⟨[(10,.ptr n1 0),(7,.ptr 1 0),(4,.ptr 0 0)],Hk k,n1+1,83⟩) (λk=>Z=Fc (l.map kt) k j) (λ_=>rfl) ?_ ?_
 .refine Ai Af ?_;simp -implicitDefEqProofs;refine CQ ?_
  by_cases hn:s=⟨#[110,111,110,101]⟩
  .rw[zy hn]at hZ;subst hn;obtain⟨Hy,sy,ly,ey⟩:=fin (Hk 0) [iv 0,Ad] rfl (zk 0);have Ly:=Eb (ey.trans (rk 0));refine A7 Af ?_;simp -implicitDefEqProofs [ld0,L0.l1,sy,Ly.l1];exact A6 ⟨.t (.tu [.ag [iv 0,Ad],iv (j:Int),iv 0]),Hy,n1+1⟩ ⟨by rw[hZ];rfl⟩ (by simp -implicitDefEqProofs [ly])
  rw[zz hn]at hZ;have hn':(s.toList==[110,111,110,101])=false:=To hn
  by_cases hs:s=⟨#[115,117,102,102,105,120]⟩
  .rw[zy hs]at hZ;subst hs;refine A7 Af ?_;simp -implicitDefEqProofs [wk];exact Aq.mk (1:Int) hZ (sub_env (by simp -implicitDefEqProofs))
  rw[zz hs]at hZ;have hs':(s.toList==[115,117,102,102,105,120])=false:=To hs
  by_cases hp:s=⟨#[112,114,101,102,105,120]⟩
  .rw[zy hp]at hZ;subst hp;refine A7 Af ?_;simp -implicitDefEqProofs [wk];exact Aq.mk (2:Int) hZ (sub_env (by simp -implicitDefEqProofs))
  rw[zz hp]at hZ;have hp':(s.toList==[112,114,101,102,105,120])=false:=To hp;obtain⟨Hy,sy,ly,ey⟩:=fin (Hk 0) zAf rfl (zk 0);refine A7 Af ?_;simp -implicitDefEqProofs [hn',hs',hp',KU,sy,-AF];exact A6 ⟨.t (.tu [.ag zAf,iv 0,iv 8]),Hy,n1+1⟩ ⟨by rw[hZ];rfl⟩ (by simp -implicitDefEqProofs [ly])
 intro k hZk
 have I0:DrI l t 1 n1 Bp [iv k,Ad] [] H0 2 j (Hk k) (n1+1):=⟨rk k,hj,λp hp=>(by cases hp),dk k,Kk k,by omega,n1',by omega⟩
 have I1:=I0.ls (o:=1) eFt JF rfl
 obtain⟨Y,hY⟩:∃Y,Y=Jt (l.map kt) j:=⟨_,rfl⟩
 unfold Fc at hZk;rw[<-hY]at hZk;unfold Jt at hY;refine B9 (s':=SAf n1 ⟨Hk k,n1+2,j,[],(l.map kt).length+1⟩) ((Jq (Xj _)).trans (sub_env (by simp -implicitDefEqProofs [SAf]))) rfl ?_;refine CQ ?_
 refine FN (SAf n1) (λc=>c.m) (λc=>Y=Cb (l.map kt) (Eo (l.map kt)) [44] 1000000000 c.m c.i c.out/\l.length<c.i+c.m/\c.out.length<=c.i/\LsI eFt JF l t 1 n1 1 Bp [iv k,Ad] [] H0 2 c.i c.out c.H c.nx) ⟨Hk k,n1+2,j,[],(l.map kt).length+1⟩ (λ_=>rfl)
  ⟨hY,by show l.length<j+((l.map kt).length+1);rw[Xd];omega,Xe _,I1⟩ (Sub.refl _) rfl ?_
 rintro⟨Hc,nc,i1,out,m⟩ ⟨hz,hm,ho,I⟩;simp only at hz hm ho I;have hi1:=I.i
 obtain⟨m,rfl⟩:∃m',m=m'+1:=⟨m-1,by omega⟩
 have hnc:=I.K.n
 have zc:Aa Hc 0=some (.cells Bp (zAf.map .t)):=by rw[I.K.k 0 (by omega) (by omega)];exact z0
 obtain⟨y,e,j2,H2,n2,tb,r2,hj2,⟨s2,rfl⟩,hd,K2,b1,b2⟩:=Ec (Ht (q:=q) ht hlim I.rd (nx:=nc) (by omega) I.i 3);have CB:Ctx Xa (G q) _:=A5.nil.ctxH (B6.cons b2 .nil) mixed;have I2:=I.kr K2 r2 hj2;have n2':=K2.n
 have z2:Aa H2 0=some (.cells Bp (zAf.map .t)):=by rw[K2.k 0 (by omega) (by omega)];exact zc
 rw[Cb]at hz;refine CQ ?_;refine Ai CB ?_;simp -implicitDefEqProofs [SAf,b1];rcases hd with⟨x,hx2,hxy,rfl⟩ | ⟨hx2,he⟩
 rotate_left
 .have hb:(e != 0)=true:=by rw[bne_iff_ne];exact he
  obtain⟨Hy,sy,ly,_⟩:=fin H2 zAf rfl z2
  have hc:Eo (l.map kt) i1 = .error e:=by unfold Eo;rw[hx2]
  rw[hc]at hz;refine Ai Af ?_;simp -implicitDefEqProofs [hb,KU,sy,-AF];exact A6 ⟨.t (.tu [.ag zAf,iv 0,iv e]),Hy,n2⟩ ⟨by rw[hZk,hz];rfl⟩ (by simp -implicitDefEqProofs [ly])
 injection hxy with hxy;injection hxy with hxy;subst hxy;refine Ai Af ?_;simp -implicitDefEqProofs;obtain⟨y,e,j3,H3,n3,tc,r3,hj3,⟨s3,rfl⟩,hd,K3,c1,c2⟩:=Ec (Ht (q:=q) ht hlim I2.rd (nx:=n2) (by omega) I2.i 3);have CC:Ctx Xa (G q) _:=A5.nil.ctxH (B6.cons c2 .nil) mixed;have I3:=I2.kr K3 r3 hj3;have n3':=K3.n
 have z3:Aa H3 0=some (.cells Bp (zAf.map .t)):=by rw[K3.k 0 (by omega) (by omega)];exact z2
 refine Ai CC ?_;simp -implicitDefEqProofs [c1];rcases hd with⟨x,hx3,hxy,rfl⟩ | ⟨hx3,he⟩
 rotate_left
 .have hb:(e != 0)=true:=by rw[bne_iff_ne];exact he
  obtain⟨Hy,sy,ly,_⟩:=fin H3 zAf rfl z3
  have hc:Eo (l.map kt) i1 = .error e:=by unfold Eo;rw[hx2];simp only;rw[hx3]
  rw[hc]at hz;refine Ai Af ?_;simp -implicitDefEqProofs [hb,KU,sy,-AF];exact A6 ⟨.t (.tu [.ag zAf,iv 0,iv e]),Hy,n3⟩ ⟨by rw[hZk,hz];rfl⟩ (by simp -implicitDefEqProofs [ly])
 injection hxy with hxy;injection hxy with hxy;subst hxy;refine Ai Af ?_;simp -implicitDefEqProofs
 have hc:Eo (l.map kt) i1 = .ok ((s2,s3),j3):=by unfold Eo;rw[hx2];simp only;rw[hx3]
 rw[hc]at hz;simp only at hz;have hfw:=Ob _ _ _ hc;obtain⟨p,p',H4,H5,l1,ap,st5,l2,hlen,I5,f5⟩:=I3.push (z:=2) (by':=32) (s2,s3) rfl (xs:=[.t (sv s2),.t (sv s3)]) rfl (by show 1<2;omega) (by omega) (by omega)
 have z5:Aa H5 0=some (.cells Bp (zAf.map .t)):=by rw[I5.K.k 0 (by omega) (by omega)];exact z0
 obtain⟨out',hout'⟩:∃out',out'=out++[(s2,s3)]:=⟨_,rfl⟩
 have ol:out'.length=out.length+1:=by rw[hout',Xc];rfl
 rw[<-hout']at hz I5;refine Ai Af ?_;simp -implicitDefEqProofs [l1,bd2,bsC,ap,st5,-AF];obtain⟨tn,m1,m2⟩:=Iy (q:=q) (nx:=n3+2) ht I5.rd ⟨#[44]⟩;rw[show(⟨#[44]⟩:ByteArray).data.toList=[44]from rfl]at m1;have CN:Ctx Xa (G q) _:=A5.nil.ctxH (B6.cons m2 .nil) mixed
 have n5':2<=n3:=by omega
 cases hsy:Au (l.map kt) j3 [44]with
 | false=>
  rw[hsy,zz (by decide)]at hz;obtain⟨kv,I6⟩:=I5.dr C0 (by show 1<2;omega);refine B9 (s':=⟨[(10,.ptr n1 0),(7,.ptr 1 0),(4,.ptr 0 0)],B8 H5 [kv],n3+2,83⟩) (EG [kv] (by simp -implicitDefEqProofs [Il])) rfl ?_
  obtain⟨H6,hH6⟩:∃H6,H6=B8 H5 [kv]:=⟨_,rfl⟩
  rw[<-hH6]at I6 ⊢
  have z6:Aa H6 0=some (.cells Bp (zAf.map .t)):=by rw[I6.K.k 0 (by omega) (by omega)];exact z0
  have ld6:Ao true 2 H6 (.ptr n1 0)=some (.t (.ag [iv k,Am eFt out'])):=I6.ld rfl;obtain⟨Hy,sy,ly,ey⟩:=fin H6 [iv k,Am eFt out'] rfl z6;have L6:=Eb I6.rd;have Ly:=Eb (ey.trans I6.rd);obtain⟨tn,m1,m2⟩:=Iy (q:=q) (nx:=n3+2) ht I6.rd ⟨#[44]⟩;rw[show(⟨#[44]⟩:ByteArray).data.toList=[44]from rfl,hsy]at m1;have CN:Ctx Xa (G q) _:=A5.nil.ctxH (B6.cons m2 .nil) mixed;refine Ai CN ?_;simp -implicitDefEqProofs [m1,ld6,L6.l1,sy,Ly.l1];exact A6 ⟨.t (.tu [.ag [iv k,Am eFt out'],iv (j3:Int),iv 0]),Hy,n3+2⟩ ⟨by rw[hZk,hz];rfl⟩ (by simp -implicitDefEqProofs [ly])
 | true=>
  have lj:=Bo hsy;rw[Xd]at lj;rw[hsy,zy rfl,zz (by omega)]at hz;rw[hsy]at m1;have L5:=Eb I5.rd;have s6:=Ix I5.rd j3;have I6:=I5.st (j:=j3+1) lj;have e2:Xz.wrap ((j3:Int)+1)=(j3:Int)+1:=AH (n:=j3+1) (by omega) (by omega)
  obtain⟨H6,hH6⟩:∃H6,H6=Xb H5 1 (rr t (j3+1)):=⟨_,rfl⟩
  rw[<-hH6]at s6 I6;refine Ai CN ?_;simp -implicitDefEqProofs [m1];refine A7 Af ?_;simp -implicitDefEqProofs [L5.l1,e2,s6];exact Aq.mk ⟨H6,n3+2,j3+1,out',m⟩ ⟨⟨hz,by show l.length<j3+1+m;omega,by show out'.length<=j3+1;omega,I6⟩,X9 m⟩ (sub_env (by simp -implicitDefEqProofs [SAf]))
end
section
variable {l : List KT} {p : Nat} {e : Int} {α : Type}
theorem My {k:Int} (h:AE l p k = .error e):e≠0:=by
 unfold AE at h;split at h
 .injection h with h;subst h;decide
 .split at h
  .cases h
  .injection h with h;subst h;decide
theorem A2s {s:List UInt8} (h:Bk l p s = .error e):e≠0:=by
 unfold Bk at h;split at h
 .injection h with h;subst h;decide
 .split at h
  .cases h
  .injection h with h;subst h;decide
def dY (step:Nat->Res α):Prop:=∀p e,step p = .error e->e≠0
theorem Mz {step:Nat->Res α} (hs:Du l step) (he:dY step) (sep:List UInt8) (mx:Nat):∀(f p:Nat) (out:List α) (e:Int),Cb l step sep mx f p out = .error e->p<=l.length->l.length<p+f->e≠0
 | 0,p,out,e,h,h1,h2=>by omega
 | f+1,p,out,e,h,h1,h2=>by
  rw[Cb]at h;split at h
  .rename_i e' h3;injection h with h;subst h;exact he _ _ h3
  .rename_i x p1 h3;have h4:=hs _ _ _ h3;split at h
   .rename_i hsy;have h5:=Bo hsy;split at h
    .injection h with h;subst h;decide
    .exact Mz hs he sep mx f _ _ _ h (by omega) (by omega)
   .cases h
theorem dZ {a b:Int} {f:Nat->Res (ByteArray×ByteArray)} (hf:∀p,f p=match AE l p a with
  | .error e=>.error e
  | .ok (s,p1)=>match AE l p1 b with
   | .error e=>.error e
   | .ok (v,p2)=>.ok ((s,v),p2)):dY f:=λp e h=>by
 rw[hf]at h;split at h
 .rename_i h1;injection h with h;subst h;exact My h1
 .split at h
  .rename_i h1;injection h with h;subst h;exact My h1
  .cases h
theorem A2t (h:Jt l p = .error e) (hp:p<=l.length):e≠0:=Mz Ob (dZ λ_=>rfl) _ _ _ _ _ _ h hp (by omega)
theorem e9 (h:Dz l p = .error e):e≠0:=by
 have key:∀k p1,p1<=l.length->Fc l k p1 = .error e->e≠0:=λk p1 hp h=>by
  unfold Fc at h;split at h
  .rename_i h1;injection h with h;subst h;exact A2t h1 hp
  .cases h
 unfold Dz at h;split at h
 .rename_i h1;injection h with h;subst h;exact My h1
 .rename_i s p1 h1;have h2:=D1 h1;split at h
  .cases h
  .split at h
   .exact key _ _ (by omega) h
   .split at h
    .exact key _ _ (by omega) h
    .injection h with h;subst h;decide
end
noncomputable def Qi (ts:List T):Option T:=g2 (tSl Ap) OT (λl i=>if l.length<=1000000/\0<=i/\i<=(l.length:Int)then some (JE (Dz (l.map kt) i.toNat))else none) ts
theorem A2u {t:T} {l:List Tok} (h:IsS Ap t l) (hl:l.length<=1000000) {i:Nat} (hi:i<=l.length):Qi [t,iv (i:Int)]=some (JE (Dz (l.map kt) i)):=by
 show g2 _ _ _ _=_;rw[E2 (τ:=tSl Ap) (σ:=OT) (x:=l) (y:=(i:Int)) h rfl,zy ⟨hl,by omega,by omega⟩,Int.toNat_natCast]
theorem A2v:GOK Xa (G q) 11 Qi:=DY λa b x y r ha hb hr=>by
 split at hr
 .rename_i hc;injection hr with hr;subst hr;cases hb;obtain⟨n,rfl⟩:=Int.eq_ofNat_of_zero_le hc.2.1;exact A2r ha hc.1 (by omega)
 .cases hr
noncomputable def eA:Tbl:=[(11,Qi)]
theorem A2w:Ctx Xa (G q) (orc eA):=(A5.cons A2v .nil).ctx mixed
abbrev JG:Nat:=118
abbrev KW:Nat:=61
abbrev zLd:List T:=[iv 0,Ad,sv ⟨#[]⟩,iv 0,sv ⟨#[]⟩,Ad,Ad,Ad]
abbrev zEd:List T:=[Ad,sv ⟨#[]⟩,iv 0,sv ⟨#[]⟩,Ad,Ad,Ad]
theorem eC (Φ:AC) (H:Ab) (nx:Nat) {a c:List T} (ha:a.length=2) (hc:c.length=6):Ah Φ H nx (.build [(0,2),(2,6)] [.int .i64 0,.slice none 0 0,.string ⟨#[]⟩,.int .i64 0,.string ⟨#[]⟩,.slice none 0 0,.slice none 0 0,.slice none 0 0] [0,1]) [.t (.ag a),.t (.ag c)]=some (.t (.ag (a++c)),H,nx):=by
 match a,c,ha,hc with
 | [_,_],[_,_,_,_,_,_],_,_=>rfl
theorem A2x (Φ:AC) (H:Ab) (nx:Nat):Ah Φ H nx (.build [(0,2),(2,6)] [.int .i64 0,.slice none 0 0,.string ⟨#[]⟩,.int .i64 0,.string ⟨#[]⟩,.slice none 0 0,.slice none 0 0,.slice none 0 0] []) []=some (.t (.ag zLd),H,nx):=rfl
theorem eE (Φ:AC) (H:Ab) (nx:Nat) {w:List ByteArray} {c:List T} (hc:c.length=6):Ah Φ H nx (.build [(0,1),(1,6)] [.slice none 0 0,.string ⟨#[]⟩,.int .i64 0,.string ⟨#[]⟩,.slice none 0 0,.slice none 0 0,.slice none 0 0] [0,1]) [.t (Am Aj w),.t (.ag c)]=some (.t (.ag (Am Aj w::c)),H,nx):=by
 match w,c,hc with
 | [],[_,_,_,_,_,_],_=>rfl
 | _::_,[_,_,_,_,_,_],_=>rfl
theorem Qj (Φ:AC) (H:Ab) (nx:Nat):Ah Φ H nx (.build [(0,1),(1,6)] [.slice none 0 0,.string ⟨#[]⟩,.int .i64 0,.string ⟨#[]⟩,.slice none 0 0,.slice none 0 0,.slice none 0 0] []) []=some (.t (.ag zEd),H,nx):=rfl
section
variable {t : T} {k0 i nx : Nat} {H : Ab} {l : List Tok}
theorem A2y (ht:IsS Ap t l) (hlim:l.length<=1000000) (h0:Aa H k0=some (rr t i)) (hk:k0<nx) (hi:i<=l.length) (hC:Cl H nx) (name:ByteArray) :
  ∃f:Fin,StR l t k0 H nx (ShA 8) (λx=>.ag (El.cs x)) (Fz (l.map kt) name i) f/\AB Xa (G q) 60 [.ptr k0 0,.t (sv name)] H nx f.r f.H f.nx:=by
 obtain⟨Z,hZ⟩:∃Z,Z=Fz (l.map kt) name i:=⟨_,rfl⟩
 rw[<-hZ];have ga:=A2u ht hlim hi;refine qD.callX rfl ?_;(conv in WU=>cbv);refine Ai Af ?_;simp -implicitDefEqProofs
 obtain⟨H1,hH1⟩:∃H1:Ab,H1=(nx,.cells JG (zLd.map .t))::H:=⟨_,rfl⟩
 have r1:Aa H1 k0=some (rr t i):=by rw[hH1,A1,zz (by omega)];exact h0
 have p1:Aa H1 nx=some (.cells JG (zLd.map .t)):=by rw[hH1,A1,zy rfl]
 have K1:Kr k0 H nx H1 (nx+1):=by rw[hH1];exact Kr.refl.cons (ClR.trees _ _ _)
 refine B9 (s':=⟨[(4,.ptr nx 0),(1,.t (sv name)),(0,.ptr k0 0)],H1,nx+1,41⟩) (by rw[hH1];exact sub_env (by simp -implicitDefEqProofs)) rfl ?_;have L1:=Eb r1
 have fin:∀(Hx:Ab) (ds:List T) (n:Nat),ds.length=8->Aa Hx nx=some (.cells JG (zLd.map .t))->Kr k0 H nx Hx n->∃Hy,A8 8 Hx (.ptr nx 0) (.t (.ag ds))=some Hy/\Ao true 8 Hy (.ptr nx 0)=some (.t (.ag ds))/\Aa Hy k0=Aa Hx k0/\Kr k0 H nx Hy n:=λHx ds n hd hx hK=>by
  refine⟨_,Hu hx rfl hd,ldN (ty:=JG) (ds:=ds) ?_ hd,by rw[A9,zz (by omega)],hK.upd (.inr (Xg _)) (ClR.trees _ _ _)⟩;rw[A9,zy rfl,hx];rfl
 obtain⟨ac,p,e,hac,hal,hpl,hz⟩:∃(ac:List T) (p:Nat) (e:Int),Qi [t,iv (i:Int)]=some (.tu [.ag ac,iv (p:Int),iv e])/\ac.length=2/\p<=l.length/\((∃a:Afx,Dz (l.map kt) i = .ok (a,p)/\ac=a.cs/\e=0)\/(Dz (l.map kt) i = .error e/\e≠0)):=by
  rw[ga]
  cases ha:Dz (l.map kt) i with
  | error e=>exact⟨zAf,0,e,rfl,rfl,Xe _,.inr ⟨rfl,e9 ha⟩⟩
  | ok x=>
   obtain⟨a,p⟩:=x;have:=Tn _ _ _ ha;rw[Xd]at this;exact⟨a.cs,p,0,rfl,rfl,this.2,.inl ⟨a,rfl,rfl,rfl⟩⟩
 have st2:A8 2 ((nx+1,.cells Bp [.t (iv 0),.t Ad])::H1) (.ptr (nx+1) 0) (.t (.ag ac))=some ((nx+1,.cells Bp (ac.map .t))::H1):=Fg rfl hal H1
 obtain⟨H2,hH2⟩:∃H2:Ab,H2=(nx+1,.cells Bp (ac.map .t))::H1:=⟨_,rfl⟩
 rw[<-hH2]at st2
 have r2:Aa H2 k0=some (rr t i):=by rw[hH2,A1,zz (by omega)];exact r1
 have p2:Aa H2 nx=some (.cells JG (zLd.map .t)):=by rw[hH2,A1,zz (by omega)];exact p1
 have q2:Aa H2 (nx+1)=some (.cells Bp (ac.map .t)):=by rw[hH2,A1,zy rfl]
 have K2:Kr k0 H nx H2 (nx+2):=by rw[hH2];exact K1.cons (ClR.trees _ _ _)
 refine Ai A2w ?_;simp -implicitDefEqProofs [eA,L1.l0,L1.l1,hac,st2];rcases hz with⟨a,hz,rfl,rfl⟩ | ⟨hz,he⟩
 rotate_left
 .have hb:(e != 0)=true:=by rw[bne_iff_ne];exact he
  obtain⟨Hy,sy,ly,ey,Ky⟩:=fin H2 zLd (nx+2) rfl p2 K2;refine Ai Af ?_;simp -implicitDefEqProofs [hb,A2x,sy,-AF];exact A6 ⟨.t (.tu [.ag zLd,iv e]),Hy,nx+2⟩ ⟨⟨_,e,i,rfl,ey.trans r2,hi,⟨_,rfl,rfl⟩,.inr ⟨by rw[hZ];unfold Fz;rw[hz],he⟩⟩,Ky⟩ (by simp -implicitDefEqProofs [ly])
 refine Ai Af ?_;simp -implicitDefEqProofs;have s3:=SV r2 p;have r3:=J9 r2 p;have K3:=K2.upd (.inl rfl) (Hs (nx+2) t p)
 have p3:Aa (Xb H2 k0 (rr t p)) nx=some (.cells JG (zLd.map .t)):=by rw[A9,zz (by omega)];exact p2
 have q3:Aa (Xb H2 k0 (rr t p)) (nx+1)=some (.cells Bp (a.cs.map .t)):=by rw[A9,zz (by omega)];exact q2
 obtain⟨H3,hH3⟩:∃H3,H3=Xb H2 k0 (rr t p):=⟨_,rfl⟩
 rw[<-hH3]at s3 r3 K3 p3 q3;refine Ai Af ?_;simp -implicitDefEqProofs [s3];obtain⟨y,e,j,H4,n4,tb,r4,hj,⟨ds,rfl,hdl⟩,hd,K4,t1,t2⟩:=Ec (Ti (q:=q) (nx:=nx+2) ht hlim r3 (by omega) hpl (K3.cl hC) name);have CB:Ctx Xa (G q) _:=A5.nil.ctxH (B6.cons t2 .nil) mixed;have n4':=K4.n
 have p4:Aa H4 nx=some (.cells JG (zLd.map .t)):=by rw[K4.k nx (by omega) (by omega)];exact p3
 have q4:Aa H4 (nx+1)=some (.cells Bp (a.cs.map .t)):=by rw[K4.k (nx+1) (by omega) (by omega)];exact q3
 have st5:A8 6 ((n4,.cells BK [.t (sv ⟨#[]⟩),.t (iv 0),.t (sv ⟨#[]⟩),.t Ad,.t Ad,.t Ad])::H4) (.ptr n4 0) (.t (.ag ds))=some ((n4,.cells BK (ds.map .t))::H4):=Fg rfl hdl H4
 obtain⟨H5,hH5⟩:∃H5:Ab,H5=(n4,.cells BK (ds.map .t))::H4:=⟨_,rfl⟩
 rw[<-hH5]at st5
 have r5:Aa H5 k0=some (rr t j):=by rw[hH5,A1,zz (by omega)];exact r4
 have p5:Aa H5 nx=some (.cells JG (zLd.map .t)):=by rw[hH5,A1,zz (by omega)];exact p4
 have q5:Aa H5 (nx+1)=some (.cells Bp (a.cs.map .t)):=by rw[hH5,A1,zz (by omega)];exact q4
 have o5:Aa H5 n4=some (.cells BK (ds.map .t)):=by rw[hH5,A1,zy rfl]
 have K5:Kr k0 H nx H5 (n4+1):=by rw[hH5];exact(K3.trans K4).cons (ClR.trees _ _ _)
 have lA:=ldN (n:=2) q5 rfl;have lD:=ldN o5 hdl;obtain⟨Hy,sy,ly,ey,Ky⟩:=fin H5 (a.cs++ds) (n4+1) (by rw[Xc,hdl];rfl) p5 K5;have bd:=λΦ Hx n=>eC Φ Hx n (a:=a.cs) (c:=ds) rfl hdl;refine Ai CB ?_;simp -implicitDefEqProofs [t1,st5];refine A7 Af ?_;simp -implicitDefEqProofs [lA,lD,bd,sy,-AF];refine A6 ⟨.t (.tu [.ag (a.cs++ds),iv e]),Hy,n4+1⟩ ⟨⟨_,e,j,rfl,ey.trans r5,hj,⟨_,rfl,by rw[Xc,hdl];rfl⟩,?_⟩,Ky⟩ (by simp -implicitDefEqProofs [ly]);rcases hd with⟨d,hdd,hxy,rfl⟩ | ⟨hdd,he⟩
 .injection hxy with hxy;subst hxy;exact .inl ⟨.lex a d,by rw[hZ];unfold Fz;rw[hz];simp only;rw[hdd],rfl,rfl⟩
 .exact .inr ⟨by rw[hZ];unfold Fz;rw[hz];simp only;rw[hdd],he⟩
end
noncomputable def M0 (ts:List T):Option T:=match ts with
 | [.v (.string s)]=>if s.size<=100000 then some (CX s.data.toList)else none
 | _=>none
theorem A2z:GOK Xa (G q) 98 M0:=λargs r h=>by
 unfold M0 at h;split at h
 .split at h
  .injection h with h;subst h;exact tG _ (by omega)
  .cases h
 .cases h
def gWd (ts:List T):Option T:=match ts with
 | [.v (.string s)]=>if s.size<=100000 then some (bv (CG s))else none
 | _=>none
theorem hWd:GOK Xa (G q) 99 gWd:=λargs r h=>by
 unfold gWd at h;split at h
 .split at h
  .injection h with h;subst h;exact sJ _ (by unfold lim;omega)
  .cases h
 .cases h
noncomputable def Od:Tbl:=[(98,M0),(99,gWd)]
theorem Qk:Ctx Xa (G q) (orc Od):=(A5.cons A2z (.cons hWd .nil)).ctx mixed
theorem A3a {s:ByteArray} (h:s.size<=100000):M0 [sv s]=some (CX s.data.toList):=zy h
theorem Tp {s:ByteArray} (h:s.size<=100000):gWd [sv s]=some (bv (CG s)):=zy h
theorem Tq:∀(l acc:List UInt8) (w:List UInt8),w∈BQ acc l->w.length<=acc.length+l.length
 | [],acc,w,h=>by
  simp only[BQ,Xh]at h;subst h;simp
 | c::r,acc,w,h=>by
  rw[BQ]at h;split at h
  .rcases Xo.1 h with rfl | h
   .simp
   .have:=Tq r [] w h;simp only[X3,Xm]at this ⊢;omega
  .have:=Tq r _ w h;simp only[Xc,Xm,X3]at this ⊢;omega
theorem eF {l:List UInt8} {w:List (List UInt8)} (h:Ek l=some w):w=[]\/w=BQ [] l:=by
 unfold Ek at h;split at h
 .split at h
  .injection h with h;exact .inl h.symm
  .split at h
   .cases h
   .injection h with h;exact .inr h.symm
 .cases h
theorem eG {l:List UInt8} {w:List (List UInt8)} (h:Ek l=some w):∀x∈w,x.length<=l.length:=λx hx=>by
 rcases eF h with rfl | rfl
 .cases hx
 .have:=Tq l [] x hx;simpa using this
theorem eH {l:List UInt8} {w:List (List UInt8)} (h:Ek l=some w):w.length<=l.length+1:=by
 rcases eF h with rfl | rfl
 .simp
 .exact PY l []
def SEn (k0 nx n:Nat) (name:ByteArray) (W:T) (H:Ab) (nH:Nat) (c:Nat):Ac:=⟨[(36,.t (iv (c:Int))),(35,.t (iv (n:Int))),(34,.t W),(8,.t W),(4,.ptr nx 0),(1,.t (sv name)),(0,.ptr k0 0)],H,nH,55⟩
section
variable {t : T} {k0 i nx : Nat} {H : Ab} {l : List Tok}
theorem A3b (hsm:∀x∈l,x.t.length<=100000) {k:Int} {s:ByteArray} {j:Nat} (h:AE (l.map kt) i k = .ok (s,j)):s.size<=100000:=by
 unfold AE at h;rw[E5]at h
 cases hx:l[i]? with
 | none=>rw[hx]at h;cases h
 | some x=>
  rw[hx]at h;simp only[Xt]at h;split at h
  .injection h with h;injection h with h _;subst h;exact hsm x (Xf hx)
  .cases h
theorem A3c (ht:IsS Ap t l) (hlim:l.length<=1000000) (hsm:∀x∈l,x.t.length<=100000) (h0:Aa H k0=some (rr t i)) (hk:k0<nx) (hi:i<=l.length) (hC:Cl H nx) (name:ByteArray) :
  ∃f:Fin,StR l t k0 H nx (ShA 7) (λx=>.ag (El.cs x)) (E4 (l.map kt) name i) f/\AB Xa (G q) 59 [.ptr k0 0,.t (sv name)] H nx f.r f.H f.nx:=by
 obtain⟨Z,hZ⟩:∃Z,Z=E4 (l.map kt) name i:=⟨_,rfl⟩
 rw[<-hZ];refine qC.callX rfl ?_;(conv in WT=>cbv);refine Ai Af ?_;simp -implicitDefEqProofs
 obtain⟨H1,hH1⟩:∃H1:Ab,H1=(nx,.cells KW (zEd.map .t))::H:=⟨_,rfl⟩
 have r1:Aa H1 k0=some (rr t i):=by rw[hH1,A1,zz (by omega)];exact h0
 have p1:Aa H1 nx=some (.cells KW (zEd.map .t)):=by rw[hH1,A1,zy rfl]
 have K1:Kr k0 H nx H1 (nx+1):=by rw[hH1];exact Kr.refl.cons (ClR.trees _ _ _)
 refine B9 (s':=⟨[(4,.ptr nx 0),(1,.t (sv name)),(0,.ptr k0 0)],H1,nx+1,55⟩) (by rw[hH1];exact sub_env (by simp -implicitDefEqProofs)) rfl ?_
 have fin:∀(Hx:Ab) (ds:List T) (n:Nat),ds.length=7->Aa Hx nx=some (.cells KW (zEd.map .t))->Kr k0 H nx Hx n->∃Hy,A8 7 Hx (.ptr nx 0) (.t (.ag ds))=some Hy/\Ao true 7 Hy (.ptr nx 0)=some (.t (.ag ds))/\Aa Hy k0=Aa Hx k0/\Kr k0 H nx Hy n:=λHx ds n hd hx hK=>by
  refine⟨_,Hu hx rfl hd,ldN (ty:=KW) (ds:=ds) ?_ hd,by rw[A9,zz (by omega)],hK.upd (.inr (Xg _)) (ClR.trees _ _ _)⟩;rw[A9,zy rfl,hx];rfl
 obtain⟨y,e,j,H2,n2,ta,r2,hj,⟨s,rfl⟩,hd,K2,a1,a2⟩:=Ec (Ht (q:=q) ht hlim r1 (nx:=nx+1) (by omega) hi 3);have CA:Ctx Xa (G q) _:=A5.nil.ctxH (B6.cons a2 .nil) mixed;have n2':=K2.n;have KT:=K1.trans K2
 have p2:Aa H2 nx=some (.cells KW (zEd.map .t)):=by rw[K2.k nx (by omega) (by omega)];exact p1
 obtain⟨Hz,sz,lz,ez,Kz⟩:=fin H2 zEd n2 rfl p2 KT;refine Ai CA ?_;simp -implicitDefEqProofs [a1];rcases hd with⟨x,hx,hxy,rfl⟩ | ⟨hx,he⟩
 rotate_left
 .have hb:(e != 0)=true:=by rw[bne_iff_ne];exact he
  refine Ai Af ?_;simp -implicitDefEqProofs [hb,Qj,sz,-AF];exact A6 ⟨.t (.tu [.ag zEd,iv e]),Hz,n2⟩ ⟨⟨_,e,j,rfl,ez.trans r2,hj,⟨_,rfl,rfl⟩,.inr ⟨by rw[hZ];unfold E4;rw[hx],he⟩⟩,Kz⟩ (by simp -implicitDefEqProofs [lz])
 injection hxy with hxy;injection hxy with hxy;subst hxy;have hss:=A3b hsm hx;have gw:=A3a hss;refine Ai Af ?_;simp -implicitDefEqProofs
 cases hw:Ek s.data.toList with
 | none=>
  have gw:M0 [sv s]=some (.tu [Ad,iv 8]):=by rw[gw];unfold CX;rw[hw]
  have hwd:Da s = .error 1:=by unfold Da;rw[hw]
  refine Ai Qk ?_;simp -implicitDefEqProofs [Od,gw];refine Ai Af ?_;simp -implicitDefEqProofs [Qj,sz,-AF];exact A6 ⟨.t (.tu [.ag zEd,iv 1]),Hz,n2⟩ ⟨⟨_,1,j,rfl,ez.trans r2,hj,⟨_,rfl,rfl⟩,.inr ⟨by rw[hZ];unfold E4;rw[hx];simp only;rw[hwd],by decide⟩⟩,Kz⟩ (by simp -implicitDefEqProofs [lz])
 | some w=>
  have gw:M0 [sv s]=some (.tu [Am Aj (w.map bs),iv 0]):=by rw[gw];unfold CX;rw[hw]
  obtain⟨L,hL⟩:∃L,L=w.map bs:=⟨_,rfl⟩
  rw[<-hL]at gw;have hIs:=IsS.tree Aj L
  obtain⟨W,hW⟩:∃W,W=Am Aj L:=⟨_,rfl⟩
  rw[<-hW]at gw hIs;have hlen:Bd (.t W)=some (.t (iv (L.length:Int))):=hIs.len
  have hLl:∀x∈L,x.size<=100000:=λx hx=>by
   rw[hL]at hx;obtain⟨y,hy,rfl⟩:=Xl.1 hx;have h1:=eG hw y hy;have h2:s.data.toList.length=s.size:=rfl
   have h3:(bs y).size=y.length:=by simp[ByteArray.size]
   omega
  refine Ai Qk ?_;simp -implicitDefEqProofs [Od,gw]
  by_cases hn:L=[]
  .have hwn:w=[]:=by
    rw[hn]at hL;exact(List.map_eq_nil_iff.1 hL.symm)
   have hwd:Da s = .error 1:=by unfold Da;rw[hw,hwn];rfl
   have hl0:Bd (.t W)=some (.t (iv 0)):=by rw[hlen,hn];rfl
   refine Ai Af ?_;simp -implicitDefEqProofs [hl0,Qj,sz,-AF];exact A6 ⟨.t (.tu [.ag zEd,iv 1]),Hz,n2⟩ ⟨⟨_,1,j,rfl,ez.trans r2,hj,⟨_,rfl,rfl⟩,.inr ⟨by rw[hZ];unfold E4;rw[hx];simp only;rw[hwd],by decide⟩⟩,Kz⟩ (by simp -implicitDefEqProofs [lz])
  have hwn:w≠[]:=λe=>hn (by rw[hL,e];rfl)
  have hl1:((L.length:Int)==0)=false:=by
   rw[zu];intro e;exact hn (X4 (by omega))
  refine Ai Af ?_;simp -implicitDefEqProofs [hlen,hl1];refine D5 (α:=Unit) (λ_=>⟨[(8,.t W),(4,.ptr nx 0),(1,.t (sv name)),(0,.ptr k0 0)],H2,n2,55⟩) (λ_=>Da s = .ok L) (λ_=>rfl) ?_ ?_
  .refine Ai Af ?_;simp -implicitDefEqProofs [hlen];refine CQ ?_;refine FN (SEn k0 nx L.length name W H2 n2) (λc=>L.length-c) (λc=>c<=L.length/\∀(k:Nat) x,k<c->L[k]?=some x->CG x=true) 0 (λ_=>rfl) ⟨Xe _,λk x h=>by omega⟩ ?_ rfl ?_
   .exact sub_env (by simp -implicitDefEqProofs [SEn])
   rintro c ⟨hc,hall⟩;by_cases hlt:c<L.length
   .obtain⟨x,hxc⟩:∃x,L[c]?=some x:=⟨_,Yh hlt⟩
    have hia:Bm 1 (.t W) (.t (.v (.int .i64 (c:Int))))=some (.t (.pt (sv x::AY Aj L c))):=hIs.iaddr hxc .i64
    have hlti:(c:Int)<(L.length:Int):=by omega
    have gx:=Tp (hLl x (Xf hxc));have hcnt:=eH hw
    have hLw:L.length=w.length:=by rw[hL,Xd]
    have h2:s.data.toList.length=s.size:=rfl;have ej:Xz.wrap ((c:Int)+1)=(c:Int)+1:=AH (n:=c+1) rfl (by omega);refine Ai Af ?_;simp -implicitDefEqProofs [SEn,hlti,hlt]
    cases hwx:CG x with
    | true=>
     rw[hwx]at gx;refine A7 Qk ?_;simp -implicitDefEqProofs [Od,hia,BJ,gx,ej];refine Aq.mk (c+1) ⟨⟨by omega,λk y hk hy=>?_⟩,by omega⟩ (sub_env (by simp -implicitDefEqProofs [SEn]));by_cases hkc:k=c
     .subst hkc;rw[hxc]at hy;injection hy with hy;rw[<-hy];exact hwx
     .exact hall k y (by omega) hy
    | false=>
     rw[hwx]at gx
     have hwd:Da s = .error 1:=by
      unfold Da;rw[hw];simp only;rw[zz hwn,zz];intro h;have h1:x∈L:=Xf hxc;rw[hL]at h1;obtain⟨y,hy,hyx⟩:=Xl.1 h1;have h3:=Xn.1 h y hy;rw[hyx,hwx]at h3;cases h3
     refine A7 Qk ?_;simp -implicitDefEqProofs [Od,hia,BJ,gx,Qj,sz,-AF];exact A6 ⟨.t (.tu [.ag zEd,iv 1]),Hz,n2⟩ ⟨⟨_,1,j,rfl,ez.trans r2,hj,⟨_,rfl,rfl⟩,.inr ⟨by rw[hZ];unfold E4;rw[hx];simp only;rw[hwd],by decide⟩⟩,Kz⟩ (by simp -implicitDefEqProofs [lz])
   .have hlti:¬(c:Int)<(L.length:Int):=by omega
    refine Ai Af ?_;simp -implicitDefEqProofs [SEn,hlti,hlt];refine A7 Af ?_;simp -implicitDefEqProofs;refine Aq.mk () ?_ (sub_env (by simp -implicitDefEqProofs));unfold Da;rw[hw];simp only;rw[zz hwn,zy,hL];refine Xn.2 λy hy=>?_;obtain⟨k,hk⟩:=List.getElem?_of_mem (show bs y∈L by rw[hL];exact Xl.2 ⟨y,hy,rfl⟩);have hkl:=(X0.1 hk).1;exact hall k _ (by omega) hk
  rintro _ hwd;obtain⟨y,e,j4,H4,n4,tb,r4,hj4,⟨ds,rfl,hdl⟩,hd,K4,t1,t2⟩:=Ec (Ti (q:=q) (nx:=n2) ht hlim r2 (by omega) hj (KT.cl hC) name);have CB:Ctx Xa (G q) _:=A5.nil.ctxH (B6.cons t2 .nil) mixed;have n4':=K4.n
  have p4:Aa H4 nx=some (.cells KW (zEd.map .t)):=by rw[K4.k nx (by omega) (by omega)];exact p2
  have st5:A8 6 ((n4,.cells BK [.t (sv ⟨#[]⟩),.t (iv 0),.t (sv ⟨#[]⟩),.t Ad,.t Ad,.t Ad])::H4) (.ptr n4 0) (.t (.ag ds))=some ((n4,.cells BK (ds.map .t))::H4):=Fg rfl hdl H4
  obtain⟨H5,hH5⟩:∃H5:Ab,H5=(n4,.cells BK (ds.map .t))::H4:=⟨_,rfl⟩
  rw[<-hH5]at st5
  have r5:Aa H5 k0=some (rr t j4):=by rw[hH5,A1,zz (by omega)];exact r4
  have p5:Aa H5 nx=some (.cells KW (zEd.map .t)):=by rw[hH5,A1,zz (by omega)];exact p4
  have o5:Aa H5 n4=some (.cells BK (ds.map .t)):=by rw[hH5,A1,zy rfl]
  have K5:Kr k0 H nx H5 (n4+1):=by rw[hH5];exact(KT.trans K4).cons (ClR.trees _ _ _)
  have lD:=ldN o5 hdl;obtain⟨Hy,sy,ly,ey,Ky⟩:=fin H5 (W::ds) (n4+1) (by rw[Xm,hdl]) p5 K5
  have bd:∀Φ Hx n,Ah Φ Hx n (.build [(0,1),(1,6)] [.slice none 0 0,.string ⟨#[]⟩,.int .i64 0,.string ⟨#[]⟩,.slice none 0 0,.slice none 0 0,.slice none 0 0] [0,1]) [.t W,.t (.ag ds)]=some (.t (.ag (W::ds)),Hx,n):=λΦ Hx n=>by rw[hW];exact eE Φ Hx n hdl
  refine Ai CB ?_;simp -implicitDefEqProofs [t1,st5];refine A7 Af ?_;simp -implicitDefEqProofs [lD,bd,sy,-AF];refine A6 ⟨.t (.tu [.ag (W::ds),iv e]),Hy,n4+1⟩ ⟨⟨_,e,j4,rfl,ey.trans r5,hj4,⟨_,rfl,by rw[Xm,hdl]⟩,?_⟩,Ky⟩ (by simp -implicitDefEqProofs [ly]);rcases hd with⟨d,hdd,hxy,rfl⟩ | ⟨hdd,he⟩
  .injection hxy with hxy;subst hxy;exact .inl ⟨.ent L d,by rw[hZ];unfold E4;rw[hx];simp only;rw[hwd];simp only;rw[hdd],by rw[hW];rfl,rfl⟩
  .exact .inr ⟨by rw[hZ];unfold E4;rw[hx];simp only;rw[hwd];simp only;rw[hdd],he⟩
end
def KX (d:Ds):Int:=Cg d 1
def ID (d:Dfn):Int:=if Be false d.name=false then 1 else if 256<d.defaults.length then 7 else if KX d.strict≠0 then KX d.strict else DM KX d.defaults
def Oe (s:ByteArray):Int:=if CG s then 0 else 1
def Of (p:List ByteArray×Dfn):Int:=if p.1=[]then 1 else if DM Oe p.1≠0 then 1 else ID p.2
def IE (p:ByteArray×ByteArray):Int:=if KQ p.1&&KQ p.2 then 0 else 1
def KY (p:Afx×Dfn):Int:=
 if p.1.kind=0/\p.1.pairs≠[]then 1 else if(p.1.kind=1\/p.1.kind=2)/\p.1.pairs=[]then 1 else if ¬(p.1.kind=0\/p.1.kind=1\/p.1.kind=2)then 14 else if DM IE p.1.pairs≠0 then 1 else ID p.2
def BW (p:PV) (e:Int):PV:=CF [p,.t (iv e)]
structure StM (l:List Tok) (t:T) (k0:Nat) (name:ByteArray) (ks:Nat->Nat) (els:List El) (H:Ab) (nx:Nat) (o:Res EL) (f:Fin):Prop where
 ex:∃ps e i',f.r=BW (AN ps) e/\ps.length=10/\(Cl H nx->ClR f.nx (.cells AD ps))/\Aa f.H k0=some (rr t i')/\i'<=l.length/\((o = .error e/\e≠0)\/(∃a,o = .ok (a,i')/\e=0/\∃name' ks' els',ps=AM name' ks' els'/\BZ els' ks' f.H f.nx/\(∀c,c<nx->BC els ks c->BC els' ks' c) /\
  (match a with | .md n=>name'=n/\els'=els | .el y=>name'=name/\els'=els++[y])))
 k:∀c,c<nx->c≠k0->BC els ks c->Aa f.H c=Aa H c
 n:nx<=f.nx
 fr:Frs H nx->Frs f.H f.nx
 cl:Cl H nx->Cl f.H f.nx
section
variable {t : T} {k0 i nx : Nat} {H : Ab} {l : List Tok} {els : List El} {ks : Nat -> Nat} {name : ByteArray}
theorem A3d {fn:FuncId} {xs:List PV} {o:Res EL} (h:∃f:Fin,StM l t k0 name ks els H nx o f/\AB Xa (G q) fn xs H nx f.r f.H f.nx) :
  ∃ps e H' nx' tb,StM l t k0 name ks els H nx o ⟨BW (AN ps) e,H',nx'⟩/\ps.length=10/\tb xs H nx=some (BW (AN ps) e,H',nx')/\HOK Xa (G q) fn tb:=by
 obtain⟨⟨fr,fH,fn'⟩,hS,hc⟩:=h;obtain⟨ps,e,i',hr,hl,_⟩:=hS.ex;simp only at hr hc;subst hr;obtain⟨tb,t1,t2⟩:=hAt hc hS.fr;exact⟨ps,e,fH,fn',tb,hS,hl,t1,t2⟩
theorem eI (ps:List PV) (h:ps.length=10) (b ty:Nat) (zs:List PV) (hz:zs.length=10) (R:Ab):A8 10 ((b,.cells ty zs)::R) (.ptr b 0) (AN ps)=some ((b,.cells ty ps)::R):=by
 have h1:=Em (n:=10) (b:=b) (o:=0) (H:=(b,.cells ty zs)::R) (t:=AN ps) (ns:=ps) (ty:=ty) (cs:=zs) (by rw[A1,zy rfl]) (GH ps) h (by omega);rw[h1];congr 1;simp only[Xb,if_true];rw[KP _ _ (by omega)]
theorem IG (M:BZ els ks H nx):ClR nx (.cells AD (AM name ks els)):=ClR.cells λp hp=>by
 unfold AM at hp;simp only[Xo,Yg,or_false]at hp;rcases hp with rfl | rfl | rfl | rfl | rfl | rfl | rfl | rfl | rfl | rfl
 .exact ClP.t _ _
 all_goals exact ClP.rowP λh=>M.lt _ h
theorem KZ {ps zs:List PV} {kr ty:Nat} {Hx:Ab} (hz:Aa Hx kr=some (.cells ty zs)) (h1:zs.length=10) (h2:ps.length=10):A8 10 Hx (.ptr kr 0) (AN ps)=some (Xb Hx kr (.cells ty ps))/\Ao true 10 (Xb Hx kr (.cells ty ps)) (.ptr kr 0)=some (AN ps):=by
 constructor
 .have h3:=Em (n:=10) (o:=0) (t:=AN ps) (ns:=ps) hz (GH ps) h2 (by omega);rw[KP _ _ (by omega)]at h3;exact h3
 .have hl:Aa (Xb Hx kr (.cells ty ps)) kr=some (.cells ty ps):=by rw[A9,zy rfl,hz];rfl
  simp only[Ao,hl,if_true,X1,List.drop_zero];rw[zy (by omega),List.take_of_length_le (by omega)]
abbrev zMd:List T:=[sv ⟨#[]⟩,Ad,Ad,Ad,Ad,Ad,Ad,Ad,Ad,Ad]
structure MdB (l:List Tok) (t:T) (k0:Nat) (name:ByteArray) (ks:Nat->Nat) (els:List El) (H:Ab) (nx:Nat) (i:Nat) (Hx:Ab) (n:Nat):Prop where
 rd:Aa Hx k0=some (rr t i)
 i:i<=l.length
 bx:Aa Hx nx=some (.cells AD (AM name ks els))
 rs:Aa Hx (nx+1)=some (.cells AD (zMd.map .t))
 M:BZ els ks Hx n
 k:∀c,c<nx->c≠k0->BC els ks c->Aa Hx c=Aa H c
 hn:nx+2<=n
 fr:Frs H nx->Frs Hx n
 cl:Cl H nx->Cl Hx n
 n0:BC els ks k0
 n1:BC els ks nx
 n2:BC els ks (nx+1)
 k0:k0<nx
theorem MdB.mk0 (M:BZ els ks H nx) (h0:Aa H k0=some (rr t i)) (hk:k0<nx) (hi:i<=l.length) (hn:BC els ks k0) :
  MdB l t k0 name ks els H nx i ((nx+1,.cells AD (zMd.map .t))::(nx,.cells AD (AM name ks els))::H) (nx+2):=by
 refine⟨by rw[A1,zz (by omega),A1,zz (by omega)];exact h0,hi,by rw[A1,zz (by omega),A1,zy rfl],by rw[A1,zy rfl],M.keep (λj hj=>by have:=M.lt j hj;rw[A1,zz (by omega),A1,zz (by omega)]) (Ys _ 2),
  λc h1 _ _=>by rw[A1,zz (by omega),A1,zz (by omega)],Xg _,λh=>(h.cons (X9 _) (Xj _)).cons (X9 _) (Xj _),
  λh=>(h.cons ((IG M).mono (Xj _)) (Xj _)).cons (ClR.trees _ _ _) (Xj _),hn,λj hj=>by have:=M.lt j hj;omega,λj hj=>by have:=M.lt j hj;omega,hk⟩
theorem MdB.kr {Hx H':Ab} {n n' j:Nat} (B:MdB l t k0 name ks els H nx i Hx n) (K:Kr k0 Hx n H' n') (hr:Aa H' k0=some (rr t j)) (hj:j<=l.length):MdB l t k0 name ks els H nx j H' n':=by
 have h1:=B.hn;have h2:=B.k0;have h3:=K.n
 exact⟨hr,hj,by rw[K.k nx (by omega) (by omega)];exact B.bx,by rw[K.k (nx+1) (by omega) (by omega)];exact B.rs,B.M.keep (λj hj=>K.k _ (B.M.lt j hj) (λe=>B.n0 j hj e.symm)) h3,
  λc c1 c2 c3=>(K.k c (by omega) c2).trans (B.k c c1 c2 c3),by omega,λh=>K.fr (B.fr h),λh=>K.cl (B.cl h),B.n0,B.n1,B.n2,h2⟩
theorem MdB.cons {Hx:Ab} {n:Nat} (B:MdB l t k0 name ks els H nx i Hx n) {r:Row} (hr:ClR (n+1) r):MdB l t k0 name ks els H nx i ((n,r)::Hx) (n+1):=by
 have h1:=B.hn;have h2:=B.k0;exact B.kr (Kr.refl.cons hr) (by rw[A1,zz (by omega)];exact B.rd) B.i
theorem MdB.end_err {Hx:Ab} {n:Nat} {e:Int} {o:Res EL} (B:MdB l t k0 name ks els H nx i Hx n) (he:o = .error e/\e≠0):∃Hy,A8 10 Hx (.ptr (nx+1) 0) (AN (AM name ks els))=some Hy/\Ao true 10 Hy (.ptr (nx+1) 0)=some (AN (AM name ks els)) /\
  StM l t k0 name ks els H nx o ⟨BW (AN (AM name ks els)) e,Hy,n⟩:=by
 obtain⟨s1,l1⟩:=KZ (ps:=AM name ks els) B.rs rfl rfl;have h1:=B.hn;have h2:=B.k0;refine⟨_,s1,l1,⟨⟨_,e,i,rfl,rfl,λ_=>IG (name:=name) B.M,by show Aa (Xb _ _ _) _=_;rw[A9,zz (by omega)];exact B.rd,B.i,.inl he⟩,λc c1 c2 c3=>by show Aa (Xb _ _ _) _=_;rw[A9,zz (by omega)];exact B.k c c1 c2 c3,by show nx<=n;omega,λh=>(B.fr h).upd,λh=>(B.cl h).upd ?_⟩⟩;exact(IG (name:=name) B.M)
theorem MdB.end_push {Hx H2:Ab} {n n2 j:Nat} {x:List T} {e:Int} {o:Res EL} (B:MdB l t k0 name ks els H nx i Hx n) (pu:PuM els ks name nx j x Hx n H2 n2) (he:(o = .error e/\e≠0)\/(∃y:El,y.j=j/\y.cs=x/\o = .ok (.el y,i)/\e=0)) :
  ∃P Hy,Ao true 10 H2 (.ptr nx 0)=some P/\A8 10 H2 (.ptr (nx+1) 0) P=some Hy/\Ao true 10 Hy (.ptr (nx+1) 0)=some P/\StM l t k0 name ks els H nx o ⟨BW P e,Hy,n2⟩:=by
 obtain⟨ps,hl,hb,hy⟩:=pu.bx;have h1:=B.hn;have h2:=B.k0;have h3:=pu.n
 have r2:Aa H2 k0=some (rr t i):=by rw[pu.k k0 (by omega) (by omega) B.n0];exact B.rd
 have rs2:Aa H2 (nx+1)=some (.cells AD (zMd.map .t)):=by rw[pu.k (nx+1) (by omega) (by omega) B.n2];exact B.rs
 obtain⟨s1,l1⟩:=KZ (ps:=ps) rs2 rfl hl;refine⟨AN ps,_,GJ hb hl,s1,l1,⟨⟨ps,e,i,rfl,hl,λh=>(pu.cl (B.cl h)) _ _ hb,by show Aa (Xb _ _ _) _=_;rw[A9,zz (by omega)];exact r2,B.i,?_⟩,λc c1 c2 c3=>by show Aa (Xb _ _ _) _=_;rw[A9,zz (by omega),pu.k c (by omega) (by omega) c3];exact B.k c c1 c2 c3,by show nx<=n2;omega,λh=>(pu.fr (B.fr h)).upd,λh=>?_⟩⟩
 .rcases he with he | ⟨y,e1,e2,e3,e4⟩
  .exact .inl he
  .obtain⟨ks',hp,hM,hN⟩:=hy y e1 e2;exact .inr ⟨.el y,e3,e4,name,ks',els++[y],hp,hM.keep (λj hj=>by show Aa (Xb _ _ _) _=_;rw[A9,zz (λe=>hN (nx+1) (by omega) B.n2 j hj e.symm)]) (Xg _),λc c1 c2=>hN c (by omega) c2,rfl,rfl⟩
 .have h4:=pu.cl (B.cl h);exact h4.upd (h4 _ _ hb)
theorem MdB.upd {Hx:Ab} {n b:Nat} {r:Row} (B:MdB l t k0 name ks els H nx i Hx n) (hb:nx+2<=b) (hN:BC els ks b) (hr:ClR n r):MdB l t k0 name ks els H nx i (Xb Hx b r) n:=by
 have h2:=B.k0
 exact⟨by rw[A9,zz (by omega)];exact B.rd,B.i,by rw[A9,zz (by omega)];exact B.bx,by rw[A9,zz (by omega)];exact B.rs,B.M.keep (λj hj=>by rw[A9,zz (λe=>hN j hj e.symm)]) (Xg _),
  λc c1 c2 c3=>by rw[A9,zz (by omega)];exact B.k c c1 c2 c3,B.hn,λh=>(B.fr h).upd,λh=>(B.cl h).upd hr,B.n0,B.n1,B.n2,h2⟩
end
def Og (r:Res El):Res EL:=match r with
 | .error e=>.error e
 | .ok (x,p)=>.ok (.el x,p)
theorem Tr (j:Nat) (els:List El):Cp j els<=els.length:=List.length_filter_le _ _
theorem Ql (n:Nat) {ds:List T} (h:ds.length=6):De 59 6 [.string ⟨#[]⟩,.int .i64 0,.string ⟨#[]⟩,.slice none 0 0,.slice none 0 0,.slice none 0 0] 1 [(0,.t (.ag ds))] n=some (.row n 0 1 6,.cells 59 (ds.map .t)):=by
 match ds,h with
 | [_,_,_,_,_,_],_=>rfl
section
variable {t : T} {k0 i nx : Nat} {H : Ab} {l : List Tok} {els : List El} {ks : Nat -> Nat} {name : ByteArray}
theorem MdB.push {Hx:Ab} {n:Nat} (B:MdB l t k0 name ks els H nx i Hx n) (hels:els.length<=1000000) {j o z ty by':Nat} (hj:j<9) (ho:o=j+1) (hz:z=zE j) (hty:ty=tyE j) (x:List T) (hx:x.length=z) {xs:List PV} (hxs:xs=x.map .t) (hby:by'<=1000) :
  ∃p p' H1 H2,Ao false 1 Hx (.ptr nx o)=some p/\B1 ty z by' ((n,.cells ty xs)::Hx) (n+1) p (.row n 0 1 z)=some (p',H1,n+2)/\A8 1 H1 (.ptr nx o) p'=some H2/\PuM els ks name nx j x Hx n H2 (n+2):=
 dB B.M B.bx (by have:=B.hn;omega) B.n1 hj ho hz hty x hx xs hxs hby (Xk (Tr j els) hels)
theorem A3e (ht:IsS Ap t l) (hlim:l.length<=1000000) (h0:Aa H k0=some (rr t i)) (hk:k0<nx) (hi:i<=l.length) (hC:Cl H nx) (M:BZ els ks H nx) (hn0:BC els ks k0) (hels:els.length<=1000000) (nm:ByteArray) {kind:Nat} {f:Dfn->El}
  (hkf:(kind=4/\f = .tmp)\/(kind=7/\f = .rul)\/(kind=8/\f = .roo)) :
  ∃fi:Fin,StM l t k0 name ks els H nx (Og (elD f (C4 (l.map kt) nm i))) fi/\AB Xa (G q) 61 [.ptr k0 0,AN (AM name ks els),.t (iv (kind:Int)),.t (sv nm)] H nx fi.r fi.H fi.nx:=by
 obtain⟨O,hO⟩:∃O,O=Og (elD f (C4 (l.map kt) nm i)):=⟨_,rfl⟩
 rw[<-hO];have hcp:=GH (AM name ks els);have B0:=MdB.mk0 (l:=l) (t:=t) (name:=name) M h0 hk hi hn0
 obtain⟨H1,hH1⟩:∃H1:Ab,H1=(nx+1,.cells AD (zMd.map .t))::(nx,.cells AD (AM name ks els))::H:=⟨_,rfl⟩
 rw[<-hH1]at B0
 obtain⟨ps,hps⟩:∃ps,ps=AM name ks els:=⟨_,rfl⟩
 obtain⟨P,hP⟩:∃P,P=AN (AM name ks els):=⟨_,rfl⟩
 rw[<-hP,<-hps]at hcp;rw[<-hP]
 have all:∀{Hx:Ab} {n:Nat} {j:Nat},MdB l t k0 name ks els H nx j Hx n->Ao true 10 Hx (.ptr nx 0)=some P:=λB=>by rw[hP];exact GJ B.bx rfl
 refine qE.callX rfl ?_;(conv in WV=>cbv);refine Ai Af ?_;simp -implicitDefEqProofs [hcp];refine B9 (s':=⟨[(8,.ptr (nx+1) 0),(5,.ptr nx 0),(3,.t (sv nm)),(2,.t (iv (kind:Int))),(0,.ptr k0 0)],H1,nx+2,46⟩) (by rw[hH1,<-hps];exact sub_env (by simp -implicitDefEqProofs)) rfl ?_;obtain⟨y,e,j,H2,n2,ta,r2,hj,⟨ds,rfl,hdl⟩,hd,K2,a1,a2⟩:=Ec (Ti (q:=q) (nx:=nx+2) ht hlim B0.rd (by omega) hi (B0.cl hC) nm);have CA:Ctx Xa (G q) _:=A5.nil.ctxH (B6.cons a2 .nil) mixed;have B2:=B0.kr K2 r2 hj;have st3:A8 6 ((n2,.cells BK [.t (sv ⟨#[]⟩),.t (iv 0),.t (sv ⟨#[]⟩),.t Ad,.t Ad,.t Ad])::H2) (.ptr n2 0) (.t (.ag ds))=some ((n2,.cells BK (ds.map .t))::H2):=Fg rfl hdl H2;have B3:=B2.cons (r:=.cells BK (ds.map .t)) (ClR.trees _ _ _)
 obtain⟨H3,hH3⟩:∃H3:Ab,H3=(n2,.cells BK (ds.map .t))::H2:=⟨_,rfl⟩
 have o3:Aa H3 n2=some (.cells BK (ds.map .t)):=by rw[hH3,A1,zy rfl]
 rw[<-hH3]at st3 B3;have lD:=ldN o3 hdl;refine Ai CA ?_;simp -implicitDefEqProofs [a1,st3];rcases hd with⟨d,hdd,hxy,rfl⟩ | ⟨hdd,he⟩
 rotate_left
 .have hb:(e != 0)=true:=by rw[bne_iff_ne];exact he
  have hOe:O = .error e:=by rw[hO,hdd];rfl
  obtain⟨Hy,sy,ly,S⟩:=B3.end_err ⟨hOe,he⟩;rw[<-hP]at sy ly S;have lP:=all B3;refine Ai Af ?_;simp -implicitDefEqProofs [hb,lP,sy];exact A6 ⟨BW P e,Hy,n2+1⟩ S (by simp -implicitDefEqProofs [ly,BW])
 injection hxy with hxy;subst hxy
 have hOk:O = .ok (.el (f d),j):=by rw[hO,hdd];rfl
 refine Ai Af ?_;simp -implicitDefEqProofs;rcases hkf with⟨rfl,rfl⟩ | ⟨rfl,rfl⟩ | ⟨rfl,rfl⟩
 .obtain⟨p,p',H4,H5,l1,ap,s5,pu⟩:=B3.push hels (j:=2) (o:=3) (z:=6) (ty:=59) (by':=112) (by omega) rfl rfl rfl d.cs hdl rfl (by omega);obtain⟨P',Hy,lP,sy,ly,S⟩:=B3.end_push (e:=0) (o:=O) pu (.inr ⟨.tmp d,rfl,rfl,hOk,rfl⟩);have bs:=Ql (n2+1) hdl;refine Ai Af ?_;simp -implicitDefEqProofs [l1,lD,bs,ap,s5];refine A7 Af ?_;simp -implicitDefEqProofs [lP,sy];exact A6 ⟨BW P' 0,Hy,n2+3⟩ S (by simp -implicitDefEqProofs [ly,BW])
 .obtain⟨p,p',H4,H5,l1,ap,s5,pu⟩:=B3.push hels (j:=5) (o:=6) (z:=6) (ty:=59) (by':=112) (by omega) rfl rfl rfl d.cs hdl rfl (by omega);obtain⟨P',Hy,lP,sy,ly,S⟩:=B3.end_push (e:=0) (o:=O) pu (.inr ⟨.rul d,rfl,rfl,hOk,rfl⟩);have bs:=Ql (n2+1) hdl;refine Ai Af ?_;simp -implicitDefEqProofs [l1,lD,bs,ap,s5];refine A7 Af ?_;simp -implicitDefEqProofs [lP,sy];exact A6 ⟨BW P' 0,Hy,n2+3⟩ S (by simp -implicitDefEqProofs [ly,BW])
 .obtain⟨p,p',H4,H5,l1,ap,s5,pu⟩:=B3.push hels (j:=6) (o:=7) (z:=6) (ty:=59) (by':=112) (by omega) rfl rfl rfl d.cs hdl rfl (by omega);obtain⟨P',Hy,lP,sy,ly,S⟩:=B3.end_push (e:=0) (o:=O) pu (.inr ⟨.roo d,rfl,rfl,hOk,rfl⟩);have bs:=Ql (n2+1) hdl;refine Ai Af ?_;simp -implicitDefEqProofs [l1,lD,bs,ap,s5];refine A7 Af ?_;simp -implicitDefEqProofs [lP,sy];exact A6 ⟨BW P' 0,Hy,n2+3⟩ S (by simp -implicitDefEqProofs [ly,BW])
end
theorem Qm (p:PV) (e:Int):Bv (BW p e) 0=some p/\Bv (BW p e) 1=some (.t (iv e)):=by
 cases p<;>exact⟨rfl,rfl⟩
section
variable {L : List KT} {p p1 : Nat} {e : Int}
theorem A3f (h:En L p = .error e):C6 L 9 p = .error e:=by simp[C6,elS,h]
theorem A3g {x:List ByteArray} (h:En L p = .ok (x,p1)):C6 L 9 p = .ok (.el (.chk x),p1):=by simp[C6,elS,h]
theorem A3h (h:AE L p 2 = .error e):C6 L 10 p = .error e:=by simp[C6,elS,h]
theorem A3i {x:ByteArray} (h:AE L p 2 = .ok (x,p1)):C6 L 10 p = .ok (.el (.drp x),p1):=by simp[C6,elS,h]
theorem eJ {k:Nat} (h:AE L p 1 = .error e) (h9:k≠9) (h10:k≠10):C6 L k p = .error e:=by
 by_cases h1:k=1
 .simp[C6,h1,h]
 .simp[C6,elS,h1,h9,h10,h]
theorem eK {x:ByteArray} (h:AE L p 1 = .ok (x,p1)):C6 L 1 p = .ok (.md x,p1):=by simp[C6,h]
theorem JH {k:Nat} {x:ByteArray} (h:AE L p 1 = .ok (x,p1)) (h1:k≠1) (h9:k≠9) (h10:k≠10):C6 L k p=Og (EJ L k x p1):=by
 simp only[C6,elS,zz h1,zz h9,zz h10,h];rfl
end
section
variable {L : List KT} {p p1 : Nat} {x : El} {nm : ByteArray}
theorem A3j (h:E4 L nm p = .ok (x,p1)):x.j=3:=by
 unfold E4 at h;split at h
 .cases h
 .split at h
  .cases h
  .split at h
   .cases h
   .injection h with h;injection h with h _;subst h;rfl
theorem A3k (h:Fz L nm p = .ok (x,p1)):x.j=4:=by
 unfold Fz at h;split at h
 .cases h
 .split at h
  .cases h
  .injection h with h;injection h with h _;subst h;rfl
end
theorem bsL (n:Nat) (out:List ByteArray):De 44 1 [.slice none 0 0] 1 [(0,.t (Am Aj out))] n=some (.row n 0 1 1,.cells 44 [.t (Am Aj out)]):=by
 cases out<;>rfl
theorem eL (n:Nat) {ds:List T} (h:ds.length=3):De 112 3 [.string ⟨#[]⟩,.slice none 0 0,.slice none 0 0] 1 [(0,.t (.ag ds))] n=some (.row n 0 1 3,.cells 112 (ds.map .t)):=by
 match ds,h with
 | [_,_,_],_=>rfl
theorem eM (n:Nat) {ds:List T} (h:ds.length=7):De 61 7 [.slice none 0 0,.string ⟨#[]⟩,.int .i64 0,.string ⟨#[]⟩,.slice none 0 0,.slice none 0 0,.slice none 0 0] 1 [(0,.t (.ag ds))] n=some (.row n 0 1 7,.cells 61 (ds.map .t)):=by
 match ds,h with
 | [_,_,_,_,_,_,_],_=>rfl
theorem eN (n:Nat) {ds:List T} (h:ds.length=8):De 118 8 [.int .i64 0,.slice none 0 0,.string ⟨#[]⟩,.int .i64 0,.string ⟨#[]⟩,.slice none 0 0,.slice none 0 0,.slice none 0 0] 1 [(0,.t (.ag ds))] n=some (.row n 0 1 8,.cells 118 (ds.map .t)):=by
 match ds,h with
 | [_,_,_,_,_,_,_,_],_=>rfl
section
variable {t : T} {k0 i nx : Nat} {H : Ab} {l : List Tok} {els : List El} {ks : Nat -> Nat} {name : ByteArray}
theorem MdB.end_name {Hx:Ab} {n:Nat} {o:Res EL} {nm:ByteArray} (B:MdB l t k0 name ks els H nx i Hx n) (ho:o = .ok (.md nm,i)):∃H2 Hy,A8 1 Hx (.ptr nx 0) (.t (sv nm))=some H2/\Ao true 10 H2 (.ptr nx 0)=some (AN (AM nm ks els))/\A8 10 H2 (.ptr (nx+1) 0) (AN (AM nm ks els))=some Hy /\
  Ao true 10 Hy (.ptr (nx+1) 0)=some (AN (AM nm ks els))/\StM l t k0 name ks els H nx o ⟨BW (AN (AM nm ks els)) 0,Hy,n⟩:=by
 have h1:=B.hn;have h2:=B.k0;have s0:=Em (n:=1) (o:=0) (t:=.t (sv nm)) (ns:=[.t (sv nm)]) B.bx rfl rfl (by show 0+1<=10;omega);have e0:Bj (AM name ks els) 0 [.t (sv nm)]=AM nm ks els:=rfl;rw[e0]at s0
 obtain⟨H2,hH2⟩:∃H2,H2=Xb Hx nx (.cells AD (AM nm ks els)):=⟨_,rfl⟩
 rw[<-hH2]at s0
 have b2:Aa H2 nx=some (.cells AD (AM nm ks els)):=by rw[hH2,A9,zy rfl,B.bx];rfl
 have rs2:Aa H2 (nx+1)=some (.cells AD (zMd.map .t)):=by rw[hH2,A9,zz (by omega)];exact B.rs
 obtain⟨s1,l1⟩:=KZ (ps:=AM nm ks els) rs2 rfl rfl
 have kk:∀c,c≠nx->c≠nx+1->Aa (Xb H2 (nx+1) (.cells AD (AM nm ks els))) c=Aa Hx c:=λc c1 c2=>by rw[A9,zz c2,hH2,A9,zz c1]
 refine⟨H2,_,s0,GJ b2 rfl,s1,l1,⟨⟨_,0,i,rfl,rfl,λ_=>IG (name:=nm) B.M,by show Aa _ k0=_;rw[kk k0 (by omega) (by omega)];exact B.rd,B.i,.inr ⟨_,ho,rfl,nm,ks,els,rfl,B.M.keep (λj hj=>kk _ (λe=>B.n1 j hj e.symm) (λe=>B.n2 j hj e.symm)) (Xg _),λc _ h=>h,rfl,rfl⟩⟩,
  λc c1 c2 c3=>by show Aa _ c=_;rw[kk c (by omega) (by omega)];exact B.k c c1 c2 c3,by show nx<=n;omega,λh=>by show Frs (Xb H2 _ _) n;rw[hH2];exact(B.fr h).upd.upd,λh=>by
   show Cl (Xb H2 _ _) n;rw[hH2]
   exact((B.cl h).upd (IG (name:=nm) B.M)).upd (IG (name:=nm) B.M)⟩⟩
theorem A3l (ht:IsS Ap t l) (hlim:l.length<=1000000) (hsm:∀x∈l,x.t.length<=100000) (h0:Aa H k0=some (rr t i)) (hk:k0<nx) (hi:i<=l.length) (hC:Cl H nx) (M:BZ els ks H nx) (hn0:BC els ks k0) (hels:els.length<=1000000) {kind:Nat} (hk1:1<=kind) (hk2:kind<=10) :
  ∃fi:Fin,StM l t k0 name ks els H nx (C6 (l.map kt) kind i) fi/\AB Xa (G q) 31 [.ptr k0 0,AN (AM name ks els),.t (iv (kind:Int))] H nx fi.r fi.H fi.nx:=by
 obtain⟨O,hO⟩:∃O,O=C6 (l.map kt) kind i:=⟨_,rfl⟩
 rw[<-hO];have hcp:=GH (AM name ks els);have B0:=MdB.mk0 (l:=l) (t:=t) (name:=name) M h0 hk hi hn0
 obtain⟨H1,hH1⟩:∃H1:Ab,H1=(nx+1,.cells AD (zMd.map .t))::(nx,.cells AD (AM name ks els))::H:=⟨_,rfl⟩
 rw[<-hH1]at B0
 obtain⟨ps,hps⟩:∃ps,ps=AM name ks els:=⟨_,rfl⟩
 obtain⟨P,hP⟩:∃P,P=AN (AM name ks els):=⟨_,rfl⟩
 rw[<-hP,<-hps]at hcp;rw[<-hP]
 have all:∀{Hx:Ab} {n:Nat} {j:Nat},MdB l t k0 name ks els H nx j Hx n->Ao true 10 Hx (.ptr nx 0)=some P:=λB=>by rw[hP];exact GJ B.bx rfl
 refine pX.callX rfl ?_;(conv in WL=>cbv);refine Ai Af ?_;simp -implicitDefEqProofs [hcp];refine B9 (s':=⟨[(6,.ptr (nx+1) 0),(4,.ptr nx 0),(2,.t (iv (kind:Int))),(0,.ptr k0 0)],H1,nx+2,121⟩) (by rw[hH1,<-hps];exact sub_env (by simp -implicitDefEqProofs)) rfl ?_;by_cases k9:kind=9
 .subst k9;obtain⟨y,e,j,H2,n2,ta,r2,hj,⟨out,rfl⟩,hd,K2,a1,a2⟩:=Ec (A0q (q:=q) (nx:=nx+2) ht hlim B0.rd (by omega) hi (B0.cl hC));have CA:Ctx Xa (G q) _:=A5.nil.ctxH (B6.cons a2 .nil) mixed;have B2:=B0.kr K2 r2 hj;obtain⟨p,p',H4,H5,l1,ap,s5,pu⟩:=B2.push hels (j:=7) (o:=8) (z:=1) (ty:=44) (by':=24) (by omega) rfl rfl rfl [Am Aj out] rfl (xs:=[.t (Am Aj out)]) rfl (by omega)
  have he:(O = .error e/\e≠0)\/(∃y:El,y.j=7/\y.cs=[Am Aj out]/\O = .ok (.el y,j)/\e=0):=by
   rcases hd with⟨x,hx,hxy,rfl⟩ | ⟨hx,he⟩
   .exact .inr ⟨.chk x,rfl,by rw[hxy];rfl,by rw[hO];exact A3g hx,rfl⟩
   .exact .inl ⟨by rw[hO];exact A3f hx,he⟩
  obtain⟨P',Hy,lP,sy,ly,S⟩:=B2.end_push pu he;have bs:=bsL n2 out;refine Ai CA ?_;simp -implicitDefEqProofs [a1,l1,bs,ap,s5,lP,sy];exact A6 ⟨BW P' e,Hy,n2+2⟩ S (by simp -implicitDefEqProofs [ly,BW])
 by_cases k10:kind=10
 .subst k10;obtain⟨y,e,j,H2,n2,ta,r2,hj,⟨s,rfl⟩,hd,K2,a1,a2⟩:=Ec (Ht (q:=q) (nx:=nx+2) ht hlim B0.rd (by omega) hi 2);have CA:Ctx Xa (G q) _:=A5.nil.ctxH (B6.cons a2 .nil) mixed;have B2:=B0.kr K2 r2 hj;obtain⟨p,p',H4,H5,l1,ap,s5,pu⟩:=B2.push hels (j:=8) (o:=9) (z:=1) (ty:=9) (by':=16) (by omega) rfl rfl rfl [sv s] rfl (xs:=[.t (sv s)]) rfl (by omega)
  have he:(O = .error e/\e≠0)\/(∃y:El,y.j=8/\y.cs=[sv s]/\O = .ok (.el y,j)/\e=0):=by
   rcases hd with⟨x,hx,hxy,rfl⟩ | ⟨hx,he⟩
   .exact .inr ⟨.drp x,rfl,by rw[hxy];rfl,by rw[hO];exact A3i hx,rfl⟩
   .exact .inl ⟨by rw[hO];exact A3h hx,he⟩
  obtain⟨P',Hy,lP,sy,ly,S⟩:=B2.end_push pu he;refine Ai CA ?_;simp -implicitDefEqProofs [a1,l1,bsS,ap,s5,lP,sy];exact A6 ⟨BW P' e,Hy,n2+2⟩ S (by simp -implicitDefEqProofs [ly,BW])
 have h9:((kind:Int)==9)=false:=by rw[zu];omega
 have h10:((kind:Int)==10)=false:=by rw[zu];omega
 obtain⟨y,e,j,H2,n2,ta,r2,hj,⟨s,rfl⟩,hd,K2,a1,a2⟩:=Ec (Ht (q:=q) (nx:=nx+2) ht hlim B0.rd (by omega) hi 1);have CA:Ctx Xa (G q) _:=A5.nil.ctxH (B6.cons a2 .nil) mixed;have B2:=B0.kr K2 r2 hj;have n2':=K2.n;refine Ai Af ?_;simp -implicitDefEqProofs [h9,h10];refine Ai CA ?_;simp -implicitDefEqProofs [a1];rcases hd with⟨x,hx,hxy,rfl⟩ | ⟨hx,he⟩
 rotate_left
 .have hb:(e != 0)=true:=by rw[bne_iff_ne];exact he
  obtain⟨Hy,sy,ly,S⟩:=B2.end_err ⟨show O = .error e by rw[hO];exact eJ hx k9 k10,he⟩;rw[<-hP]at sy ly S;have lP:=all B2;refine Ai Af ?_;simp -implicitDefEqProofs [hb,lP,sy];exact A6 ⟨BW P e,Hy,n2⟩ S (by simp -implicitDefEqProofs [ly,BW])
 injection hxy with hxy;injection hxy with hxy;subst hxy;refine Ai Af ?_;simp -implicitDefEqProofs
 have hcases:kind=1\/kind=2\/kind=3\/kind=5\/kind=6\/kind=4\/kind=7\/kind=8:=by omega
 rcases hcases with rfl | rfl | rfl | rfl | rfl | hdk
 .
  obtain⟨H3,Hy,s3,lP,sy,ly,S⟩:=B2.end_name (o:=O) (nm:=s) (by rw[hO];exact eK hx);refine Ai Af ?_;simp -implicitDefEqProofs [s3];refine A7 Af ?_;simp -implicitDefEqProofs [lP,sy];exact A6 ⟨BW (AN (AM s ks els)) 0,Hy,n2⟩ S (by simp -implicitDefEqProofs [ly,BW])
 .
  obtain⟨p,p',H4,H5,l1,ap,s5,pu⟩:=B2.push hels (j:=0) (o:=1) (z:=1) (ty:=9) (by':=16) (by omega) rfl rfl rfl [sv s] rfl (xs:=[.t (sv s)]) rfl (by omega);obtain⟨P',Hy,lP,sy,ly,S⟩:=B2.end_push (e:=0) (o:=O) pu (.inr ⟨.imp s,rfl,rfl,by rw[hO,JH hx (by omega) (by omega) (by omega)];rfl,rfl⟩);refine Ai Af ?_;simp -implicitDefEqProofs [l1,bsS,ap,s5];refine A7 Af ?_;simp -implicitDefEqProofs [lP,sy];exact A6 ⟨BW P' 0,Hy,n2+2⟩ S (by simp -implicitDefEqProofs [ly,BW])
 .
  have Bz:=B2.cons (r:=.cells 112 (([sv ⟨#[]⟩,Ad,Ad]:List T).map .t)) (ClR.trees _ _ _)
  obtain⟨Hz,hHz⟩:∃Hz:Ab,Hz=(n2,.cells 112 (([sv ⟨#[]⟩,Ad,Ad]:List T).map .t))::H2:=⟨_,rfl⟩
  have oz:Aa Hz n2=some (.cells 112 (([sv ⟨#[]⟩,Ad,Ad]:List T).map .t)):=by rw[hHz,A1,zy rfl]
  rw[<-hHz]at Bz;obtain⟨y,e,j3,H3,n3,tb,r3,hj3,⟨ds,rfl,hdl⟩,hd,K3,t1,t2⟩:=Ec (A1c (q:=q) (nx:=n2+1) ht hlim Bz.rd (by omega) hj (Bz.cl hC) s);have CB:Ctx Xa (G q) _:=A5.nil.ctxH (B6.cons t2 .nil) mixed;have B3:=Bz.kr K3 r3 hj3;have hn2:=B2.hn
  have o3:Aa H3 n2=some (.cells 112 (([sv ⟨#[]⟩,Ad,Ad]:List T).map .t)):=by rw[K3.k n2 (by omega) (by omega)];exact oz
  have st4:=Hu (n:=3) (ds:=ds) o3 rfl hdl;have B4:=B3.upd (b:=n2) (r:=.cells 112 (ds.map .t)) hn2 (λj hj=>by have:=M.lt j hj;omega) (ClR.trees _ _ _)
  have o4:Aa (Xb H3 n2 (.cells 112 (ds.map .t))) n2=some (.cells 112 (ds.map .t)):=by rw[A9,zy rfl,o3];rfl
  obtain⟨H4,hH4⟩:∃H4:Ab,H4=Xb H3 n2 (.cells 112 (ds.map .t)):=⟨_,rfl⟩
  rw[<-hH4]at st4 B4 o4;have lD:=ldN o4 hdl;obtain⟨p,p',H5,H6,l1,ap,s5,pu⟩:=B4.push hels (j:=1) (o:=2) (z:=3) (ty:=112) (by':=64) (by omega) rfl rfl rfl ds hdl rfl (by omega)
  have he:(O = .error e/\e≠0)\/(∃y:El,y.j=1/\y.cs=ds/\O = .ok (.el y,j3)/\e=0):=by
   rcases hd with⟨d,hdd,hxy,rfl⟩ | ⟨hdd,he⟩
   .injection hxy with hxy;exact .inr ⟨.typ d,rfl,hxy.symm,by rw[hO,JH hx (by omega) (by omega) (by omega)];simp only[EJ,hdd];rfl,rfl⟩
   .exact .inl ⟨by rw[hO,JH hx (by omega) (by omega) (by omega)];simp only[EJ,hdd];rfl,he⟩
  obtain⟨P',Hy,lP,sy,ly,S⟩:=B4.end_push pu he;have bs:=eL n3 hdl;rw[hHz]at t1;have t1:tb [.ptr k0 0,.t (sv s)] ((n2,.cells 112 [.t (sv ⟨#[]⟩),.t Ad,.t Ad])::H2) (n2+1)=some (.t (.tu [.ag ds,iv e]),H3,n3):=t1;refine Ai CB ?_;simp -implicitDefEqProofs [t1,st4,l1,lD,bs,ap,s5];refine A7 Af ?_;simp -implicitDefEqProofs [lP,sy];exact A6 ⟨BW P' e,Hy,n3+2⟩ S (by simp -implicitDefEqProofs [ly,BW])
 .
  have Bz:=B2.cons (r:=.cells 61 ((zEd:List T).map .t)) (ClR.trees _ _ _)
  obtain⟨Hz,hHz⟩:∃Hz:Ab,Hz=(n2,.cells 61 ((zEd:List T).map .t))::H2:=⟨_,rfl⟩
  have oz:Aa Hz n2=some (.cells 61 ((zEd:List T).map .t)):=by rw[hHz,A1,zy rfl]
  rw[<-hHz]at Bz;obtain⟨y,e,j3,H3,n3,tb,r3,hj3,⟨ds,rfl,hdl⟩,hd,K3,t1,t2⟩:=Ec (A3c (q:=q) (nx:=n2+1) ht hlim hsm Bz.rd (by omega) hj (Bz.cl hC) s);have CB:Ctx Xa (G q) _:=A5.nil.ctxH (B6.cons t2 .nil) mixed;have B3:=Bz.kr K3 r3 hj3;have hn2:=B2.hn
  have o3:Aa H3 n2=some (.cells 61 ((zEd:List T).map .t)):=by rw[K3.k n2 (by omega) (by omega)];exact oz
  have st4:=Hu (n:=7) (ds:=ds) o3 rfl hdl;have B4:=B3.upd (b:=n2) (r:=.cells 61 (ds.map .t)) hn2 (λj hj=>by have:=M.lt j hj;omega) (ClR.trees _ _ _)
  have o4:Aa (Xb H3 n2 (.cells 61 (ds.map .t))) n2=some (.cells 61 (ds.map .t)):=by rw[A9,zy rfl,o3];rfl
  obtain⟨H4,hH4⟩:∃H4:Ab,H4=Xb H3 n2 (.cells 61 (ds.map .t)):=⟨_,rfl⟩
  rw[<-hH4]at st4 B4 o4;have lD:=ldN o4 hdl;obtain⟨p,p',H5,H6,l1,ap,s5,pu⟩:=B4.push hels (j:=3) (o:=4) (z:=7) (ty:=61) (by':=136) (by omega) rfl rfl rfl ds hdl rfl (by omega)
  have he:(O = .error e/\e≠0)\/(∃y:El,y.j=3/\y.cs=ds/\O = .ok (.el y,j3)/\e=0):=by
   rcases hd with⟨d,hdd,hxy,rfl⟩ | ⟨hdd,he⟩
   .injection hxy with hxy;exact .inr ⟨d,A3j hdd,hxy.symm,by rw[hO,JH hx (by omega) (by omega) (by omega)];simp only[EJ,hdd];rfl,rfl⟩
   .exact .inl ⟨by rw[hO,JH hx (by omega) (by omega) (by omega)];simp only[EJ,hdd];rfl,he⟩
  obtain⟨P',Hy,lP,sy,ly,S⟩:=B4.end_push pu he;have bs:=eM n3 hdl;rw[hHz]at t1;have t1:tb [.ptr k0 0,.t (sv s)] ((n2,.cells 61 [.t Ad,.t (sv ⟨#[]⟩),.t (iv 0),.t (sv ⟨#[]⟩),.t Ad,.t Ad,.t Ad])::H2) (n2+1)=some (.t (.tu [.ag ds,iv e]),H3,n3):=t1;refine Ai CB ?_;simp -implicitDefEqProofs [t1,st4,l1,lD,bs,ap,s5];refine A7 Af ?_;simp -implicitDefEqProofs [lP,sy];exact A6 ⟨BW P' e,Hy,n3+2⟩ S (by simp -implicitDefEqProofs [ly,BW])
 .
  have Bz:=B2.cons (r:=.cells 118 ((zLd:List T).map .t)) (ClR.trees _ _ _)
  obtain⟨Hz,hHz⟩:∃Hz:Ab,Hz=(n2,.cells 118 ((zLd:List T).map .t))::H2:=⟨_,rfl⟩
  have oz:Aa Hz n2=some (.cells 118 ((zLd:List T).map .t)):=by rw[hHz,A1,zy rfl]
  rw[<-hHz]at Bz;obtain⟨y,e,j3,H3,n3,tb,r3,hj3,⟨ds,rfl,hdl⟩,hd,K3,t1,t2⟩:=Ec (A2y (q:=q) (nx:=n2+1) ht hlim Bz.rd (by omega) hj (Bz.cl hC) s);have CB:Ctx Xa (G q) _:=A5.nil.ctxH (B6.cons t2 .nil) mixed;have B3:=Bz.kr K3 r3 hj3;have hn2:=B2.hn
  have o3:Aa H3 n2=some (.cells 118 ((zLd:List T).map .t)):=by rw[K3.k n2 (by omega) (by omega)];exact oz
  have st4:=Hu (n:=8) (ds:=ds) o3 rfl hdl;have B4:=B3.upd (b:=n2) (r:=.cells 118 (ds.map .t)) hn2 (λj hj=>by have:=M.lt j hj;omega) (ClR.trees _ _ _)
  have o4:Aa (Xb H3 n2 (.cells 118 (ds.map .t))) n2=some (.cells 118 (ds.map .t)):=by rw[A9,zy rfl,o3];rfl
  obtain⟨H4,hH4⟩:∃H4:Ab,H4=Xb H3 n2 (.cells 118 (ds.map .t)):=⟨_,rfl⟩
  rw[<-hH4]at st4 B4 o4;have lD:=ldN o4 hdl;obtain⟨p,p',H5,H6,l1,ap,s5,pu⟩:=B4.push hels (j:=4) (o:=5) (z:=8) (ty:=118) (by':=144) (by omega) rfl rfl rfl ds hdl rfl (by omega)
  have he:(O = .error e/\e≠0)\/(∃y:El,y.j=4/\y.cs=ds/\O = .ok (.el y,j3)/\e=0):=by
   rcases hd with⟨d,hdd,hxy,rfl⟩ | ⟨hdd,he⟩
   .injection hxy with hxy;exact .inr ⟨d,A3k hdd,hxy.symm,by rw[hO,JH hx (by omega) (by omega) (by omega)];simp only[EJ,hdd];rfl,rfl⟩
   .exact .inl ⟨by rw[hO,JH hx (by omega) (by omega) (by omega)];simp only[EJ,hdd];rfl,he⟩
  obtain⟨P',Hy,lP,sy,ly,S⟩:=B4.end_push pu he;have bs:=eN n3 hdl;rw[hHz]at t1;have t1:tb [.ptr k0 0,.t (sv s)] ((n2,.cells 118 [.t (iv 0),.t Ad,.t (sv ⟨#[]⟩),.t (iv 0),.t (sv ⟨#[]⟩),.t Ad,.t Ad,.t Ad])::H2) (n2+1)=some (.t (.tu [.ag ds,iv e]),H3,n3):=t1;refine Ai CB ?_;simp -implicitDefEqProofs [t1,st4,l1,lD,bs,ap,s5];refine A7 Af ?_;simp -implicitDefEqProofs [lP,sy];exact A6 ⟨BW P' e,Hy,n3+2⟩ S (by simp -implicitDefEqProofs [ly,BW])
 .
  obtain⟨f,hkf,hnam⟩:∃f:Dfn->El,((kind=4/\f = .tmp)\/(kind=7/\f = .rul)\/(kind=8/\f = .roo))/\EJ (l.map kt) kind s j=elD f (C4 (l.map kt) s j):=by
   rcases hdk with rfl | rfl | rfl
   .exact⟨.tmp,.inl ⟨rfl,rfl⟩,rfl⟩
   .exact⟨.rul,.inr (.inl ⟨rfl,rfl⟩),rfl⟩
   .exact⟨.roo,.inr (.inr ⟨rfl,rfl⟩),rfl⟩
  have hOe:O=Og (elD f (C4 (l.map kt) s j)):=by rw[hO,JH hx (by omega) k9 k10,hnam]
  obtain⟨ps3,e3,H3,n3,tb,S3,hl3,t1,t2⟩:=A3d (A3e (q:=q) (name:=name) ht hlim B2.rd (by omega) hj (B2.cl hC) B2.M hn0 hels s hkf);rw[<-hOe]at S3;rw[<-hP]at t1;have CB:Ctx Xa (G q) _:=A5.nil.ctxH (B6.cons t2 .nil) mixed;have lP:=all B2;have hcl:=B2.hn
  have rs3:Aa H3 (nx+1)=some (.cells AD (zMd.map .t)):=by rw[S3.k (nx+1) (by omega) (by omega) B2.n2];exact B2.rs
  obtain⟨P3,hP3⟩:∃P3,P3=AN ps3:=⟨_,rfl⟩
  obtain⟨sy,ly⟩:=KZ (ps:=ps3) rs3 rfl hl3
  obtain⟨Hy,hHy⟩:∃Hy,Hy=Xb H3 (nx+1) (.cells AD ps3):=⟨_,rfl⟩
  rw[<-hP3,<-hHy]at sy ly;rw[<-hP3]at t1;obtain⟨x1,x2⟩:=Qm P3 e3
  have d1:((kind:Int)==1)=false:=by rw[zu];omega
  have d2:((kind:Int)==2)=false:=by rw[zu];omega
  have d3:((kind:Int)==3)=false:=by rw[zu];omega
  have d5:((kind:Int)==5)=false:=by rw[zu];omega
  have d6:((kind:Int)==6)=false:=by rw[zu];omega
  have SF:StM l t k0 name ks els H nx O ⟨BW P3 e3,Hy,n3⟩:=by
   obtain⟨ps',e',i',hr',_,hclr,hrd',hi',hdis⟩:=S3.ex;have S3n:n2<=n3:=S3.n
   have hps':ps'=ps3/\e'=e3:=by
    have h1:BW (AN ps3) e3=BW (AN ps') e':=hr';have h2:=Qm (AN ps3) e3;have h3:=Qm (AN ps') e';rw[h1]at h2;have h4:=h2.1.symm.trans h3.1;have h5:=h2.2.symm.trans h3.2;injection h4 with h4;injection h5 with h5;injection h5 with h5;injection h5 with h5;injection h5 with _ h5;have h6:=(GH ps3).symm.trans ((congrArg B7 h4).trans (GH ps'));injection h6 with h6;exact⟨h6.symm,h5.symm⟩
   obtain⟨rfl,rfl⟩:=hps'
   have hky:∀c,c≠nx+1->Aa Hy c=Aa H3 c:=λc hc=>by rw[hHy,A9,zz hc]
   refine⟨⟨ps',e',i',by rw[hP3],hl3,λh=>hclr (B2.cl h),by show Aa Hy k0=_;rw[hky k0 (by omega)];exact hrd',hi',?_⟩,λc c1 c2 c3=>?_,by show nx<=n3;omega,λh=>?_,λh=>?_⟩
   .rcases hdis with h | ⟨a,h1,h2,name',ks',els',h3,h4,h5,h6⟩
    .exact .inl h
    .exact .inr ⟨a,h1,h2,name',ks',els',h3,h4.keep (λj hj=>hky _ (λe=>h5 (nx+1) (by omega) B2.n2 j hj e.symm)) (Xg _),λc hc hN=>h5 c (by omega) hN,h6⟩
   .show Aa Hy c=_;rw[hky c (by omega),S3.k c (by omega) c2 c3];exact B2.k c c1 c2 c3
   .show Frs Hy n3;rw[hHy];exact(S3.fr (B2.fr h)).upd
   .show Cl Hy n3;rw[hHy];exact(S3.cl (B2.cl h)).upd (hclr (B2.cl h))
  refine Ai CB ?_;simp -implicitDefEqProofs [d1,d2,d3,d5,d6,lP,t1,x1,x2,sy,-Bv];exact A6 ⟨BW P3 e3,Hy,n3⟩ SF (by simp -implicitDefEqProofs [ly,BW])
end
noncomputable def D8 (a:List T) (r:T):List T->Option T:=open Classical in λts=>if ts=a then some r else none
theorem FR (a:List T) (r:T):D8 a r a=some r:=by unfold D8;rw[zy rfl]
theorem FS {P:Program} {G:Ay} {f:FuncId} {a:List T} {r:T} (h:AA P G f a (· = r)):GOK P G f (D8 a r):=λargs x hx=>by
 unfold D8 at hx;split at hx
 .rename_i e;injection hx with hx;subst hx;subst e;exact h
 .cases hx
theorem A3m (k:Int) (s:ByteArray) (v:Int):AA Xa (G q) 29 [.ag [iv k,sv s,iv v]] (· = iv (D0 (k,s.data.toList):Nat)):=by
 have hc:B7 (.t (.ag [iv k,sv s,iv v]))=some [.t (iv k),.t (sv s),.t (iv v)]:=rfl;have l0:Ao false 1 [(0,.cells 42 [.t (iv k),.t (sv s),.t (iv v)])] (.ptr 0 0)=some (.t (iv k)):=rfl;have l1:Ao false 1 [(0,.cells 42 [.t (iv k),.t (sv s),.t (iv v)])] (.ptr 0 1)=some (.t (sv s)):=rfl
 obtain⟨L,hL⟩:∃L,s.toList=L:=⟨_,rfl⟩
 have hL2:s.data.toList=L:=by rw[<-Ft];exact hL
 rw[hL2];refine pW.runs c0 rfl ?_;by_cases hk:k=1
 rotate_left
 .have hb:(k != 1)=true:=by rw[bne_iff_ne];exact hk
  have e:D0 (k,L)=0:=zz hk;rw[e]
  (conv in FH=>cbv);simp -implicitDefEqProofs [hc,l0,l1,hb]
 subst hk;have e:D0 (1,L)=Db L:=zy rfl;rw[e];clear e hL2
 have nb:∀{w:List UInt8},¬L=w->(L==w)=false:=λh=>by rw[zu];exact h
 by_cases h1:L=[109,111,100,117,108,101]
 .subst h1;(conv in FH=>cbv);simp -implicitDefEqProofs [hc,l0,l1,hL,Db]
 by_cases h2:L=[105,109,112,111,114,116]
 .subst h2;(conv in FH=>cbv);simp -implicitDefEqProofs [hc,l0,l1,hL,Db]
 by_cases h3:L=[116,121,112,101]
 .subst h3;(conv in FH=>cbv);simp -implicitDefEqProofs [hc,l0,l1,hL,Db]
 by_cases h4:L=[116,101,109,112,108,97,116,101]
 .subst h4;(conv in FH=>cbv);simp -implicitDefEqProofs [hc,l0,l1,hL,Db]
 by_cases h5:L=[101,110,116,114,121]
 .subst h5;(conv in FH=>cbv);simp -implicitDefEqProofs [hc,l0,l1,hL,Db]
 by_cases h6:L=[108,101,120,114,117,108,101]
 .subst h6;(conv in FH=>cbv);simp -implicitDefEqProofs [hc,l0,l1,hL,Db]
 by_cases h7:L=[114,117,108,101]
 .subst h7;(conv in FH=>cbv);simp -implicitDefEqProofs [hc,l0,l1,hL,Db]
 by_cases h8:L=[114,111,111,116]
 .subst h8;(conv in FH=>cbv);simp -implicitDefEqProofs [hc,l0,l1,hL,Db]
 by_cases h9:L=[99,104,101,99,107]
 .subst h9;(conv in FH=>cbv);simp -implicitDefEqProofs [hc,l0,l1,hL,Db]
 by_cases h10:L=[100,114,111,112]
 .subst h10;(conv in FH=>cbv);simp -implicitDefEqProofs [hc,l0,l1,hL,Db]
 (conv in FH=>cbv);simp -implicitDefEqProofs [hc,l0,l1,hL,Db,h1,h2,h3,h4,h5,h6,h7,h8,h9,h10,nb h1,nb h2,nb h3,nb h4,nb h5,nb h6,nb h7,nb h8,nb h9,nb h10]
theorem A3n {cs:List T} (hcs:cs.length=10) {kind:Nat} (h1:2<=kind) (h2:kind<=10) {a:T} (ha:cs[kind-1]?=some a) {n:Nat} (hn:Bd (.t a)=some (.t (iv (n:Int)))):AA Xa (G q) 30 [.ag cs,iv (kind:Int)] (· = iv (n:Int)):=by
 match cs,hcs with
 | [x0,x1,x2,x3,x4,x5,x6,x7,x8,x9],_=>
  have ld:∀j,Ao false 1 [(0,.cells 51 [.t x0,.t x1,.t x2,.t x3,.t x4,.t x5,.t x6,.t x7,.t x8,.t x9])] (.ptr 0 j)=([.t x0,.t x1,.t x2,.t x3,.t x4,.t x5,.t x6,.t x7,.t x8,.t x9]:List PV)[j]?:=λj=>rfl;have hc:B7 (.t (.ag [x0,x1,x2,x3,x4,x5,x6,x7,x8,x9]))=some [.t x0,.t x1,.t x2,.t x3,.t x4,.t x5,.t x6,.t x7,.t x8,.t x9]:=rfl;refine WK.runs c0 rfl ?_
  have hk:kind=2\/kind=3\/kind=4\/kind=5\/kind=6\/kind=7\/kind=8\/kind=9\/kind=10:=by omega
  rcases hk with rfl | rfl | rfl | rfl | rfl | rfl | rfl | rfl | rfl
  all_goals
   simp only[Nat.reduceSub,List.getElem?_cons_succ,List.getElem?_cons_zero,Option.some.injEq]at ha;subst ha
   (conv in RB=>cbv);simp -implicitDefEqProofs [hc,ld,hn]
section
variable {l : List KT}
def KOK (t:KT):Prop:=(t.1=1\/t.1=2->t.2≠[])/\(t.1=1->Be false (bs t.2)=true)/\(t.1=2->Be true (bs t.2)=true)
def GM (l:List KT):Prop:=∀t∈l,KOK t
def tkl (t:KT):Nat:=if t.2=[]then 1 else t.2.length
def Bt (l:List KT) (p:Nat):Nat:=((l.take p).map tkl).sum
theorem eQ {p:Nat} {t:KT} (h:l[p]?=some t):Bt l (p+1)=Bt l p+tkl t:=by
 unfold Bt;rw[List.take_add_one,h];simp
theorem Qn {p:Nat} {t:KT} (h:l[p]?=some t) (hne:t.2≠[]):Bt l (p+1)=Bt l p+t.2.length:=by
 rw[eQ h];unfold tkl;rw[zz hne]
theorem eS {p p':Nat} (h:p<=p'):Bt l p<=Bt l p':=by
 unfold Bt
 obtain⟨k,rfl⟩:∃k,p'=p+k:=⟨p'-p,by omega⟩
 rw[List.take_add,Xu,Yi];exact Ys _ _
theorem GN (_:GM l) {p:Nat} (h:p<l.length):Bt l p+1<=Bt l (p+1):=by
 have ht:l[p]?=some l[p]:=Yh h;rw[eQ ht]
 have:1<=tkl l[p]:=by
  unfold tkl
  cases hh:(l[p]).2 with
  | nil=>simp
  | cons _ _=>simp
 omega
structure IH (l:List KT) (lv:Nat) (d:Ds) (p p':Nat):Prop where
 ok:Cg d lv=0
 len:(wrD d).length+3+8*Bt l p<=8*Bt l p'
def C8 (r:List Ds):Nat:=(r.map λd=>(wrD d).length+3).sum
theorem Oh (a b:List Ds):C8 (a++b)=C8 a+C8 b:=by unfold C8;rw[Xu,Yi]
theorem JI (d:Ds):C8 [d]=(wrD d).length+3:=by simp[C8]
theorem Oi (sep last:List UInt8) (h1:sep.length<=3) (h2:last.length<=3):∀r:List Ds,r≠[]->(wrL sep last r).length+3<=C8 r
 | [],h=>absurd rfl h
 | [d],_=>by rw[wrL,wrL,JI];simp[Qe]
 | d::d2::r,_=>by
  have ih:=Oi sep last h1 h2 (d2::r) (by simp)
  have e:C8 (d::d2::r)=(wrD d).length+3+C8 (d2::r):=by simp[C8]
  have e2:(Qe sep last (d2::r)).length<=3:=by cases r<;>assumption
  rw[wrL,e,Xc,Xc];omega
theorem M2 {p p':Nat} {k:Int} {s:ByteArray} (h:AE l p k = .ok (s,p')):∃t,l[p]?=some t/\t.1=k/\s=bs t.2/\p'=p+1:=by
 unfold AE at h;split at h
 .cases h
 .rename_i t ht;split at h
  .rename_i hk;injection h with h;injection h with e1 e2;exact⟨t,ht,hk,e1.symm,e2.symm⟩
  .cases h
theorem eT (s:ByteArray):∀path:List ByteArray,path≠[]->(F5 (path++[s])).length=(F5 path).length+1+s.size
 | [],h=>absurd rfl h
 | [a],_=>by
  have e:s.data.toList.length=s.size:=rfl;show(F5 [a,s]).length=_;simp only[F5,Xy,Xc,Xm,e];omega
 | a::b::r,_=>by
  have ih:=eT s (b::r) (by simp);show(F5 (a::b::(r++[s]))).length=(F5 (a::b::r)).length+1+s.size;rw[F5,F5];simp only[Xc,Xm];have e:b::(r++[s])=b::r++[s]:=rfl;rw[e,ih];omega
theorem eU (hl:GM l):∀(f p:Nat) (path path':List ByteArray) (p':Nat),EZ l f p path = .ok (path',p')->path≠[]->path.length<=64->path.all (Be true)=true ->
  path'≠[]/\path'.length<=64/\path'.all (Be true)=true/\(F5 path').length+Bt l p<=(F5 path).length+Bt l p'
 | 0,p,path,path',p',h,_,_,_=>by cases h
 | f+1,p,path,path',p',h,hne,h64,hall=>by
  rw[EZ]at h;split at h
  .rename_i hs;split at h
   .cases h
   .split at h
    .cases h
    .rename_i s p1 h1;obtain⟨t,ht,hk,rfl,rfl⟩:=M2 h1;have hn:=(hl t (Xf ht)).2.2 hk;obtain⟨i1,i2,i3,i4⟩:=eU hl f _ _ _ _ h (by simp) (by simp;omega) (by rw[List.all_append,hall];simp[hn]);refine⟨i1,i2,i3,?_⟩;rw[eT _ _ hne]at i4;have e1:=GN hl (Bo hs);have e2:=Qn ht ((hl t (Xf ht)).1 (.inr hk));have e3:(bs t.2).size=t.2.length:=rfl;omega
  .injection h with h;injection h with e1 e2;subst e1;subst e2;exact⟨hne,h64,hall,Xg _⟩
theorem A3o (hl:GM l) {rec:Nat->Res Ds} {lv:Nat} (hlv:lv<=64) (hr:∀p d p',rec p = .ok (d,p')->IH l (lv+1) d p p') {p p':Nat} {d:Ds} (h:DG l rec p = .ok (d,p')) :
  Cg d lv=0/\d.op≠4/\(wrD d).length+8*Bt l p<=8*Bt l p':=by
 unfold DG at h;split at h
 .cases h
 .rename_i s p1 h1;obtain⟨t,ht,hk,rfl,rfl⟩:=M2 h1;have hn:=(hl t (Xf ht)).2.2 hk;split at h
  .cases h
  .rename_i path p2 h3;obtain⟨i1,i2,i3,i4⟩:=eU hl _ _ _ _ _ h3 (by simp) (by simp) (by simp[hn]);split at h
   .cases h
   .rename_i d' p3 h5;have hg:=hr _ _ _ h5;injection h with h;injection h with e1 e2;subst e1;subst e2
    have hpos:0<path.length:=by cases path with
     | nil=>exact absurd rfl i1
     | cons _ _=>simp
    refine⟨?_,(show(5:Int)≠4 by decide),?_⟩
    .rw[Cg,zz (by simp;omega)]
     have hf:Gj 5 ⟨#[]⟩ path [d']=0:=by
      unfold Gj Ju;rw[zz (by decide),i3];simp[LY,LZ,hpos];rfl
     rw[hf];simp only[ne_eq,not_true_eq_false,if_false];rw[zz (by decide),FL,zz (by rw[hg.ok];simp),FL]
    .rw[wrD];simp only[zz (show ¬(5:Int)=1 by decide),zz (show ¬(5:Int)=2 by decide),zz (show ¬(5:Int)=3 by decide),zz (show ¬(5:Int)=4 by decide),if_true];rw[wrL,wrL];simp only[Qe,Xy,Ya,Xm,Xc,X3];have e1:=Qn ht ((hl t (Xf ht)).1 (.inr hk))
     have e2:(F5 [bs t.2]).length=t.2.length:=by simp[F5]
     have:=hg.len;rw[e2]at i4
     have h1t:1<=t.2.length:=by
      have:=(hl t (Xf ht)).1 (.inr hk)
      cases hh:t.2 with
      | nil=>exact absurd hh this
      | cons _ _=>simp
     omega
theorem eV (hl:GM l) {rec:Nat->Res Ds} {lv:Nat} (hlv:lv<=64) (hf:Fwd l rec) (hr:∀p d p',rec p = .ok (d,p')->IH l (lv+1) d p p'):∀(f p:Nat) (parts parts':List Ds) (p':Nat),brS l rec f p parts = .ok (parts',p') ->
  ∃more,parts'=parts++more/\(∀k∈more,Cg k lv=0/\k.op≠4)/\C8 more+8*Bt l p<=8*Bt l p'
 | 0,p,parts,parts',p',h=>by cases h
 | f+1,p,parts,parts',p',h=>by
  rw[brS]at h;split at h
  .cases h
  .rename_i d p1 h1;obtain⟨g1,g2,g3⟩:=A3o hl hlv hr h1;split at h
   .rename_i hs;have hb:=GN hl (Bo hs);split at h
    .cases h
    .obtain⟨more,e,m1,m2⟩:=eV hl hlv hf hr f _ _ _ _ h;refine⟨d::more,by rw[e];simp,λk hk=>?_,?_⟩
     .rcases Xo.1 hk with e | e
      .rw[e];exact⟨g1,g2⟩
      .exact m1 k e
     .have:C8 (d::more)=(wrD d).length+3+C8 more:=by simp[C8]
      omega
   .split at h
    .cases h
    .rename_i p2 h3;obtain⟨e1,h4⟩:=LW h3;have hb:=GN hl h4;injection h with h;injection h with e2 e3;subst e2;subst e3;subst e1;refine⟨[d],rfl,λk hk=>by rw[Xh.1 hk];exact⟨g1,g2⟩,?_⟩;rw[JI];omega
theorem Ts {rec:Nat->Res Ds} {lv:Nat} (hr:∀p d p',rec p = .ok (d,p')->IH l (lv+1) d p p'):∀(f p:Nat) (kids kids':List Ds) (p':Nat),itS l rec f p kids = .ok (kids',p')->kids.length<=256 ->
  kids'.length<=256/\∃more,kids'=kids++more/\(∀k∈more,Cg k (lv+1)=0)/\C8 more+8*Bt l p<=8*Bt l p'
 | 0,p,kids,kids',p',h,_=>by cases h
 | f+1,p,kids,kids',p',h,h256=>by
  rw[itS]at h;split at h
  .split at h
   .cases h
   .split at h
    .cases h
    .rename_i d p1 h1;have hg:=hr _ _ _ h1;obtain⟨i0,more,e,m1,m2⟩:=Ts hr f _ _ _ _ h (by simp;omega);refine⟨i0,d::more,by rw[e];simp,λk hk=>?_,?_⟩
     .rcases Xo.1 hk with e | e
      .rw[e];exact hg.ok
      .exact m1 k e
     .have:C8 (d::more)=(wrD d).length+3+C8 more:=by simp[C8]
      have h2:=hg.len;have h3:=eS (l:=l) (show p<=p+1 by omega);omega
  .injection h with h;injection h with e1 e2;subst e1;subst e2;exact⟨h256,[],by simp,λk hk=>(by cases hk),by simp[C8]⟩
theorem Oj {s:List UInt8} {op:Int} {kids:List Ds} {p p':Nat} {d:Ds} (h:Cn l s op kids p = .ok (d,p')):d = .mk op ⟨#[]⟩ [] kids/\p'=p+1/\p<l.length:=by
 have h0:=LX h;unfold Cn at h;split at h
 .cases h
 .injection h with h;injection h with e _;exact⟨e.symm,h0⟩
theorem Ol {op:Int} {kids:List Ds} {lv:Nat} (hlv:lv<=64) (h256:kids.length<=256) (ho:op=6\/op=8\/(op=7/\2<=kids.length)) (hk:∀k∈kids,Cg k (lv+1)=0):Cg (.mk op ⟨#[]⟩ [] kids) lv=0:=by
 have hf:Gj op ⟨#[]⟩ [] kids=0:=by
  unfold Gj Ju;rcases ho with rfl | rfl | ⟨rfl,h2⟩
  .rw[zz (by decide)];rfl
  .rw[zz (by decide)];rfl
  .rw[zz (by decide)];simp[LY,LZ,h2];rfl
 rw[Cg,zz (by simp;omega),hf];simp only[ne_eq,not_true_eq_false,if_false];rw[zz (by omega)];exact Tc hk
theorem A3p (hl:GM l) {rec:Nat->Res Ds} {lv:Nat} (hlv:lv<=64) (hf:Fwd l rec) (hr:∀p d p',rec p = .ok (d,p')->IH l (lv+1) d p p') {p p':Nat} {d:Ds} (h:DH l rec p = .ok (d,p')) :
  Cg d lv=0/\d.op≠4/\(wrD d).length+8*Bt l p<=8*Bt l p':=by
 unfold DH at h;split at h
 .cases h
 .split at h
  .obtain⟨rfl,rfl,h2⟩:=Oj h;have hb:=GN hl h2;refine⟨Ol hlv (by simp) (.inl rfl) (λk hk=>by cases hk),by decide,?_⟩
   have:(wrD (.mk 6 ⟨#[]⟩ [] [])).length=2:=by rw[wrD,wrL];rfl
   omega
  .split at h
   .cases h
   .rename_i d1 p1 h1;have hg:=hr _ _ _ h1;split at h
    .cases h
    .rename_i kids p2 h3;obtain⟨i0,more,e,m1,m2⟩:=Ts hr _ _ _ _ _ h3 (by simp)
     have hkids:∀k∈kids,Cg k (lv+1)=0:=by
      intro k hk;rw[e]at hk;rcases Xi.1 hk with h | h
      .rw[Xh.1 h];exact hg.ok
      .exact m1 k h
     have hsum:C8 kids=(wrD d1).length+3+C8 more:=by rw[e,Oh,JI]
     have hne:kids≠[]:=by rw[e];simp
     have h5:=hg.len;split at h
     .rename_i hb;have hb1:=GN hl (Bo hb);split at h
      .cases h
      .split at h
       .cases h
       .rename_i d3 p3 h6;have hg3:=hr _ _ _ h6;have h7:=hg3.len;obtain⟨rfl,rfl,h8⟩:=Oj h;have hb2:=GN hl h8;refine⟨Ol hlv (by simp;omega) (.inr (.inr ⟨rfl,?_⟩)) (λk hk=>?_),(show(7:Int)≠4 by decide),?_⟩
        .rw[Xc,e];simp
        .rcases Xi.1 hk with h | h
         .exact hkids k h
         .rw[Xh.1 h];exact hg3.ok
        .have hw:=Oi [44,32] [32,124,32] (by decide) (by decide) (kids++[d3]) (by simp);rw[Oh,JI]at hw
         have:(wrD (.mk 7 ⟨#[]⟩ [] (kids++[d3]))).length=(wrL [44,32] [32,124,32] (kids++[d3])).length+2:=by
          rw[wrD];simp only[zz (show ¬(7:Int)=1 by decide),zz (show ¬(7:Int)=2 by decide),zz (show ¬(7:Int)=3 by decide),zz (show ¬(7:Int)=4 by decide),zz (show ¬(7:Int)=5 by decide),zz (show ¬(7:Int)=6 by decide),if_true];simp
         omega
     .obtain⟨rfl,rfl,h8⟩:=Oj h;have hb2:=GN hl h8;refine⟨Ol hlv i0 (.inl rfl) hkids,(show(6:Int)≠4 by decide),?_⟩;have hw:=Oi [44,32] [44,32] (by decide) (by decide) kids hne
      have:(wrD (.mk 6 ⟨#[]⟩ [] kids)).length=(wrL [44,32] [44,32] kids).length+2:=by
       rw[wrD];simp only[zz (show ¬(6:Int)=1 by decide),zz (show ¬(6:Int)=2 by decide),zz (show ¬(6:Int)=3 by decide),zz (show ¬(6:Int)=4 by decide),zz (show ¬(6:Int)=5 by decide),if_true];simp
      omega
theorem A3q (hl:GM l) {rec:Nat->Res Ds} {lv:Nat} (hlv:lv<=64) (hf:Fwd l rec) (hr:∀p d p',rec p = .ok (d,p')->IH l (lv+1) d p p') {p p':Nat} {d:Ds} (h:DI l rec p = .ok (d,p')) :
  Cg d lv=0/\d.op≠4/\(wrD d).length+8*Bt l p<=8*Bt l p':=by
 have w8:∀kids:List Ds,(wrD (.mk 8 ⟨#[]⟩ [] kids)).length<=(wrL [44,32] [44,32] kids).length+6:=by
  intro kids;rw[wrD];simp only[zz (show ¬(8:Int)=1 by decide),zz (show ¬(8:Int)=2 by decide),zz (show ¬(8:Int)=3 by decide),zz (show ¬(8:Int)=4 by decide),zz (show ¬(8:Int)=5 by decide),zz (show ¬(8:Int)=6 by decide),zz (show ¬(8:Int)=7 by decide)];split
  .simp
  .simp
 unfold DI at h;split at h
 .cases h
 .split at h
  .obtain⟨rfl,rfl,h2⟩:=Oj h;have hb:=GN hl h2;refine⟨Ol hlv (by simp) (.inr (.inl rfl)) (λk hk=>by cases hk),by decide,?_⟩;have:=w8 [];rw[wrL]at this;simp only[X3]at this;omega
  .split at h
   .cases h
   .rename_i d1 p1 h1;have hg:=hr _ _ _ h1;split at h
    .cases h
    .rename_i kids p2 h3;obtain⟨i0,more,e,m1,m2⟩:=Ts hr _ _ _ _ _ h3 (by simp)
     have hkids:∀k∈kids,Cg k (lv+1)=0:=by
      intro k hk;rw[e]at hk;rcases Xi.1 hk with h | h
      .rw[Xh.1 h];exact hg.ok
      .exact m1 k h
     have hsum:C8 kids=(wrD d1).length+3+C8 more:=by rw[e,Oh,JI]
     have hne:kids≠[]:=by rw[e];simp
     have h5:=hg.len;obtain⟨rfl,rfl,h8⟩:=Oj h;have hb2:=GN hl h8;refine⟨Ol hlv i0 (.inr (.inl rfl)) hkids,(show(8:Int)≠4 by decide),?_⟩;have hw:=Oi [44,32] [44,32] (by decide) (by decide) kids hne;have:=w8 kids;omega
theorem eW {op:Int} (ho:op=1\/op=2\/op=3) {s:ByteArray} (hs:Be false s=true) {lv:Nat} (hlv:lv<=64):Cg (.mk op s [] []) lv=0:=by
 have hf:Gj op s [] []=0:=by
  unfold Gj Ju;rcases ho with rfl | rfl | rfl<;>rw[zz (by decide)]<;>simp[LY,LZ,hs]
 rw[Cg,zz (by simp;omega),hf];simp only[ne_eq,not_true_eq_false,if_false];rw[FL]
theorem eX (hl:GM l) {rec:Nat->Res Ds} {lv:Nat} (hlv:lv<=64) (hf:Fwd l rec) (hr:∀p d p',rec p = .ok (d,p')->IH l (lv+1) d p p') {p p':Nat} {parts parts':List Ds} (h:Di l rec p parts = .ok (parts',p')) :
  ∃more,parts'=parts++more/\more≠[]/\(∀k∈more,Cg k lv=0/\k.op≠4)/\C8 more+8*Bt l p<=8*Bt l p':=by
 have one:∀{d:Ds} {q:Nat},p<q->Cg d lv=0/\d.op≠4/\(wrD d).length+8*Bt l (p+1)<=8*Bt l q->p<l.length->∃more,parts++[d]=parts++more/\more≠[]/\(∀k∈more,Cg k lv=0/\k.op≠4)/\C8 more+8*Bt l p<=8*Bt l q:=by
  intro d q _ ⟨h1,h2,h3⟩ hp;have hb:=GN hl hp;refine⟨[d],rfl,by simp,λk hk=>by rw[Xh.1 hk];exact⟨h1,h2⟩,?_⟩;rw[JI];omega
 have leaf:∀{op:Int},(op=2\/op=3)->∀{q:Nat},p<l.length->DJ parts (Fx op (AE l (p+1) 1)) = .ok (parts',q)->∃more,parts'=parts++more/\more≠[]/\(∀k∈more,Cg k lv=0/\k.op≠4)/\C8 more+8*Bt l p<=8*Bt l q:=by
  intro op ho q hp hm;obtain⟨d,hd,rfl⟩:=Tj hm;unfold Fx at hd;split at hd
  .cases hd
  .rename_i s p1 h1;obtain⟨t,ht,hk,rfl,rfl⟩:=M2 h1;injection hd with hd;injection hd with e1 e2;subst e1;subst e2;have hn:=(hl t (Xf ht)).2.1 hk;refine one (by omega) ⟨eW (by omega) hn hlv,?_,?_⟩ hp
   .show op≠4;omega
   .have e3:=Qn ht ((hl t (Xf ht)).1 (.inl hk))
    have h1t:1<=t.2.length:=by
     have:=(hl t (Xf ht)).1 (.inl hk)
     cases hh:t.2 with
     | nil=>exact absurd hh this
     | cons _ _=>simp
    have:(wrD (.mk op (bs t.2) [] [])).length=t.2.length+1:=by
     rw[wrD];rcases ho with rfl | rfl<;>simp
    omega
 unfold Di at h;split at h
 .cases h
 .rename_i t ht;have hp:=(X0.1 ht).1;split at h
  .rename_i hk;injection h with h;injection h with e1 e2;subst e1;subst e2;have hn:=(hl t (Xf ht)).2.1 hk;refine⟨[_],rfl,by simp,λk hk'=>by rw[Xh.1 hk'];exact⟨eW (.inl rfl) hn hlv,(show(1:Int)≠4 by decide)⟩,?_⟩;rw[JI];have e3:=Qn ht ((hl t (Xf ht)).1 (.inl hk))
   have h1t:1<=t.2.length:=by
    have:=(hl t (Xf ht)).1 (.inl hk)
    cases hh:t.2 with
    | nil=>exact absurd hh this
    | cons _ _=>simp
   have:(wrD (.mk 1 (bs t.2) [] [])).length=t.2.length:=by rw[wrD];simp
   omega
  .split at h
   .cases h
   .split at h
    .exact leaf (.inl rfl) hp h
    .split at h
     .exact leaf (.inr rfl) hp h
     .split at h
      .have h2:=NF hf _ _ _ _ _ h;obtain⟨more,e,m1,m2⟩:=eV hl hlv hf hr _ _ _ _ _ h;have hb:=GN hl hp;refine⟨more,e,λe0=>?_,m1,by omega⟩;rw[e,e0]at h2;simp at h2
      .split at h
       .obtain⟨d,hd,rfl⟩:=Tj h;exact one (by have:=ZV hf hd;omega) (A3p hl hlv hf hr hd) hp
       .split at h
        .obtain⟨d,hd,rfl⟩:=Tj h;exact one (by have:=ZW hf hd;omega) (A3q hl hlv hf hr hd) hp
        .cases h
theorem eY (hl:GM l) {rec:Nat->Res Ds} {lv:Nat} (hlv:lv<=64) (hf:Fwd l rec) (hr:∀p d p',rec p = .ok (d,p')->IH l (lv+1) d p p'):∀(f p:Nat) (parts parts':List Ds) (p':Nat),Fa l rec f p parts = .ok (parts',p') ->
  ∃more,parts'=parts++more/\(∀k∈more,Cg k lv=0/\k.op≠4)/\C8 more+8*Bt l p<=8*Bt l p'
 | 0,p,parts,parts',p',h=>by cases h
 | f+1,p,parts,parts',p',h=>by
  rw[Fa]at h;split at h
  .split at h
   .cases h
   .split at h
    .cases h
    .rename_i parts1 p1 h1;obtain⟨m,e,_,m1,m2⟩:=eX hl hlv hf hr h1;obtain⟨more,e2,m3,m4⟩:=eY hl hlv hf hr f _ _ _ _ h;have hb:=eS (l:=l) (show p<=p+1 by omega);refine⟨m++more,by rw[e2,e,Yj],λk hk=>?_,?_⟩
     .rcases Xi.1 hk with h | h
      .exact m1 k h
      .exact m3 k h
     .rw[Oh];omega
  .injection h with h;injection h with e1 e2;subst e1;subst e2;exact⟨[],by simp,λk hk=>(by cases hk),by simp[C8]⟩
theorem eZ (hl:GM l):∀(n:Nat),n<=64->∀p d p',As l n p = .ok (d,p')->IH l (65-n) d p p'
 | 0,_,p,d,p',h=>by
  rw[As]at h;split at h<;>cases h
 | n+1,hn,p,d,p',h=>by
  have ih:∀p d p',As l n p = .ok (d,p')->IH l ((65-(n+1))+1) d p p':=λp d p' h=>by
   rw[show(65-(n+1))+1=65-n by omega];exact eZ hl n (by omega) p d p' h
  rw[As]at h;split at h
  .cases h
  .split at h
   .cases h
   .rename_i parts p1 h1;have h2:=Im (D2 n) h1;obtain⟨m,e,mne,m1,m2⟩:=eX hl (by omega) (D2 n) ih h1;rw[Ya]at e;subst e;split at h
    .cases h
    .rename_i parts' p2 h3;have h4:=Sf (D2 n) _ _ _ _ _ h3 (h2.2.2.2 (by simp));obtain⟨more,e2,m3,m4⟩:=eY hl (by omega) (D2 n) ih _ _ _ _ _ h3;injection h with h;injection h with e3 e4;subst e3;subst e4
     have hall:∀k∈parts',Cg k (65-(n+1))=0/\k.op≠4:=by
      intro k hk;rw[e2]at hk;rcases Xi.1 hk with h | h
      .exact m1 k h
      .exact m3 k h
     have hsum:C8 parts'+8*Bt l p<=8*Bt l p2:=by rw[e2,Oh];omega
     have hne:parts'≠[]:=by
      rw[e2];intro e;exact mne (List.append_eq_nil_iff.1 e).1
     cases parts' with
     | nil=>exact absurd rfl hne
     | cons a r=>
      cases r with
      | nil=>
       rw[JI]at hsum;exact⟨(hall a (by simp)).1,hsum⟩
      | cons b r=>
       have hw:=Oi [32,38,32] [32,38,32] (by decide) (by decide) (a::b::r) (by simp);refine⟨?_,?_⟩
       .show Cg (.mk 4 ⟨#[]⟩ [] (a::b::r)) _=0
        have hf:Gj 4 ⟨#[]⟩ [] (a::b::r)=0:=by
         unfold Gj Ju;rw[zz (by decide)]
         have hany:((a::b::r).any λk=>decide (k.op=4))=false:=by
          rw[List.any_eq_false];intro k hk hd;exact(hall k hk).2 (of_decide_eq_true hd)
         have hkb:LZ 4 (a::b::r)=true:=by
          show(decide (2<=(a::b::r).length) && !((a::b::r).any λk=>decide (k.op=4)))=true;rw[hany];simp
         rw[hkb];rfl
        have h256:=h4.2.2.2;rw[Cg,zz (by simp at h256 ⊢;omega),hf];simp only[ne_eq,not_true_eq_false,if_false,if_true];exact Tc λk hk=>(hall k hk).1
       .have:(wrD (Kn (a::b::r))).length=(wrL [32,38,32] [32,38,32] (a::b::r)).length:=by
         show(wrD (.mk 4 ⟨#[]⟩ [] (a::b::r))).length=_;rw[wrD];simp
        omega
end
theorem fB {big:Bool} {c:UInt8} {r:List UInt8} (hb:(big=false/\BS c=true)\/(big=true/\Bw c=true)) (h:Bc big (c::r)<=32) :
  (c::r).take (Bc big (c::r))≠[]/\Be big (bs ((c::r).take (Bc big (c::r))))=true:=by
 have hp:CJ big c=true:=by
  unfold CJ;rcases hb with⟨rfl,h0⟩ | ⟨rfl,h0⟩<;>simp[h0]
 have hd:AQ c=false/\¬c.toNat=45:=by
  rcases hb with⟨_,h⟩ | ⟨_,h⟩
  .simp only[BS,X7,decide_eq_true_eq]at h;simp only[AQ,Yt,decide_eq_false_iff_not];omega
  .simp only[Bw,X7,decide_eq_true_eq]at h;simp only[AQ,Yt,decide_eq_false_iff_not];omega
 have e:(c::r).take (Bc big (c::r))=c::(r.takeWhile (CJ big)):=by
  unfold Bc;rw[cM,List.takeWhile_cons,zy hp]
 rw[e];refine⟨by simp,?_⟩
 have hl:(c::r.takeWhile (CJ big)).length<=32:=by
  rw[<-e,Yu];omega
 have hs:(bs (c::r.takeWhile (CJ big))).size=(c::r.takeWhile (CJ big)).length:=rfl;unfold Be
 have hall:(c::r.takeWhile (CJ big)).all (CJ big)=true:=by
  rw[Yv,hp,Bool.true_and,Xn];exact λx hx=>cL hx
 show(decide ((bs (c::r.takeWhile (CJ big))).size<=32) && !AQ c && !decide (c.toNat=45)&&(c::r.takeWhile (CJ big)).all (CJ big))=true;rw[hs,hall,hd.1,zw hl,zx hd.2];rfl
theorem A3r {t:Tok} (h:SS t):KOK (kt t):=by
 obtain⟨c,r,he,hk,ht⟩:=h;have e1:(kt t).1=t.k:=rfl;have e2:(kt t).2=t.t:=rfl;unfold KOK;rw[e1,e2];rw[Bg]at he hk ht;split at ht
 .rename_i hl;rw[zy hl]at he hk
  have hr:Bc false (c::r)<=32:=by
   have he:(if 32<Bc false (c::r)then(7:Int)else 0)=0:=he;split at he
   .cases he
   .omega
  obtain⟨h1,h2⟩:=fB (.inl ⟨rfl,hl⟩) hr;have hk:t.k=1:=hk;rw[hk,ht];exact⟨λ_=>h1,λ_=>h2,λh=>absurd h (by decide)⟩
 .rename_i hl;rw[zz hl]at he hk;split at ht
  .rename_i hu;rw[zy hu]at he hk
   have hr:Bc true (c::r)<=32:=by
    have he:(if 32<Bc true (c::r)then(7:Int)else 0)=0:=he;split at he
    .cases he
    .omega
   obtain⟨h1,h2⟩:=fB (.inr ⟨rfl,hu⟩) hr;have hk:t.k=2:=hk;rw[hk,ht];exact⟨λ_=>h1,λh=>absurd h (by decide),λ_=>h2⟩
  .rename_i hu;rw[zz hu]at hk
   have:t.k=4\/t.k=3\/t.k=5:=by
    split at hk
    .exact .inl hk
    .split at hk
     .exact .inr (.inl hk)
     .exact .inr (.inr hk)
   exact⟨λh=>by omega,λh=>by omega,λh=>by omega⟩
theorem A3s {D:List UInt8} {l:Nat} {ts:List Tok} (h:EY D l = .ok ts):GM (ts.map kt):=λt ht=>by
 obtain⟨x,hx,rfl⟩:=Xl.1 ht;exact A3r ((PZ _ _ _ _ h).1 x hx)
theorem fC {big:Bool} {s:ByteArray} (h:Be big s=true):s.size<=32:=by
 obtain⟨_,_,_,h,_⟩:=A1d h;exact h
mutual
theorem Tt:∀(d:Ds) (lv:Nat),Cg d lv=0->Small d
 | .mk op name path kids,lv,h=>by
  obtain⟨_,h2,h3,_,_,hf,hk⟩:=A1e h;obtain⟨f1,f2,f3,f4⟩:=A1g hf;refine .mk op name path kids ?_ (by omega) (λs hs=>?_) (by omega) (fI kids _ hk)
  .split at f1
   .have:=fC f1;omega
   .omega
  .have:=fC (Xn.1 f3 s hs);omega
theorem fI:∀(l:List Ds) (lv:Nat),FL l lv=0->∀k∈l,Small k
 | [],_,_,k,hk=>by cases hk
 | d::r,lv,h,k,hk=>by
  obtain⟨h1,h2⟩:=A1f h;rcases Xo.1 hk with e | hk
  .rw[e];exact Tt d lv h1
  .exact fI r lv h2 k hk
end
structure TkG (l:List KT) (B:Nat):Prop where
 k:GM l
 q:∀t∈l,t.1=3->t.2.all Ms=true
 s:∀t∈l,t.2.length<=B
 n:l.length<=B
 b:∀p,Bt l p<=2*B
section
variable {α : Type} {l : List KT} {B p p' : Nat} {P : α -> Prop}
theorem M3 {step:Nat->Res α} (hs:∀p x p',step p = .ok (x,p')->P x) (sep:List UInt8) (mx:Nat):∀(f p:Nat) (out out':List α) (p':Nat),Cb l step sep mx f p out = .ok (out',p')->(∀x∈out,P x)->∀x∈out',P x
 | 0,p,out,out',p',h,_=>by cases h
 | f+1,p,out,out',p',h,ho=>by
  rw[Cb]at h;split at h
  .cases h
  .rename_i s p1 h1
   have hn:∀x∈out++[s],P x:=λx hx=>by
    rcases Xi.1 hx with hx | hx
    .exact ho x hx
    .rw[Xh]at hx;subst hx;exact hs _ _ _ h1
   split at h
   .split at h
    .cases h
    .exact M3 hs sep mx f _ _ _ _ h hn
   .injection h with h;injection h with h _;subst h;exact hn
theorem fJ {step:Nat->Res α} (hs:Du l step) (sep:List UInt8) (mx:Nat):∀(f p:Nat) (out out':List α) (p':Nat),Cb l step sep mx f p out = .ok (out',p')->out'.length+p<=out.length+p'
 | 0,p,out,out',p',h=>by cases h
 | f+1,p,out,out',p',h=>by
  rw[Cb]at h;split at h
  .cases h
  .rename_i s p1 h1;have h0:=hs _ _ _ h1;split at h
   .split at h
    .cases h
    .have:=fJ hs sep mx f _ _ _ _ h;rw[Xc,Xs]at this;omega
   .injection h with h;injection h with h h2;subst h;subst h2;rw[Xc,Xs];omega
theorem La {one:α->Int}:∀{L:List α},(∀x∈L,one x=0)->DM one L=0
 | [],_=>rfl
 | x::r,h=>by
  rw[DM,zz (λhn=>hn (h x List.mem_cons_self))];exact La λy hy=>h y (List.mem_cons_of_mem _ hy)
theorem Lb {one:α->Int}:∀{L:List α},DM one L=0->∀x∈L,one x=0
 | [],_,x,hx=>by cases hx
 | y::r,h,x,hx=>by
  rw[DM]at h;split at h
  .rename_i hn;exact absurd h hn
  .rename_i hn;rcases Xo.1 hx with rfl | hx
   .exact Decidable.of_not_not hn
   .exact Lb h x hx
end
def dfZ (B:Nat) (d:Dfn):Prop:=(wrD d.strict).length<=16*B/\∀k∈d.defaults,(wrD k).length<=16*B
section
variable {l : List KT} {B p p' : Nat} (G : TkG l B)
include G
theorem Qo {s:ByteArray} (h:AE l p 1 = .ok (s,p')):Be false s=true:=by
 obtain⟨t,ht,hk,rfl,_⟩:=M2 h;exact(G.k t (Xf ht)).2.1 hk
theorem Tu {s:ByteArray} (h:AE l p 2 = .ok (s,p')):Be true s=true:=by
 obtain⟨t,ht,hk,rfl,_⟩:=M2 h;exact(G.k t (Xf ht)).2.2 hk
theorem Tv {s:ByteArray} (h:AE l p 3 = .ok (s,p')):KQ s=true/\s.size<=B:=by
 obtain⟨t,ht,hk,rfl,_⟩:=M2 h;have hm:=Xf ht;exact⟨G.q t hm hk,by show t.2.toArray.size<=B;rw[Yk];exact G.s t hm⟩
theorem A3t {r:List ByteArray} (h:Fb l p = .ok (r,p')):DM Hv r=0/\r.length<=256:=by
 refine⟨La (M3 (P:=λs=>Hv s=0) (λp x p' hx=>?_) _ _ _ _ _ _ _ h λx hx=>by cases hx),(GL (Mt 1) _ _ _ _ _ _ _ h).2.2.2 (by decide)⟩;unfold Hv;rw[zy (Qo G hx)]
theorem A3u {x:ByteArray×ByteArray} (h:ftS l p = .ok (x,p')):JC x=0:=by
 unfold ftS at h;split at h
 .cases h
 .rename_i s p1 h1;split at h
  .cases h
  .rename_i v p2 h2;injection h with h;injection h with h _;subst h;unfold JC;rw[Tu G h1,Qo G h2];rfl
theorem A3v {r:List (ByteArray×ByteArray)} (h:EI l p = .ok (r,p')):DM JC r=0/\r.length<=256:=
 ⟨La (M3 (P:=λs=>JC s=0) (λp x p' hx=>A3u G hx) _ _ _ _ _ _ _ h λx hx=>by cases hx),(GL Tl _ _ _ _ _ _ _ h).2.2.2 (by decide)⟩
theorem A3w {r:List ByteArray} (h:En l p = .ok (r,p')):NZ r=0:=by
 have h1:=La (M3 (P:=λs=>JB s=0) (λp x p' hx=>by
  unfold JB
  rw[zy (Tu G hx)]) _ _ _ _ _ _ _ h λx hx=>by cases hx)
 have h2:=(GL (Mt 2) _ _ _ _ _ _ _ h).2.2;unfold NZ;rw[zz (by rintro rfl;simp at h2),zz (by have:=h2.2 (by decide);omega),h1]
theorem fK {d:Ds} (h:As l 64 p = .ok (d,p')):KX d=0/\(wrD d).length<=16*B:=by
 have h1:=eZ G.k 64 (by omega) _ _ _ h;refine⟨h1.ok,?_⟩;have h2:=h1.len;have h3:=G.b p';omega
theorem A3x {r:List Ds} (h:Kw l p = .ok (r,p')):DM KX r=0/\r.length<=256/\∀k∈r,(wrD k).length<=16*B:=by
 have h1:=M3 (P:=λs=>KX s=0/\(wrD s).length<=16*B) (λp x p' hx=>fK G hx) _ _ _ _ _ _ _ h λx hx=>by cases hx
 exact⟨La λx hx=>(h1 x hx).1,(GL (D2 64) _ _ _ _ _ _ _ h).2.2.2 (by decide),λx hx=>(h1 x hx).2⟩
theorem A3y {x:ByteArray×ByteArray} (h:Eo l p = .ok (x,p')):IE x=0/\x.1.size<=B/\x.2.size<=B:=by
 unfold Eo at h;split at h
 .cases h
 .rename_i s p1 h1;split at h
  .cases h
  .rename_i v p2 h2;injection h with h;injection h with h _;subst h;have a:=Tv G h1;have b:=Tv G h2;refine⟨?_,a.2,b.2⟩;unfold IE;rw[a.1,b.1];rfl
theorem A3z {r:List (ByteArray×ByteArray)} (h:Jt l p = .ok (r,p')):DM IE r=0/\r≠[]/\r.length<=B/\∀x∈r,x.1.size<=B/\x.2.size<=B:=by
 have h1:=M3 (P:=λs=>IE s=0/\s.1.size<=B/\s.2.size<=B) (λp x p' hx=>A3y G hx) _ _ _ _ _ _ _ h λx hx=>by cases hx
 have h2:=GL Ob _ _ _ _ _ _ _ h;have h3:=fJ Ob _ _ _ _ _ _ _ h;have:=G.n;refine⟨La λx hx=>(h1 x hx).1,by rintro rfl;simp at h2,?_,λx hx=>(h1 x hx).2⟩;simp only[X3]at h3;omega
theorem A4a {name:ByteArray} (hn:Be false name=true) {x:TyD} (h:FJ l name p = .ok (x,p')):Oa x=0:=by
 unfold FJ at h;split at h
 .cases h
 .rename_i su p1 h1;split at h
  .cases h
  .rename_i fe p2 h2;injection h with h;injection h with h _;subst h
   have g1:DM Hv su=0/\su.length<=256:=by
    unfold Cf at h1;split at h1
    .exact A3t G h1
    .injection h1 with h1;injection h1 with h1 _;subst h1;exact⟨rfl,Xe _⟩
   have g2:DM JC fe=0/\fe.length<=256:=by
    unfold Cf at h2;split at h2
    .exact A3v G h2
    .injection h2 with h2;injection h2 with h2 _;subst h2;exact⟨rfl,Xe _⟩
   unfold Oa;rw[zz (by rw[hn];decide),zz (by simp only;omega),zz (λhh=>hh g1.1),g2.1]
theorem II {name:ByteArray} (hn:Be false name=true) {x:Dfn} (h:C4 l name p = .ok (x,p')):ID x=0/\dfZ B x:=by
 unfold C4 at h;split at h
 .cases h
 .rename_i p1 h1;split at h
  .cases h
  .rename_i d p2 h2;split at h
   .cases h
   .rename_i df p3 h3;injection h with h;injection h with h _;subst h;have g1:=fK G h2
    have g2:DM KX df=0/\df.length<=256/\∀k∈df,(wrD k).length<=16*B:=by
     unfold Cf at h3;split at h3
     .exact A3x G h3
     .injection h3 with h3;injection h3 with h3 _;subst h3;exact⟨rfl,Xe _,λk hk=>by cases hk⟩
    refine⟨?_,g1.2,g2.2.2⟩;unfold ID;rw[zz (by rw[hn];decide),zz (by simp only;omega),zz (λhh=>hh g1.1),g2.1]
theorem A4b {a:Afx} (h:Dz l p = .ok (a,p')):(a.kind=0/\a.pairs=[])\/((a.kind=1\/a.kind=2)/\DM IE a.pairs=0/\a.pairs≠[]/\a.pairs.length<=B/\∀x∈a.pairs,x.1.size<=B/\x.2.size<=B):=by
 have afk:∀(k:Int) (p:Nat),Fc l k p = .ok (a,p')->a.kind=k/\DM IE a.pairs=0/\a.pairs≠[]/\a.pairs.length<=B/\∀x∈a.pairs,x.1.size<=B/\x.2.size<=B:=λk p h=>by
  unfold Fc at h;split at h
  .cases h
  .rename_i c p1 h1;injection h with h;injection h with h _;subst h;exact⟨rfl,A3z G h1⟩
 unfold Dz at h;split at h
 .cases h
 .split at h
  .injection h with h;injection h with h _;subst h;exact .inl ⟨rfl,rfl⟩
  .split at h
   .obtain⟨h1,h2⟩:=afk _ _ h;exact .inr ⟨.inl h1,h2⟩
   .split at h
    .obtain⟨h1,h2⟩:=afk _ _ h;exact .inr ⟨.inr h1,h2⟩
    .cases h
end
theorem A4c {s:ByteArray} {w:List ByteArray} (h:Da s = .ok w):w≠[]/\DM Oe w=0/\∃ws,Ek s.data.toList=some ws/\w=ws.map bs:=by
 unfold Da at h;split at h
 .cases h
 .rename_i ws hws;split at h
  .cases h
  .rename_i hne;split at h
   .rename_i hall;injection h with h;subst h;refine⟨by simpa using hne,La λx hx=>?_,ws,hws,rfl⟩;obtain⟨y,hy,rfl⟩:=Xl.1 hx;unfold Oe;rw[zy (Xn.1 hall y hy)]
   .cases h
def elE:El->Int
 | .imp s=>Hv s
 | .typ x=>Oa x
 | .tmp d=>ID d
 | .ent w d=>Of (w,d)
 | .lex a d=>KY (a,d)
 | .rul d=>ID d
 | .roo d=>ID d
 | .chk p=>NZ p
 | .drp s=>JB s
def elZ (B:Nat):El->Prop
 | .imp _=>True
 | .typ _=>True
 | .tmp d=>dfZ B d
 | .ent w d=>w.length<=B+1/\dfZ B d
 | .lex a d=>(a.pairs.length<=B/\∀x∈a.pairs,x.1.size<=B/\x.2.size<=B)/\dfZ B d
 | .rul d=>dfZ B d
 | .roo d=>dfZ B d
 | .chk _=>True
 | .drp _=>True
structure M4 (B:Nat) (x:El):Prop where
 e:elE x=0
 z:elZ B x
section
variable {l : List KT} {B p p' : Nat} (G : TkG l B)
include G
theorem A4d {name:ByteArray} (hn:Be false name=true) {x:El} (h:E4 l name p = .ok (x,p')):M4 B x/\x.j=3:=by
 unfold E4 at h;split at h
 .cases h
 .rename_i s p1 h1;split at h
  .cases h
  .rename_i w h2;split at h
   .cases h
   .rename_i d p2 h3;injection h with h;injection h with h _;subst h;obtain⟨w1,w2,ws,w3,w4⟩:=A4c h2;have hs:=(Tv G h1).2;refine⟨⟨?_,?_⟩,rfl⟩
    .show Of (w,d)=0;unfold Of;rw[zz w1,zz (λhh=>hh w2)];exact(II G hn h3).1
    .refine⟨?_,(II G hn h3).2⟩;show w.length<=B+1;rw[w4,Xd];unfold Ek at w3;split at w3
     .split at w3
      .injection w3 with w3;subst w3;exact Xe _
      .split at w3
       .cases w3
       .injection w3 with w3;subst w3;have:=PY s.data.toList [];have hl:s.data.toList.length=s.size:=rfl;omega
     .cases w3
theorem A4e {name:ByteArray} (hn:Be false name=true) {x:El} (h:Fz l name p = .ok (x,p')):M4 B x/\x.j=4:=by
 unfold Fz at h;split at h
 .cases h
 .rename_i a p1 h1;split at h
  .cases h
  .rename_i d p2 h2;injection h with h;injection h with h _;subst h;obtain⟨hd,hz⟩:=II G hn h2;refine⟨?_,rfl⟩;rcases A4b G h1 with⟨k0,hp⟩ | ⟨k12,h3,h4,h5,h6⟩
   .refine⟨?_,?_⟩
    .show KY (a,d)=0;unfold KY;simp only;rw[zz (λhh=>hh.2 hp),zz (by rw[k0];omega),zz (by rw[k0];omega),hp];exact hd
    .show(a.pairs.length<=B/\_)/\_;rw[hp];exact⟨⟨Xe _,λx hx=>by cases hx⟩,hz⟩
   .refine⟨?_,⟨h5,h6⟩,hz⟩;show KY (a,d)=0;unfold KY;simp only;rw[zz (by omega),zz (λhh=>h4 hh.2),zz (by omega),zz (λhh=>hh h3)];exact hd
theorem A4f {k:Nat} (hk:2<=k) (hk2:k<=8) {name:ByteArray} (hn:Be false name=true) {x:El} (h:EJ l k name p = .ok (x,p')):M4 B x/\x.j=k-2:=by
 unfold EJ at h;split at h
 .rename_i e;subst e;injection h with h;injection h with h _;subst h;refine⟨⟨?_,trivial⟩,rfl⟩;show Hv name=0;unfold Hv;rw[zy hn]
 .split at h
  .rename_i e;subst e;split at h
   .cases h
   .rename_i y p1 h1;injection h with h;injection h with h _;subst h;exact⟨⟨A4a G hn h1,trivial⟩,rfl⟩
  .split at h
   .rename_i e;subst e;exact A4d G hn h
   .split at h
    .rename_i e;subst e;exact A4e G hn h
    .split at h
     .rename_i e;subst e;obtain⟨y,h',rfl⟩:=Mv h;exact⟨⟨(II G hn h').1,(II G hn h').2⟩,rfl⟩
     .split at h
      .rename_i e;subst e;obtain⟨y,h',rfl⟩:=Mv h;exact⟨⟨(II G hn h').1,(II G hn h').2⟩,rfl⟩
      .obtain⟨y,h',rfl⟩:=Mv h;refine⟨⟨(II G hn h').1,(II G hn h').2⟩,?_⟩;show 6=k-2;omega
theorem A4g {k:Nat} (hk:2<=k) (hk2:k<=10) {x:El} (h:elS l k p = .ok (x,p')):M4 B x/\x.j=k-2:=by
 unfold elS at h;split at h
 .rename_i e;subst e;split at h
  .cases h
  .rename_i y p1 h1;injection h with h;injection h with h _;subst h;exact⟨⟨A3w G h1,trivial⟩,rfl⟩
 .split at h
  .rename_i e;subst e;split at h
   .cases h
   .rename_i y p1 h1;injection h with h;injection h with h _;subst h;refine⟨⟨?_,trivial⟩,rfl⟩;show JB y=0;unfold JB;rw[zy (Tu G h1)]
  .split at h
   .cases h
   .rename_i name p1 h1;exact A4f G hk (by omega) (Qo G h1) h
theorem A4h {k:Nat} (hk:k≠0) (hk2:k<=10) {x:EL} (h:C6 l k p = .ok (x,p')):(k=1/\∃n,x = .md n/\Be false n=true)\/(2<=k/\∃y,x = .el y/\M4 B y/\y.j=k-2):=by
 unfold C6 at h;split at h
 .rename_i e;split at h
  .cases h
  .rename_i name p1 h1;injection h with h;injection h with h _;subst h;exact .inl ⟨e,name,rfl,Qo G h1⟩
 .split at h
  .cases h
  .rename_i y p1 h1;injection h with h;injection h with h _;subst h;obtain⟨h2,h3⟩:=A4g G (by omega) hk2 h1;exact .inr ⟨by omega,y,rfl,h2,h3⟩
end
theorem kindW_le (s:List UInt8):Db s<=10:=by
 unfold Db
 repeat' split
 all_goals omega
theorem kindT_le (t:KT):D0 t<=10:=by
 unfold D0;split
 .exact kindW_le _
 .exact Xe _
structure FT (B:Nat) (m:Md):Prop where
 n:Be false m.name=true
 e:∀x∈m.els,M4 B x
 c:∀j,Cp j m.els<=256
structure JJ (B p:Nat) (s:Sta):Prop where
 m:∀m∈s.all,FT B m/\m.els.length<=p
 n:s.all.length<=256
theorem A4i (j:Nat) (x:El):Cp j [x]=if x.j=j then 1 else 0:=by
 unfold Cp;rw[Yw];by_cases h:x.j=j
 .rw[zy h,zy (zw h)];rfl
 .rw[zz h,zz (by rw[zx h];decide)];rfl
theorem JJ.mono {B p p':Nat} {s:Sta} (h:JJ B p s) (hp:p<=p'):JJ B p' s:=⟨λm hm=>⟨(h.m m hm).1,Xk (h.m m hm).2 hp⟩,h.n⟩
theorem JJ.add {l:List KT} {B p p':Nat} {s:Sta} (G:TkG l B) (h:JJ B p s) {t:KT} {a:EL} (hc:K0 l s t p = .ok (a,p')):JJ B p' (s.add a)/\p<p'/\p'<=l.length:=by
 rw[Mw]at hc;split at hc
 .cases hc
 .rename_i hm;have hm:=Decidable.of_not_not hm;have hf:=dX t p a p' hc;refine⟨?_,hf⟩;unfold clA at hc;split at hc
  .cases hc
  .rename_i x p1 h1;split at hc
   .cases hc
   .rename_i p2 h2;injection hc with hc;injection hc with hc _;subst hc
    have hk0:D0 t≠0:=by
     intro e;rw[CP,zy e]at hm;cases hm
    rcases A4h G hk0 (kindT_le t) h1 with⟨k1,n,rfl,hn⟩ | ⟨k2,y,rfl,hy,hj⟩
    .rw[CP,zz hk0,zy k1]at hm
     have hlen:s.all.length<256:=by
      split at hm
      .cases hm
      .omega
     refine⟨λm hmm=>?_,?_⟩
     .have hmm:m∈s.all++[(⟨n,[]⟩:Md)]:=hmm;rcases Xi.1 hmm with hmm | hmm
      .exact(h.mono (by omega)).m m hmm
      .rw[Xh]at hmm;subst hmm;exact⟨⟨hn,(λx hx=>by cases hx),λj=>Xe _⟩,Xe _⟩
     .show(s.all++[(⟨n,[]⟩:Md)]).length<=256;rw[Xc];show s.all.length+1<=256;omega
    .rw[CP,zz hk0,zz (by omega)]at hm;obtain⟨F,cur⟩:=s
     cases cur with
     | none=>cases hm
     | some m0=>
      simp only at hm
      have hcnt:Cp (D0 t-2) m0.els<256:=by
       split at hm
       .cases hm
       .omega
      have hm0:=h.m m0 (List.mem_append_right _ (Xh.2 rfl));refine⟨λm hmm=>?_,?_⟩
      .have hmm:m∈F++[⟨m0.name,m0.els++[y]⟩]:=hmm;rcases Xi.1 hmm with hmm | hmm
       .exact(h.mono (by omega)).m m (List.mem_append_left _ hmm)
       .rw[Xh]at hmm;subst hmm;refine⟨⟨hm0.1.n,λx hx=>?_,λj=>?_⟩,?_⟩
        .rcases Xi.1 hx with hx | hx
         .exact hm0.1.e x hx
         .rw[Xh]at hx;subst hx;exact hy
        .show Cp j (m0.els++[y])<=256;rw[uV,A4i];split
         .rename_i e;rw[<-e,hj];omega
         .exact hm0.1.c j
        .show(m0.els++[y]).length<=p';rw[Xc,Xs];have:=hm0.2;omega
      .have hl:=h.n;show(F++[_]).length<=256;have hl:(F++[m0]).length<=256:=hl;rw[Xc,Xs]at hl ⊢;exact hl
theorem fL {l:List KT} {B:Nat} (G:TkG l B):∀(f p:Nat) (s s':Sta),Gi l f p s = .ok s'->JJ B p s->p<=l.length->JJ B l.length s'
 | 0,p,s,s',h,_,_=>by cases h
 | f+1,p,s,s',h,hs,hp=>by
  rw[Gi]at h;split at h
  .injection h with h;subst h;exact hs.mono hp
  .split at h
   .cases h
   .rename_i a p1 h1;obtain⟨g1,g2,g3⟩:=hs.add G h1;exact fL G f p1 _ _ h g1 g3
theorem A4j {t:Tok} (h:SS t) (h3:t.k=3):t.t.all Ms=true:=by
 obtain⟨c,r,he,hk,ht⟩:=h;rw[Bg]at he hk ht
 have pk:∀D:List UInt8,(D.take (AU D).1).all Ms=true:=by
  intro D
  induction D with
  | nil=>rfl
  | cons d D ih=>
   rw[AU];split
   .rfl
   .split
    .rename_i h34 hp;show(d::D.take (AU D).1).all Ms=true;rw[Yv,ih,Bool.and_true];unfold prt at hp;simp only[X7,decide_eq_true_eq]at hp;unfold Ms;rw[decide_eq_true_eq];exact⟨hp.1,hp.2,h34⟩
    .rfl
 split at ht
 .rename_i hl;rw[zy hl]at hk;have hk:t.k=1:=hk;omega
 .rename_i hl;rw[zz hl]at hk;split at ht
  .rename_i hu;rw[zy hu]at hk;have hk:t.k=2:=hk;omega
  .rename_i hu;rw[zz hu]at hk;split at ht
   .rename_i hd;rw[zy hd]at hk;have hk:t.k=4:=hk;omega
   .rename_i hd;rw[zz hd]at hk;split at ht
    .rw[ht];exact pk _
    .rename_i h34;rw[zz h34]at hk;have hk:t.k=5:=hk;omega
theorem A4k {D:List UInt8} {ts:List Tok} {B:Nat} (h:EY D 1 = .ok ts) (hD:D.length<=B):TkG (ts.map kt) B:=by
 obtain⟨h1,h2⟩:=PZ _ _ _ _ h;have h4:=SR h;rw[Yl]at h2;refine⟨A3s h,λt ht h3=>?_,λt ht=>?_,by rw[Xd];omega,λn=>?_⟩
 .obtain⟨x,hx,rfl⟩:=Xl.1 ht;exact A4j (h1 x hx) h3
 .obtain⟨x,hx,rfl⟩:=Xl.1 ht
  have h5:x.t.length<=(wrT x).length:=by
   unfold wrT wr;split
   .simp;omega
   .exact Xg _
  have h6:(wrT x).length<=(ts.flatMap wrT).length:=by
   obtain⟨a,b,rfl⟩:=List.append_of_mem hx;rw[X2,Xr,Xc,Xc];omega
  show x.t.length<=B;omega
 .have key:∀l:List Tok,((l.map kt).map tkl).sum<=(l.flatMap wrT).length+l.length:=by
   intro l
   induction l with
   | nil=>simp
   | cons t l ih=>
    have:tkl (kt t)<=(wrT t).length+1:=by
     unfold tkl wrT wr kt;simp only;split
     .omega
     .split<;>simp<;>omega
    rw[Xv,Xv,List.sum_cons,Xr,Xc,Xm];omega
  have h7:Bt (ts.map kt) n<=((ts.map kt).map tkl).sum:=by
   unfold Bt
   conv=>rhs;rw[<-List.take_append_drop n (ts.map kt),Xu,Yi]
   omega
  have:=key ts;omega
theorem A4l {s:List UInt8} {L:List Md} {B:Nat} (h:Er s = .ok L) (hB:s.length<=B):(∀m∈L,FT B m/\m.els.length<=B)/\L.length<=256:=by
 unfold Er at h;split at h
 .cases h
 .split at h
  .cases h
  .rename_i ts hts;split at h
   .cases h
   .rename_i st hst;injection h with h;subst h;have G:=A4k hts hB;have:=fL G _ _ _ _ hst ⟨(λm hm=>by cases hm),Xe _⟩ (Xe _);exact⟨λm hm=>⟨(this.m m hm).1,Xk (this.m m hm).2 G.n⟩,this.n⟩
open Go Go.Shelf Go.RowKit
variable {P : Program} {ρ : Ren}
theorem A4m (w:World) (o:Obj):BT w (w.drew.alloc o):=λk hk arr ty fz he=>by
 have e:(w.drew.alloc o).heap[k]?=w.heap[k]?:=by
  show(w.heap.push o)[k]?=_;rw[Ym,zz (Nat.ne_of_lt hk)]
 rw[e]at he;exact⟨arr,fz,he,rfl⟩
def Buf (e:TypeId) (w:World) (v:Value) (n:Nat) (xs:List Value):Prop:=
 xs.length=n/\((v = .slice none 0 0/\n=0)\/∃g cap cur,v = .slice (some ⟨g,0,none⟩) n cap/\w.heap[g]?=some (.cells cur e (0,0))/\n<=cap/\cap<=cur.size/\cur.toList.take n=xs)
theorem Buf.keep {e:TypeId} {w w':World} {v:Value} {n:Nat} {xs:List Value} (h:Buf e w v n xs) (hk:∀k,v.ownBlock=some k->w'.heap[k]?=w.heap[k]?):Buf e w' v n xs:=by
 obtain⟨h1,h2⟩:=h;refine⟨h1,h2.imp id λh=>?_⟩;obtain⟨g,cap,cur,rfl,h3,h4⟩:=h;exact⟨g,cap,cur,rfl,(hk g rfl).trans h3,h4⟩
structure Om (w w':World) (b:Option Nat) (row row':Option Nat):Prop where
 os:w'.os=w.os
 tape:w'.tape=w.tape
 output:w'.output=w.output
 size:w.heap.size<=w'.heap.size
 block:∀k,k<w.heap.size->some k≠b->some k≠row->w'.heap[k]?=w.heap[k]?
 shape:BT w w'
 fresh:row'=row\/row'=some w.heap.size
theorem fM (w:World) (o:Obj) (row:Option Nat):Om w (w.drew.alloc o) none row (some w.heap.size):=
 ⟨rfl,rfl,rfl,by show _<=(w.heap.push o).size;simp,λk hk _ _=>by show(w.heap.push o)[k]?=_;rw[Ym,zz (Nat.ne_of_lt hk)],A4m w o,.inr rfl⟩
theorem A4n (w:World) (t u ty e:TypeId) (i:TypeInfo) (ht:P.underlying t=some (.slice e)) (hu:P.underlying u=some .string) (hi:P.info? e=some i) (hz:i.zero=some (.int .u8 0))
  (hsize:i.size=1) (hby:i.bytes=1) (v:Value) (n:Nat) (xs:List Value) (hown:Buf e w v n xs) (s:ByteArray) (hbytes:n+s.size<=140737488355328) :
  ∃v' w',(Builtin.append_ #[t,u] ty #[v,.string s]).run P w = .ok v' w'/\Buf e w' v' (n+s.size) (xs++Lib.strCells s)/\Om w w' none v.ownBlock v'.ownBlock:=by
 obtain⟨hxl,hown⟩:=hown
 have hlen:(xs++Lib.strCells s).length=n+s.size:=by rw[Xc,hxl,Lib.strCells_length]
 have hz1:(Value.int IntKind.u8 0).cells.size=1:=rfl
 have new:∀old:Nat,Buf e (w.drew.alloc (.cells (xs.toArray++(Lib.strCells s).toArray++Builtin.zeroCells (Value.int .u8 0).cells (grownCap w (n+s.size) old e-(n+s.size))) e)) (.slice (some ⟨w.heap.size,0,none⟩) (n+s.size) (grownCap w (n+s.size) old e)) (n+s.size) (xs++Lib.strCells s):=λold=>by
  have hge:=grownCap_ge w (n+s.size) old e;refine⟨hlen,.inr ⟨w.heap.size,_,(xs.toArray++(Lib.strCells s).toArray++Builtin.zeroCells (Value.int .u8 0).cells (grownCap w (n+s.size) old e-(n+s.size))),rfl,?_,hge,?_,?_⟩⟩
  .show(w.heap.push _)[w.heap.size]?=_;rw[Ym,zy rfl]
  .simp only[Array.size_append,Yk,size_zeroCells,hz1,hxl,Lib.strCells_length];omega
  .simp only[Array.toList_append,Yj];rw[<-Yj,<-hlen];exact Yx
 rcases hown with⟨rfl,rfl⟩ | ⟨g,cap,cur,rfl,hg,hnc,hcs,htake⟩
 .have hx:xs=[]:=X4 hxl;subst hx;by_cases hm:s.size=0
  .have hf:=Lib.run_firstCells_string (P:=P) w 1 s;rw[hm]at hf;have hn:Lib.strCells s=[]:=X4 (by rw[Lib.strCells_length];exact hm);refine⟨.slice none 0 0,w,?_,by rw[hm,hn];exact⟨rfl,.inl ⟨rfl,rfl⟩⟩,⟨rfl,rfl,rfl,Xg _,λ_ _ _ _=>rfl,BT.refl w,.inl rfl⟩⟩;simp[Builtin.append_,run_underlying ht,run_underlying hu,sizeOf,typeInfo,hi,hsize,Builtin.lenOf,hm,hf]
  .have h:=run_append_nil_string (P:=P) w t u ty e i (.int .u8 0) ht hu hi hz s (by omega) (by omega) (by rw[hby];omega);have hgr:=new 0;simp only[X1,Ya,Array.empty_append]at hgr ⊢
   have e1:(s.data.map λb=>Value.int .u8 b.toNat)=(Lib.strCells s).toArray:=by
    apply Xw;simp[Lib.strCells]
   rw[e1]at h;exact⟨_,_,h,hgr,fM w _ _⟩
 .by_cases hroom:n+s.size<=cap
  .have h:=Lib.run_append_room_string (P:=P) w t u ty e i ht hu hi hsize g n cap cur hg s hroom (by omega);have hnew:=setRow_heap w g cur (cur.toList.take n++Lib.strCells s++cur.toList.drop (n+s.size)).toArray e _ hg
   have hsz:(cur.toList.take n++Lib.strCells s++cur.toList.drop (n+s.size)).toArray.size=cur.size:=by
    simp only[Yk,Xc,Yu,Yl,Array.length_toList,Lib.strCells_length];omega
   refine⟨_,_,h,⟨hlen,.inr ⟨g,cap,_,rfl,hnew,hroom,by rw[hsz];exact hcs,?_⟩⟩,⟨rfl,rfl,rfl,by simp,λk _ _ hk=>setRow_other w g k _ (λe=>hk (by simp[Value.ownBlock,e])),λk hk arr ty fz he=>?_,.inl rfl⟩⟩
   .rw[htake,<-hlen];exact Yx
   .by_cases hkg:k=g
    .subst hkg;rw[hnew]at he;injection he with he;injection he with he1 he2 he3;subst he1;subst he2;exact⟨cur,(0,0),hg,hsz.symm⟩
    .rw[setRow_other w g k _ hkg]at he;exact⟨arr,fz,he,rfl⟩
  .have holds:∀j u,xs[j]?=some u->w.cell? ((⟨g,0,none⟩:Addr).add j)=some u:=λj u hj=>by
    have hjn:j<n:=by have:=(X0.1 hj).1;omega
    rw[<-htake,Yb,zy hjn]at hj
    have ea:(⟨g,0,none⟩:Addr).add j=⟨g,j,none⟩:=by simp only[Addr.add];split<;>simp_all
    rw[ea,Lib.cell_of_heap hg];simpa using hj
   have h:=Lib.run_append_grow_string (P:=P) w t u ty e i (.int .u8 0) ht hu hi hz ⟨g,0,none⟩ n cap xs (by rw[hsize];simpa using hxl) holds s (by omega) (by omega) (by rw[hby];exact growslice_fits (by omega) (by omega));exact⟨_,_,h,new cap,fM w _ _⟩
theorem A4o {ops:Array Oper} {AY:List Oper} {o:Oper} {a:Act} {w:World} {Q:Exit->Act->World->Prop} (hgd:o.guard=none) (sl x:Operand) (t u:TypeId)
  (ho:o.op = .call { callee:=.builtin .append,args:=#[sl,x],argTypes:=#[t,u] })
  (e:TypeId) (i:TypeInfo) (ht:P.underlying t=some (.slice e)) (hu:P.underlying u=some .string) (hi:P.info? e=some i) (hz:i.zero=some (.int .u8 0))
  (hsize:i.size=1) (hby:i.bytes=1)
  (v:Value) (n:Nat) (xs:List Value) (hs:a.eval sl=v) (hown:Buf e w v n xs) (s:ByteArray) (hx:a.eval x = .string s)
  (hbytes:n+s.size<=140737488355328)
  (h:∀v' w',Buf e w' v' (n+s.size) (xs++Lib.strCells s)->Om w w' none v.ownBlock v'.ownBlock->wpList P ops Q AY (a.put o.dst v') w'):wpList P ops Q (o::AY) a w:=by
 refine wpList_plain hgd λK hK=>?_;obtain⟨v',w',hr,h2,h3⟩:=A4n (P:=P) w t u o.type e i ht hu hi hz hsize hby v n xs hown s hbytes;unfold Oper.wp execOp;simp only[ho,resolve,invoke,builtin,Sem.run_bind,Sem.run_pure,Result.andThen_ok,List.map_toArray,Xv,Yn,hs,hx,hr];exact hK _ _ (h v' w' h2 h3)
theorem A4p (L:Lays.n240 P ρ) (X:Builder.X72 P ρ) (b c:Nat) (w:World) (h0:w.cell? ⟨b,0,none⟩=some (.pointer none)) (hc:0<c) (hsh:w.shape? b=some ((ρ.t 72),c)) (hlies:liesAt P P.depth (ρ.t 72) (c / P.cellsOf (ρ.t 72)) 0 (ρ.t 72) 1=true) (hfz:w.frozen? ⟨b,0,none⟩=false) :
  Calls P (ρ.f 240) #[.pointer (some ⟨b,0,none⟩)] w λe w'=>e = .returned (.tuple #[])/\w'=w.setCell ⟨b,0,none⟩ (.pointer (some ⟨b,0,none⟩)):=by
 obtain⟨j,hj,hjs⟩:=X5.1 X.sizeBuilder;have mixed:=L.mixed;have t72:=L.t72;have a72:=L.a72;have z72:=L.z72;have v72:=L.v72;have u72:=run_underlying L.t72;have t70:=L.t70;have a70:=L.a70;have z70:=L.z70;have v70:=L.v70;have u70:=run_underlying L.t70;have t9:=L.t9;have a9:=L.a9;have z9:=L.z9;have v9:=L.v9;have u9:=run_underlying L.t9;have t4:=L.t4;have a4:=L.a4;have z4:=L.z4;have v4:=L.v4;have u4:=run_underlying L.t4;have t164:=L.t164;have a164:=L.a164;have z164:=L.z164;have v164:=L.v164;have u164:=run_underlying L.t164
 go_enter L.f240,Body.n240_ntmps ρ
 go_wp2
 rw[Lib.run_to_unsafe w ⟨b,0,none⟩ L.t70 L.t164 hj (by rw[hjs];decide) hsh hc];simp only[Yo];rw[Oper.upon_value]
 go_wp2
 rw[run_callFunc_extern L.f276 (by kernel_rfl) (by kernel_rfl) (by kernel_rfl) (e:=Extern.AbiNoEscape.same) (by kernel_rfl)];rw[Lib.run_noEscape];simp only[Yo];rw[Oper.upon_value]
 go_wp2
 rw[Lib.run_from_unsafe w ⟨b,0,none⟩ L.t164 L.t70 hj hsh hlies];simp only[Yo];rw[Oper.upon_value]
 go_wp2
 go_end0
 exact⟨rfl,rfl⟩
theorem fN {w:World} {b o:Nat} {arr:Array Value} {T:TypeId} (hb:w.heap[b]?=some (.cells arr T (0,0))) (x:Value):(w.setCell ⟨b,o,none⟩ x).heap[b]?=some (.cells (arr.setIfInBounds o x) T (0,0)):=by
 simp[World.setCell,Yc,hb]
theorem fO (w:World) (b o:Nat) (x:Value):BT w (w.setCell ⟨b,o,none⟩ x):=λk hk arr ty fz he=>by
 by_cases hkb:k=b
 .subst hkb;simp only[World.setCell,Yc,if_true]at he;obtain⟨ob,h1,h2⟩:=X5.1 he
  cases ob with
  | cells c e f=>
   simp only[Option.isSome_none,X8,if_false]at h2;injection h2 with h3 h4 h5;subst h3;subst h4;exact⟨c,f,h1,by simp⟩
  | _=>simp at h2
 .rw[show(w.setCell ⟨b,o,none⟩ x).heap[k]?=w.heap[k]? from Below.heap_setCell _ _ _ _ hkb]at he;exact⟨arr,fz,he,rfl⟩
theorem A4q (L:Lays.n166 P ρ) (X:Builder.Extra P ρ) (hlies:∀k,1<=k->liesAt P P.depth (ρ.t 72) k 0 (ρ.t 72) 1=true) (hc2:P.cellsOf (ρ.t 72)=2) (b:Nat) (arr:Array Value) (p v:Value) (xs:List Value) (s:ByteArray) (w:World) (hp:p = .pointer none\/p = .pointer (some ⟨b,0,none⟩))
  (hb:w.heap[b]?=some (.cells arr (ρ.t 72) (0,0))) (ha0:arr[0]?=some p) (ha1:arr[1]?=some v)
  (hown0:Buf (ρ.t 5) w v xs.length xs) (hne:v.ownBlock≠some b) (hlen:xs.length+s.size<=140737488355328) :
  Calls P (ρ.f 166) #[.pointer (some ⟨b,0,none⟩),.string s] w λe w'=>e = .returned (.tuple #[.int .i64 s.size,.nilIface]) /\
   ∃v',w'.heap[b]?=some (.cells ((arr.setIfInBounds 0 (.pointer (some ⟨b,0,none⟩))).setIfInBounds 1 v') (ρ.t 72) (0,0))/\Buf (ρ.t 5) w' v' (xs.length+s.size) (xs++Lib.strCells s)/\v'.ownBlock≠some b/\Om w w' (some b) v.ownBlock v'.ownBlock:=by
 obtain⟨i0,hi,hz0,hz1,hz2⟩:=info_parts X.infoByte;have mixed:=L.mixed;have t72:=L.t72;have a72:=L.a72;have z72:=L.z72;have v72:=L.v72;have u72:=run_underlying L.t72;have t70:=L.t70;have a70:=L.a70;have z70:=L.z70;have v70:=L.v70;have u70:=run_underlying L.t70;have t37:=L.t37;have a37:=L.a37;have z37:=L.z37;have v37:=L.v37;have u37:=run_underlying L.t37;have t3:=L.t3;have a3:=L.a3;have z3:=L.z3;have v3:=L.v3;have u3:=run_underlying L.t3;have t9:=L.t9;have a9:=L.a9;have z9:=L.z9;have v9:=L.v9;have u9:=run_underlying L.t9;have t4:=L.t4;have a4:=L.a4;have z4:=L.z4;have v4:=L.v4;have u4:=run_underlying L.t4;have t164:=L.t164;have a164:=L.a164;have z164:=L.z164;have v164:=L.v164;have u164:=run_underlying L.t164;have t5:=X.t5;have a5:=X.a5;have z5:=X.z5;have v5:=X.v5;have u5:=run_underlying X.t5;have e240:∀args w,(callFunc (ρ.f 240) args).run P w = .ok (.enter (ρ.f 240) args) w:=enters_of L.f240 (by kernel_rfl) rfl;have hblt:b<w.heap.size:=(Xq.1 hb).1;have hsz:1<arr.size:=(Xq.1 ha1).1
 obtain⟨arr1,harr1⟩:∃arr1,arr1=arr.setIfInBounds 0 (.pointer (some ⟨b,0,none⟩)):=⟨_,rfl⟩
 have h10:arr1[0]?=some (.pointer (some ⟨b,0,none⟩)):=by rw[harr1,X6,zy rfl,zy (by omega)]
 have h11:arr1[1]?=some v:=by rw[harr1,X6,zz (by omega),ha1]
 rw[<-harr1]
 have hcc:Calls P (ρ.f 240) #[.pointer (some ⟨b,0,none⟩)] w λe w'=>e = .returned (.tuple #[])/\w'.heap[b]?=some (.cells arr1 (ρ.t 72) (0,0))/\Buf (ρ.t 5) w' v xs.length xs/\w'.heap.size=w.heap.size/\w'.os=w.os/\w'.tape=w.tape/\w'.output=w.output/\(∀k,k≠b->w'.heap[k]?=w.heap[k]?)/\BT w w':=by
  rcases hp with rfl | rfl
  .refine(A4p { L with } X.toX72 b arr.size w (by rw[Lib.cell_of_heap hb,ha0]) (by omega) (by simp[World.shape?,hb]) (by rw[hc2];exact hlies _ (by omega)) (Lib.frozen_of_heap hb 0)).mono ?_;rintro e w' ⟨rfl,rfl⟩;have hk:∀k,k≠b->(w.setCell ⟨b,0,none⟩ (.pointer (some ⟨b,0,none⟩))).heap[k]?=w.heap[k]?:=λk hk=>Below.heap_setCell _ _ _ _ hk;refine⟨rfl,by rw[harr1];exact fN hb _,?_,by simp[World.setCell],rfl,rfl,rfl,hk,fO _ _ _ _⟩;exact hown0.keep λk e=>hk k (λe2=>hne (by rw[e,e2]))
  .refine(Any.Builder_copyCheck_used { L with } X.toX72 b w (by rw[Lib.cell_of_heap hb,ha0])).mono ?_;rintro e w' ⟨rfl,rfl⟩
   have e1:arr1=arr:=by
    rw[harr1];apply Array.ext (by simp);intro k hk1 hk2;rw[Array.getElem_setIfInBounds (by simpa using hk2)];split
    .rename_i e;subst e;rw[Array.getElem?_eq_getElem hk2]at ha0;injection ha0 with ha0;exact ha0.symm
    .rfl
   exact⟨rfl,by rw[e1];exact hb,hown0,rfl,rfl,rfl,rfl,λk _=>rfl,BT.refl _⟩
 go_enter L.f166,Body.n166_ntmps ρ
 go_wp2_with (go_at_fn (ρ.f 240);refine hcc.mono ?_)
 rintro e w1 ⟨rfl,hbk,hown,hsz1,ho1,ho2,ho3,hk1,hsh1⟩
 have c0:w1.cell? ⟨b,0,none⟩=some (.pointer (some ⟨b,0,none⟩)):=by rw[Lib.cell_of_heap hbk,h10]
 have c1:w1.cell? ⟨b,1,none⟩=some v:=by rw[Lib.cell_of_heap hbk,h11]
 go_wp2_with (at_builtin;refine A4o rfl _ _ (ρ.t 37) (ρ.t 9) rfl (ρ.t 5) i0 L.t37 L.t9 hi hz0 hz1 hz2 _ _ _ rfl hown s rfl ?c4 ?_)
 case c4=>omega
 intro v' w2 hown' hgrow;have hfresh:=hgrow.fresh;have hsh2:=hgrow.shape
 have hb2:w2.heap[b]?=some (.cells arr1 (ρ.t 72) (0,0)):=by
  rw[hgrow.block b (by omega) (by simp) (λe=>hne e.symm)];exact hbk
 have d0:w2.cell? ⟨b,0,none⟩=some (.pointer (some ⟨b,0,none⟩)):=by rw[Lib.cell_of_heap hb2,h10]
 have d1:w2.cell? ⟨b,1,none⟩=some v:=by rw[Lib.cell_of_heap hb2,h11]
 have f1:w2.frozen? ⟨b,1,none⟩=false:=Lib.frozen_of_heap hb2 1
 have hvo:v'.ownBlock≠some b:=by
  rcases hfresh with h | h
  .rw[h];exact hne
  .rw[h];intro e;injection e with e;omega
 obtain⟨ao,n',cap,rfl⟩:∃ao n' cap,v' = .slice ao n' cap:=by
  rcases hown'.2 with⟨hv,_⟩ | ⟨g,cap,cur,hv,_⟩
  .exact⟨_,_,_,hv⟩
  .exact⟨_,_,_,hv⟩
 go_wp2
 go_ret2
 have hk2:∀k,k≠b->(w2.setCell ⟨b,1,none⟩ (.slice ao n' cap)).heap[k]?=w2.heap[k]?:=λk hk=>Below.heap_setCell _ _ _ _ hk;refine⟨rfl,.slice ao n' cap,fN hb2 _,?_,hvo,⟨hgrow.os.trans ho1,hgrow.tape.trans ho2,hgrow.output.trans ho3,?_,λk hk hkb hkr=>?_,?_,?_⟩⟩
 .exact hown'.keep λk e=>hk2 k (λe2=>hvo (by rw[e,e2]))
 .have:=hgrow.size;simp only[World.setCell,Yy];omega
 .have hkb':k≠b:=λe=>hkb (by rw[e]);rw[hk2 k hkb',hgrow.block k (by omega) (by simp) hkr,hk1 k hkb']
 .exact(hsh1.trans (by omega) hsh2).trans (by have:=hgrow.size;omega) (fO _ _ _ _)
 .rwa[hsz1]at hfresh
theorem A4r (k:Nat) (hk:1<=k):liesAt Xa Xa.depth 84 k 0 84 1=true:=by
 obtain⟨d,hd⟩:∃d,Xa.depth=d+1:=⟨Xa.depth-1,by kernel_rfl⟩
 have hs:Xa.cellsOf 84=2:=by kernel_rfl
 have hf:sameLayout Xa Xa.depth 84 84=true:=by kernel_rfl
 rw[hd]at hf ⊢;rw[liesAt,hd,rowAt];simp only[hs,hf]
 have:0+1<=k:=by omega
 simp[hk]
open Go Go.Abs Go.RowKit
def eB:Enc UInt8:=⟨1,λb=>[.v (.int .u8 b.toNat)],λ_=>rfl,by omega,λa b h=>by
 injection h with h;injection h with h;injection h with _ h
 exact UInt8.toNat_inj.1 (by exact_mod_cast h)⟩
abbrev tyB:Nat:=84
abbrev tyU:Nat:=5
def Lc (p:PV) (g:Nat) (l:List UInt8):Row:=.cells tyB [p,rowP eB g l]
theorem Qp (l:List UInt8):l.flatMap eB.enc=l.map λb=>T.v (.int .u8 b.toNat):=by
 induction l with
 | nil=>rfl
 | cons x l ih=>rw[Xr,ih];rfl
def wsH (H:Ab) (b g nx:Nat) (l m:List UInt8):Ab:=(nx,rowOf eB tyU m)::upd (if l.isEmpty then H else rem H g) b (Lc (.ptr b 0) nx m)
theorem A4s (s:List UInt8):Lib.strCells (bs s)=s.map λb=>Value.int .u8 b.toNat:=by
 unfold Lib.strCells;simp[bs]
theorem A4t (b:Nat) (arr:Array Value) (p v:Value) (xs:List Value) (s:ByteArray) (w:World) (hp:p = .pointer none\/p = .pointer (some ⟨b,0,none⟩))
  (hb:w.heap[b]?=some (.cells arr tyB (0,0))) (ha0:arr[0]?=some p) (ha1:arr[1]?=some v)
  (hown0:Buf tyU w v xs.length xs) (hne:v.ownBlock≠some b) (hlen:xs.length+s.size<=140737488355328) :
  Calls Xa 36 #[.pointer (some ⟨b,0,none⟩),.string s] w λe w'=>e = .returned (.tuple #[.int .i64 s.size,.nilIface]) /\
   ∃v',w'.heap[b]?=some (.cells ((arr.setIfInBounds 0 (.pointer (some ⟨b,0,none⟩))).setIfInBounds 1 v') tyB (0,0))/\Buf tyU w' v' (xs.length+s.size) (xs++Lib.strCells s)/\v'.ownBlock≠some b/\Om w w' (some b) v.ownBlock v'.ownBlock:=
 A4q (ρ:=Tryz.lays156_ren) { Tryz.lays156 with } Tryz.Builder_Extra_156 A4r (by kernel_rfl) b arr p v xs s w hp hb ha0 ha1 hown0 hne hlen
abbrev byV (l:List UInt8):List Value:=l.map λb=>Value.int .u8 b.toNat
theorem Tw {L:Abs.Loc} {w:World} {H:Ab} {g:Nat} {l:List UInt8} {v:Value} (hok:Bx Xa (G q) L H w) (hg:Ar eB tyU H g l) (hv:Ae Xa L w (rowP eB g l) v) :
  Buf tyU w v l.length (byV l)/\(v.ownBlock=if l.isEmpty then none else some (L.μ g)):=by
 cases l with
 | nil=>
  simp only[rowP,Ae,An]at hv;subst hv;exact⟨⟨rfl,.inl ⟨rfl,rfl⟩⟩,rfl⟩
 | cons x r=>
  rcases hg with hg | hg
  .cases hg
  .obtain⟨arr,ha,hl,hc⟩:=hok.rep g _ hg;simp only[rowP,Ae]at hv;obtain⟨_,_,c,rfl,hnc,hfit⟩:=hv;have hf:=hfit arr tyU (0,0) ha;have hz:eB.z=1:=rfl;rw[hz]at hf;rw[Qp]at hl hc;refine⟨⟨by simp[byV],.inr ⟨L.μ g,c,arr,rfl,ha,hnc,by omega,?_⟩⟩,rfl⟩;apply List.ext_getElem?;intro k;rw[Yb];by_cases hk:k<(x::r).length
   .rw[zy hk]
    obtain⟨y,hy⟩:∃y,(x::r)[k]?=some y:=⟨_,Yh hk⟩
    obtain⟨z,h1,_,h2⟩:=hc k (.t (.v (.int .u8 y.toNat))) (by simp only[Xx,hy,Xt]);simp only[Ae,An]at h2;subst h2;simp only[byV,Xx,hy,Xt];simpa using h1
   .rw[zz hk,List.getElem?_eq_none (by simpa[byV]using hk)]
theorem Ld {H:Ab} {b g nx k:Nat} {l m:List UInt8} {r:Row} (h:Aa (wsH H b g nx l m) k=some r) :
  (k=nx/\r=rowOf eB tyU m)\/(k≠nx/\k=b/\r=Lc (.ptr b 0) nx m)\/(k≠nx/\k≠b/\(l=[]\/k≠g)/\Aa H k=some r):=by
 unfold wsH at h;rw[A1]at h;split at h
 .rename_i e;injection h with h;exact .inl ⟨e.symm,h.symm⟩
 .rename_i hn;rw[A9]at h;split at h
  .rename_i e;obtain⟨_,_,rfl⟩:=AR h;exact .inr (.inl ⟨λe=>hn e.symm,e,rfl⟩)
  .rename_i hb;refine .inr (.inr ⟨λe=>hn e.symm,hb,?_⟩)
   cases l with
   | nil=>exact⟨.inl rfl,h⟩
   | cons x r=>
    simp only[List.isEmpty_cons,X8,if_false]at h;rw[Cr]at h;split at h
    .cases h
    .exact⟨.inr (by assumption),h⟩
theorem A4u {H:Ab} {b g:Nat} {p:PV} {l:List UInt8} (h:Aa H b=some (Lc p g l)) (hg:Ar eB tyU H g l) (hl:l≠[]):g≠b:=by
 rintro rfl;rcases hg with hg | hg
 .exact hl hg
 .rw[hg]at h;injection h with h;injection h with h1 h2;exact absurd h1 (by decide)
theorem A4v {H:Ab} {nx b g:Nat} {p:PV} {l s:List UInt8} (h:Aa H b=some (Lc p g l)) (hp:p = .t (.v (.pointer none))\/p = .ptr b 0) (hg:Ar eB tyU H g l) (hs:s≠[]) (hlen:l.length+s.length<=140737488355328) :
  AB Xa (G q) 36 [.ptr b 0,.t (sv (bs s))] H nx (.t (.tu [iv (s.length:Int),.v .nilIface])) (wsH H b g nx l (l++s)) (nx+1):=by
 refine⟨⟨_,(Tryz.f36.body).get!,Tryz.func36,by kernel_rfl,by kernel_rfl⟩,λL w us hok hnx hargs=>?_⟩
 have hus:us = #[.pointer (some ⟨L.μ b,0,none⟩),.string (bs s)]:=by
  simp only[A3,Ae,An]at hargs;obtain⟨x,xs,e,⟨_,rfl⟩,y,ys,rfl,rfl,rfl⟩:=hargs;exact Xw e
 subst hus;obtain⟨arr,hb,hsz,hc⟩:=hok.rep b _ h;obtain⟨x0,ha0,_,hx0⟩:=hc 0 p rfl;obtain⟨v,ha1,_,hv⟩:=hc 1 (rowP eB g l) rfl
 have hp':x0 = .pointer none\/x0 = .pointer (some ⟨L.μ b,0,none⟩):=by
  rcases hp with rfl | rfl
  .simp only[Ae,An]at hx0;exact .inl hx0
  .simp only[Ae]at hx0;exact .inr hx0.2
 obtain⟨hbuf,hob⟩:=Tw hok hg hv;have hgl:l≠[]->Aa H g=some (rowOf eB tyU l):=λhl=>hg.resolve_left hl;have hbn:b<nx:=hnx▸hok.nx b _ h
 have hne:v.ownBlock≠some (L.μ b):=by
  rw[hob]
  cases l with
  | nil=>simp
  | cons y r=>
   intro e;injection e with e;exact A4u h hg (by simp) (hok.inj _ _ _ _ (hgl (by simp)) h e)
 have hl1:(byV l).length=l.length:=Xd ..;have hl2:(bs s).size=s.length:=rfl;refine(A4t (L.μ b) arr x0 v (byV l) (bs s) w hp' hb ha0 ha1 (by rw[hl1];exact hbuf) hne (by rw[hl1,hl2];exact hlen)).mono ?_;rintro e w' ⟨rfl,v',hb',hbuf',hne',hW⟩;rw[hl1,hl2,A4s]at hbuf';have hslen:0<s.length:=Yz.2 hs
 obtain⟨g',cap,cur,rfl,hg',hncap,hcap,htake⟩:∃g' cap cur,v' = .slice (some ⟨g',0,none⟩) (l.length+s.length) cap/\w'.heap[g']?=some (.cells cur tyU (0,0))/\l.length+s.length<=cap/\cap<=cur.size/\cur.toList.take (l.length+s.length)=byV l++byV s:=by
  rcases hbuf'.2 with⟨_,h0⟩ | h
  .omega
  .exact h
 have hmb:L.μ b<w.heap.size:=(Xq.1 hb).1;have hg'lt:g'<w'.heap.size:=(Xq.1 hg').1;have hg'b:g'≠L.μ b:=λe=>hne' (by rw[e];rfl)
 have hgn:(l≠[]/\g'=L.μ g)\/g'=w.heap.size:=by
  rcases hW.fresh with h1 | h1
  .left;rw[hob]at h1
   cases l with
   | nil=>cases h1
   | cons y r=>injection h1 with h1;exact⟨by simp,h1⟩
  .right;injection h1
 have hkeep:∀k,k<w.heap.size->k≠L.μ b->(l=[]\/k≠L.μ g)->w'.heap[k]?=w.heap[k]?:=λk hk hkb hkg=>hW.block k hk (λe=>hkb (by injection e)) (λe=>by
  rw[hob]at e
  cases l with
  | nil=>cases e
  | cons y r=>
   injection e with e;rcases hkg with h | h
   .cases h
   .exact h e)
 have hI:∀k,L.I k->k<w.heap.size/\k≠L.μ b/\(l=[]\/k≠L.μ g):=λk hk=>by
  refine⟨hok.lt k hk,λe=>hok.apart b _ h (e▸hk),?_⟩
  by_cases hl:l=[]
  .exact .inl hl
  .exact .inr λe=>hok.apart g _ (hgl hl) (e▸hk)
 have hother:∀k r,Aa H k=some r->k≠b->(l=[]\/k≠g)->w'.heap[L.μ k]?=w.heap[L.μ k]?:=λk r hk hkb hkg=>by
  refine hkeep _ (hok.rep k r hk).lt (λe=>hkb (hok.inj _ _ _ _ hk h e)) ?_;rcases hkg with hl | hkg
  .exact .inl hl
  .by_cases hl:l=[]
   .exact .inl hl
   .exact .inr λe=>hkg (hok.inj _ _ _ _ hk (hgl hl) e)
 let L':Abs.Loc:=⟨L.I,λk=>if k=nx then g' else L.μ k,nx+1⟩
 have hμ:∀k,k≠nx->L'.μ k=L.μ k:=λk hk=>zz hk;have hμn:L'.μ nx=g':=zy rfl
 have hnb:b≠nx:=by omega
 have hm:AO L w L' w':=⟨λk hk=>⟨hk,by have:=hI k hk;exact hkeep k this.1 this.2.1 this.2.2⟩,by show L.nx<=nx+1;omega,λk hk=>hμ k (by omega),hW.size,hW.shape⟩
 have hIg:¬L.I g':=by
  rcases hgn with⟨hl,e⟩ | e
  .rw[e];exact hok.apart g _ (hgl hl)
  .rw[e];intro hh;have:=hok.lt _ hh;omega
 have hmne:l++s≠[]:=by simp[hs]
 refine⟨.tuple #[.int .i64 (bs s).size,.nilIface],L',rfl,?_,⟨λk hk=>Y0 (hok.lt k hk) hW.size,λk r hk=>?_,λk r hk=>?_,λk k' r r' hk hk' e=>?_,λk r hk=>?_,ER hok hm.keeps⟩,rfl,hm,⟨hW.size,λk hk hkm=>?_,λ_ h=>h,λ_ h=>.inl h,λk hk=>?_,hW.shape,⟨hW.os,hW.tape,hW.output⟩⟩⟩
 .simp[Ae,An,Ba,hl2]
 .rcases Ld hk with⟨rfl,rfl⟩ | ⟨_,rfl,rfl⟩ | ⟨h1,h2,h3,h4⟩
  .rw[hμn];refine⟨cur,hg',?_,λj c hj=>?_⟩
   .rw[Qp,Xd,Xd,Xc];omega
   .rw[Qp,Xx,Xx]at hj
    cases hy:(l++s)[j]? with
    | none=>rw[hy]at hj;cases hj
    | some y=>
     rw[hy]at hj;injection hj with hj;subst hj
     have hjl:j<l.length+s.length:=by have:=(X0.1 hy).1;rwa[Xc]at this
     refine⟨.int .u8 y.toNat,?_,rfl,by simp only[Ae,An]⟩
     have:(cur.toList.take (l.length+s.length))[j]?=some (.int .u8 y.toNat):=by
      rw[htake,show byV l++byV s=byV (l++s)from(Xu ..).symm];simp only[byV,Xx,hy,Xt]
     rw[Yb,zy hjl]at this;simpa using this
  .rw[hμ _ hnb];refine⟨_,hb',by simpa using hsz,λj c hj=>?_⟩;have h2:1<arr.size:=(Xq.1 ha1).1
   match j,hj with
   | 0,hj=>
    injection hj with hj;subst hj;refine⟨.pointer (some ⟨L.μ k,0,none⟩),?_,rfl,?_⟩
    .rw[X6,zz (by omega),X6,zy rfl,zy (by omega)]
    .simp only[Ae];exact⟨by show k<nx+1;omega,by rw[hμ _ hnb]⟩
   | 1,hj=>
    injection hj with hj;subst hj;refine⟨.slice (some ⟨g',0,none⟩) (l.length+s.length) cap,?_,rfl,?_⟩
    .rw[X6,zy rfl,zy (by simp;omega)]
    .obtain⟨y,r,e⟩:=List.exists_cons_of_ne_nil hmne;have hel:(l++s).length=l.length+s.length:=Xc ..;rw[e]at hel ⊢;simp only[rowP,Ae,hμn,hel];refine⟨by show nx<nx+1;omega,hg'lt,cap,rfl,hncap,λarr' ty fz he=>?_⟩;rw[hg']at he;injection he with he;injection he with he1 he2 he3;subst he1;show 0+cap*1<=_;omega
   | j+2,hj=>cases hj
  .rw[hμ _ h1];exact(hok.rep k r h4).keep hm (hother k r h4 h2 h3)
 .rcases Ld hk with⟨rfl,rfl⟩ | ⟨_,rfl,rfl⟩ | ⟨h1,h2,h3,h4⟩
  .rw[hμn];exact hIg
  .rw[hμ _ hnb];exact hok.apart k _ h
  .rw[hμ _ h1];exact hok.apart k _ h4
 .have key:∀k r,Aa (wsH H b g nx l (l++s)) k=some r->k≠nx->L.μ k≠g':=λk r hk hkn=>by
   rcases Ld hk with⟨rfl,rfl⟩ | ⟨_,rfl,rfl⟩ | ⟨h1,h2,h3,h4⟩
   .exact absurd rfl hkn
   .exact λe=>hg'b e.symm
   .rcases hgn with⟨hl,e⟩ | e
    .rw[e];intro e2;rcases h3 with h3 | h3
     .exact hl h3
     .exact h3 (hok.inj _ _ _ _ h4 (hgl hl) e2)
    .rw[e];have:=(hok.rep k r h4).lt;omega
  have old:∀k r,Aa (wsH H b g nx l (l++s)) k=some r->k≠nx->∃r0,Aa H k=some r0:=λk r hk hkn=>by
   rcases Ld hk with⟨rfl,rfl⟩ | ⟨_,rfl,rfl⟩ | ⟨h1,h2,h3,h4⟩
   .exact absurd rfl hkn
   .exact⟨_,h⟩
   .exact⟨_,h4⟩
  by_cases k1:k=nx
  .by_cases k2:k'=nx
   .rw[k1,k2]
   .rw[k1,hμn,hμ _ k2]at e;exact absurd e.symm (key k' r' hk' k2)
  .by_cases k2:k'=nx
   .rw[k2,hμn,hμ _ k1]at e;exact absurd e (key k r hk k1)
   .rw[hμ _ k1,hμ _ k2]at e;obtain⟨r0,h0⟩:=old k r hk k1;obtain⟨r1,h1⟩:=old k' r' hk' k2;exact hok.inj _ _ _ _ h0 h1 e
 .show k<nx+1;rcases Ld hk with⟨rfl,rfl⟩ | ⟨_,rfl,rfl⟩ | ⟨h1,h2,h3,h4⟩
  .omega
  .omega
  .have:=hok.nx k _ h4;omega
 .refine hkeep k hk (λe=>hkm ⟨b,_,h,e.symm⟩) ?_
  by_cases hl:l=[]
  .exact .inl hl
  .exact .inr λe=>hkm ⟨g,_,hgl hl,e.symm⟩
 .obtain⟨k0,r,h0,e⟩:=hk;rcases Ld h0 with⟨rfl,rfl⟩ | ⟨_,rfl,rfl⟩ | ⟨h1,h2,h3,h4⟩
  .rw[hμn]at e;rcases hgn with⟨hl,e2⟩ | e2
   .exact .inr ⟨g,_,hgl hl,by rw[<-e,e2]⟩
   .exact .inl (by omega)
  .rw[hμ _ hnb]at e;exact .inr ⟨_,_,h,e⟩
  .rw[hμ _ h1]at e;exact .inr ⟨_,_,h4,e⟩
open Go Go.Abs Go.Shelf Go.RowKit
section
variable {P : Program} {ρ : Ren}
theorem A4w (L:Lays.n169 P ρ) (X:Builder.Extra P ρ) (b g cap:Nat) (arr cur:Array Value) (l:List UInt8) (w:World) (hb:w.heap[b]?=some (.cells arr (ρ.t 72) (0,0)))
  (ha1:arr[1]?=some (.slice (some ⟨g,0,none⟩) l.length cap)) (hg:w.heap[g]?=some (.cells cur (ρ.t 5) (0,0))) (hnc:l.length<=cap) (hcs:cap<=cur.size) (htake:cur.toList.take l.length=byV l) (h0:l≠[]) (hlen:l.length<=140737488355328) :
  Calls P (ρ.f 169) #[.pointer (some ⟨b,0,none⟩)] w λe w'=>e = .returned (.string (bs l))/\w'=w.drew.freeze ⟨g,0,none⟩ l.length:=by
 have hl0:l.length≠0:=by simpa using h0
 have c1:w.drew.cell? ⟨b,1,none⟩=some (.slice (some ⟨g,0,none⟩) l.length cap):=by
  have:w.drew.heap[b]?=some (.cells arr (ρ.t 72) (0,0)):=hb;rw[Lib.cell_of_heap this];exact ha1
 have hg':w.drew.heap[g]?=some (.cells cur (ρ.t 5) (0,0)):=hg
 have hSD:(Builtin.unsafeSliceData_ #[(ρ.t 37)] (ρ.t 127) #[.slice (some ⟨g,0,none⟩) l.length cap]).run P w.drew = .ok (.pointer (some ⟨g,0,none⟩)) w.drew:=
  Lib.run_unsafeSliceData_row _ _ _ _ _ _ (by omega)
 have hUS:(Builtin.unsafeString_ #[(ρ.t 127),(ρ.t 3)] (ρ.t 9) #[.pointer (some ⟨g,0,none⟩),.int .i64 l.length]).run P w.drew = .ok (.string ⟨l.toArray⟩) (w.drew.freeze ⟨g,0,none⟩ l.length):=by
  refine Lib.run_unsafeString_row w.drew (ρ.t 127) (ρ.t 3) (ρ.t 9) (ρ.t 5) L.t127 X.cellsByte g cur.size (by simp[World.shape?,hg']) l h0 (by omega) (by omega) ?_;intro j x hx;have hj:j<l.length:=(X0.1 hx).1
  have:(cur.toList.take l.length)[j]?=some (.int .u8 x.toNat):=by rw[htake];simp only[byV,Xx,hx,Xt]
  rw[Yb,zy hj]at this
  have ea:(⟨g,0,none⟩:Addr).add j=⟨g,j,none⟩:=by simp only[Addr.add];split<;>simp_all
  rw[ea,Lib.cell_of_heap hg'];simpa using this
 have mixed:=L.mixed;have t72:=L.t72;have a72:=L.a72;have z72:=L.z72;have v72:=L.v72;have u72:=run_underlying L.t72;have t70:=L.t70;have a70:=L.a70;have z70:=L.z70;have v70:=L.v70;have u70:=run_underlying L.t70;have t37:=L.t37;have a37:=L.a37;have z37:=L.z37;have v37:=L.v37;have u37:=run_underlying L.t37;have t127:=L.t127;have a127:=L.a127;have z127:=L.z127;have v127:=L.v127;have u127:=run_underlying L.t127;have t3:=L.t3;have a3:=L.a3;have z3:=L.z3;have v3:=L.v3;have u3:=run_underlying L.t3;have t9:=L.t9;have a9:=L.a9;have z9:=L.z9;have v9:=L.v9;have u9:=run_underlying L.t9;have t5:=X.t5;have a5:=X.a5;have z5:=X.z5;have v5:=X.v5;have u5:=run_underlying X.t5
 go_enter L.f169,Body.n169_ntmps ρ
 go_wp2
 go_region_o
 all_goals (go_wp2;go_ret;exact⟨rfl,rfl⟩)
theorem A4x (L:Lays.n170 P ρ) (b:Nat) (arr:Array Value) (ao:Option Addr) (n cap:Nat) (w:World) (hb:w.heap[b]?=some (.cells arr (ρ.t 72) (0,0))) (ha1:arr[1]?=some (.slice ao n cap)) :
  Calls P (ρ.f 170) #[.pointer (some ⟨b,0,none⟩)] w λe w'=>e = .returned (.int .i64 n)/\w'=w:=by
 have c1:w.cell? ⟨b,1,none⟩=some (.slice ao n cap):=by rw[Lib.cell_of_heap hb];exact ha1
 have mixed:=L.mixed;have t72:=L.t72;have a72:=L.a72;have z72:=L.z72;have v72:=L.v72;have u72:=run_underlying L.t72;have t70:=L.t70;have a70:=L.a70;have z70:=L.z70;have v70:=L.v70;have u70:=run_underlying L.t70;have t37:=L.t37;have a37:=L.a37;have z37:=L.z37;have v37:=L.v37;have u37:=run_underlying L.t37;have t3:=L.t3;have a3:=L.a3;have z3:=L.z3;have v3:=L.v3;have u3:=run_underlying L.t3
 go_enter L.f170,Body.n170_ntmps ρ
 go_wp2
 go_ret
 exact⟨rfl,rfl⟩
end
theorem fP (w:World) (g k n:Nat) (h:k≠g):(w.drew.freeze ⟨g,0,none⟩ n).heap[k]?=w.heap[k]?:=by
 unfold World.freeze;split
 .rfl
 .simp only[Yc];rw[zz (λe=>h e.symm)];rfl
theorem Tx (w:World) (g n:Nat):(w.drew.freeze ⟨g,0,none⟩ n).heap.size=w.heap.size:=by
 unfold World.freeze;split
 .rfl
 .simp only[Yy];rfl
theorem fQ (w:World) (g n:Nat):BT w (w.drew.freeze ⟨g,0,none⟩ n):=λk hk arr ty fz he=>by
 by_cases hkg:k=g
 .subst hkg;unfold World.freeze at he;split at he
  .exact⟨arr,fz,he,rfl⟩
  .simp only[Yc,if_true]at he;obtain⟨ob,h1,h2⟩:=X5.1 he
   cases ob with
   | cells c e f=>
    obtain⟨lo,hi⟩:=f;injection h2 with h3 h4 h5;subst h3;subst h4;exact⟨c,_,h1,rfl⟩
   | _=>simp at h2
 .rw[fP w g k n hkg]at he;exact⟨arr,fz,he,rfl⟩
theorem A4y (w:World) (g n:Nat):BL w (w.drew.freeze ⟨g,0,none⟩ n):=by
 unfold World.freeze;split
 .exact⟨rfl,rfl,rfl⟩
 .exact⟨rfl,rfl,rfl⟩
theorem A4z {H:Ab} {nx b g:Nat} {p:PV} {l:List UInt8} (h:Aa H b=some (Lc p g l)) (hg:Ar eB tyU H g l) (h0:l≠[]) (hlen:l.length<=140737488355328) :
  AB Xa (G q) 39 [.ptr b 0] H nx (.t (sv (bs l))) (rem H g) nx:=by
 refine⟨⟨_,(Tryz.f39.body).get!,Tryz.func39,by kernel_rfl,by kernel_rfl⟩,λL w us hok hnx hargs=>?_⟩
 have hus:us = #[.pointer (some ⟨L.μ b,0,none⟩)]:=by
  simp only[A3,Ae,An]at hargs;obtain⟨x,xs,e,⟨_,rfl⟩,rfl⟩:=hargs;exact Xw e
 subst hus;obtain⟨arr,hb,hsz,hc⟩:=hok.rep b _ h;obtain⟨v,ha1,_,hv⟩:=hc 1 (rowP eB g l) rfl;obtain⟨⟨_,hbuf⟩,hob⟩:=Tw hok hg hv;have hgl:=hg.resolve_left h0;have hpos:0<l.length:=Yz.2 h0;obtain⟨g',cap,cur,rfl,hg',hnc,hcs,htake⟩:=hbuf.resolve_left (by rintro⟨_,h⟩;omega)
 have hge:g'=L.μ g:=by
  rw[show l.isEmpty=false by cases l<;>simp_all]at hob;injection hob
 subst hge;refine(A4w (ρ:=Tryz.lays169_ren) Tryz.lays169 Tryz.Builder_Extra_169 (L.μ b) (L.μ g) cap arr cur l w hb ha1 hg' hnc hcs htake h0 hlen).mono ?_;rintro e w' ⟨rfl,rfl⟩;have hk:∀k,k≠L.μ g->(w.drew.freeze ⟨L.μ g,0,none⟩ l.length).heap[k]?=w.heap[k]?:=λk hk=>fP w _ k _ hk
 have hlook:∀k r,Aa (rem H g) k=some r->Aa H k=some r/\L.μ k≠L.μ g:=λk r hk=>by
  rw[Cr]at hk;split at hk
  .cases hk
  .rename_i hkg;exact⟨hk,λe=>hkg (hok.inj _ _ _ _ hk hgl e)⟩
 have hm:AO L w L (w.drew.freeze ⟨L.μ g,0,none⟩ l.length):=⟨λk hI=>⟨hI,hk k (λe=>hok.apart g _ hgl (e▸hI))⟩,Xg _,λ_ _=>rfl,by rw[Tx];exact Xg _,fQ _ _ _⟩
 refine⟨_,L,rfl,by simp only[Ae,An],⟨λk hI=>by rw[Tx];exact hok.lt k hI,λk r hr=>?_,λk r hr=>hok.apart k r (hlook k r hr).1,λk k' r r' hr hr'=>hok.inj k k' r r' (hlook k r hr).1 (hlook k' r' hr').1,λk r hr=>hok.nx k r (hlook k r hr).1,ER hok hm.keeps⟩,hnx,hm,⟨by rw[Tx];exact Xg _,λk hk2 hkm=>hk k (λe=>hkm ⟨g,_,hgl,e.symm⟩),λ_ h=>h,λ_ h=>.inl h,λk hkm=>?_,fQ _ _ _,A4y _ _ _⟩⟩
 .obtain⟨h1,h2⟩:=hlook k r hr;exact(hok.rep k r h1).keep hm (hk _ h2)
 .obtain⟨k0,r,h1,e⟩:=hkm;exact .inr ⟨k0,r,(hlook k0 r h1).1,e⟩
theorem A5a {H:Ab} {nx b g:Nat} {p:PV} {l:List UInt8} (h:Aa H b=some (Lc p g l)) (hg:Ar eB tyU H g l) :
  AB Xa (G q) 38 [.ptr b 0] H nx (.t (iv (l.length:Int))) H nx:=by
 refine⟨⟨_,(Tryz.f38.body).get!,Tryz.func38,by kernel_rfl,by kernel_rfl⟩,λL w us hok hnx hargs=>?_⟩
 have hus:us = #[.pointer (some ⟨L.μ b,0,none⟩)]:=by
  simp only[A3,Ae,An]at hargs;obtain⟨x,xs,e,⟨_,rfl⟩,rfl⟩:=hargs;exact Xw e
 subst hus;obtain⟨arr,hb,hsz,hc⟩:=hok.rep b _ h;obtain⟨v,ha1,_,hv⟩:=hc 1 (rowP eB g l) rfl;obtain⟨⟨_,hbuf⟩,_⟩:=Tw hok hg hv
 obtain⟨ao,cap,rfl⟩:∃ao cap,v = .slice ao l.length cap:=by
  rcases hbuf with⟨rfl,h0⟩ | ⟨g',cap,cur,rfl,_⟩
  .exact⟨none,0,by rw[h0]⟩
  .exact⟨_,_,rfl⟩
 refine(A4x (ρ:=Tryz.lays170_ren) Tryz.lays170 (L.μ b) arr ao l.length cap w hb ha1).mono ?_;rintro e w' ⟨rfl,rfl⟩;exact⟨_,L,rfl,by simp only[Ae,An],hok,hnx,AO.refl _ _,Ext.refl _ _ _⟩
noncomputable def gJo (ts:List T):Option T:=g2 (tSl Aj) BX (λl s=>open Classical in if l.length<=100000/\(Lib.join (l.map (·.data.toList)) s.data.toList).length<=1000000000 then some (sv (bs (Lib.join (l.map (·.data.toList)) s.data.toList)))else none) ts
theorem hJo:GOK Xa (G q) 80 gJo:=DY λa b l s r ha hb hr=>by
 have e2:b = .v (.string s):=hb;subst e2;split at hr
 .rename_i hc;injection hr with hr;subst hr;refine⟨⟨_,(Tryz.f80.body).get!,Tryz.func80,by kernel_rfl,by kernel_rfl⟩,λI w us hlt hG hargs=>?_⟩
  obtain⟨J,hJ⟩:∃J,J=Lib.join (l.map (·.data.toList)) s.data.toList:=⟨_,rfl⟩
  rw[<-hJ]at hc ⊢
  have fin:Calls Xa 80 us w (λe w'=>e = .returned (.string (bs J))/\Below w.heap.size w w')->Calls Xa 80 us w λe w'=>∃v r I',e = .returned v/\r=sv (bs J)/\An I' w' r v/\BL w w'/\w.heap.size<=w'.heap.size/\(∀g,g<w.heap.size->w'.heap[g]?=w.heap[g]?) /\
   (∀g,I g->I' g)/\(∀g,I' g->I g\/w.heap.size<=g)/\(∀g,I' g->g<w'.heap.size):=λh=>h.mono λe w' ⟨he,hb⟩=>
   ⟨_,_,I,he,rfl,by simp only[An],⟨hb.os,hb.tape,hb.output⟩,hb.size,hb.block,λ_ h=>h,λ_ h=>.inl h,λg hg=>Y0 (hlt g hg) hb.size⟩
  refine fin ?_
  have hnone:∀(a0:Option Addr) (c:Nat),l=[]->us = #[.slice a0 0 c,.string s]->Calls Xa 80 us w (λe w'=>e = .returned (.string (bs J))/\Below w.heap.size w w'):=λa0 c hl hu=>by
   subst hl;subst hu
   have:J=[]:=by rw[hJ];rfl
   subst this
   exact(Tryz.strings_Join_none a0 c s w).mono λe w' h=>⟨h.1,Nr h.2⟩
  rcases ha with⟨rfl,hl⟩ | rfl
  .simp only[Ba,An]at hargs;obtain⟨x,xs,e,rfl,y,ys,rfl,rfl,rfl⟩:=hargs;exact hnone none 0 hl (Xw e)
  .simp only[slT,Ba,An]at hargs;obtain⟨x,xs,e,⟨a0,c,rfl,hnc,hx⟩,y,ys,rfl,rfl,rfl⟩:=hargs;rcases hx with⟨hl,_⟩ | ⟨hsp,hI,hC⟩
   .have hl':=X4 hl;refine hnone (some a0) c hl' (Xw (by rw[e,hl]))
   .obtain⟨bk,o,sp⟩:=a0;simp only at hsp hI hC;subst hsp;have hu:us = #[.slice (some ⟨bk,o,none⟩) l.length c,.string s]:=Xw e;subst hu;rw[YD]at hC;rw[hJ]
    exact Tryz.strings_Join bk o c l s w (λj x hx=>by
     obtain⟨z,h1,_,h2⟩:=hC.at_ j (c:=.v (.string x)) (by rw[Xx,hx];rfl);simp only[An]at h2;subst h2
     exact h1) (hlt bk hI) (by omega) hnc (by rw[<-hJ];omega)
 .cases hr
section
variable {H : Ab} {b g NX : Nat} {l m : List UInt8}
theorem A5b (hb:b<NX):(∀k x,Aa H k=some x->k<NX)->∀k x,Aa (wsH H b g NX l m) k=some x->k<NX+1:=λhf k x hk=>by
 rcases Ld hk with⟨rfl,_⟩ | ⟨_,rfl,_⟩ | ⟨_,_,_,h4⟩
 .omega
 .omega
 .have:=hf k x h4;omega
end
def gl {α:Type} (hd sep:List UInt8) (f:α->List UInt8):List α->List UInt8
 | []=>[]
 | x::r=>hd++(f x++gl sep sep f r)
def Le (sep:List UInt8) (l:List ByteArray):List UInt8:=gl [] sep (λs=>s.data.toList) l
theorem A5c (sep:List UInt8) (l:List ByteArray):Lib.join (l.map (·.data.toList)) sep=Le sep l:=by
 cases l with
 | nil=>rfl
 | cons s r=>
  rw[Xv,Lib.join_cons];show _=[]++(s.data.toList++gl sep sep _ r);rw[Ya];congr 1
  induction r with
  | nil=>rfl
  | cons x r ih=>
   rw[Xv,gl,<-ih];simp[Lib.joinTail]
theorem A5d {t:T} {l:List ByteArray} (h:IsS Aj t l) (sep:List UInt8) (hl:l.length<=100000) (hd:(Le sep l).length<=1000000000):gJo [t,sv (bs sep)]=some (sv (bs (Le sep l))):=by
 have e:Lib.join (l.map (·.data.toList)) (bs sep).data.toList=Le sep l:=A5c sep l;show g2 _ _ _ _=_;rw[E2 (τ:=tSl Aj) (σ:=BX) (x:=l) (y:=bs sep) h rfl,e,zy ⟨hl,hd⟩]
def fR (d:Ds):List UInt8:=if Cg d 1≠0 then []else if 65536<(wrD d).length then []else wrD d
def A5e (l:List Ds):List UInt8:=gl [32,47,32] [32,47,32] fR l
def Tz (d:Dfn):List UInt8:=[32,61,32]++(fR d.strict++A5e d.defaults)
def ftW (p:ByteArray×ByteArray):List UInt8:=p.1.data.toList++(32::p.2.data.toList)
def tyW (x:TyD):List UInt8:=x.name.data.toList++((if x.supers=[]then []else [32,60,32]++Le [44,32] x.supers)++gl [32,58,32] [44,32] ftW x.feats)
def chW (p:ByteArray×ByteArray):List UInt8:=34::(p.1.data.toList++([34,32,34]++(p.2.data.toList++[34])))
def afW (a:Afx):List UInt8:=if a.kind=0 then [110,111,110,101]else(if a.kind=1 then [115,117,102,102,105,120,32]else [112,114,101,102,105,120,32])++gl [] [44,32] chW a.pairs
def A5f (s:ByteArray):List UInt8:=[105,109,112,111,114,116,32]++s.data.toList
def A5g (x:TyD):List UInt8:=[116,121,112,101,32]++tyW x
def A5h (p:List ByteArray×Dfn):List UInt8:=[101,110,116,114,121,32]++(p.2.name.data.toList++([32,34]++(Le [32] p.1++([34]++Tz p.2))))
def A5i (p:Afx×Dfn):List UInt8:=[108,101,120,114,117,108,101,32]++(p.2.name.data.toList++([32]++(afW p.1++Tz p.2)))
def A5j (p:List ByteArray):List UInt8:=[99,104,101,99,107,32]++Le [46] p
def A5k (s:ByteArray):List UInt8:=[100,114,111,112,32]++s.data.toList
def dnW (w:List UInt8) (d:Dfn):List UInt8:=w++(d.name.data.toList++Tz d)
def A5l:List UInt8:=[116,101,109,112,108,97,116,101,32]
def A5m:List UInt8:=[114,117,108,101,32]
def A5n:List UInt8:=[114,111,111,116,32]
theorem A5o {s:ByteArray} (h:Hv s=0):Be false s=true:=by
 unfold Hv at h;split at h
 .assumption
 .cases h
theorem A5p {s:ByteArray} (h:JB s=0):Be true s=true:=by
 unfold JB at h;split at h
 .assumption
 .cases h
theorem A5q {s:ByteArray} (h:Oe s=0):CG s=true:=by
 unfold Oe at h;split at h
 .assumption
 .cases h
theorem A5r {p:ByteArray×ByteArray} (h:JC p=0):Be true p.1=true/\Be false p.2=true:=by
 unfold JC at h;split at h
 .rename_i hc;simpa using hc
 .cases h
theorem A5s {p:ByteArray×ByteArray} (h:IE p=0):KQ p.1=true/\KQ p.2=true:=by
 unfold IE at h;split at h
 .rename_i hc;simpa using hc
 .cases h
structure fS (x:TyD):Prop where
 n:Be false x.name=true
 ls:x.supers.length<=256
 lf:x.feats.length<=256
 s:∀s∈x.supers,Be false s=true
 f:∀p∈x.feats,Be true p.1=true/\Be false p.2=true
theorem A5t {x:TyD} (h:Oa x=0):fS x:=by
 unfold Oa at h;split at h
 .cases h
 .rename_i h1;split at h
  .cases h
  .rename_i h2;split at h
   .cases h
   .rename_i h3;exact⟨by simpa using h1,by omega,by omega,λs hs=>A5o (Lb (Decidable.of_not_not h3) s hs),λp hp=>A5r (Lb h p hp)⟩
structure IJ (d:Dfn):Prop where
 n:Be false d.name=true
 l:d.defaults.length<=256
 s:Cg d.strict 1=0
 d:∀k∈d.defaults,Cg k 1=0
theorem On {d:Dfn} (h:ID d=0):IJ d:=by
 unfold ID at h;split at h
 .cases h
 .rename_i h1;split at h
  .cases h
  .rename_i h2;split at h
   .rename_i h3;exact absurd h h3
   .rename_i h3;exact⟨by simpa using h1,by omega,Decidable.of_not_not h3,λk hk=>Lb h k hk⟩
theorem A5u {p:List ByteArray×Dfn} (h:Of p=0):p.1≠[]/\(∀s∈p.1,CG s=true)/\IJ p.2:=by
 unfold Of at h;split at h
 .cases h
 .rename_i h1;split at h
  .cases h
  .rename_i h2;exact⟨h1,λs hs=>A5q (Lb (Decidable.of_not_not h2) s hs),On h⟩
structure fT (p:Afx×Dfn):Prop where
 k:(p.1.kind=0/\p.1.pairs=[])\/((p.1.kind=1\/p.1.kind=2)/\p.1.pairs≠[])
 q:∀x∈p.1.pairs,KQ x.1=true/\KQ x.2=true
 d:IJ p.2
theorem A5v {p:Afx×Dfn} (h:KY p=0):fT p:=by
 unfold KY at h;split at h
 .cases h
 .rename_i h1;split at h
  .cases h
  .rename_i h2;split at h
   .cases h
   .rename_i h3;split at h
    .cases h
    .rename_i h4;refine⟨?_,λx hx=>A5s (Lb (Decidable.of_not_not h4) x hx),On h⟩;have h3:=Decidable.of_not_not h3
     by_cases hp:p.1.pairs=[]
     .left;refine⟨?_,hp⟩;rcases h3 with h3 | h3
      .exact h3
      .exact absurd ⟨h3,hp⟩ h2
     .right;refine⟨?_,hp⟩;rcases h3 with h3 | h3
      .exact absurd ⟨h3,hp⟩ h1
      .exact h3
theorem A5w {p:List ByteArray} (h:NZ p=0):p≠[]/\p.length<=64/\∀s∈p,Be true s=true:=by
 unfold NZ at h;split at h
 .cases h
 .rename_i h1;split at h
  .cases h
  .exact⟨h1,by omega,λs hs=>A5p (Lb h s hs)⟩
theorem IJ.ok {d:Dfn} (h:IJ d):OkD d:=⟨(Tt _ 1 h.s).sized.fine,by have:=h.l;omega,λk hk=>(Tt _ 1 (h.d k hk)).sized.fine⟩
theorem H9 {α:Type} (g:El->Option α) (j:Nat) (hg:∀x,(g x).isSome=decide (x.j=j)):∀els:List El,(els.filterMap g).length=Cp j els
 | []=>rfl
 | x::r=>by
  have ih:=H9 g j hg r;have h:=hg x;unfold Cp at ih ⊢;rw[List.filterMap_cons,Yw,<-h]
  cases g x with
  | none=>simpa using ih
  | some y=>simp[ih]
section
variable {m : Md} {B : Nat} (G : FT B m)
theorem Lf {α:Type} {g:El->Option α} {y:α} {f:α->El} (hg:∀x y,g x=some y->x=f y) (h:y∈m.els.filterMap g):f y∈m.els:=by
 obtain⟨x,hx,he⟩:=List.mem_filterMap.1 h;rw[<-hg x y he];exact hx
include G
theorem FT.t (x:TyD) (h:x∈m.ml.typs):fS x:=
 A5t (G.e _ (Lf (f:=El.typ) (λx y e=>by cases x<;>first | (injection e with e;subst e;rfl) | cases e) h)).e
theorem FT.tm (x:Dfn) (h:x∈m.ml.tmps):IJ x/\dfZ B x:=by
 have:=G.e _ (Lf (f:=El.tmp) (λx y e=>by cases x<;>first | (injection e with e;subst e;rfl) | cases e) h);exact⟨On this.e,this.z⟩
theorem FT.en (x:List ByteArray×Dfn) (h:x∈m.ml.ents):(x.1≠[]/\(∀s∈x.1,CG s=true)/\IJ x.2)/\x.1.length<=B+1/\dfZ B x.2:=by
 have:=G.e _ (Lf (f:=λx:List ByteArray×Dfn=>El.ent x.1 x.2) (λx y e=>by cases x<;>first | (injection e with e;subst e;rfl) | cases e) h);exact⟨A5u this.e,this.z⟩
theorem FT.lx (x:Afx×Dfn) (h:x∈m.ml.lexs):fT x/\(x.1.pairs.length<=B/\∀p∈x.1.pairs,p.1.size<=B/\p.2.size<=B)/\dfZ B x.2:=by
 have:=G.e _ (Lf (f:=λx:Afx×Dfn=>El.lex x.1 x.2) (λx y e=>by cases x<;>first | (injection e with e;subst e;rfl) | cases e) h);exact⟨A5v this.e,this.z⟩
theorem FT.ru (x:Dfn) (h:x∈m.ml.ruls):IJ x/\dfZ B x:=by
 have:=G.e _ (Lf (f:=El.rul) (λx y e=>by cases x<;>first | (injection e with e;subst e;rfl) | cases e) h);exact⟨On this.e,this.z⟩
theorem FT.ro (x:Dfn) (h:x∈m.ml.roos):IJ x/\dfZ B x:=by
 have:=G.e _ (Lf (f:=El.roo) (λx y e=>by cases x<;>first | (injection e with e;subst e;rfl) | cases e) h);exact⟨On this.e,this.z⟩
theorem FT.ck (x:List ByteArray) (h:x∈m.ml.chks):x≠[]/\x.length<=64/\∀s∈x,Be true s=true:=
 A5w (G.e _ (Lf (f:=El.chk) (λx y e=>by cases x<;>first | (injection e with e;subst e;rfl) | cases e) h)).e
theorem FT.lens:m.ml.imps.length<=256/\m.ml.typs.length<=256/\m.ml.tmps.length<=256/\m.ml.ents.length<=256/\m.ml.lexs.length<=256/\m.ml.ruls.length<=256/\m.ml.roos.length<=256/\m.ml.chks.length<=256/\m.ml.drps.length<=256:=by
 refine⟨?_,?_,?_,?_,?_,?_,?_,?_,?_⟩
 .exact Xk (Xp (H9 El.i? 0 (λx=>by cases x<;>rfl) m.els)) (G.c 0)
 .exact Xk (Xp (H9 El.t? 1 (λx=>by cases x<;>rfl) m.els)) (G.c 1)
 .exact Xk (Xp (H9 El.m? 2 (λx=>by cases x<;>rfl) m.els)) (G.c 2)
 .exact Xk (Xp (H9 El.e? 3 (λx=>by cases x<;>rfl) m.els)) (G.c 3)
 .exact Xk (Xp (H9 El.l? 4 (λx=>by cases x<;>rfl) m.els)) (G.c 4)
 .exact Xk (Xp (H9 El.r? 5 (λx=>by cases x<;>rfl) m.els)) (G.c 5)
 .exact Xk (Xp (H9 El.o? 6 (λx=>by cases x<;>rfl) m.els)) (G.c 6)
 .exact Xk (Xp (H9 El.c? 7 (λx=>by cases x<;>rfl) m.els)) (G.c 7)
 .exact Xk (Xp (H9 El.d? 8 (λx=>by cases x<;>rfl) m.els)) (G.c 8)
theorem FT.ok (hB:B<=65536):Hm m.ml:=by
 obtain⟨n0,n1,n2,n3,n4,n5,n6,n7,n8⟩:=G.lens
 exact⟨by omega,by omega,by omega,by omega,by omega,by omega,by omega,by omega,by omega,
  λd hd=>by have:=G.t d hd;have h1:=this.ls;have h2:=this.lf;exact⟨by omega,by omega⟩,
  λd hd=>(G.tm d hd).1.ok,λd hd=>by have:=G.en d hd;exact⟨by omega,this.1.2.2.ok⟩,λd hd=>by have:=G.lx d hd;exact⟨by omega,this.1.d.ok⟩,
  λd hd=>(G.ru d hd).1.ok,λd hd=>(G.ro d hd).1.ok,λd hd=>by have:=G.ck d hd;omega⟩
end
structure Cur where
 name:ByteArray
 els:List El
 ks:Nat->Nat
def E8 (F:List Md) (c:Cur):List PV:=(F.flatMap Md.cs).map .t++AM c.name c.ks c.els
theorem HD:∀F:List Md,(F.flatMap Md.cs).length=F.length*10
 | []=>rfl
 | m::r=>by
  rw[Xr,Xc,HD r,Xm];show 10+_=_;omega
theorem T9 (F:List Md) (c:Cur):(E8 F c).length=(F.length+1)*10:=by
 unfold E8;rw[Xc,Xd,HD];show _+10=_;omega
section
variable {F : List Md} {c : Cur} {H : Ab} {ko nx : Nat}
theorem TA (h:Aa H ko=some (.cells AD (E8 F c))):Ao true 10 H (.ptr ko (F.length*10))=some (AN (AM c.name c.ks c.els)):=by
 have hl:=T9 F c;simp only[Ao,h,if_true];rw[zy (by rw[hl];omega)];unfold E8;rw[List.drop_left' (by rw[Xd,HD])];rfl
theorem TB (F:List Md) (ko:Nat):Bm 10 (.row ko 0 (F.length+1) 10) (.t (iv (F.length:Int)))=some (.ptr ko (F.length*10)):=by
 have h1:(F.length:Int)<((F.length+1:Nat):Int):=by omega
 simp[Bm];omega
theorem A5x {ps:List PV} (h:Aa H ko=some (.cells AD (E8 F c))) (hp:ps.length=10):A8 10 H (.ptr ko (F.length*10)) (AN ps)=some (Xb H ko (.cells AD ((F.flatMap Md.cs).map .t++ps))):=by
 have h1:=Em (n:=10) (o:=F.length*10) (t:=AN ps) (ns:=ps) h (GH ps) hp (by rw[T9];omega);rw[h1];unfold E8;rw[O4 (by rw[Xc,Xd,HD,hp];show _<=_+10;omega),Yq (by rw[Xd,HD]),Yr (by rw[Xc,Xd,HD,hp];show _+10<=_;omega),Xy]
def Ed (els:List El) (ks:Nat->Nat):List Nat:=((Yd 9).filter λj=>decide (Cp j els≠0)).map ks
theorem fU {j:Nat} {els:List El}:AL j els≠[] ↔ Cp j els≠0:=by
 rw[<-NC];constructor
 .intro h e;exact h (X4 e)
 .intro h e;rw[e]at h;exact h rfl
theorem A5y {els:List El} {ks:Nat->Nat} {j:Nat} (hj:j<9) (h:AL j els≠[]):ks j∈Ed els ks:=by
 unfold Ed;exact Xl.2 ⟨j,Y1.2 ⟨Ye.2 hj,by simpa using fU.1 h⟩,rfl⟩
theorem Lg {els:List El} {ks:Nat->Nat} {b:Nat} (h:BC els ks b):b∉Ed els ks:=by
 unfold Ed;intro hb;obtain⟨j,hj,e⟩:=Xl.1 hb;obtain⟨_,h2⟩:=Y1.1 hj;exact h j (fU.2 (by simpa using h2)) e.symm
theorem IK {els:List El} {ks:Nat->Nat} {j:Nat} (M:BZ els ks H nx) (hj:j<9):B5 H (Ed els ks) (rowP (eRw j) (ks j) (AL j els)) = .t (Am (eRw j) (AL j els)):=by
 by_cases h:AL j els=[]
 .rw[h];rfl
 .exact Hh (M.row j) (A5y hj h)
theorem A5z {name:ByteArray} {els:List El} {ks:Nat->Nat} (M:BZ els ks H nx):(AM name ks els).map (B5 H (Ed els ks))=(Md.cs ⟨name,els⟩).map .t:=by
 unfold AM Md.cs mdC;simp only[Xv,Yn];rw[IK M (by omega),IK M (by omega),IK M (by omega),IK M (by omega),IK M (by omega),IK M (by omega),IK M (by omega),IK M (by omega),IK M (by omega)];rfl
theorem Qr (h:Aa H ko=some (.cells AD (E8 F c))) (M:BZ c.els c.ks H nx) (hk:BC c.els c.ks ko) :
  Aa (B8 H (Ed c.els c.ks)) ko=some (rowOf eMd AD ((F++[(⟨c.name,c.els⟩:Md)]).map Md.rw)):=by
 rw[LU (Lg hk) h];unfold E8 rowOf;simp only[Cy,Xu];congr 2;rw[A5z M,X2,Xu,Y2,List.map_map];congr 1
theorem fV (H:Ab):∀ts:List T,Cx H (ts.map .t)=some (ts,[])
 | []=>rfl
 | x::r=>by
  simp only[Xv,Cx,toT,fV H r];rfl
theorem A6a (H:Ab) (ps:List PV):toT H (AN ps)=(Cx H ps).map λx=>(.ag x.1,x.2):=by
 unfold AN;split
 .rename_i ts h;have:=Gu h;subst this;rw[fV];rfl
 .rfl
theorem fW {name:ByteArray} {els:List El} {ks:Nat->Nat} (M:BZ els ks H nx):∃G,toT H (AN (AM name ks els))=some (.ag (Md.cs ⟨name,els⟩),G):=by
 rw[A6a];have r:∀j,toT H (rowP (eRw j) (ks j) (AL j els))=some (Am (eRw j) (AL j els),FF (ks j) (AL j els)):=λj=>(M.row j).toT;unfold AM Md.cs mdC;simp only[Cx,toT,r];exact⟨_,rfl⟩
theorem fX {name:ByteArray} {els:List El} {kind:Nat} (h1:2<=kind) (h2:kind<=10):∃a,(Md.cs ⟨name,els⟩)[kind-1]?=some a/\Bd (.t a)=some (.t (iv (Cp (kind-2) els:Int))):=by
 have key:∀j,Bd (.t (Am (eRw j) (AL j els)))=some (.t (iv (Cp j els:Int))):=λj=>by
  rw[(IsS.tree (eRw j) (AL j els)).len,NC]
 have hk:kind=2\/kind=3\/kind=4\/kind=5\/kind=6\/kind=7\/kind=8\/kind=9\/kind=10:=by omega
 rcases hk with rfl | rfl | rfl | rfl | rfl | rfl | rfl | rfl | rfl<;>exact⟨_,rfl,key _⟩
end
def Cur.md (c:Cur):Md:=⟨c.name,c.els⟩
structure PsC where
 H:Ab
 nx:Nat
 i:Nat
 F:List Md
 cur:Option Cur
 ko:Nat
 m:Nat
def CU (F:List Md) (cur:Option Cur) (ko:Nat):PV:=match cur with
 | none=>.t Ad
 | some _=>.row ko 0 (F.length+1) 10
def SPs (t:T) (c:PsC):Ac:=⟨[(9,CU c.F c.cur c.ko),(8,.ptr 0 0),(5,.t t)],c.H,c.nx,121⟩
def DO (F:List Md) (cur:Option Cur):Sta:=⟨F,cur.map Cur.md⟩
structure Oo (F:List Md) (cu:Cur) (ko:Nat) (H:Ab) (nx:Nat):Prop where
 out:Aa H ko=some (.cells AD (E8 F cu))
 M:BZ cu.els cu.ks H nx
 n0:BC cu.els cu.ks 0
 nk:BC cu.els cu.ks ko
 lt:ko<nx
 ne:ko≠0
structure PsI (ts:List Tok) (t:T) (Z:Except (Nat×Int) Sta) (c:PsC):Prop where
 z:Z=Gi (ts.map kt) c.m c.i (DO c.F c.cur)
 rd:Aa c.H 0=some (rr t c.i)
 i:c.i<=ts.length
 m:ts.length<c.i+c.m
 cl:Cl c.H c.nx
 nx:0<c.nx
 emp:c.cur=none->c.F=[]
 out:∀cu,c.cur=some cu->Oo c.F cu c.ko c.H c.nx/\cu.els.length<=c.i
 fl:c.F.length<=c.i
structure AfP where
 H:Ab
 nx:Nat
 F:List Md
 cu:Cur
 ko:Nat
def Oq (t:T) (nt:Nat) (K:Nat) (c:AfP):Ac:=⟨[(11,.t (iv (K:Int))),(10,.ptr nt 0),(9,.row c.ko 0 (c.F.length+1) 10),(8,.ptr 0 0),(5,.t t)],c.H,c.nx,121⟩
structure AfI (t:T) (i nt K:Nat) (tok:Row) (F:List Md) (cur:Option Cur) (c:AfP):Prop where
 rd:Aa c.H 0=some (rr t (i+1))
 O:Oo c.F c.cu c.ko c.H c.nx
 tk:Aa c.H nt=some tok
 ntk:BC c.cu.els c.cu.ks nt
 lt:nt<c.nx
 nt0:nt≠0
 nk:nt≠c.ko
 cl:Cl c.H c.nx
 el:c.cu.els.length<=i+1
 fl:c.F.length<=i+1
 rel:(K=1/\c.F=(DO F cur).all/\c.cu.els=[])\/(K≠1/\c.F=F/\cur=some c.cu)
theorem TC {H:Ab} {G:List Nat} {b o m z:Nat} (h:b∉G):B5 H G (.row b o m z) = .row b o m z:=by
 unfold B5;simp only[toT];split
 .rename_i x G2 hx;split at hx
  .split at hx
   .obtain⟨y,_,e⟩:=X5.1 hx;injection e with _ e;subst e;rw[zz];intro h2;exact h (by simpa using h2)
   .cases hx
  .cases hx
 .rfl
theorem ClR.mem {n ty:Nat} {cs:List PV} (h:ClR n (.cells ty cs)):∀p∈cs,ClP n p:=λp hp H2 F2 hF2=>by
 have h3:=h H2 F2 hF2;simp only[Cy]at h3;injection h3 with _ h3
 have h4:cs.map (B5 H2 F2)=cs.map id:=by rw[h3,List.map_id]
 exact List.map_inj_left.1 h4 p hp
theorem A6b {l:List Tok} {t:T} {k0 nx:Nat} {H:Ab} {els:List El} {ks:Nat->Nat} {name:ByteArray} {fn:FuncId} {xs:List PV} {o:Res EL} (h:∃f:Fin,StM l t k0 name ks els H nx o f/\AB Xa (G q) fn xs H nx f.r f.H f.nx) :
  ∃ps e i' H' nx' tb,ps.length=10/\(Cl H nx->ClR nx' (.cells AD ps))/\Aa H' k0=some (rr t i')/\i'<=l.length/\((o = .error e/\e≠0)\/(∃a,o = .ok (a,i')/\e=0/\∃name' ks' els',ps=AM name' ks' els'/\BZ els' ks' H' nx'/\(∀c,c<nx->BC els ks c->BC els' ks' c) /\
   (match a with | .md n=>name'=n/\els'=els | .el y=>name'=name/\els'=els++[y]))) /\
   (∀c,c<nx->c≠k0->BC els ks c->Aa H' c=Aa H c)/\nx<=nx'/\(Cl H nx->Cl H' nx')/\tb xs H nx=some (BW (AN ps) e,H',nx')/\HOK Xa (G q) fn tb:=by
 obtain⟨⟨fr,fH,fn'⟩,hS,hc⟩:=h;obtain⟨ps,e,i',hr,hl,h1,h2,h3,h4⟩:=hS.ex;have k:=hS.k;have n:=hS.n;have fr':=hS.fr;have cl:=hS.cl;simp only at hr hc h1 h2 h4 k n fr' cl;subst hr;obtain⟨tb,t1,t2⟩:=hAt hc fr';exact⟨ps,e,i',fH,fn',tb,hl,h1,h2,h3,h4,k,n,cl,t1,t2⟩
theorem fY {F:List Md} {cur:Option Cur} {ko:Nat} (he:cur=none->F=[]):Bd (CU F cur ko)=some (.t (iv ((DO F cur).all.length:Int))):=by
 cases cur with
 | none=>rw[he rfl];rfl
 | some cu=>
  have:(DO F (some cu)).all.length=F.length+1:=by
   show(F++[_]).length=_;rw[Xc];rfl
  rw[this];rfl
def OkA (K:Nat) (cur:Option Cur):Prop:=K≠0/\(K≠1->cur≠none)
theorem fZ {L:List KT} {p p':Nat} {a:EL} (h:C6 L 1 p = .ok (a,p')):∃n,a = .md n:=by
 unfold C6 at h;rw[zy rfl]at h;split at h
 .cases h
 .injection h with h;injection h with h _;exact⟨_,h.symm⟩
theorem gA {L:List KT} {k p p':Nat} {a:EL} (hk:k≠1) (h:C6 L k p = .ok (a,p')):∃y,a = .el y:=by
 unfold C6 at h;rw[zz hk]at h;split at h
 .cases h
 .injection h with h;injection h with h _;exact⟨_,h.symm⟩
theorem A6c {l:List Tok} {t:T} (ht:IsS Ap t l) (Φ:AC) (H:Ab) (nx:Nat):Ah Φ H nx (.build [(0,1),(1,1)] [.slice none 0 0,.int .i64 0] [0]) [.t t]=some (.t (.ag [t,iv 0]),H,nx):=by
 rcases ht with⟨rfl,_⟩ | rfl<;>rfl
theorem gB (Φ:AC) (H:Ab) (nx:Nat):Ah Φ H nx (.build [(0,1),(1,1),(2,1),(3,1),(4,1),(5,1),(6,1),(7,1),(8,1),(9,1)] [.string ⟨#[]⟩,.slice none 0 0,.slice none 0 0,.slice none 0 0,.slice none 0 0,.slice none 0 0,.slice none 0 0,.slice none 0 0,.slice none 0 0,.slice none 0 0] []) []=some (.t (.ag zMd),H,nx):=rfl
theorem gC (n:Nat):De 51 10 [.string ⟨#[]⟩,.slice none 0 0,.slice none 0 0,.slice none 0 0,.slice none 0 0,.slice none 0 0,.slice none 0 0,.slice none 0 0,.slice none 0 0,.slice none 0 0] 1 [(0,.t (.ag zMd))] n=some (.row n 0 1 10,.cells 51 (zMd.map .t)):=rfl
theorem gD (F:List Md) (ks:Nat->Nat):rowOf eMd AD (F.map Md.rw++[(⟨zMd,rfl⟩:RwC 10)]) = .cells AD (E8 F ⟨⟨#[]⟩,[],ks⟩):=by
 unfold rowOf E8;rw[X2,Xu,Y2];rfl
noncomputable def Qs:Tbl:=[(28,J7)]
theorem TD:Ctx Xa (G q) (orc Qs):=(A5.cons A0m .nil).ctx mixed
theorem gE {t:Tok}:∀{ts:List Tok},t∈ts->t.t.length<=(ts.flatMap wrT).length
 | x::r,h=>by
  rw[Xr,Xc];rcases Xo.1 h with rfl | h
  .have:t.t.length<=(wrT t).length:=by
    unfold wrT wr;split
    .simp;omega
    .exact Xg _
   omega
  .have:=gE h;omega
theorem gF {D:List UInt8} {ts:List Tok} (h:EY D 1 = .ok ts):∀x∈ts,x.t.length<=D.length:=λx hx=>by
 have h1:=(PZ _ _ _ _ h).2;have h2:=gE hx;rw[Yl]at h1;omega
theorem A6d (s:ByteArray) (hs:s.size<=1000000):AA Xa (G q) 14 [sv s] (· = FK (Er s.data.toList)):=by
 obtain⟨R,hR⟩:∃R,R=FK (Er s.data.toList):=⟨_,rfl⟩
 rw[<-hR];have gs:J7 [sv s]=some (Ff s.data.toList):=zy hs
 obtain⟨D,hD⟩:∃D,D=s.data.toList:=⟨_,rfl⟩
 rw[<-hD]at gs hR;refine Hn (args:=[sv s]) ?_;refine pS.callX rfl ?_;(conv in WG=>cbv);refine Ai Af ?_;simp -implicitDefEqProofs;unfold Er at hR;unfold Ff at gs;by_cases hlen:65536<D.length
 .rw[zy hlen]at gs hR;refine Ai TD ?_;simp -implicitDefEqProofs [Qs,gs];refine Ai Af ?_;simp -implicitDefEqProofs;exact A6 ⟨.t (.tu [Ad,iv 0,iv 7]),[],0⟩ ⟨by rw[hR];rfl⟩ (by simp -implicitDefEqProofs)
 rw[zz hlen]at gs hR
 cases hsc:EY D 1 with
 | error x=>
  rw[hsc]at gs hR;simp only at gs hR;have he:=(cQ hsc).2
  have hb:(x.2 != 0)=true:=by rw[bne_iff_ne];exact he
  refine Ai TD ?_;simp -implicitDefEqProofs [Qs,gs];refine Ai Af ?_;simp -implicitDefEqProofs [hb];exact A6 ⟨.t (.tu [Ad,iv (x.1:Int),iv x.2]),[],0⟩ ⟨by rw[hR];rfl⟩ (by simp -implicitDefEqProofs)
 | ok ts=>
 rw[hsc]at gs hR;simp only at gs hR
 have hlim:ts.length<=1000000:=by have:=SR hsc;omega
 have hsm:∀x∈ts,x.t.length<=100000:=λx hx=>by have:=gF hsc x hx;omega
 have ht:=IsS.tree Ap ts
 obtain⟨t,htt⟩:∃t,t=Am Ap ts:=⟨_,rfl⟩
 rw[<-htt]at ht gs;have hln:Bd (.t t)=some (.t (iv (ts.length:Int))):=ht.len;refine Ai TD ?_;simp -implicitDefEqProofs [Qs,gs];refine Ai Af ?_;simp -implicitDefEqProofs;refine Ai Af ?_;simp -implicitDefEqProofs [A6c ht,-AF];refine Ai Af ?_;simp -implicitDefEqProofs
 obtain⟨Z,hZ⟩:∃Z,Z=Gi (ts.map kt) (ts.length+1) 0 ⟨[],none⟩:=⟨_,rfl⟩
 rw[<-hZ]at hR
 obtain⟨H0,hH0⟩:∃H0:Ab,H0=[(0,rr t 0)]:=⟨_,rfl⟩
 have r0:Aa H0 0=some (rr t 0):=by rw[hH0];rfl
 have C0:Cl H0 1:=λc x hx=>by
  rw[hH0,A1]at hx;split at hx
  .injection hx with hx;subst hx;exact Hs 1 t 0
  .cases hx
 refine B9 (s':=SPs t ⟨H0,1,0,[],none,0,ts.length+1⟩) (by rw[hH0];exact sub_env (by simp -implicitDefEqProofs [SPs,CU])) rfl ?_;refine D5 (SPs t) (λc=>Z = .ok (DO c.F c.cur)/\Cl c.H c.nx/\(c.cur=none->c.F=[])/\∀cu,c.cur=some cu->Oo c.F cu c.ko c.H c.nx) (λ_=>rfl) ?_ ?_
 rotate_left
 .rintro⟨H,nx,i,F,cur,ko,m⟩ ⟨hz,hC,hemp,hout⟩;simp only at hz hC hemp hout;rw[hz]at hR;simp only at hR
  cases cur with
  | none=>
   have hF:=hemp rfl;subst hF;refine A7 Af ?_;simp -implicitDefEqProofs [SPs,CU];exact A6 ⟨.t (.tu [Ad,iv 0,iv 0]),H,nx⟩ ⟨by rw[hR];rfl⟩ (by simp -implicitDefEqProofs)
  | some cu=>
   have O:=hout cu rfl;have lk:=Qr O.out O.M O.nk
   obtain⟨H2,hH2⟩:∃H2,H2=B8 H (Ed cu.els cu.ks):=⟨_,rfl⟩
   rw[<-hH2]at lk
   obtain⟨l,hl⟩:∃l,l=(F++[(⟨cu.name,cu.els⟩:Md)]).map Md.rw:=⟨_,rfl⟩
   rw[<-hl]at lk
   have hlen2:l.length=F.length+1:=by rw[hl,Xd,Xc];rfl
   have hne:l≠[]:=λe=>by rw[e]at hlen2;simp at hlen2
   have hrow:Ar eMd AD H2 ko l:=.inr lk
   have hrp:rowP eMd ko l = .row ko 0 (F.length+1) 10:=by rw[Kv _ _ _ hne,hlen2];rfl
   have fz1:B5 H (Ed cu.els cu.ks) (.row ko 0 (F.length+1) 10) = .row ko 0 (F.length+1) 10:=by
    unfold B5;simp only[toT];split
    .rename_i x G hx;split at hx
     .split at hx
      .obtain⟨y,_,e⟩:=X5.1 hx;injection e with _ e;subst e;rw[zz];intro h2;exact Lg O.nk (by simpa using h2)
      .cases hx
     .cases hx
    .rfl
   refine B9 (s':=⟨[(9,.row ko 0 (F.length+1) 10)],H2,nx,121⟩) (by rw[hH2];exact EG _ (by simp -implicitDefEqProofs [SPs,CU,fz1])) rfl ?_;rw[<-hrp];refine B9 (s':=⟨[(9,.t (Am eMd l))],B8 H2 [ko],nx,121⟩) (EG [ko] (by simp -implicitDefEqProofs [Hh hrow (Xh.2 rfl)])) rfl ?_;refine A7 Af ?_;simp -implicitDefEqProofs;exact A6 ⟨.t (.tu [Am eMd l,iv 0,iv 0]),B8 H2 [ko],nx⟩ ⟨by rw[hR,hl];rfl⟩ (by simp -implicitDefEqProofs)
 refine CQ ?_;refine FN (SPs t) (λc=>c.m) (PsI ts t Z) ⟨H0,1,0,[],none,0,ts.length+1⟩ (λ_=>rfl) ⟨hZ,r0,Xe _,by show ts.length<0+(ts.length+1);omega,C0,Nat.zero_lt_one,λ_=>rfl,λcu h=>(by cases h),Xe _⟩ (Sub.refl _) rfl ?_;rintro⟨H,nx,i,F,cur,ko,m⟩ I;have hz:=I.z;have hi:=I.i;have hm:=I.m;have hnx:=I.nx;have rd:=I.rd;simp only at hz hi hm hnx rd;have L:=Eb rd
 obtain⟨m,rfl⟩:∃m',m=m'+1:=⟨m-1,by omega⟩
 rw[Gi]at hz
 cases hx:ts[i]? with
 | none=>
  have hge:ts.length<=i:=by simpa using hx
  have d1:¬(i:Int)<(ts.length:Int):=by omega
  have d2:¬i<ts.length:=by omega
  rw[E5,hx]at hz;simp only[Option.map_none]at hz;refine Ai Af ?_;simp -implicitDefEqProofs [SPs,L.l1,hln,d1,d2];exact Aq.mk ⟨H,nx,i,F,cur,ko,m⟩ ⟨hz,I.cl,I.emp,λcu h=>(I.out cu h).1⟩ (sub_env (by simp -implicitDefEqProofs [SPs]))
 | some x=>
 have hlt:i<ts.length:=(X0.1 hx).1
 have d1:(i:Int)<(ts.length:Int):=by omega
 obtain⟨r,hr⟩:=EH ht hx;rw[E5,hx]at hz;simp only[Xt]at hz
 obtain⟨K,hK⟩:∃K,K=D0 (kt x):=⟨_,rfl⟩
 have hK10:K<=10:=by rw[hK];exact kindT_le _
 obtain⟨S,hS⟩:∃S,S=DO F cur:=⟨_,rfl⟩
 rw[<-hS]at hz
 have hErr:∀e,K0 (ts.map kt) S (kt x) i = .error e->R = .tu [Ad,iv (x.l:Int),iv e]:=λe he=>by
  rw[he]at hz;rw[hz]at hR;simp only[hx,Xt,Option.getD_some]at hR;exact hR
 have hMay:CP S K≠0->R = .tu [Ad,iv (x.l:Int),iv (CP S K)]:=λh=>hErr _ (by rw[Mw,<-hK,zy h])
 obtain⟨tk,htk⟩:∃tk:Row,tk = .cells J8 [.t (iv x.k),.t (sv (bs x.t)),.t (iv (x.l:Int))]:=⟨_,rfl⟩
 have st:=cT H nx (.t (iv 0)) (.t (sv ⟨#[]⟩)) (.t (iv 0)) x.k x.l (bs x.t);rw[<-htk]at st
 obtain⟨H1,hH1⟩:∃H1:Ab,H1=(nx,tk)::H:=⟨_,rfl⟩
 rw[<-hH1]at st
 have r1:Aa H1 0=some (rr t i):=by rw[hH1,A1,zz (by omega)];exact rd
 have t1:Aa H1 nx=some tk:=by rw[hH1,A1,zy rfl]
 have C1:Cl H1 (nx+1):=by rw[hH1,htk];exact I.cl.cons (ClR.trees _ _ [_,_,_]) (Xj _)
 have ldt:∀Hx,Aa Hx nx=some tk->Ao false 1 Hx (.ptr nx 2)=some (.t (iv (x.l:Int)))/\Ao true 3 Hx (.ptr nx 0)=some (.t (.ag [iv x.k,sv (bs x.t),iv (x.l:Int)])):=λHx h=>by
  rw[htk]at h;exact⟨(Qa h).2.2.1,(Qa h).2.2.2⟩
 have tkC:∀n,ClR n tk:=λn=>by rw[htk];exact ClR.trees n J8 [_,_,_]
 have O1:∀cu,cur=some cu->Oo F cu ko H1 (nx+1)/\BC cu.els cu.ks nx:=λcu h=>by
  obtain⟨O,_⟩:=I.out cu h;have hlo:=O.lt;refine⟨⟨by rw[hH1,A1,zz (by show nx≠ko;have:=O.lt;simp only at this;omega)];exact O.out,O.M.keep (λj hj=>by have:=O.M.lt j hj;simp only at this;rw[hH1,A1,zz (by omega)]) (Xj _),O.n0,O.nk,Nat.lt_succ_of_lt O.lt,O.ne⟩,λj hj=>by have:=O.M.lt j hj;simp only at this;omega⟩
 have cc:AA Xa (G q) 29 [.ag [iv x.k,sv (bs x.t),iv (x.l:Int)]] (· = iv (K:Int)):=by
  have:=A3m (q:=q) x.k (bs x.t) (x.l:Int);rw[show D0 (x.k,(bs x.t).data.toList)=K from hK.symm]at this;exact this
 have CK:Ctx Xa (G q) (orc [(29,D8 [.ag [iv x.k,sv (bs x.t),iv (x.l:Int)]] (iv (K:Int)))]):=(A5.cons (FS cc) .nil).ctx mixed;have gk:=FR [.ag [iv x.k,sv (bs x.t),iv (x.l:Int)]] (iv (K:Int));obtain⟨lx,lt3⟩:=ldt H1 t1;refine Ai Af ?_;simp -implicitDefEqProofs [SPs,L.l1,hln,d1,hlt];refine CQ ?_;refine Ai Af ?_;simp -implicitDefEqProofs [L.l1,hr,lp3,st];refine Ai CK ?_;simp -implicitDefEqProofs [lt3,gk]
 obtain⟨stA,hstA⟩:∃stA:Ac,stA=⟨[(11,.t (iv (K:Int))),(10,.ptr nx 0),(9,CU F cur ko),(8,.ptr 0 0),(5,.t t)],H1,nx+1,121⟩:=⟨_,rfl⟩
 refine B9 (s':=stA) (by rw[hstA];exact sub_env (by simp -implicitDefEqProofs)) (by rw[hstA]) ?_;have hlr:Bd (.row ko 0 (F.length+1) 10)=some (.t (iv ((F.length:Int)+1))):=rfl;have hnil:Bd (.t Ad)=some (.t (iv 0)):=rfl;refine D5 (α:=Unit) (λ_=>stA) (λ_=>OkA K cur) (λ_=>by rw[hstA]) ?_ ?_
 .rw[hstA];by_cases k0:K=0
  .have hb:((K:Int)==0)=true:=by rw[k0];rfl
   have e8:CP S K=8:=by unfold CP;rw[zy k0]
   have hR8:=hMay (by rw[e8];decide);rw[e8]at hR8;refine A7 Af ?_;simp -implicitDefEqProofs [hb,lx];exact A6 ⟨.t (.tu [Ad,iv (x.l:Int),iv 8]),H1,nx+1⟩ ⟨by rw[hR8]⟩ (by simp -implicitDefEqProofs)
  have hb:((K:Int)==0)=false:=by rw[zu];omega
  by_cases k1:K=1
  .have hb1:((K:Int) != 1)=false:=by rw[k1];rfl
   refine A7 Af ?_;simp -implicitDefEqProofs [hb,hb1];exact Aq.mk () ⟨k0,λh=>absurd k1 h⟩ (sub_env (by simp -implicitDefEqProofs))
  have hb1:((K:Int) != 1)=true:=by rw[bne_iff_ne];omega
  cases hcur:cur with
  | none=>
   have e8:CP S K=8:=by
    unfold CP;rw[zz k0,zz k1,hS,hcur];rfl
   have hR8:=hMay (by rw[e8];decide);rw[e8]at hR8;refine A7 Af ?_;simp -implicitDefEqProofs [hb,hb1,CU,hnil,lx];exact A6 ⟨.t (.tu [Ad,iv (x.l:Int),iv 8]),H1,nx+1⟩ ⟨by rw[hR8]⟩ (by simp -implicitDefEqProofs)
  | some cu=>
   have hl0:((F.length:Int)+1==0)=false:=by rw[zu];omega
   refine A7 Af ?_;simp -implicitDefEqProofs [hb,hb1,CU,hlr,hl0];exact Aq.mk () ⟨k0,λ_ h=>(by cases h)⟩ (sub_env (by simp -implicitDefEqProofs [CU]))
 rintro _ ⟨k0,kcur⟩
 have hb0:((K:Int)==0)=false:=by rw[zu];omega
 refine D5 (α:=Unit) (λ_=>stA) (λ_=>CP S K=0) (λ_=>by rw[hstA]) ?_ ?_
 .rw[hstA];by_cases k1:K=1
  .have hb1:((K:Int)==1)=true:=by rw[k1];rfl
   have hb2:((K:Int) != 1)=false:=by rw[k1];rfl
   have e1:CP S K=if 256<=S.all.length then 7 else 0:=by unfold CP;rw[zz k0,zy k1]
   obtain⟨nl,hnl⟩:∃nl:Nat,nl=S.all.length:=⟨_,rfl⟩
   have hlo:Bd (CU F cur ko)=some (.t (iv (nl:Int))):=by
    rw[hnl,hS];exact fY I.emp
   rw[<-hnl]at e1
   obtain⟨W,hW⟩:∃W,W=CU F cur ko:=⟨_,rfl⟩
   rw[<-hW]at hlo ⊢;by_cases h256:256<=nl
   .rw[zy h256]at e1;have hR7:=hMay (by rw[e1];decide);rw[e1]at hR7
    have d2:(256:Int)<=(nl:Int):=by omega
    refine A7 Af ?_;simp -implicitDefEqProofs [hb1,hb2,hlo,d2,h256,lx];exact A6 ⟨.t (.tu [Ad,iv (x.l:Int),iv 7]),H1,nx+1⟩ ⟨by rw[hR7]⟩ (by simp -implicitDefEqProofs)
   .rw[zz h256]at e1
    have d2:¬(256:Int)<=(nl:Int):=by omega
    refine A7 Af ?_;simp -implicitDefEqProofs [hb1,hb2,hlo,d2,h256];exact Aq.mk () e1 (sub_env (by simp -implicitDefEqProofs))
  .have hb1:((K:Int)==1)=false:=by rw[zu];omega
   have hb2:((K:Int) != 1)=true:=by rw[bne_iff_ne];omega
   cases hcur:cur with
   | none=>exact absurd hcur (kcur k1)
   | some cu=>
    obtain⟨O,hN⟩:=O1 cu hcur
    have e1:CP S K=if 256<=Cp (K-2) cu.els then 7 else 0:=by
     unfold CP;rw[zz k0,zz k1,hS,hcur];rfl
    obtain⟨a,ha1,ha2⟩:=fX (name:=cu.name) (els:=cu.els) (kind:=K) (by omega) hK10;obtain⟨G2,hG⟩:=fW (name:=cu.name) O.M;have lc:=A3n (q:=q) (cs:=Md.cs ⟨cu.name,cu.els⟩) rfl (by omega) hK10 ha1 ha2;have CL:Ctx Xa (G q) (orc [(30,D8 [.ag (Md.cs ⟨cu.name,cu.els⟩),iv (K:Int)] (iv (Cp (K-2) cu.els:Int)))]):=(A5.cons (FS lc) .nil).ctx mixed;have gl:=FR [.ag (Md.cs ⟨cu.name,cu.els⟩),iv (K:Int)] (iv (Cp (K-2) cu.els:Int))
    obtain⟨nl,hnl⟩:∃nl,nl=Cp (K-2) cu.els:=⟨_,rfl⟩
    rw[<-hnl]at CL gl e1;have ia:=TB F ko;have lO:=TA O.out
    obtain⟨P,hP⟩:∃P,P=AN (AM cu.name cu.ks cu.els):=⟨_,rfl⟩
    rw[<-hP]at lO hG
    obtain⟨MC,hMC⟩:∃MC,MC=Md.cs ⟨cu.name,cu.els⟩:=⟨_,rfl⟩
    rw[<-hMC]at hG CL gl
    have w1:Xz.wrap (F.length:Int)=(F.length:Int):=by
     have:=I.fl;simp only at this;exact AH rfl (by omega)
    by_cases h256:256<=nl
    .rw[zy h256]at e1;have hR7:=hMay (by rw[e1];decide);rw[e1]at hR7
     have d2:(256:Int)<=(nl:Int):=by omega
     refine A7 CL ?_;simp -implicitDefEqProofs [hb1,hb2,CU,hlr,w1,ia,lO,hG,gl,d2,h256,lx];exact A6 ⟨.t (.tu [Ad,iv (x.l:Int),iv 7]),H1,nx+1⟩ ⟨by rw[hR7]⟩ (by simp -implicitDefEqProofs)
    .rw[zz h256]at e1
     have d2:¬(256:Int)<=(nl:Int):=by omega
     refine A7 CL ?_;simp -implicitDefEqProofs [hb1,hb2,CU,hlr,w1,ia,lO,hG,gl,d2,h256];exact Aq.mk () e1 (sub_env (by simp -implicitDefEqProofs [CU]))
 rintro _ hmay
 have hcl:K0 (ts.map kt) S (kt x) i=clA (ts.map kt) (kt x) i:=by rw[Mw,<-hK,hmay];rfl
 have hfl:=I.fl;simp only at hfl;have L1:=Eb r1;have s2:=Ix r1 i;have r2:=J9 r1 (i+1);have C2:=C1.upd (k:=0) (Hs (nx+1) t (i+1))
 have k2:∀c,c≠0->Aa (Xb H1 0 (rr t (i+1))) c=Aa H1 c:=λc hc=>by rw[A9,zz hc]
 obtain⟨H2,hH2⟩:∃H2,H2=Xb H1 0 (rr t (i+1)):=⟨_,rfl⟩
 rw[<-hH2]at s2 r2 C2 k2
 have t2:Aa H2 nx=some tk:=by rw[k2 nx (by omega)];exact t1
 have O2:∀cu,cur=some cu->Oo F cu ko H2 (nx+1)/\BC cu.els cu.ks nx:=λcu h=>by
  obtain⟨O,hN⟩:=O1 cu h;exact⟨⟨by rw[k2 ko O.ne];exact O.out,O.M.keep (λj hj=>k2 _ (λe=>O.n0 j hj e.symm)) (Xg _),O.n0,O.nk,O.lt,O.ne⟩,hN⟩
 have w2:Xz.wrap ((i:Int)+1)=(i:Int)+1:=AH (n:=i+1) rfl (by omega);rw[hstA];refine Ai Af ?_;simp -implicitDefEqProofs [L1.l1,w2,s2];refine B9 (s':=⟨[(11,.t (iv (K:Int))),(10,.ptr nx 0),(9,CU F cur ko),(8,.ptr 0 0),(5,.t t)],H2,nx+1,121⟩) (sub_env (by simp -implicitDefEqProofs)) rfl ?_;refine D5 (Oq t nx K) (AfI t i nx K tk F cur) (λ_=>rfl) ?_ ?_
 .by_cases k1:K=1
  .have hb1:((K:Int)==1)=true:=by rw[k1];rfl
   cases hcur:cur with
   | none=>
    have hF:=I.emp hcur;simp only at hF;obtain⟨H3,ap,row,kk,_,c3⟩:=Qd (e:=eMd) (ty:=AD) (H:=H2) (b:=0) (l:=([]:List (RwC 10))) (by':=232) (nx:=nx+1) (⟨zMd,rfl⟩:RwC 10) 10 rfl (zMd.map .t) rfl (.inl rfl) (λh=>absurd rfl h) (by simp) (by simp);have row:=row.resolve_left (by simp);have hn:=gD F (λ_=>0);rw[hF,Yn]at hn;rw[hn]at row;have hrp:rowP eMd (nx+1+1) (([]:List (RwC 10))++[(⟨zMd,rfl⟩:RwC 10)]) = .row (nx+2) 0 1 10:=rfl;rw[hrp]at ap;have ap:B1 AD 10 232 ((nx+1,.cells AD (zMd.map .t))::H2) (nx+1+1) (.t Ad) (.row (nx+1) 0 1 10)=some (.row (nx+2) 0 1 10,H3,nx+1+2):=ap;have hb:=gC (nx+1)
    obtain⟨zr,hzr⟩:∃zr,zr=zMd.map PV.t:=⟨_,rfl⟩
    rw[<-hzr]at ap hb;refine A7 Af ?_;simp -implicitDefEqProofs [hb1,CU,gB,hb,ap,-AF];refine Aq.mk ⟨H3,nx+1+2,[],⟨⟨#[]⟩,[],λ_=>0⟩,nx+2⟩ ⟨by show Aa H3 0=_;rw[kk 0 (by omega) (λh=>absurd rfl h)];exact r2,⟨row,BZ.nil _ _ _,BC.nil _ _,BC.nil _ _,by show nx+2<nx+1+2;omega,by show nx+2≠0;omega⟩,by show Aa H3 nx=_;rw[kk nx (by omega) (λh=>absurd rfl h)];exact t2,BC.nil _ _,by show nx<nx+1+2;omega,by omega,by show nx≠nx+2;omega,c3 C2,Xe _,Xe _,.inl ⟨k1,by rw[hF];rfl,rfl⟩⟩ (sub_env (by simp -implicitDefEqProofs [Oq]))
   | some cu=>
    obtain⟨O,hN⟩:=O2 cu hcur;have lk:=Qr O.out O.M O.nk;have r3:Aa (B8 H2 (Ed cu.els cu.ks)) 0=some (rr t (i+1)):=SX r2 (Lg O.n0)
    have t3:Aa (B8 H2 (Ed cu.els cu.ks)) nx=some tk:=PF (Lg hN) t2 λy hy=>by
     injection hy with hy;subst hy;exact tkC 0 H2 _ λ_ _=>Xe _
    have C3:=C2.frz (Ed cu.els cu.ks);have fz1:B5 H2 (Ed cu.els cu.ks) (.row ko 0 (F.length+1) 10) = .row ko 0 (F.length+1) 10:=TC (Lg O.nk)
    obtain⟨H3,hH3⟩:∃H3,H3=B8 H2 (Ed cu.els cu.ks):=⟨_,rfl⟩
    rw[<-hH3]at lk r3 t3 C3
    obtain⟨F1,hF1⟩:∃F1,F1=F++[(⟨cu.name,cu.els⟩:Md)]:=⟨_,rfl⟩
    rw[<-hF1]at lk
    have hF1l:F1.length=F.length+1:=by rw[hF1,Xc];rfl
    have hne:F1.map Md.rw≠[]:=λe=>by have:=congrArg List.length e;rw[Xd,hF1l]at this;simp at this
    obtain⟨H4,ap,row,kk,_,c4⟩:=Qd (e:=eMd) (ty:=AD) (H:=H3) (b:=ko) (l:=F1.map Md.rw) (by':=232) (nx:=nx+1) (⟨zMd,rfl⟩:RwC 10) 10 rfl (zMd.map .t) rfl (.inr lk) (λ_=>O.lt) (by rw[Xd,hF1l];omega) (by rw[Xd,hF1l];omega);have row:=row.resolve_left (by simp);rw[gD F1 (λ_=>0)]at row
    have hrp:rowP eMd ko (F1.map Md.rw) = .row ko 0 (F.length+1) 10:=by rw[Kv _ _ _ hne,Xd,hF1l];rfl
    have hrp2:rowP eMd (nx+1+1) (F1.map Md.rw++[(⟨zMd,rfl⟩:RwC 10)]) = .row (nx+2) 0 (F1.length+1) 10:=by rw[Kv _ _ _ (by simp),Xc,Xd];rfl
    rw[hrp,hrp2]at ap;have ap:B1 AD 10 232 ((nx+1,.cells AD (zMd.map .t))::H3) (nx+1+1) (.row ko 0 (F.length+1) 10) (.row (nx+1) 0 1 10)=some (.row (nx+2) 0 (F1.length+1) 10,H4,nx+1+2):=ap;have hb:=gC (nx+1)
    obtain⟨zr,hzr⟩:∃zr,zr=zMd.map PV.t:=⟨_,rfl⟩
    rw[<-hzr]at ap hb;have hko:=O.ne
    have hnk:nx≠ko:=by
     have:=(I.out cu hcur).1.lt;simp only at this;omega
    refine B9 (s':=⟨[(11,.t (iv (K:Int))),(10,.ptr nx 0),(9,.row ko 0 (F.length+1) 10),(8,.ptr 0 0),(5,.t t)],H3,nx+1,121⟩) (by rw[hH3];exact EG _ (by simp -implicitDefEqProofs [CU,fz1,Il,Gh])) rfl ?_;refine A7 Af ?_;simp -implicitDefEqProofs [hb1,gB,hb,ap,-AF];refine Aq.mk ⟨H4,nx+1+2,F1,⟨⟨#[]⟩,[],λ_=>0⟩,nx+2⟩ ⟨by show Aa H4 0=_;rw[kk 0 (by omega) (λ_=>hko.symm)];exact r3,⟨row,BZ.nil _ _ _,BC.nil _ _,BC.nil _ _,by show nx+2<nx+1+2;omega,by show nx+2≠0;omega⟩,by show Aa H4 nx=_;rw[kk nx (by omega) (λ_=>hnk)];exact t3,BC.nil _ _,by show nx<nx+1+2;omega,by omega,by show nx≠nx+2;omega,c4 C3,Xe _,by show F1.length<=i+1;omega,.inl ⟨k1,by rw[hF1];rfl,rfl⟩⟩ (sub_env (by simp -implicitDefEqProofs [Oq]))
  .have hb1:((K:Int)==1)=false:=by rw[zu];omega
   cases hcur:cur with
   | none=>exact absurd hcur (kcur k1)
   | some cu=>
    obtain⟨O,hN⟩:=O2 cu hcur;obtain⟨_,hel⟩:=I.out cu hcur;simp only at hel
    have hnk:nx≠ko:=by
     have:=(I.out cu hcur).1.lt;simp only at this;omega
    refine A7 Af ?_;simp -implicitDefEqProofs [hb1,CU];exact Aq.mk ⟨H2,nx+1,F,cu,ko⟩ ⟨r2,O,t2,hN,by show nx<nx+1;omega,by omega,hnk,C2,by show cu.els.length<=i+1;omega,by show F.length<=i+1;omega,.inr ⟨k1,rfl,rfl⟩⟩ (sub_env (by simp -implicitDefEqProofs [Oq]))
 rintro⟨H3,n3,F1,cu,kb⟩ J;obtain⟨jrd,jO,jtk,jntk,jlt,jnt0,jnk,jcl,jel,jfl,jrel⟩:=J;simp only at jrd jO jtk jntk jlt jnt0 jnk jcl jel jfl jrel;have olt:=jO.lt;have one:=jO.ne
 have K1:1<=K:=by omega
 obtain⟨ps,e,i4,H4,n4,tb,hl,hclr,r4,hi4,hdis,k4,n4',c4,a1,a2⟩:=A6b (A3l (q:=q) (name:=cu.name) ht hlim hsm jrd (by omega) (show i+1<=ts.length by omega) jcl jO.M jO.n0 (by omega) K1 hK10);have CC:Ctx Xa (G q) _:=A5.nil.ctxH (B6.cons a2 .nil) mixed;have ia:=TB F1 kb;have lO:=TA jO.out;have hlr1:Bd (.row kb 0 (F1.length+1) 10)=some (.t (iv ((F1.length:Int)+1))):=rfl;have w3:Xz.wrap (F1.length:Int)=(F1.length:Int):=AH rfl (by omega)
 obtain⟨P,hP⟩:∃P,P=AN (AM cu.name cu.ks cu.els):=⟨_,rfl⟩
 obtain⟨P4,hP4⟩:∃P4,P4=AN ps:=⟨_,rfl⟩
 rw[<-hP]at lO a1;rw[<-hP4]at a1;obtain⟨x1,x2⟩:=Qm P4 e
 obtain⟨zp,hzp⟩:∃zp:List PV,zp=[.t (sv ⟨#[]⟩),.t Ad,.t Ad,.t Ad,.t Ad,.t Ad,.t Ad,.t Ad,.t Ad,.t Ad]:=⟨_,rfl⟩
 have st5:A8 10 ((n4,.cells AD [.t (sv ⟨#[]⟩),.t Ad,.t Ad,.t Ad,.t Ad,.t Ad,.t Ad,.t Ad,.t Ad,.t Ad])::H4) (.ptr n4 0) P4=some ((n4,.cells AD ps)::H4):=by
  rw[hP4];exact eI ps hl n4 AD _ rfl H4
 obtain⟨H5,hH5⟩:∃H5:Ab,H5=(n4,.cells AD ps)::H4:=⟨_,rfl⟩
 rw[<-hH5]at st5
 have k5:∀c,c<n4->Aa H5 c=Aa H4 c:=λc hc=>by rw[hH5,A1,zz (by omega)]
 have r5:Aa H5 0=some (rr t i4):=by rw[k5 0 (by omega)];exact r4
 have p5:Aa H5 n4=some (.cells AD ps):=by rw[hH5,A1,zy rfl]
 have t5:Aa H5 nx=some tk:=by rw[k5 nx (by omega),k4 nx jlt jnt0 jntk];exact jtk
 have o5:Aa H5 kb=some (.cells AD (E8 F1 cu)):=by rw[k5 kb (by omega),k4 kb olt one jO.nk];exact jO.out
 have C5:Cl H5 (n4+1):=by rw[hH5];exact(c4 jcl).cons ((hclr jcl).mono (Xj _)) (Xj _)
 obtain⟨lx5,_⟩:=ldt H5 t5;refine Ai CC ?_;simp -implicitDefEqProofs [Oq,hlr1,w3,ia,lO,a1,x1,x2,st5,-Bv];refine B9 (s':=⟨[(13,.t (iv e)),(12,.ptr n4 0),(10,.ptr nx 0),(9,.row kb 0 (F1.length+1) 10),(8,.ptr 0 0),(5,.t t)],H5,n4+1,121⟩) (sub_env (by simp -implicitDefEqProofs)) rfl ?_;rcases hdis with⟨ho,he⟩ | ⟨a,ho,rfl,name',ks',els',hps,hM,hN,hrel⟩
 .have hb1:(e==0)=false:=by rw[zu];exact he
  have hb2:(e != 0)=true:=by rw[bne_iff_ne];exact he
  have hRe:=hErr e (by rw[hcl];unfold clA;rw[<-hK,ho]);refine Ai Af ?_;simp -implicitDefEqProofs [hb1];refine Ai Af ?_;simp -implicitDefEqProofs [hb2,lx5];exact A6 ⟨.t (.tu [Ad,iv (x.l:Int),iv e]),H5,n4+1⟩ ⟨by rw[hRe]⟩ (by simp -implicitDefEqProofs)
 have hfa:=dW K _ _ _ ho;obtain⟨e2,i6,H6,n6,tc,r6,hi6,hd6,K6,b1,b2⟩:=cS (cU (q:=q) (nx:=n4+1) ht hlim r5 hi4 ⟨#[59]⟩);rw[show(⟨#[59]⟩:ByteArray).data.toList=[59]from rfl]at hd6;have CS:Ctx Xa (G q) _:=A5.nil.ctxH (B6.cons b2 .nil) mixed;have n6':=K6.n
 have t6:Aa H6 nx=some tk:=by rw[K6.k nx (by omega) jnt0];exact t5
 obtain⟨lx6,_⟩:=ldt H6 t6;refine Ai CS ?_;simp -implicitDefEqProofs [b1];rcases hd6 with⟨hsk,rfl⟩ | ⟨hsk,he⟩
 rotate_left
 .have hb2:(e2 != 0)=true:=by rw[bne_iff_ne];exact he
  have hRe:=hErr e2 (by rw[hcl];unfold clA;rw[<-hK,ho];simp only;rw[hsk]);refine Ai Af ?_;simp -implicitDefEqProofs [hb2,lx6];exact A6 ⟨.t (.tu [Ad,iv (x.l:Int),iv e2]),H6,n6⟩ ⟨by rw[hRe]⟩ (by simp -implicitDefEqProofs)
 have hclk:clA (ts.map kt) (kt x) i = .ok (a,i6):=by
  unfold clA;rw[<-hK,ho];simp only;rw[hsk]
 have hs6:=LW hsk;rw[hcl,hclk]at hz;simp only at hz
 have p6:Aa H6 n4=some (.cells AD ps):=by rw[K6.k n4 (by omega) (by omega)];exact p5
 have o6:Aa H6 kb=some (.cells AD (E8 F1 cu)):=by rw[K6.k kb (by omega) one];exact o5
 have lP:=GJ p6 hl;have sP:=A5x o6 hl;rw[<-hP4]at lP sP
 obtain⟨H7,hH7⟩:∃H7,H7=Xb H6 kb (.cells AD ((F1.flatMap Md.cs).map .t++ps)):=⟨_,rfl⟩
 rw[<-hH7]at sP;refine Ai Af ?_;simp -implicitDefEqProofs;refine A7 Af ?_;simp -implicitDefEqProofs [hlr1,w3,lP,ia,sP];have N0:=hN 0 (by omega) jO.n0;have Nk:=hN kb olt jO.nk
 have hadd:S.add a=DO F1 (some ⟨name',els',ks'⟩):=by
  rcases jrel with⟨k1,hF1,hel0⟩ | ⟨k1,hF1,hcur⟩
  .subst k1;obtain⟨n,rfl⟩:=fZ ho;obtain⟨rfl,rfl⟩:=hrel;rw[hel0,hS,hF1];rfl
  .obtain⟨y,rfl⟩:=gA k1 ho;obtain⟨rfl,rfl⟩:=hrel;rw[hF1,hS,hcur];rfl
 have hel':els'.length<=i+2:=by
  rcases jrel with⟨k1,hF1,hel0⟩ | ⟨k1,hF1,hcur⟩
  .subst k1;obtain⟨n,rfl⟩:=fZ ho;obtain⟨rfl,rfl⟩:=hrel;omega
  .obtain⟨y,rfl⟩:=gA k1 ho;obtain⟨rfl,rfl⟩:=hrel;rw[Xc,Xs];omega
 refine Aq.mk ⟨H7,n6,i6,F1,some ⟨name',els',ks'⟩,kb,m⟩ ⟨⟨?_,?_,hi6,?_,?_,?_,λh=>(by cases h),λcu' h=>?_,?_⟩,X9 m⟩ (sub_env (by simp -implicitDefEqProofs [SPs,CU]))
 .show Z=Gi (ts.map kt) m i6 _;rw[hz,hadd]
 .show Aa H7 0=_;rw[hH7,A9,zz (Ne.symm one)];exact r6
 .show ts.length<i6+m;omega
 .show Cl H7 n6;rw[hH7];refine(K6.cl C5).upd (ClR.cells λp hp=>?_);rcases Xi.1 hp with hp | hp
  .obtain⟨y,_,rfl⟩:=Xl.1 hp;exact ClP.t _ _
  .exact(ClR.mem (hclr jcl) p hp).mono (by omega)
 .show 0<n6;omega
 .injection h with h;subst h;refine⟨⟨?_,hM.keep (λj hj=>?_) (by show n4<=n6;omega),N0,Nk,by show kb<n6;omega,one⟩,by show els'.length<=i6;omega⟩
  .show Aa H7 kb=some (.cells AD ((F1.flatMap Md.cs).map .t++AM name' ks' els'));rw[hH7,A9,zy rfl,o6,hps];rfl
  .have hlt:=hM.lt j hj;show Aa H7 _=_;rw[hH7,A9,zz (λh=>Nk j hj h.symm),K6.k _ (by omega) (λh=>N0 j hj h.symm)];exact k5 _ hlt
 .show F1.length<=i6;omega
def gPs (ts:List T):Option T:=match ts with
 | [.v (.string s)]=>if s.size<=1000000 then some (FK (Er s.data.toList))else none
 | _=>none
theorem hPs:GOK Xa (G q) 14 gPs:=λargs r h=>by
 unfold gPs at h;split at h
 .split at h
  .rename_i hs;injection h with h;subst h;exact A6d _ hs
  .cases h
 .cases h
theorem Ot {s:ByteArray} (hs:s.size<=1000000):gPs [sv s]=some (FK (Er s.data.toList)):=zy hs
abbrev ex1:List UInt8:=[109,111,100,117,108,101,32,109,59,32,116,121,112,101,32,116,121,112,101,59,32,101,110,116,114,121,32,101,110,116,114,121,32,34,97,34,32,61,32,116,121,112,101,59]
abbrev ex2:List UInt8:=[109,111,100,117,108,101,32,109,59,10,116,121,112,101,32,97,32,60,32,98]
abbrev ex3:List UInt8:=[116,121,112,101,32,97,59]
abbrev ex4:List UInt8:=[109,111,100,117,108,101,32,109,59,32,101,110,116,114,121,32,97,32,34,84,104,101,34,32,61,32,116,59]
abbrev exP:List UInt8:=[109,111,100,117,108,101,32,109,59,10,116,121,112,101,32,116,121,112,101,59,10,101,110,116,114,121,32,101,110,116,114,121,32,34,97,34,32,61,32,116,121,112,101,59,10]
abbrev exT:ByteArray:=bs [116,121,112,101]
def exM:Md:=⟨bs [109],[.typ ⟨exT,[],[]⟩,.ent [bs [97]] ⟨bs [101,110,116,114,121],.mk 1 exT [] [],[]⟩]⟩
theorem A6e:Er ex1 = .ok [exM]:=by kernel_rfl
theorem A6f:Er ex2 = .error (2,9):=by kernel_rfl
theorem A6g:Er ex3 = .error (1,8):=by kernel_rfl
theorem A6h:Er ex4 = .error (1,1):=by kernel_rfl
structure Sh (m:ML):Prop where
 p0:∀s∈m.imps,(A5f s).length<=60000000
 p1:∀x∈m.typs,(A5g x).length<=60000000
 p2:∀d∈m.tmps,(dnW A5l d).length<=60000000
 p3:∀p∈m.ents,(A5h p).length<=60000000
 p4:∀p∈m.lexs,(A5i p).length<=60000000
 p5:∀d∈m.ruls,(dnW A5m d).length<=60000000
 p6:∀d∈m.roos,(dnW A5n d).length<=60000000
 p7:∀p∈m.chks,(A5j p).length<=60000000
 p8:∀s∈m.drps,(A5k s).length<=60000000
end Go.Proofs.YtobnacghaamfoaaGreatDoor
