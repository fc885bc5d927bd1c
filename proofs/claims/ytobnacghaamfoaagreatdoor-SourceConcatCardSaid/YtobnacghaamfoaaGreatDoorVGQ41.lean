/- Auxiliary facts. -/
import Derived.Test.YtobnacghaamfoaaGreatDoorVGQ40
set_option linter.unusedSimpArgs false
set_option maxRecDepth 100000
set_option maxHeartbeats 0
set_option linter.unusedVariables false
open Go.Proofs.Tryz renaming prog->Xa,f118->Yj
open List renaming length_append->Xb,mem_of_getElem?->Xd,mem_singleton->Xe,mem_append->Xf,length_cons->Xg,length_map->Xk,mem_cons->Xl,length_nil->Xm,all_eq_true->Xn,mem_map->Xo,getElem?_eq_getElem->Xr,getElem?_map->Xt,append_nil->Xu,length_singleton->Xv,eq_nil_of_length_eq_zero->Xw,getElem?_eq_some_iff->Xx,map_cons->Xy,append_assoc->Xz,not_mem_nil->X6,flatMap_cons->X8,size_toArray->Ya,drop_of_length_le->Yc,map_append->Yf,nil_append->Yg,getElem?_take->Yh,flatMap_append->Yk,length_drop->Ym,sum_append->Yn,mem_range->Ys,any_eq_true->Yt,flatMap_nil->Yu,mem_cons_self->Yv,mem_cons_of_mem->Yw,any_eq_false->Yz,append_eq_nil_iff->Y0,length_take->Y3,all_cons->Y4,take_left->Y6,length_pos_iff->Y8,exists_cons_of_ne_nil->Za
open Go.Abs renaming upd->Xc
open Nat renaming le_refl->Xh,zero_le->Xi,le_succ->Xp,zero_add->X7,lt_succ_self->Ye,le_trans->Yl,le_add_right->Yx,lt_of_lt_of_le->Y9
open Go.IntKind renaming i64->Xj
open Array renaming getElem?_eq_some_iff->Xq,ext'->Xs,getElem?_setIfInBounds->Yb,getElem?_modify->Yi,getElem?_push->Yo,size_modify->Y7
open Bool renaming and_eq_true->X0,false_eq_true->Yd,and_self->Yr,and_eq_false_iff->Y1,and_true->Y5
open Option renaming map_some->X9,map_eq_some_iff->Yp,map->Yy
open Go.Result renaming andThen->Yq
namespace Go.Proofs.YtobnacghaamfoaaGreatDoor
open Go Go.Abs
variable {q : Gl}
set_option maxRecDepth 100000
def iE (ops:Array Oper) (dp:List (List Nat)):Bool:=(List.range ops.size).all λi=>(dp.getD i []).all λd=>match ops[i]? with
 | some o=>o.after.toList.any λe=>e.on==d&&Region.binds .any e
 | none=>false
def iF (ops:Array Oper):Bool:=(List.range ops.size).all λi=>match ops[i]? with
 | some o=>o.after.toList.all λe=>!(Region.binds .any e)||decide (e.on<i)
 | none=>false
theorem A6t {ops:Array Oper} {dp:List (List Nat)} (h:iE ops dp=true) {i:Nat} {o:Oper} (ho:ops[i]?=some o) {b:Nat->Bool} (hb:∀e∈o.after.toList,Region.binds .any e=true->b e.on=true):∀d∈dp.getD i [],b d=true:=by
 intro d hd;have hi:i<ops.size:=(Xq.1 ho).1;have h1:=Xn.1 h i (Ys.2 hi);have h2:=Xn.1 h1 d hd;rw[ho]at h2;obtain⟨e,he,h3⟩:=Yt.1 h2;simp only[X0,beq_iff_eq]at h3;rw[<-h3.1];exact hb e he h3.2
theorem A6u {ops:Array Oper} (h:iF ops=true) (i:Nat) (o:Oper) (ho:ops[i]?=some o):∀e∈o.after.toList,Region.binds .any e=true->e.on<i:=by
 intro e he hb;have hi:i<ops.size:=(Xq.1 ho).1;have h1:=Xn.1 h i (Ys.2 hi);rw[ho]at h1;have h2:=Xn.1 h1 e he;rw[hb]at h2;simpa using h2
noncomputable def Ih:Code:=match Yj.body with
 | some c=>c
 | none=>.skip
def hdQ:Code->Code
 | .seq x _=>x
 | c=>c
def tlQ:Code->Code
 | .seq _ y=>y
 | c=>c
def A6v:Code->Array Oper
 | .region _ ops _=>ops
 | _=>#[]
noncomputable def LF:Array Oper:=A6v (hdQ (tlQ (tlQ Ih)))
theorem A6w:Yj.body=some Ih:=by kernel_rfl
theorem A6x:Ih = .seq (hdQ Ih) (.seq (hdQ (tlQ Ih)) (.seq (.region 2 LF true) (tlQ (tlQ (tlQ Ih))))):=by kernel_rfl
def iG:An:=.ops [⟨(some 2),.mv,[(.k (.t (.v (.int .i64 0))))],none⟩,⟨(some 3),.mv,[(.k (.t (.v (.int .i64 0))))],none⟩]
def iH:An:=.ops [⟨(some 7),(.load false 1),[(.tmp 0)],none⟩,⟨(some 8),(.hcall 117),[(.tmp 7)],none⟩,⟨(some 6),.mv,[(.tmp 8)],none⟩,⟨(some 9),(.ext 0),[(.tmp 6)],none⟩,⟨(some 10),(.ext 1),[(.tmp 6)],none⟩,⟨(some 4),(.alloc 57 [(.int .i64 0),(.string ⟨#[]⟩),(.slice none 0 0),(.slice none 0 0)]),[],none⟩,⟨none,(.store 4),[(.tmp 4),(.tmp 9)],none⟩,⟨(some 5),.mv,[(.tmp 10)],none⟩]
def iI:List A3:=[⟨(some 11),(.faddr 5),[(.tmp 1)],none⟩,⟨(some 12),(.load false 1),[(.tmp 11)],none⟩,⟨(some 13),(.load true 4),[(.tmp 4)],none⟩,⟨(some 14),.lensl,[(.tmp 12)],none⟩,⟨(some 15),(.tslice 57 4 [(.int .i64 0),(.string ⟨#[]⟩),(.slice none 0 0),(.slice none 0 0)] 1 [0]),[(.k (.t (.ag [(.v (.int .i64 0)),(.v (.string ⟨#[]⟩)),(.v (.slice none 0 0)),(.v (.slice none 0 0))])))],none⟩,⟨(some 16),(.app 57 4 72),[(.tmp 12),(.tmp 15)],none⟩,⟨(some 17),(.iaddr 4),[(.tmp 16),(.tmp 14)],none⟩,⟨none,(.store 4),[(.tmp 17),(.tmp 13)],none⟩,⟨(some 18),(.faddr 5),[(.tmp 1)],none⟩,⟨none,(.store 1),[(.tmp 18),(.tmp 16)],none⟩]
def iJ:An:=.seq (.ops [⟨(some 19),(.faddr 5),[(.tmp 1)],none⟩,⟨(some 20),(.load false 1),[(.tmp 19)],none⟩,⟨(some 21),.lensl,[(.tmp 20)],none⟩,⟨(some 22),.mv,[(.tmp 5)],none⟩,⟨(some 2),.mv,[(.tmp 21)],none⟩,⟨(some 3),.mv,[(.tmp 22)],none⟩]) .ret
theorem A6y:comp Xa (G q) 23 (hdQ Ih)=some iG:=by kernel_rfl
theorem A6z:comp Xa (G q) 23 (hdQ (tlQ Ih))=some iH:=by kernel_rfl
theorem A7a:comp Xa (G q) 23 (tlQ (tlQ (tlQ Ih)))=some iJ:=by kernel_rfl
theorem A7b:LF.toList.mapM (EZ Xa (G q) 23 true LF)=some iI:=by kernel_rfl
def FE:List (List Nat):=[[],[0],[],[1],[],[0,1,2,3,4],[5,3],[6,2,5],[],[8,5]]
theorem A7c:iE LF FE=true:=by kernel_rfl
theorem A7d:iF LF=true:=by kernel_rfl
theorem A7e:LF.size=10:=by kernel_rfl
structure Rg where
 kb:Nat
 kd:Nat
 nd:Nat
 na:Nat
 n:Int
 e:Int
 p:PV
 p':PV
 A:PV
 xs:List T
 Ha:Ab
 H2:Ab
 H27:Ab
 H29:Ab
 H279:Ab
abbrev zs4:List T:=[iv 0,sv ⟨#[]⟩,Ah,Ah]
structure iK (g:Rg):Prop where
 f1:Aj false 1 g.Ha (.ptr g.kd 5)=some g.p
 f2:Aj true 4 g.Ha (.ptr g.nd 0)=some (.t (.ag g.xs))
 f3:AO g.p=some (.t (iv g.n))
 f5:Cc 57 4 72 g.Ha g.na g.p (.t (.sl 1 zs4))=some (g.p',g.H2,g.na+1)
 f6:Bd 4 g.p' (.t (iv g.n))=some g.A
 f7:AM 4 g.H2 g.A (.t (.ag g.xs))=some g.H27
 f7b:AM 4 g.H29 g.A (.t (.ag g.xs))=some g.H279
 f9:AM 1 g.H2 (.ptr g.kd 5) g.p'=some g.H29
 f9b:AM 1 g.H27 (.ptr g.kd 5) g.p'=some g.H279
def DE (g:Rg):List (Nat×PV×PV):=[(11,.ptr g.kd 5,.dead),(12,g.p,.dead),(13,.t (.ag g.xs),.dead),(14,.t (iv g.n),.dead),(15,.t (.sl 1 zs4),.dead),(16,g.p',.dead),(17,g.A,.dead),(101,.dead,.dead),(18,.ptr g.kd 5,.dead),(102,.dead,.dead)]
def Ee (g:Rg):List (Nat×PV):=[(5,.t (iv g.e)),(4,.ptr g.nd 0),(1,.ptr g.kd 0)]
def Dl (g:Rg) (b:Nat->Bool):Ab:=if b 9 then(if b 7 then g.H279 else g.H29)else if b 7 then g.H27 else if b 5 then g.H2 else g.Ha
def DT (g:Rg) (b:Nat->Bool):Ad:=⟨Dw (DE g) 0 b++Ee g,Dl g b,if b 5 then g.na+1 else g.na,23⟩
structure LG (b:Nat->Bool):Prop where
 a5:b 5=true->b 0=true/\b 1=true/\b 2=true/\b 3=true/\b 4=true
 a7:b 7=true->b 5=true/\b 6=true
 a9:b 9=true->b 5=true/\b 8=true
abbrev pls (b:Nat->Bool) (i:Nat):Nat->Bool:=λj=>if i=j then true else b j
theorem Jl {b:Nat->Bool} {i j:Nat} (h:b j=true):pls b i j=true:=by
 show(if i=j then true else b j)=true;split
 .rfl
 .exact h
theorem LG.pls {b:Nat->Bool} (ok:LG b) {i:Nat} (h5:i=5->b 0=true/\b 1=true/\b 2=true/\b 3=true/\b 4=true) (h7:i=7->b 5=true/\b 6=true) (h9:i=9->b 5=true/\b 8=true):LG (pls b i):=by
 refine⟨λh=>?_,λh=>?_,λh=>?_⟩
 .have:b 0=true/\b 1=true/\b 2=true/\b 3=true/\b 4=true:=by
   by_cases e:i=5
   .exact h5 e
   .exact ok.a5 (by simpa[e]using h)
  exact⟨Jl this.1,Jl this.2.1,Jl this.2.2.1,Jl this.2.2.2.1,Jl this.2.2.2.2⟩
 .have:b 5=true/\b 6=true:=by
   by_cases e:i=7
   .exact h7 e
   .exact ok.a7 (by simpa[e]using h)
  exact⟨Jl this.1,Jl this.2⟩
 .have:b 5=true/\b 8=true:=by
   by_cases e:i=9
   .exact h9 e
   .exact ok.a9 (by simpa[e]using h)
  exact⟨Jl this.1,Jl this.2⟩
section
variable {g : Rg} {b : Nat -> Bool} {Φ : A7}
theorem iL:((DE g).map (·.1)).Nodup:=by
 show [11,12,13,14,15,16,17,101,18,102].Nodup;decide
theorem UJ:∀p∈Ee g,p.1∉(DE g).map (·.1)/\Aa (Ee g) p.1=some p.2:=by
 intro p hp;have e:(DE g).map (·.1)=[11,12,13,14,15,16,17,101,18,102]:=rfl;rw[e];simp only[Ee,Xl,X6,or_false]at hp;rcases hp with rfl | rfl | rfl<;>exact⟨by simp,rfl⟩
theorem Ku {B:Nat} {j:Nat} {x:Nat×PV×PV} {H0:Ab} {n0:Nat} (hx:(DE g)[j]?=some x) (h:H0=Dl g (pls b j)) (hn:n0=if pls b j 5 then g.na+1 else g.na) :
  Sub Xa (G q) B (({ DT g b with H:=H0,nx:=n0 }:Ad).put (some x.1) x.2.1) (DT g (pls b j)):=by
 subst h;subst hn;exact A6p iL UJ hx
theorem Ry {B:Nat} {j:Nat} {H0:Ab} {n0 k:Nat} (hx:(DE g)[j]?=some (k,.dead,.dead)) (h:H0=Dl g (pls b j)) (hn:n0=if pls b j 5 then g.na+1 else g.na) :
  Sub Xa (G q) B (({ DT g b with H:=H0,nx:=n0 }:Ad).put none (.t (.v undef))) (DT g (pls b j)):=by
 subst h;subst hn;refine iB λp hp=>?_;rcases Xf.1 hp with hp | hp
 .obtain⟨i,y,h1,rfl⟩:=Rx hp;simp only[X7];by_cases e:j=i
  .subst e;rw[hx]at h1;injection h1 with h1;subst h1;left;simp
  .right;show Aa (Dw (DE g) 0 b++Ee g) y.1=_;rw[UH iL h1,X7];simp[pls,e]
 .right;obtain⟨h1,h2⟩:=UJ p hp;show Aa (Dw (DE g) 0 b++Ee g) p.1=_;rw[UI h1];exact h2
theorem A7f {B:Nat} (hΦ:Φ.Sound Xa (G q)) {Q:Exit->Ad->Prop} {id:Nat} (K:iK g) (stop:Q .normal (DT g λ_=>true)):Cq Xa (G q) B (.region id LF true) Q ⟨Ee g,g.Ha,g.na,23⟩:=by
 refine A5q mixed hΦ A7b (DT g) LG (λ_=>rfl) (A6u A7d) ?_ ⟨λh=>(by cases h),λh=>(by cases h),λh=>(by cases h)⟩ (λb ok i o m ho hm hbi hdeps=>?_) (λb ok hall=>?_)
 .refine iB λp hp=>?_;rcases Xf.1 hp with hp | hp
  .obtain⟨j,x,h1,rfl⟩:=Rx hp;left
   have:∀x∈DE g,x.2.2 = .dead:=by simp[DE]
   exact this x (Xd h1)
  .exact .inr (UJ p hp).2
 .have hd:=A6t A7c ho hdeps;clear hdeps ho;have okp:i≠5->i≠7->i≠9->LG (pls b i):=λh1 h2 h3=>ok.pls (λh=>absurd h h1) (λh=>absurd h h2) (λh=>absurd h h3)
  have early:b 5=false->Dl g b=g.Ha:=λh5=>by
   have h7:b 7=false:=by cases h:b 7 with | false=>rfl | true=>have:=(ok.a7 h).1;rw[h5]at this;cases this
   have h9:b 9=false:=by cases h:b 9 with | false=>rfl | true=>have:=(ok.a9 h).1;rw[h5]at this;cases this
   unfold Dl;rw[h9,h7,h5];rfl
  have n5:∀k,k<5->b k=false->b 5=false:=λk hk hb=>by
   cases h:b 5 with
   | false=>rfl
   | true=>
    obtain⟨c0,c1,c2,c3,c4⟩:=ok.a5 h
    match k,hk with
    | 0,_=>rw[c0]at hb;cases hb
    | 1,_=>rw[c1]at hb;cases hb
    | 2,_=>rw[c2]at hb;cases hb
    | 3,_=>rw[c3]at hb;cases hb
    | 4,_=>rw[c4]at hb;cases hb
  rcases i with _ | _ | _ | _ | _ | _ | _ | _ | _ | _ | i
  .injection hm with hm;subst hm;exact⟨rfl,.ptr g.kd 5,Dl g b,if b 5 then g.na+1 else g.na,by simp -implicitDefEqProofs [DT,DE,Dw,Ee],okp (by omega) (by omega) (by omega),Ku (j:=0) rfl rfl rfl⟩
  .injection hm with hm;subst hm;have d0:b 0=true:=hd 0 (by simp[FE]);have hh:=early (n5 1 (by omega) hbi);exact⟨rfl,g.p,Dl g b,if b 5 then g.na+1 else g.na,by simp -implicitDefEqProofs [DT,DE,Dw,Ee,d0,hh,K.f1],okp (by omega) (by omega) (by omega),Ku (j:=1) rfl rfl rfl⟩
  .injection hm with hm;subst hm;have hh:=early (n5 2 (by omega) hbi);exact⟨rfl,.t (.ag g.xs),Dl g b,if b 5 then g.na+1 else g.na,by simp -implicitDefEqProofs [DT,DE,Dw,Ee,hh,K.f2],okp (by omega) (by omega) (by omega),Ku (j:=2) rfl rfl rfl⟩
  .injection hm with hm;subst hm;have d1:b 1=true:=hd 1 (by simp[FE]);exact⟨rfl,.t (iv g.n),Dl g b,if b 5 then g.na+1 else g.na,by simp -implicitDefEqProofs [DT,DE,Dw,Ee,d1,K.f3],okp (by omega) (by omega) (by omega),Ku (j:=3) rfl rfl rfl⟩
  .injection hm with hm;subst hm;exact⟨rfl,.t (.sl 1 zs4),Dl g b,if b 5 then g.na+1 else g.na,rfl,okp (by omega) (by omega) (by omega),Ku (j:=4) rfl rfl rfl⟩
  .injection hm with hm;subst hm;have d1:b 1=true:=hd 1 (by simp[FE]);have d4:b 4=true:=hd 4 (by simp[FE]);have hh:=early hbi
   have h7:b 7=false:=by cases h:b 7 with | false=>rfl | true=>have:=(ok.a7 h).1;rw[hbi]at this;cases this
   have h9:b 9=false:=by cases h:b 9 with | false=>rfl | true=>have:=(ok.a9 h).1;rw[hbi]at this;cases this
   exact⟨rfl,g.p',g.H2,g.na+1,by simp -implicitDefEqProofs [DT,DE,Dw,Ee,d1,d4,hh,hbi,K.f5],ok.pls (λ_=>⟨hd 0 (by simp[FE]),d1,hd 2 (by simp[FE]),hd 3 (by simp[FE]),d4⟩) (by omega) (by omega),Ku (j:=5) rfl (by simp[Dl,pls,h7,h9]) rfl⟩
  .injection hm with hm;subst hm;have d5:b 5=true:=hd 5 (by simp[FE]);have d3:b 3=true:=hd 3 (by simp[FE]);exact⟨rfl,g.A,Dl g b,if b 5 then g.na+1 else g.na,by simp -implicitDefEqProofs [DT,DE,Dw,Ee,d5,d3,K.f6],okp (by omega) (by omega) (by omega),Ku (j:=6) rfl rfl rfl⟩
  .injection hm with hm;subst hm;have d6:b 6=true:=hd 6 (by simp[FE]);have d5:b 5=true:=hd 5 (by simp[FE]);have d2:b 2=true:=hd 2 (by simp[FE]);have ok':LG (pls b 7):=ok.pls (by omega) (λ_=>⟨d5,d6⟩) (by omega)
   cases h9:b 9 with
   | false=>
    have hh:Dl g b=g.H2:=by simp[Dl,h9,hbi,d5]
    exact⟨rfl,.t (.v undef),g.H27,g.na+1,by simp -implicitDefEqProofs [DT,DE,Dw,Ee,d6,d2,d5,hh,K.f7],ok',Ry (j:=7) (k:=101) rfl (by simp[Dl,pls,h9]) (by simp[pls,d5])⟩
   | true=>
    have hh:Dl g b=g.H29:=by simp[Dl,h9,hbi]
    exact⟨rfl,.t (.v undef),g.H279,g.na+1,by simp -implicitDefEqProofs [DT,DE,Dw,Ee,d6,d2,d5,hh,K.f7b],ok',Ry (j:=7) (k:=101) rfl (by simp[Dl,pls,h9]) (by simp[pls,d5])⟩
  .injection hm with hm;subst hm;exact⟨rfl,.ptr g.kd 5,Dl g b,if b 5 then g.na+1 else g.na,by simp -implicitDefEqProofs [DT,DE,Dw,Ee],okp (by omega) (by omega) (by omega),Ku (j:=8) rfl rfl rfl⟩
  .injection hm with hm;subst hm;have d8:b 8=true:=hd 8 (by simp[FE]);have d5:b 5=true:=hd 5 (by simp[FE]);have ok':LG (pls b 9):=ok.pls (by omega) (by omega) (λ_=>⟨d5,d8⟩)
   cases h7:b 7 with
   | false=>
    have hh:Dl g b=g.H2:=by simp[Dl,h7,hbi,d5]
    exact⟨rfl,.t (.v undef),g.H29,g.na+1,by simp -implicitDefEqProofs [DT,DE,Dw,Ee,d8,d5,hh,K.f9],ok',Ry (j:=9) (k:=102) rfl (by simp[Dl,pls,h7]) (by simp[pls,d5])⟩
   | true=>
    have hh:Dl g b=g.H27:=by simp[Dl,h7,hbi]
    exact⟨rfl,.t (.v undef),g.H279,g.na+1,by simp -implicitDefEqProofs [DT,DE,Dw,Ee,d8,d5,hh,K.f9b],ok',Ry (j:=9) (k:=102) rfl (by simp[Dl,pls,h7]) (by simp[pls,d5])⟩
  .simp[iI]at hm
 .have hb:DT g b=DT g λ_=>true:=by
   have e:∀i,i<10->b i=true:=λi hi=>hall i (by rw[A7e];exact hi);unfold DT Dl;simp only[DE,Dw,e 0 (by omega),e 1 (by omega),e 2 (by omega),e 3 (by omega),e 4 (by omega),e 5 (by omega),e 6 (by omega),e 7 (by omega),e 8 (by omega),e 9 (by omega),X7,Nat.reduceAdd]
  rw[hb];exact stop
end
end Go.Proofs.YtobnacghaamfoaaGreatDoor
namespace Go.Abs
open Go
theorem iM {α:Type}:∀(H:List (Nat×α)) {a b:Nat} (x y:α),a≠b->Xc (Xc H a x) b y=Xc (Xc H b y) a x
 | [],a,b,x,y,h=>rfl
 | (k,z)::r,a,b,x,y,h=>by
  by_cases e1:k=a
  .subst e1;simp only[Xc,if_true,zz h]
  .by_cases e2:k=b
   .subst e2;simp only[Xc,if_true,zz e1]
   .simp only[Xc,zz e1,zz e2];rw[iM r x y h]
end Go.Abs
namespace Go.Proofs.YtobnacghaamfoaaGreatDoor
open Go Go.Abs
variable {q : Gl}
section
variable {t : T} {k0 kb kd o tyD i nx nx0 : Nat} {cs : List T} {X : List (Nat × Row)} {H H0 : Ab} {l : List Tok}
theorem A7g (ht:IsS Aw t l) (hlim:l.length<=1000000) (hB:Nd X kb k0) (hcs:cs.length=6):Rf q l t k0 118 [.ptr kb 0,.ptr kd 0] (AA (l.map kt) 64) (LsI eD BR l t k0 kd 5 tyD cs X H0 nx0) where
 rd I:=⟨I.rd,I.i⟩
 st I h:=I.st h
 fw h:=(DR 64 _ _ _ h).1
 one {i out H nx} I hoi:=by
  have hi:=I.i;have hk:=I.k0;have hn:=I.K.n;obtain⟨y,e,j1,H1,n1,ta,rd1,hj1,⟨d,rfl⟩,hd,K1,a1,a2⟩:=E7 (fP (q:=q) ht hlim I.rd (nx:=nx) (by omega) I.i);have I1:=I.kr K1 rd1 hj1;have b0:=G7 hB I.x;have n1':=K1.n;have CA:Ctx Xa (G q) _:=As.nil.ctxH (AF.cons a2 .nil) mixed;have hdl:=HJ d;have Ka:Kr k0 H1 n1 ((n1,.cells BR ((Ba d).map .t))::H1) (n1+1):=Kr.refl.cons (ClR.trees _ _ _);have st1:AM 4 ((n1,.cells BR [.t (iv 0),.t (sv ⟨#[]⟩),.t Ah,.t Ah])::H1) (.ptr n1 0) (.t (.ag (Ba d)))=some ((n1,.cells BR ((Ba d).map .t))::H1):=Dv rfl hdl H1
  obtain⟨Ha,hHa⟩:∃Ha:Ab,Ha=(n1,.cells BR ((Ba d).map .t))::H1:=⟨_,rfl⟩
  have pa:Aa Ha n1=some (.cells BR ((Ba d).map .t)):=by rw[hHa,Az,zy rfl]
  rw[<-hHa]at Ka st1
  have ra:Aa Ha k0=some (rr t j1):=by rw[hHa,Az,zz (by omega)];exact rd1
  have I2:=I1.kr Ka ra hj1;obtain⟨kv,d1,d2,d3,d4,d5,d6⟩:=I2.d;have hkd:=I2.kd;have hkd0:=I1.kd
  have hlen:5<(cs.map PV.t).length:=by rw[Xk];omega
  have hol:out.length<=1000000:=by omega
  obtain⟨H2,ap,row2,k2,f2,c2⟩:=A1i (e:=eD) (ty:=BR) (by':=72) (nx:=n1+1) zDs 4 rfl zs4 rfl d2 d4 (by omega) (by omega)
  obtain⟨m,hm⟩:∃m:Int,m=((out++[d]).length:Int):=⟨_,rfl⟩
  obtain⟨p',hp'⟩:∃p',p'=rowP eD (n1+1) (out++[d]):=⟨_,rfl⟩
  have hp2:rowP eD (n1+1) (out++[zDs])=p':=by
   rw[hp',MM _ _ _ (by simp),MM _ _ _ (by simp),Xb,Xb];rfl
  rw[hp2]at ap;have row2':Aa H2 (n1+1)=some (rowOf eD BR (out++[zDs])):=row2.resolve_left (by simp)
  obtain⟨A,hA⟩:∃A:PV,A = .ptr (n1+1) (out.length*4):=⟨_,rfl⟩
  have hia:Bd 4 p' (.t (iv (out.length:Int)))=some A:=by
   have:=xH (e:=eD) (b:=n1+1) (l:=out++[d]) (i:=out.length) (x:=d) (by simp);rw[hp',MM _ _ _ (by simp),hA];exact this
  have hfl:(out.flatMap eD.enc).length=out.length*4:=IH eD out
  have hsp:Bp (((out++[zDs]).flatMap eD.enc).map PV.t) (out.length*4) ((Ba d).map .t)=((out++[d]).flatMap eD.enc).map PV.t:=by
   have hz:(eD.enc zDs).length=4:=eD.len zDs;rw[Rh,Yk,Yk,PI (by simp only[Xb,hfl,X8,Yu,Xu,hz,hdl];omega)];simp only[X8,Yu,Xu];rw[List.take_left' hfl,hdl,Yc (by rw[Xb,hfl,hz];omega),Xu];rfl
  have wr:∀Hx,Aa Hx (n1+1)=some (rowOf eD BR (out++[zDs]))->AM 4 Hx A (.t (.ag (Ba d)))=some (Xc Hx (n1+1) (rowOf eD BR (out++[d]))):=λHx hx=>by
   rw[hA];have h1:=Fw (n:=4) (o:=out.length*4) (t:=.t (.ag (Ba d))) (ns:=(Ba d).map .t) hx rfl (by rw[Xk];exact hdl) (by rw[Xk,IH,Xb];show _<=(out.length+1)*4;omega);rw[h1,hsp];rfl
  obtain⟨D,hD⟩:∃D:Row,D = .cells tyD (Bp (cs.map .t) 5 [p']):=⟨_,rfl⟩
  have pd:Aa H2 kd=some (.cells tyD (Bp (cs.map .t) 5 [rowP eD kv out])):=by rw[k2 kd hkd.2 d5.symm];exact d1
  have cp:Bj p'=some [p']:=by rw[hp'];cases out<;>rfl
  have wf:∀Hx,Aa Hx kd=some (.cells tyD (Bp (cs.map .t) 5 [rowP eD kv out]))->AM 1 Hx (.ptr kd 5) p'=some (Xc Hx kd D):=λHx hx=>by
   have h1:=Fw (n:=1) (o:=5) hx cp rfl (by rw[fK _ _ _ (show 5+1<=_ from hlen)];exact hlen);rw[fL]at h1;rw[h1,hD]
  obtain⟨H27,h27⟩:∃H27,H27=Xc H2 (n1+1) (rowOf eD BR (out++[d])):=⟨_,rfl⟩
  obtain⟨H29,h29⟩:∃H29,H29=Xc H2 kd D:=⟨_,rfl⟩
  obtain⟨HF,hF⟩:∃HF,HF=Xc H27 kd D:=⟨_,rfl⟩
  have q27:Aa H27 kd=some (.cells tyD (Bp (cs.map .t) 5 [rowP eD kv out])):=by rw[h27,AN,zz (by omega)];exact pd
  have q29:Aa H29 (n1+1)=some (rowOf eD BR (out++[zDs])):=by rw[h29,AN,zz (by omega)];exact row2'
  have w7:=wr H2 row2';have w7b:=wr H29 q29;have w9:=wf H2 pd;have w9b:=wf H27 q27;rw[<-h27]at w7;rw[h29,iM _ _ _ (by omega),<-h27,<-hF,<-h29]at w7b;rw[<-h29]at w9;rw[<-hF]at w9b
  have ld1:Aj false 1 Ha (.ptr kd 5)=some (rowP eD kv out):=by
   simp only[Aj,d1,Yd,if_false];exact Uq _ _ _ hlen
  have K:iK ⟨kb,kd,n1,n1+1,(out.length:Int),e,rowP eD kv out,p',A,Ba d,Ha,H2,H27,H29,HF⟩:=⟨ld1,ldN pa hdl,HD _ _ _,ap,hia,w7,w7b,w9,w9b⟩
  have gd:Aa HF kd=some D:=by rw[hF,AN,zy rfl,q27];rfl
  have ge:Aa HF (n1+1)=some (rowOf eD BR (out++[d])):=by rw[hF,AN,zz (by omega),h27,AN,zy rfl,row2'];rfl
  have gk:∀c,c<n1+1->c≠kd->c≠kv->Aa HF c=Aa Ha c:=λc h1 h2 h3=>by
   rw[hF,AN,zz h2,h27,AN,zz (by omega)];exact k2 c h1 h3
  have KF:Kr k0 H0 nx0 HF (n1+2):=by
   have K1':=I2.K.app (H'':=H2) (nx'':=n1+2) d3 k2 (by omega) f2 c2;have K2':=K1'.upd (b:=n1+1) (.inr (by omega)) (ClR.rowOf (n1+2) eD BR (out++[d]));rw[<-h27]at K2';rw[hF];refine K2'.upd (.inr hkd0.1) ?_;rw[hD];refine ClR.cells λp hp=>?_;rcases List.mem_or_eq_of_mem_set hp with hp | rfl
   .obtain⟨y,_,rfl⟩:=Xo.1 hp;exact ClP.t _ _
   .rw[hp']
    exact ClP.rowP λ_=>by omega
  have IF:LsI eD BR l t k0 kd 5 tyD cs X H0 nx0 j1 (out++[d]) HF (n1+2):=by
   refine⟨by rw[gk k0 (by omega) (by omega) (by omega)];exact ra,hj1,λp hp=>?_,⟨n1+1,by rw[gd,hD,hp'],.inr ge,by omega,by omega,by omega,λp hp=>by have:=(I2.x p hp).2.2.1;omega⟩,KF,hk,hkd.1,by omega⟩;obtain⟨x1,x2,x3,x4,x5⟩:=I2.x p hp;exact⟨by rw[gk p.1 x3 x4 (d6 p hp)];exact x1,x2,by omega,x4,x5⟩
  have ld2:Aj false 1 HF (.ptr kd 5)=some p':=by
   simp only[Aj,gd,hD,Yd,if_false];exact Uq _ _ _ hlen
  have hl2:AO p'=some (.t (iv m)):=by rw[hp',hm];exact HD _ _ _
  have fF:Frs H nx->Frs HF (n1+2):=λh=>by
   have:=f2 (Ka.fr (K1.fr h));rw[hF,h27];exact this.upd.upd
  have hc:AH Xa (G q) 118 [.ptr kb 0,.ptr kd 0] H nx (.t (.tu [iv m,iv e])) HF (n1+2):=by
   refine A6s (fn:=Yj) (c:=Ih) (vs:=[(.tmp 2),(.tmp 3)]) (N:=23) Tryz.func118 A6w (by kernel_rfl) (by kernel_rfl) (by kernel_rfl) ?_;rw[A6x];refine iC Ac A6y ?_;simp -implicitDefEqProofs [iG];refine iC CA A6z ?_;simp -implicitDefEqProofs [iH,b0,a1,st1];refine iD (s':=⟨Ee ⟨kb,kd,n1,n1+1,(out.length:Int),e,rowP eD kv out,p',A,Ba d,Ha,H2,H27,H29,HF⟩,Ha,n1+1,23⟩) (sub_env (by simp -implicitDefEqProofs [Ee])) rfl ?_;refine A6r (α:=Unit) (λ_=>DT ⟨kb,kd,n1,n1+1,(out.length:Int),e,rowP eD kv out,p',A,Ba d,Ha,H2,H27,H29,HF⟩ λ_=>true) (λ_=>True) (λ_=>rfl) (λ_=>A7f Ac.sound K ⟨(),trivial,Sub.refl _⟩) λ_ _=>?_;refine iD (s':=⟨[(5,.t (iv e)),(4,.ptr n1 0),(1,.ptr kd 0)],HF,n1+2,23⟩) (sub_env (by simp -implicitDefEqProofs [DT,DE,Dw,Ee])) rfl ?_;refine A6q Ac A7a ?_;simp -implicitDefEqProofs [iJ,ld2,hl2];exact bW (by simp -implicitDefEqProofs)
  refine⟨⟨_,_,_⟩,⟨m,e,j1,out++[d],rfl,IF,?_⟩,fF,hc⟩;rcases hd with⟨x,hx,hxy,rfl⟩ | ⟨hx,he⟩
  .have:d=x:=by
    injection hxy with hxy;exact Qm _ _ hxy
   subst this;exact .inl ⟨d,hx,rfl,hm,rfl⟩
  .exact .inr ⟨hx,he⟩
end
abbrev Ef:Nat:=59
abbrev zDf:List T:=[sv ⟨#[]⟩,iv 0,sv ⟨#[]⟩,Ah,Ah,Ah]
theorem A7h (Φ:A7) (H:Ab) (nx:Nat) (a:ByteArray):Ai Φ H nx (.build [(0,1),(1,4),(5,1)] [.string ⟨#[]⟩,.int .i64 0,.string ⟨#[]⟩,.slice none 0 0,.slice none 0 0,.slice none 0 0] [0]) [.t (sv a)]=some (.t (.ag [sv a,iv 0,sv ⟨#[]⟩,Ah,Ah,Ah]),H,nx):=rfl
theorem A7i (a z1 z2 z3 z4 z5:T) (d:Ds):Bp [a,z1,z2,z3,z4,z5] 1 (Ba d)=a::(Ba d++[z5]):=by
 cases d;rw[Ba];rfl
theorem A7j (a z y:T) (d:Ds):Bp (a::(Ba d++[z])) 5 [y]=a::(Ba d++[y]):=by
 cases d;rw[Ba];rfl
theorem A7k (a z:T) (d:Ds):(a::(Ba d++[z]))[5]?=some z:=by
 cases d;rw[Ba];rfl
theorem Jm (a z:T) (d:Ds):(a::(Ba d++[z])).length=6:=by
 rw[Xg,Xb,HJ];rfl
section
variable {t : T} {k0 i nx : Nat} {H : Ab} {l : List Tok}
theorem UK (ht:IsS Aw t l) (hlim:l.length<=1000000) (h0:Aa H k0=some (rr t i)) (hk:k0<nx) (hi:i<=l.length) (hC:Cl H nx) (name:ByteArray) :
  ∃f:Fin,StR l t k0 H nx (ShA 6) (λd=>.ag (Dfn.cs d)) (Db (l.map kt) name i) f/\AH Xa (G q) 100 [.ptr k0 0,.t (sv name)] H nx f.r f.H f.nx:=by
 obtain⟨Z,hZ⟩:∃Z,Z=Db (l.map kt) name i:=⟨_,rfl⟩
 rw[<-hZ];refine uE.callX rfl ?_;(conv in ZY=>cbv);refine Ae Ac ?_;simp -implicitDefEqProofs;refine Ae Ac ?_
 obtain⟨ns,hns⟩:∃ns:List T,ns=[sv name,iv 0,sv ⟨#[]⟩,Ah,Ah,Ah]:=⟨_,rfl⟩
 have u1:∀R ys,ys.length=6->AM 6 ((nx+2,.cells Ef ys)::R) (.ptr (nx+2) 0) (.t (.ag ns))=some ((nx+2,.cells Ef (ns.map .t))::R):=λR ys h=>Dv h (by rw[hns];rfl) R;rw[hns]at u1;simp -implicitDefEqProofs [A7h,u1,-Bo]
 obtain⟨X,hX⟩:∃X:List (Nat×Row),X=[(nx,.cells 64 [.ptr k0 0]),(nx+1,.cells Ef (zDf.map .t))]:=⟨_,rfl⟩
 obtain⟨H3,hH3⟩:∃H3:Ab,H3=(nx+2,.cells Ef (ns.map .t))::(nx+1,.cells Ef (zDf.map .t))::(nx,.cells 64 [.ptr k0 0])::H:=⟨_,rfl⟩
 have I:DrI l t k0 (nx+2) Ef ns X H nx i H3 (nx+3):=by
  refine⟨by rw[hH3,Az,zz (by omega),Az,zz (by omega),Az,zz (by omega)];exact h0,hi,λp hp=>?_,by rw[hH3,Az,zy rfl],?_,hk,by omega,by omega⟩
  .rw[hX]at hp;simp only[Xl,X6,or_false]at hp;rcases hp with rfl | rfl
   .exact⟨by rw[hH3,Az,zz (by show nx+2≠nx;omega),Az,zz (by show nx+1≠nx;omega),Az,zy rfl],Xh _,by show nx<_;omega,by show nx≠_;omega,ClR.cells λp hp=>by
     rw[Xe]at hp;subst hp;exact ClP.ptr _ _ _⟩
   .exact⟨by rw[hH3,Az,zz (by show nx+2≠nx+1;omega),Az,zy rfl],Xp _,by show nx+1<_;omega,by show nx+1≠_;omega,ClR.trees _ _ _⟩
  .rw[hH3];exact((Kr.refl.cons (ClR.cells λp hp=>by rw[Xe]at hp;subst hp;exact ClP.ptr _ _ _)).cons (ClR.trees _ _ _)).cons (ClR.trees _ _ _)
 have hB:Nd X nx k0:=⟨64,by rw[hX];simp⟩
 have hA:(nx+1,Row.cells Ef (zDf.map .t))∈X:=by rw[hX];simp
 refine Bg (s':=⟨[(6,.ptr (nx+2) 0),(4,.ptr (nx+1) 0),(2,.ptr nx 0)],H3,nx+3,43⟩) (by rw[hH3,hns];exact sub_env (by simp -implicitDefEqProofs)) rfl ?_;clear hH3 hX u1;have b0:=G7 hB I.x;obtain⟨e,j,H4,n4,ta,r4,hj,hd,K4,a1,a2⟩:=fC (fJ (q:=q) (nx:=nx+3) ht hlim I.rd I.i ⟨#[61]⟩);rw[show(⟨#[61]⟩:ByteArray).data.toList=[61]from rfl]at hd;have CA:Ctx Xa (G q) _:=As.nil.ctxH (AF.cons a2 .nil) mixed;have I4:=I.kr K4 r4 hj;have n4':=K4.n;refine Ae CA ?_;simp -implicitDefEqProofs [b0,a1];rcases hd with⟨hsk,rfl⟩ | ⟨hsk,he⟩
 rotate_left
 .have hb:(e != 0)=true:=by rw[bne_iff_ne];exact he
  have ld:=I4.ld (n:=6) (by rw[hns];rfl);obtain⟨H7,st7,ld7,K7,r7⟩:=I4.fin (n:=6) (ds:=ns) hA rfl (by rw[hns];rfl);refine Ae Ac ?_;simp -implicitDefEqProofs [hb,ld,st7];exact A0 ⟨.t (.tu [.ag ns,iv e]),H7,n4⟩ ⟨⟨_,e,j,rfl,r7,hj,⟨_,rfl,by rw[hns];rfl⟩,.inr ⟨by rw[hZ];unfold Db;rw[hsk],he⟩⟩,K7⟩ (by simp -implicitDefEqProofs [ld7])
 refine Ae Ac ?_;simp -implicitDefEqProofs;have b4:=G7 hB I4.x;obtain⟨y,e,j5,H5,n5,tb,r5,hj5,⟨d,rfl⟩,hd,K5,t1,t2⟩:=E7 (fP (q:=q) (nx:=n4) ht hlim I4.rd (by omega) I4.i);have I5:=I4.kr K5 r5 hj5;have n5':=K5.n;have CB:Ctx Xa (G q) _:=As.nil.ctxH (AF.cons t2 .nil) mixed;obtain⟨st5,I6⟩:=I5.set (n:=4) (o:=1) (Ba d) (HJ d) (by rw[hns];show 1+4<=6;omega);rw[hns,A7i]at I6 st5
 obtain⟨H6,hH6⟩:∃H6,H6=Xc H5 (nx+2) (.cells Ef ((sv name::(Ba d++[Ah])).map .t)):=⟨_,rfl⟩
 rw[<-hH6]at I6 st5;refine Ae CB ?_;simp -implicitDefEqProofs [b4,t1,st5];have b6:=G7 hB I6.x;have ld6:=I6.ld (n:=6) (Jm _ _ _).symm;obtain⟨H7,st7,ld7,K7,r7⟩:=I6.fin (n:=6) (ds:=sv name::(Ba d++[Ah])) hA rfl (Jm _ _ _);rcases hd with⟨d',hdd,hxy,rfl⟩ | ⟨hdd,he⟩
 rotate_left
 .have hb:(e != 0)=true:=by rw[bne_iff_ne];exact he
  refine Ae Ac ?_;simp -implicitDefEqProofs [hb,ld6,st7];exact A0 ⟨.t (.tu [.ag (sv name::(Ba d++[Ah])),iv e]),H7,n5⟩ ⟨⟨_,e,j5,rfl,r7,hj5,⟨_,rfl,Jm _ _ _⟩,.inr ⟨by rw[hZ];unfold Db;rw[hsk];simp only;rw[hdd],he⟩⟩,K7⟩ (by simp -implicitDefEqProofs [ld7])
 have hdx:d=d':=by
  injection hxy with hxy;exact Qm _ _ hxy
 subst hdx;obtain⟨tn,m1,m2⟩:=Ji (q:=q) (nx:=n5) ht I6.rd ⟨#[47]⟩;rw[show(⟨#[47]⟩:ByteArray).data.toList=[47]from rfl]at m1;have CN:Ctx Xa (G q) _:=As.nil.ctxH (AF.cons m2 .nil) mixed
 cases hs:Be (l.map kt) j5 [47]with
 | false=>
  rw[hs]at m1;refine Ae CN ?_;simp -implicitDefEqProofs [b6,m1,ld6,st7];exact A0 ⟨.t (.tu [.ag (sv name::(Ba d++[Ah])),iv 0]),H7,n5⟩ ⟨⟨_,0,j5,rfl,r7,hj5,⟨_,rfl,Jm _ _ _⟩,.inl ⟨⟨name,d,[]⟩,by rw[hZ];unfold Db;rw[hsk];simp only;rw[hdd];simp only;unfold C8;rw[zz (by rw[hs];decide)],rfl,rfl⟩⟩,K7⟩ (by simp -implicitDefEqProofs [ld7])
 | true=>
  rw[hs]at m1;have lj:=DQ hs;rw[Xk]at lj;have L6:=E6 I6.rd;have s3:=Jh I6.rd j5;have I8:=I6.st (j:=j5+1) lj;have e2:Xj.wrap ((j5:Int)+1)=(j5:Int)+1:=AP (n:=j5+1) (by omega) (by omega)
  obtain⟨H8,hH8⟩:∃H8,H8=Xc H6 k0 (rr t (j5+1)):=⟨_,rfl⟩
  rw[<-hH8]at s3 I8;have b8:=G7 hB I8.x;have I9:=I8.ls (o:=5) eD BR (A7k _ _ _);obtain⟨⟨fr,HA,nA⟩,⟨e,jA,df,hr,IA,hd⟩,hf,hc⟩:=Up (q:=q) (A7g ht hlim hB (Jm _ _ _)) ht hlim I9 ⟨#[47]⟩;simp only at hr IA hf hc;subst hr;obtain⟨tc,c1,c2⟩:=hAt hc hf;have CL:Ctx Xa (G q) _:=As.nil.ctxH (AF.cons c2 .nil) mixed;obtain⟨kv,IB⟩:=IA.dr hC (by rw[Jm];omega);rw[A7j]at IB;refine Ae CN ?_;simp -implicitDefEqProofs [b6,m1];refine Ae Ac ?_;simp -implicitDefEqProofs [b6,L6.l1,e2,s3];refine Bg (s':=⟨[(6,.ptr (nx+2) 0),(4,.ptr (nx+1) 0),(2,.ptr nx 0)],H8,n5+1,43⟩) ((O7 (Xp _)).trans (sub_env (by simp -implicitDefEqProofs))) rfl ?_;refine Ae CL ?_;simp -implicitDefEqProofs [b8,Ur,c1];refine Bg (s':=⟨[(7,.t (iv e)),(6,.ptr (nx+2) 0),(4,.ptr (nx+1) 0),(2,.ptr nx 0)],B1 HA [kv],nA,43⟩) (EI [kv] (by simp -implicitDefEqProofs [Lr,O8])) rfl ?_
  obtain⟨HB,hHB⟩:∃HB,HB=B1 HA [kv]:=⟨_,rfl⟩
  rw[<-hHB]at IB ⊢;have ldB:=IB.ld (n:=6) (Jm _ _ _).symm;obtain⟨HC,stC,ldC,KC,rC⟩:=IB.fin (n:=6) (ds:=sv name::(Ba d++[Aq eD df])) hA rfl (Jm _ _ _);refine Ar Ac ?_;simp -implicitDefEqProofs [ldB,stC];refine A0 ⟨.t (.tu [.ag (sv name::(Ba d++[Aq eD df])),iv e]),HC,nA⟩ ⟨⟨_,e,jA,rfl,rC,IB.i,⟨_,rfl,Jm _ _ _⟩,?_⟩,KC⟩ (by simp -implicitDefEqProofs [ldC])
  have hop:C8 (l.map kt) [47] (JV (l.map kt)) j5=Ch (l.map kt) (AA (l.map kt) 64) (⟨#[47]⟩:ByteArray).data.toList 256 ((l.map kt).length+1) (j5+1) []:=by
   unfold C8;rw[zy hs];rfl
  rcases hd with⟨hz,rfl⟩ | ⟨hz,he⟩
  .exact .inl ⟨⟨name,d,df⟩,by rw[hZ];unfold Db;rw[hsk];simp only;rw[hdd];simp only;rw[hop,hz],rfl,rfl⟩
  .exact .inr ⟨by rw[hZ];unfold Db;rw[hsk];simp only;rw[hdd];simp only;rw[hop,hz],he⟩
end
section
variable {l : List KT} {rec rec' : Nat -> Res Ds} {k : Nat}
theorem LH {parts parts':List Ds} {p':Nat} {r:Res Ds} (h:DX parts r = .ok (parts',p')):∃d,r = .ok (d,p')/\parts'=parts++[d]:=by
 unfold DX at h;split at h
 .cases h
 .injection h with h;injection h with e1 e2;subst e1;subst e2;exact⟨_,rfl,rfl⟩
end
def Dx {α:Type} (l:List KT) (step:Nat->Res α):Prop:=∀p x p',step p = .ok (x,p')->p<p'/\p'<=l.length
section
variable {l M : List KT} {d p p' : Nat} {α : Type}
theorem GA {step:Nat->Res α} (hs:Dx l step) (sep:List UInt8) (mx:Nat):∀(f p:Nat) (out out':List α) (p':Nat),Ch l step sep mx f p out = .ok (out',p')->p<p'/\p'<=l.length/\out.length<out'.length/\(out.length+1<=mx->out'.length<=mx)
 | 0,p,out,out',p',h=>by cases h
 | f+1,p,out,out',p',h=>by
  rw[Ch]at h;split at h
  .cases h
  .rename_i x p1 h1;have h2:=hs _ _ _ h1;split at h
   .split at h
    .cases h
    .rename_i hl;have ih:=GA hs sep mx f _ _ _ _ h;simp only[Xb,Xv]at ih;omega
   .injection h with h;injection h with e1 e2;subst e1;subst e2;simp only[Xb,Xv];omega
theorem Ii (k:Int):Dx l (λp=>AJ l p k):=λp x p' h=>by have:=Dc h;omega
theorem iN {a b:Int} {f:Nat->Res (ByteArray×ByteArray)} (hf:∀p,f p=match AJ l p a with
  | .error e=>.error e
  | .ok (s,p1)=>match AJ l p1 b with
   | .error e=>.error e
   | .ok (v,p2)=>.ok ((s,v),p2)):Dx l f:=λp x p' h=>by
 rw[hf]at h;split at h
 .cases h
 .rename_i s p1 h1;split at h
  .cases h
  .rename_i v p2 h2;injection h with h;injection h with _ h;subst h;have a1:=Dc h1;have a2:=Dc h2;omega
theorem Rz:Dx l (ftS l):=iN λ_=>rfl
theorem Ni:Dx l (DB l):=iN λ_=>rfl
theorem R1:Dx l (HO l):=λp x p' h=>by have:=GA (Ii 1) _ _ _ _ _ _ _ h;exact⟨this.1,this.2.1⟩
theorem R3:Dx l (HP l):=λp x p' h=>by have:=GA Rz _ _ _ _ _ _ _ h;exact⟨this.1,this.2.1⟩
theorem iO:Dx l (Gx l):=λp x p' h=>by have:=GA (Ii 2) _ _ _ _ _ _ _ h;exact⟨this.1,this.2.1⟩
theorem R4:Dx l (JV l):=λp x p' h=>by have:=GA (DR 64) _ _ _ _ _ _ _ h;exact⟨this.1,this.2.1⟩
theorem iP:Dx l (Hh l):=λp x p' h=>by have:=GA Ni _ _ _ _ _ _ _ h;exact⟨this.1,this.2.1⟩
def R5 (l:List KT) {α:Type} (f:Nat->Res α):Prop:=∀p x p',f p = .ok (x,p')->p<=p'/\(p<=l.length->p'<=l.length)
theorem Dx.o {f:Nat->Res α} (h:Dx l f):R5 l f:=λp x p' e=>by have:=h p x p' e;omega
theorem LI {s:List UInt8} {f:Nat->Res (List α)} (hf:Dx l f):R5 l (C8 l s f):=λp x p' h=>by
 unfold C8 at h;split at h
 .have:=hf _ _ _ h;omega
 .injection h with h;injection h with _ h;subst h;exact⟨Xh _,λh=>h⟩
theorem A7l (name:ByteArray):R5 l (Fi l name):=λp x p' h=>by
 unfold Fi at h;split at h
 .cases h
 .rename_i su p1 h1;split at h
  .cases h
  .rename_i fe p2 h2;injection h with h;injection h with _ h;subst h;have a1:=LI R1 _ _ _ h1;have a2:=LI R3 _ _ _ h2;omega
theorem LJ (name:ByteArray):Dx l (Db l name):=λp x p' h=>by
 unfold Db at h;split at h
 .cases h
 .rename_i p1 h1;split at h
  .cases h
  .rename_i x p2 h2;split at h
   .cases h
   .rename_i df p3 h3;injection h with h;injection h with _ h;subst h;have a1:=HR h1;have a2:=DR 64 _ _ _ h2;have a3:=LI R4 _ _ _ h3;omega
theorem R6 (k:Int):Dx l (Er l k):=λp x p' h=>by
 unfold Er at h;split at h
 .cases h
 .rename_i c p1 h1;injection h with h;injection h with _ h;subst h;exact iP _ _ _ h1
theorem R7:Dx l (C9 l):=λp x p' h=>by
 unfold C9 at h;split at h
 .cases h
 .rename_i s p1 h1;have a1:=Dc h1;split at h
  .injection h with h;injection h with _ h;subst h;omega
  .split at h
   .have:=R6 _ _ _ _ h;omega
   .split at h
    .have:=R6 _ _ _ _ h;omega
    .cases h
theorem A7m (name:ByteArray):Dx l (DZ l name):=λp x p' h=>by
 unfold DZ at h;split at h
 .cases h
 .rename_i s p1 h1;split at h
  .cases h
  .split at h
   .cases h
   .rename_i df p2 h2;injection h with h;injection h with _ h;subst h;have a1:=Dc h1;have a2:=LJ _ _ _ _ h2;omega
theorem A7n (name:ByteArray):Dx l (EJ l name):=λp x p' h=>by
 unfold EJ at h;split at h
 .cases h
 .rename_i s p1 h1;split at h
  .cases h
  .rename_i df p2 h2;injection h with h;injection h with _ h;subst h;have a1:=R7 _ _ _ h1;have a2:=LJ _ _ _ _ h2;omega
theorem Jn {f:Dfn->El} {r:Res Dfn} {x:El} (h:elD f r = .ok (x,p')):∃y,r = .ok (y,p')/\x=f y:=by
 unfold elD at h;split at h
 .cases h
 .injection h with h;injection h with e h;subst h;subst e;exact⟨_,rfl,rfl⟩
theorem iQ (k:Nat) (name:ByteArray):R5 l (Dr l k name):=λp x p' h=>by
 unfold Dr at h;split at h
 .injection h with h;injection h with _ h;subst h;exact⟨Xh _,λh=>h⟩
 .split at h
  .split at h
   .cases h
   .rename_i y p1 h1;injection h with h;injection h with _ h;subst h;exact A7l _ _ _ _ h1
  .split at h
   .exact(A7m _).o _ _ _ h
   .split at h
    .exact(A7n _).o _ _ _ h
    .split at h
     .obtain⟨y,h,_⟩:=Jn h;exact(LJ _).o _ _ _ h
     .split at h
      .obtain⟨y,h,_⟩:=Jn h;exact(LJ _).o _ _ _ h
      .obtain⟨y,h,_⟩:=Jn h;exact(LJ _).o _ _ _ h
theorem A7o (k:Nat):Dx l (elS l k):=λp x p' h=>by
 unfold elS at h;split at h
 .split at h
  .cases h
  .rename_i y p1 h1;injection h with h;injection h with _ h;subst h;exact iO _ _ _ h1
 .split at h
  .split at h
   .cases h
   .rename_i y p1 h1;injection h with h;injection h with _ h;subst h;have:=Dc h1;omega
  .split at h
   .cases h
   .rename_i y p1 h1;have a1:=Dc h1;have a2:=iQ _ _ _ _ _ h;omega
theorem UL (k:Nat):Dx l (Bs l k):=λp x p' h=>by
 unfold Bs at h;split at h
 .split at h
  .cases h
  .rename_i y p1 h1;injection h with h;injection h with _ h;subst h;have:=Dc h1;omega
 .split at h
  .cases h
  .rename_i y p1 h1;injection h with h;injection h with _ h;subst h;exact A7o _ _ _ _ h1
def clA (l:List KT) (t:KT) (p:Nat):Res Fx:=match Bs l (D1 t) (p+1)with
 | .error e=>.error e
 | .ok (a,p1)=>match B6 l p1 [59]with
  | .error e=>.error e
  | .ok p2=>.ok (a,p2)
theorem GB (s:Sta) (t:KT) (p:Nat):MN l s t p=if CQ s (D1 t)≠0 then .error (CQ s (D1 t))else clA l t p:=rfl
theorem R8 (t:KT):Dx l (clA l t):=λp x p' h=>by
 unfold clA at h;split at h
 .cases h
 .rename_i a p1 h1;split at h
  .cases h
  .rename_i p2 h2;injection h with h;injection h with _ h;subst h;have a1:=UL _ _ _ _ h1;have a2:=HR h2;omega
end
def LK (r:Res Afx):T:=match r with
 | .ok (a,p)=>.tu [.ag a.cs,iv (p:Int),iv 0]
 | .error e=>.tu [.ag [iv 0,Ah],iv 0,iv e]
abbrev BN:Nat:=29
abbrev Kv:Nat:=69
theorem A7p {l:List Tok} {t:T} (ht:IsS Aw t l) (Φ:A7) (H:Ab) (nx:Nat) (i:Nat):Ai Φ H nx (.build [(0,1),(1,1)] [.slice none 0 0,.int .i64 0] [0,1]) [.t t,.t (iv (i:Int))]=some (.t (.ag [t,iv (i:Int)]),H,nx):=by
 rcases ht with⟨rfl,_⟩ | rfl<;>rfl
theorem UM {s:ByteArray} {L:List UInt8} (h:s≠⟨L.toArray⟩):(s.toList==L)=false:=by
 rw[HI,zu];intro e;apply h;rw[<-e]
theorem LM (Φ:A7) (H:Ab) (nx:Nat):Ai Φ H nx (.build [(0,1),(1,1)] [.int .i64 0,.slice none 0 0] []) []=some (.t (.ag [iv 0,Ah]),H,nx):=rfl
theorem bsC (n:Nat) (a b:ByteArray):EE Kv 2 [.string ⟨#[]⟩,.string ⟨#[]⟩] 1 [(0,.t (.ag [sv a,sv b]))] n=some (.row n 0 1 2,.cells Kv [.t (sv a),.t (sv b)]):=rfl
structure AfC where
 H:Ab
 nx:Nat
 i:Nat
 out:List (ByteArray×ByteArray)
 m:Nat
def SAf (kd:Nat) (c:AfC):Ad:=⟨[(10,.ptr kd 0),(7,.ptr 1 0),(4,.ptr 0 0)],c.H,c.nx,83⟩
abbrev zAf:List T:=[iv 0,Ah]
section
variable {t : T} {l : List Tok} {i : Nat}
theorem iR (ht:IsS Aw t l) (hlim:l.length<=1000000) (hi:i<=l.length):A1 Xa (G q) 11 [t,iv (i:Int)] (· = LK (C9 (l.map kt) i)):=by
 obtain⟨Z,hZ⟩:∃Z,Z=C9 (l.map kt) i:=⟨_,rfl⟩
 rw[<-hZ];refine CG (args:=[t,iv (i:Int)]) ?_;refine sS.callX rfl ?_;(conv in YS=>cbv);refine Ae Ac ?_;simp -implicitDefEqProofs;refine Ae Ac ?_;simp -implicitDefEqProofs [A7p ht,-Bo]
 obtain⟨H0,hH0⟩:∃H0:Ab,H0=[(1,rr t i),(0,.cells BN (zAf.map .t))]:=⟨_,rfl⟩
 have r0:Aa H0 1=some (rr t i):=by rw[hH0];rfl
 have z0:Aa H0 0=some (.cells BN (zAf.map .t)):=by rw[hH0];rfl
 have C0:Cl H0 2:=λc x hx=>by
  rw[hH0,Az]at hx;split at hx
  .injection hx with hx;subst hx;exact HZ 2 t i
  .rw[Az]at hx;split at hx
   .injection hx with hx;subst hx;exact ClR.trees _ _ _
   .cases hx
 refine Bg (s':=⟨[(7,.ptr 1 0),(4,.ptr 0 0)],H0,2,83⟩) (by rw[hH0];exact sub_env (by simp -implicitDefEqProofs)) rfl ?_;obtain⟨y,e,j,H1,n1,ta,r1,hj,⟨s,rfl⟩,hd,K1,a1,a2⟩:=E7 (Ia (q:=q) ht hlim r0 (nx:=2) (by omega) hi 1);have CA:Ctx Xa (G q) _:=As.nil.ctxH (AF.cons a2 .nil) mixed;have n1':=K1.n
 have z1:Aa H1 0=some (.cells BN (zAf.map .t)):=by rw[K1.k 0 (by omega) (by omega)];exact z0
 have fin:∀(Hx:Ab) (ds:List T),ds.length=2->Aa Hx 0=some (.cells BN (zAf.map .t))->∃Hy,AM 2 Hx (.ptr 0 0) (.t (.ag ds))=some Hy/\Aj true 2 Hy (.ptr 0 0)=some (.t (.ag ds))/\Aa Hy 1=Aa Hx 1:=λHx ds hd hx=>by
  refine⟨_,Jk hx rfl hd,ldN (ty:=BN) (ds:=ds) ?_ hd,by rw[AN,zz (by omega)]⟩;rw[AN,zy rfl,hx];rfl
 refine Ae CA ?_;simp -implicitDefEqProofs [a1];rcases hd with⟨x,hx,hxy,rfl⟩ | ⟨hx,he⟩
 rotate_left
 .have hb:(e != 0)=true:=by rw[bne_iff_ne];exact he
  obtain⟨Hy,sy,ly,_⟩:=fin H1 zAf rfl z1;refine Ae Ac ?_;simp -implicitDefEqProofs [hb,LM,sy,-Bo];exact A0 ⟨.t (.tu [.ag zAf,iv 0,iv e]),Hy,n1⟩ ⟨by rw[hZ];unfold C9;rw[hx];rfl⟩ (by simp -implicitDefEqProofs [ly])
 injection hxy with hxy;injection hxy with hxy;subst hxy;unfold C9 at hZ;rw[hx]at hZ;simp only at hZ;refine Ae Ac ?_;simp -implicitDefEqProofs;refine Ae Ac ?_;simp -implicitDefEqProofs
 obtain⟨Hk,hHk⟩:∃Hk:Int->Ab,Hk=λk=>(n1,.cells BN ([iv k,Ah].map .t))::H1:=⟨_,rfl⟩
 refine Bg (s':=⟨[(10,.ptr n1 0),(8,.t (sv s)),(7,.ptr 1 0),(4,.ptr 0 0)],Hk 0,n1+1,83⟩) (by rw[hHk];exact sub_env (by simp -implicitDefEqProofs)) rfl ?_
 have rk:∀k,Aa (Hk k) 1=some (rr t j):=λk=>by rw[hHk];show Aa (_::H1) 1=_;rw[Az,zz (by omega)];exact r1
 have zk:∀k,Aa (Hk k) 0=some (.cells BN (zAf.map .t)):=λk=>by rw[hHk];show Aa (_::H1) 0=_;rw[Az,zz (by omega)];exact z1
 have dk:∀k,Aa (Hk k) n1=some (.cells BN ([iv k,Ah].map .t)):=λk=>by rw[hHk];show Aa (_::H1) n1=_;rw[Az,zy rfl]
 have wk:∀k,AM 1 (Hk 0) (.ptr n1 0) (.t (iv k))=some (Hk k):=λk=>by
  have h1:=Fw (n:=1) (o:=0) (ns:=[.t (iv k)]) (t:=.t (iv k)) (dk 0) rfl rfl (by show 0+1<=2;omega);rw[h1,hHk];simp only[Xc,if_true];rfl
 have Kk:∀k,Kr 1 H0 2 (Hk k) (n1+1):=λk=>by rw[hHk];exact K1.cons (ClR.trees _ _ _)
 have L0:=E6 (rk 0);have ld0:Aj true 2 (Hk 0) (.ptr n1 0)=some (.t (.ag [iv 0,Ah])):=ldN (dk 0) rfl;clear hHk;refine AE (λk:Int=>⟨[(10,.ptr n1 0),(7,.ptr 1 0),(4,.ptr 0 0)],Hk k,n1+1,83⟩) (λk=>Z=Er (l.map kt) k j) (λ_=>rfl) ?_ ?_
 .refine Ae Ac ?_;simp -implicitDefEqProofs;refine AG ?_
  by_cases hn:s=⟨#[110,111,110,101]⟩
  .rw[zy hn]at hZ;subst hn;obtain⟨Hy,sy,ly,ey⟩:=fin (Hk 0) [iv 0,Ah] rfl (zk 0);have Ly:=E6 (ey.trans (rk 0));refine Ar Ac ?_;simp -implicitDefEqProofs [ld0,L0.l1,sy,Ly.l1];exact A0 ⟨.t (.tu [.ag [iv 0,Ah],iv (j:Int),iv 0]),Hy,n1+1⟩ ⟨by rw[hZ];rfl⟩ (by simp -implicitDefEqProofs [ly])
  rw[zz hn]at hZ;have hn':(s.toList==[110,111,110,101])=false:=UM hn
  by_cases hs:s=⟨#[115,117,102,102,105,120]⟩
  .rw[zy hs]at hZ;subst hs;refine Ar Ac ?_;simp -implicitDefEqProofs [wk];exact Am.mk (1:Int) hZ (sub_env (by simp -implicitDefEqProofs))
  rw[zz hs]at hZ;have hs':(s.toList==[115,117,102,102,105,120])=false:=UM hs
  by_cases hp:s=⟨#[112,114,101,102,105,120]⟩
  .rw[zy hp]at hZ;subst hp;refine Ar Ac ?_;simp -implicitDefEqProofs [wk];exact Am.mk (2:Int) hZ (sub_env (by simp -implicitDefEqProofs))
  rw[zz hp]at hZ;have hp':(s.toList==[112,114,101,102,105,120])=false:=UM hp;obtain⟨Hy,sy,ly,ey⟩:=fin (Hk 0) zAf rfl (zk 0);refine Ar Ac ?_;simp -implicitDefEqProofs [hn',hs',hp',LM,sy,-Bo];exact A0 ⟨.t (.tu [.ag zAf,iv 0,iv 8]),Hy,n1+1⟩ ⟨by rw[hZ];rfl⟩ (by simp -implicitDefEqProofs [ly])
 intro k hZk
 have I0:DrI l t 1 n1 BN [iv k,Ah] [] H0 2 j (Hk k) (n1+1):=⟨rk k,hj,λp hp=>(by cases hp),dk k,Kk k,by omega,n1',by omega⟩
 have I1:=I0.ls (o:=1) eFt Kv rfl
 obtain⟨Y,hY⟩:∃Y,Y=Hh (l.map kt) j:=⟨_,rfl⟩
 unfold Er at hZk;rw[<-hY]at hZk;unfold Hh at hY;refine Bg (s':=SAf n1 ⟨Hk k,n1+2,j,[],(l.map kt).length+1⟩) ((O7 (Xp _)).trans (sub_env (by simp -implicitDefEqProofs [SAf]))) rfl ?_;refine AG ?_
 refine BV (SAf n1) (λc=>c.m) (λc=>Y=Ch (l.map kt) (DB (l.map kt)) [44] 1000000000 c.m c.i c.out/\l.length<c.i+c.m/\c.out.length<=c.i/\LsI eFt Kv l t 1 n1 1 BN [iv k,Ah] [] H0 2 c.i c.out c.H c.nx) ⟨Hk k,n1+2,j,[],(l.map kt).length+1⟩ (λ_=>rfl)
  ⟨hY,by show l.length<j+((l.map kt).length+1);rw[Xk];omega,Xi _,I1⟩ (Sub.refl _) rfl ?_
 rintro⟨Hc,nc,i1,out,m⟩ ⟨hz,hm,ho,I⟩;simp only at hz hm ho I;have hi1:=I.i
 obtain⟨m,rfl⟩:∃m',m=m'+1:=⟨m-1,by omega⟩
 have hnc:=I.K.n
 have zc:Aa Hc 0=some (.cells BN (zAf.map .t)):=by rw[I.K.k 0 (by omega) (by omega)];exact z0
 obtain⟨y,e,j2,H2,n2,tb,r2,hj2,⟨s2,rfl⟩,hd,K2,b1,b2⟩:=E7 (Ia (q:=q) ht hlim I.rd (nx:=nc) (by omega) I.i 3);have CB:Ctx Xa (G q) _:=As.nil.ctxH (AF.cons b2 .nil) mixed;have I2:=I.kr K2 r2 hj2;have n2':=K2.n
 have z2:Aa H2 0=some (.cells BN (zAf.map .t)):=by rw[K2.k 0 (by omega) (by omega)];exact zc
 rw[Ch]at hz;refine AG ?_;refine Ae CB ?_;simp -implicitDefEqProofs [SAf,b1];rcases hd with⟨x,hx2,hxy,rfl⟩ | ⟨hx2,he⟩
 rotate_left
 .have hb:(e != 0)=true:=by rw[bne_iff_ne];exact he
  obtain⟨Hy,sy,ly,_⟩:=fin H2 zAf rfl z2
  have hc:DB (l.map kt) i1 = .error e:=by unfold DB;rw[hx2]
  rw[hc]at hz;refine Ae Ac ?_;simp -implicitDefEqProofs [hb,LM,sy,-Bo];exact A0 ⟨.t (.tu [.ag zAf,iv 0,iv e]),Hy,n2⟩ ⟨by rw[hZk,hz];rfl⟩ (by simp -implicitDefEqProofs [ly])
 injection hxy with hxy;injection hxy with hxy;subst hxy;refine Ae Ac ?_;simp -implicitDefEqProofs;obtain⟨y,e,j3,H3,n3,tc,r3,hj3,⟨s3,rfl⟩,hd,K3,c1,c2⟩:=E7 (Ia (q:=q) ht hlim I2.rd (nx:=n2) (by omega) I2.i 3);have CC:Ctx Xa (G q) _:=As.nil.ctxH (AF.cons c2 .nil) mixed;have I3:=I2.kr K3 r3 hj3;have n3':=K3.n
 have z3:Aa H3 0=some (.cells BN (zAf.map .t)):=by rw[K3.k 0 (by omega) (by omega)];exact z2
 refine Ae CC ?_;simp -implicitDefEqProofs [c1];rcases hd with⟨x,hx3,hxy,rfl⟩ | ⟨hx3,he⟩
 rotate_left
 .have hb:(e != 0)=true:=by rw[bne_iff_ne];exact he
  obtain⟨Hy,sy,ly,_⟩:=fin H3 zAf rfl z3
  have hc:DB (l.map kt) i1 = .error e:=by unfold DB;rw[hx2];simp only;rw[hx3]
  rw[hc]at hz;refine Ae Ac ?_;simp -implicitDefEqProofs [hb,LM,sy,-Bo];exact A0 ⟨.t (.tu [.ag zAf,iv 0,iv e]),Hy,n3⟩ ⟨by rw[hZk,hz];rfl⟩ (by simp -implicitDefEqProofs [ly])
 injection hxy with hxy;injection hxy with hxy;subst hxy;refine Ae Ac ?_;simp -implicitDefEqProofs
 have hc:DB (l.map kt) i1 = .ok ((s2,s3),j3):=by unfold DB;rw[hx2];simp only;rw[hx3]
 rw[hc]at hz;simp only at hz;have hfw:=Ni _ _ _ hc;obtain⟨p,p',H4,H5,l1,ap,st5,l2,hlen,I5,f5⟩:=I3.push (z:=2) (by':=32) (s2,s3) rfl (xs:=[.t (sv s2),.t (sv s3)]) rfl (by show 1<2;omega) (by omega) (by omega)
 have z5:Aa H5 0=some (.cells BN (zAf.map .t)):=by rw[I5.K.k 0 (by omega) (by omega)];exact z0
 obtain⟨out',hout'⟩:∃out',out'=out++[(s2,s3)]:=⟨_,rfl⟩
 have ol:out'.length=out.length+1:=by rw[hout',Xb];rfl
 rw[<-hout']at hz I5;refine Ae Ac ?_;simp -implicitDefEqProofs [l1,bd2,bsC,ap,st5,-Bo];obtain⟨tn,m1,m2⟩:=Ji (q:=q) (nx:=n3+2) ht I5.rd ⟨#[44]⟩;rw[show(⟨#[44]⟩:ByteArray).data.toList=[44]from rfl]at m1;have CN:Ctx Xa (G q) _:=As.nil.ctxH (AF.cons m2 .nil) mixed
 have n5':2<=n3:=by omega
 cases hsy:Be (l.map kt) j3 [44]with
 | false=>
  rw[hsy,zz (by decide)]at hz;obtain⟨kv,I6⟩:=I5.dr C0 (by show 1<2;omega);refine Bg (s':=⟨[(10,.ptr n1 0),(7,.ptr 1 0),(4,.ptr 0 0)],B1 H5 [kv],n3+2,83⟩) (EI [kv] (by simp -implicitDefEqProofs [Lr])) rfl ?_
  obtain⟨H6,hH6⟩:∃H6,H6=B1 H5 [kv]:=⟨_,rfl⟩
  rw[<-hH6]at I6 ⊢
  have z6:Aa H6 0=some (.cells BN (zAf.map .t)):=by rw[I6.K.k 0 (by omega) (by omega)];exact z0
  have ld6:Aj true 2 H6 (.ptr n1 0)=some (.t (.ag [iv k,Aq eFt out'])):=I6.ld rfl;obtain⟨Hy,sy,ly,ey⟩:=fin H6 [iv k,Aq eFt out'] rfl z6;have L6:=E6 I6.rd;have Ly:=E6 (ey.trans I6.rd);obtain⟨tn,m1,m2⟩:=Ji (q:=q) (nx:=n3+2) ht I6.rd ⟨#[44]⟩;rw[show(⟨#[44]⟩:ByteArray).data.toList=[44]from rfl,hsy]at m1;have CN:Ctx Xa (G q) _:=As.nil.ctxH (AF.cons m2 .nil) mixed;refine Ae CN ?_;simp -implicitDefEqProofs [m1,ld6,L6.l1,sy,Ly.l1];exact A0 ⟨.t (.tu [.ag [iv k,Aq eFt out'],iv (j3:Int),iv 0]),Hy,n3+2⟩ ⟨by rw[hZk,hz];rfl⟩ (by simp -implicitDefEqProofs [ly])
 | true=>
  have lj:=DQ hsy;rw[Xk]at lj;rw[hsy,zy rfl,zz (by omega)]at hz;rw[hsy]at m1;have L5:=E6 I5.rd;have s6:=Jh I5.rd j3;have I6:=I5.st (j:=j3+1) lj;have e2:Xj.wrap ((j3:Int)+1)=(j3:Int)+1:=AP (n:=j3+1) (by omega) (by omega)
  obtain⟨H6,hH6⟩:∃H6,H6=Xc H5 1 (rr t (j3+1)):=⟨_,rfl⟩
  rw[<-hH6]at s6 I6;refine Ae CN ?_;simp -implicitDefEqProofs [m1];refine Ar Ac ?_;simp -implicitDefEqProofs [L5.l1,e2,s6];exact Am.mk ⟨H6,n3+2,j3+1,out',m⟩ ⟨⟨hz,by show l.length<j3+1+m;omega,by show out'.length<=j3+1;omega,I6⟩,Ye m⟩ (sub_env (by simp -implicitDefEqProofs [SAf]))
end
section
variable {l : List KT} {p : Nat} {e : Int} {α : Type}
theorem Jo {k:Int} (h:AJ l p k = .error e):e≠0:=by
 unfold AJ at h;split at h
 .injection h with h;subst h;decide
 .split at h
  .cases h
  .injection h with h;subst h;decide
def iS (step:Nat->Res α):Prop:=∀p e,step p = .error e->e≠0
theorem Nj {step:Nat->Res α} (hs:Dx l step) (he:iS step) (sep:List UInt8) (mx:Nat):∀(f p:Nat) (out:List α) (e:Int),Ch l step sep mx f p out = .error e->p<=l.length->l.length<p+f->e≠0
 | 0,p,out,e,h,h1,h2=>by omega
 | f+1,p,out,e,h,h1,h2=>by
  rw[Ch]at h;split at h
  .rename_i e' h3;injection h with h;subst h;exact he _ _ h3
  .rename_i x p1 h3;have h4:=hs _ _ _ h3;split at h
   .rename_i hsy;have h5:=DQ hsy;split at h
    .injection h with h;subst h;decide
    .exact Nj hs he sep mx f _ _ _ h (by omega) (by omega)
   .cases h
theorem iT {a b:Int} {f:Nat->Res (ByteArray×ByteArray)} (hf:∀p,f p=match AJ l p a with
  | .error e=>.error e
  | .ok (s,p1)=>match AJ l p1 b with
   | .error e=>.error e
   | .ok (v,p2)=>.ok ((s,v),p2)):iS f:=λp e h=>by
 rw[hf]at h;split at h
 .rename_i h1;injection h with h;subst h;exact Jo h1
 .split at h
  .rename_i h1;injection h with h;subst h;exact Jo h1
  .cases h
theorem A7q (h:Hh l p = .error e) (hp:p<=l.length):e≠0:=Nj Ni (iT λ_=>rfl) _ _ _ _ _ _ h hp (by omega)
theorem iU (h:C9 l p = .error e):e≠0:=by
 have key:∀k p1,p1<=l.length->Er l k p1 = .error e->e≠0:=λk p1 hp h=>by
  unfold Er at h;split at h
  .rename_i h1;injection h with h;subst h;exact A7q h1 hp
  .cases h
 unfold C9 at h;split at h
 .rename_i h1;injection h with h;subst h;exact Jo h1
 .rename_i s p1 h1;have h2:=Dc h1;split at h
  .cases h
  .split at h
   .exact key _ _ (by omega) h
   .split at h
    .exact key _ _ (by omega) h
    .injection h with h;subst h;decide
end
noncomputable def R9 (ts:List T):Option T:=g2 (tSl Aw) JH (λl i=>if l.length<=1000000/\0<=i/\i<=(l.length:Int)then some (LK (C9 (l.map kt) i.toNat))else none) ts
theorem A7r {t:T} {l:List Tok} (h:IsS Aw t l) (hl:l.length<=1000000) {i:Nat} (hi:i<=l.length):R9 [t,iv (i:Int)]=some (LK (C9 (l.map kt) i)):=by
 show g2 _ _ _ _=_;rw[Dz (τ:=tSl Aw) (σ:=JH) (x:=l) (y:=(i:Int)) h rfl,zy ⟨hl,by omega,by omega⟩,Int.toNat_natCast]
theorem A7s:GOK Xa (G q) 11 R9:=Do λa b x y r ha hb hr=>by
 split at hr
 .rename_i hc;injection hr with hr;subst hr;cases hb;obtain⟨n,rfl⟩:=Int.eq_ofNat_of_zero_le hc.2.1;exact iR ha hc.1 (by omega)
 .cases hr
noncomputable def iV:Tbl:=[(11,R9)]
theorem A7t:Ctx Xa (G q) (orc iV):=(As.cons A7s .nil).ctx mixed
abbrev K0:Nat:=118
abbrev LN:Nat:=61
abbrev zLd:List T:=[iv 0,Ah,sv ⟨#[]⟩,iv 0,sv ⟨#[]⟩,Ah,Ah,Ah]
abbrev zEd:List T:=[Ah,sv ⟨#[]⟩,iv 0,sv ⟨#[]⟩,Ah,Ah,Ah]
theorem A7u (Φ:A7) (H:Ab) (nx:Nat) {a c:List T} (ha:a.length=2) (hc:c.length=6):Ai Φ H nx (.build [(0,2),(2,6)] [.int .i64 0,.slice none 0 0,.string ⟨#[]⟩,.int .i64 0,.string ⟨#[]⟩,.slice none 0 0,.slice none 0 0,.slice none 0 0] [0,1]) [.t (.ag a),.t (.ag c)]=some (.t (.ag (a++c)),H,nx):=by
 match a,c,ha,hc with
 | [_,_],[_,_,_,_,_,_],_,_=>rfl
theorem A7v (Φ:A7) (H:Ab) (nx:Nat):Ai Φ H nx (.build [(0,2),(2,6)] [.int .i64 0,.slice none 0 0,.string ⟨#[]⟩,.int .i64 0,.string ⟨#[]⟩,.slice none 0 0,.slice none 0 0,.slice none 0 0] []) []=some (.t (.ag zLd),H,nx):=rfl
theorem A7w (Φ:A7) (H:Ab) (nx:Nat) {w:List ByteArray} {c:List T} (hc:c.length=6):Ai Φ H nx (.build [(0,1),(1,6)] [.slice none 0 0,.string ⟨#[]⟩,.int .i64 0,.string ⟨#[]⟩,.slice none 0 0,.slice none 0 0,.slice none 0 0] [0,1]) [.t (Aq Ak w),.t (.ag c)]=some (.t (.ag (Aq Ak w::c)),H,nx):=by
 match w,c,hc with
 | [],[_,_,_,_,_,_],_=>rfl
 | _::_,[_,_,_,_,_,_],_=>rfl
theorem RA (Φ:A7) (H:Ab) (nx:Nat):Ai Φ H nx (.build [(0,1),(1,6)] [.slice none 0 0,.string ⟨#[]⟩,.int .i64 0,.string ⟨#[]⟩,.slice none 0 0,.slice none 0 0,.slice none 0 0] []) []=some (.t (.ag zEd),H,nx):=rfl
section
variable {t : T} {k0 i nx : Nat} {H : Ab} {l : List Tok}
theorem A7x (ht:IsS Aw t l) (hlim:l.length<=1000000) (h0:Aa H k0=some (rr t i)) (hk:k0<nx) (hi:i<=l.length) (hC:Cl H nx) (name:ByteArray) :
  ∃f:Fin,StR l t k0 H nx (ShA 8) (λx=>.ag (El.cs x)) (EJ (l.map kt) name i) f/\AH Xa (G q) 60 [.ptr k0 0,.t (sv name)] H nx f.r f.H f.nx:=by
 obtain⟨Z,hZ⟩:∃Z,Z=EJ (l.map kt) name i:=⟨_,rfl⟩
 rw[<-hZ];have ga:=A7r ht hlim hi;refine tI.callX rfl ?_;(conv in ZF=>cbv);refine Ae Ac ?_;simp -implicitDefEqProofs
 obtain⟨H1,hH1⟩:∃H1:Ab,H1=(nx,.cells K0 (zLd.map .t))::H:=⟨_,rfl⟩
 have r1:Aa H1 k0=some (rr t i):=by rw[hH1,Az,zz (by omega)];exact h0
 have p1:Aa H1 nx=some (.cells K0 (zLd.map .t)):=by rw[hH1,Az,zy rfl]
 have K1:Kr k0 H nx H1 (nx+1):=by rw[hH1];exact Kr.refl.cons (ClR.trees _ _ _)
 refine Bg (s':=⟨[(4,.ptr nx 0),(1,.t (sv name)),(0,.ptr k0 0)],H1,nx+1,41⟩) (by rw[hH1];exact sub_env (by simp -implicitDefEqProofs)) rfl ?_;have L1:=E6 r1
 have fin:∀(Hx:Ab) (ds:List T) (n:Nat),ds.length=8->Aa Hx nx=some (.cells K0 (zLd.map .t))->Kr k0 H nx Hx n->∃Hy,AM 8 Hx (.ptr nx 0) (.t (.ag ds))=some Hy/\Aj true 8 Hy (.ptr nx 0)=some (.t (.ag ds))/\Aa Hy k0=Aa Hx k0/\Kr k0 H nx Hy n:=λHx ds n hd hx hK=>by
  refine⟨_,Jk hx rfl hd,ldN (ty:=K0) (ds:=ds) ?_ hd,by rw[AN,zz (by omega)],hK.upd (.inr (Xh _)) (ClR.trees _ _ _)⟩;rw[AN,zy rfl,hx];rfl
 obtain⟨ac,p,e,hac,hal,hpl,hz⟩:∃(ac:List T) (p:Nat) (e:Int),R9 [t,iv (i:Int)]=some (.tu [.ag ac,iv (p:Int),iv e])/\ac.length=2/\p<=l.length/\((∃a:Afx,C9 (l.map kt) i = .ok (a,p)/\ac=a.cs/\e=0)\/(C9 (l.map kt) i = .error e/\e≠0)):=by
  rw[ga]
  cases ha:C9 (l.map kt) i with
  | error e=>exact⟨zAf,0,e,rfl,rfl,Xi _,.inr ⟨rfl,iU ha⟩⟩
  | ok x=>
   obtain⟨a,p⟩:=x;have:=R7 _ _ _ ha;rw[Xk]at this;exact⟨a.cs,p,0,rfl,rfl,this.2,.inl ⟨a,rfl,rfl,rfl⟩⟩
 have st2:AM 2 ((nx+1,.cells BN [.t (iv 0),.t Ah])::H1) (.ptr (nx+1) 0) (.t (.ag ac))=some ((nx+1,.cells BN (ac.map .t))::H1):=Dv rfl hal H1
 obtain⟨H2,hH2⟩:∃H2:Ab,H2=(nx+1,.cells BN (ac.map .t))::H1:=⟨_,rfl⟩
 rw[<-hH2]at st2
 have r2:Aa H2 k0=some (rr t i):=by rw[hH2,Az,zz (by omega)];exact r1
 have p2:Aa H2 nx=some (.cells K0 (zLd.map .t)):=by rw[hH2,Az,zz (by omega)];exact p1
 have q2:Aa H2 (nx+1)=some (.cells BN (ac.map .t)):=by rw[hH2,Az,zy rfl]
 have K2:Kr k0 H nx H2 (nx+2):=by rw[hH2];exact K1.cons (ClR.trees _ _ _)
 refine Ae A7t ?_;simp -implicitDefEqProofs [iV,L1.l0,L1.l1,hac,st2];rcases hz with⟨a,hz,rfl,rfl⟩ | ⟨hz,he⟩
 rotate_left
 .have hb:(e != 0)=true:=by rw[bne_iff_ne];exact he
  obtain⟨Hy,sy,ly,ey,Ky⟩:=fin H2 zLd (nx+2) rfl p2 K2;refine Ae Ac ?_;simp -implicitDefEqProofs [hb,A7v,sy,-Bo];exact A0 ⟨.t (.tu [.ag zLd,iv e]),Hy,nx+2⟩ ⟨⟨_,e,i,rfl,ey.trans r2,hi,⟨_,rfl,rfl⟩,.inr ⟨by rw[hZ];unfold EJ;rw[hz],he⟩⟩,Ky⟩ (by simp -implicitDefEqProofs [ly])
 refine Ae Ac ?_;simp -implicitDefEqProofs;have s3:=Un r2 p;have r3:=Km r2 p;have K3:=K2.upd (.inl rfl) (HZ (nx+2) t p)
 have p3:Aa (Xc H2 k0 (rr t p)) nx=some (.cells K0 (zLd.map .t)):=by rw[AN,zz (by omega)];exact p2
 have q3:Aa (Xc H2 k0 (rr t p)) (nx+1)=some (.cells BN (a.cs.map .t)):=by rw[AN,zz (by omega)];exact q2
 obtain⟨H3,hH3⟩:∃H3,H3=Xc H2 k0 (rr t p):=⟨_,rfl⟩
 rw[<-hH3]at s3 r3 K3 p3 q3;refine Ae Ac ?_;simp -implicitDefEqProofs [s3];obtain⟨y,e,j,H4,n4,tb,r4,hj,⟨ds,rfl,hdl⟩,hd,K4,t1,t2⟩:=E7 (UK (q:=q) (nx:=nx+2) ht hlim r3 (by omega) hpl (K3.cl hC) name);have CB:Ctx Xa (G q) _:=As.nil.ctxH (AF.cons t2 .nil) mixed;have n4':=K4.n
 have p4:Aa H4 nx=some (.cells K0 (zLd.map .t)):=by rw[K4.k nx (by omega) (by omega)];exact p3
 have q4:Aa H4 (nx+1)=some (.cells BN (a.cs.map .t)):=by rw[K4.k (nx+1) (by omega) (by omega)];exact q3
 have st5:AM 6 ((n4,.cells Ef [.t (sv ⟨#[]⟩),.t (iv 0),.t (sv ⟨#[]⟩),.t Ah,.t Ah,.t Ah])::H4) (.ptr n4 0) (.t (.ag ds))=some ((n4,.cells Ef (ds.map .t))::H4):=Dv rfl hdl H4
 obtain⟨H5,hH5⟩:∃H5:Ab,H5=(n4,.cells Ef (ds.map .t))::H4:=⟨_,rfl⟩
 rw[<-hH5]at st5
 have r5:Aa H5 k0=some (rr t j):=by rw[hH5,Az,zz (by omega)];exact r4
 have p5:Aa H5 nx=some (.cells K0 (zLd.map .t)):=by rw[hH5,Az,zz (by omega)];exact p4
 have q5:Aa H5 (nx+1)=some (.cells BN (a.cs.map .t)):=by rw[hH5,Az,zz (by omega)];exact q4
 have o5:Aa H5 n4=some (.cells Ef (ds.map .t)):=by rw[hH5,Az,zy rfl]
 have K5:Kr k0 H nx H5 (n4+1):=by rw[hH5];exact(K3.trans K4).cons (ClR.trees _ _ _)
 have lA:=ldN (n:=2) q5 rfl;have lD:=ldN o5 hdl;obtain⟨Hy,sy,ly,ey,Ky⟩:=fin H5 (a.cs++ds) (n4+1) (by rw[Xb,hdl];rfl) p5 K5;have bd:=λΦ Hx n=>A7u Φ Hx n (a:=a.cs) (c:=ds) rfl hdl;refine Ae CB ?_;simp -implicitDefEqProofs [t1,st5];refine Ar Ac ?_;simp -implicitDefEqProofs [lA,lD,bd,sy,-Bo];refine A0 ⟨.t (.tu [.ag (a.cs++ds),iv e]),Hy,n4+1⟩ ⟨⟨_,e,j,rfl,ey.trans r5,hj,⟨_,rfl,by rw[Xb,hdl];rfl⟩,?_⟩,Ky⟩ (by simp -implicitDefEqProofs [ly]);rcases hd with⟨d,hdd,hxy,rfl⟩ | ⟨hdd,he⟩
 .injection hxy with hxy;subst hxy;exact .inl ⟨.lex a d,by rw[hZ];unfold EJ;rw[hz];simp only;rw[hdd],rfl,rfl⟩
 .exact .inr ⟨by rw[hZ];unfold EJ;rw[hz];simp only;rw[hdd],he⟩
end
noncomputable def Nl (ts:List T):Option T:=match ts with
 | [.v (.string s)]=>if s.size<=100000 then some (Gd s.data.toList)else none
 | _=>none
theorem A7y:GOK Xa (G q) 98 Nl:=λargs r h=>by
 unfold Nl at h;split at h
 .split at h
  .injection h with h;subst h;exact wX _ (by omega)
  .cases h
 .cases h
def gWd (ts:List T):Option T:=match ts with
 | [.v (.string s)]=>if s.size<=100000 then some (bv (Cx s))else none
 | _=>none
theorem hWd:GOK Xa (G q) 99 gWd:=λargs r h=>by
 unfold gWd at h;split at h
 .split at h
  .injection h with h;subst h;exact wD _ (by unfold lim;omega)
  .cases h
 .cases h
noncomputable def Pj:Tbl:=[(98,Nl),(99,gWd)]
theorem RB:Ctx Xa (G q) (orc Pj):=(As.cons A7y (.cons hWd .nil)).ctx mixed
theorem A7z {s:ByteArray} (h:s.size<=100000):Nl [sv s]=some (Gd s.data.toList):=zy h
theorem iW {s:ByteArray} (h:s.size<=100000):gWd [sv s]=some (bv (Cx s)):=zy h
theorem UN:∀(l acc:List UInt8) (w:List UInt8),w∈C6 acc l->w.length<=acc.length+l.length
 | [],acc,w,h=>by
  simp only[C6,Xe]at h;subst h;simp
 | c::r,acc,w,h=>by
  rw[C6]at h;split at h
  .rcases Xl.1 h with rfl | h
   .simp
   .have:=UN r [] w h;simp only[Xm,Xg]at this ⊢;omega
  .have:=UN r _ w h;simp only[Xb,Xg,Xm]at this ⊢;omega
theorem iX {l:List UInt8} {w:List (List UInt8)} (h:Fu l=some w):w=[]\/w=C6 [] l:=by
 unfold Fu at h;split at h
 .split at h
  .injection h with h;exact .inl h.symm
  .split at h
   .cases h
   .injection h with h;exact .inr h.symm
 .cases h
theorem A8a {l:List UInt8} {w:List (List UInt8)} (h:Fu l=some w):∀x∈w,x.length<=l.length:=λx hx=>by
 rcases iX h with rfl | rfl
 .cases hx
 .have:=UN l [] x hx;simpa using this
theorem A8b {l:List UInt8} {w:List (List UInt8)} (h:Fu l=some w):w.length<=l.length+1:=by
 rcases iX h with rfl | rfl
 .simp
 .exact Ra l []
def SEn (k0 nx n:Nat) (name:ByteArray) (W:T) (H:Ab) (nH:Nat) (c:Nat):Ad:=⟨[(36,.t (iv (c:Int))),(35,.t (iv (n:Int))),(34,.t W),(8,.t W),(4,.ptr nx 0),(1,.t (sv name)),(0,.ptr k0 0)],H,nH,55⟩
section
variable {t : T} {k0 i nx : Nat} {H : Ab} {l : List Tok}
theorem A8c (hsm:∀x∈l,x.t.length<=100000) {k:Int} {s:ByteArray} {j:Nat} (h:AJ (l.map kt) i k = .ok (s,j)):s.size<=100000:=by
 unfold AJ at h;rw[Gy]at h
 cases hx:l[i]? with
 | none=>rw[hx]at h;cases h
 | some x=>
  rw[hx]at h;simp only[X9]at h;split at h
  .injection h with h;injection h with h _;subst h;exact hsm x (Xd hx)
  .cases h
theorem A8d (ht:IsS Aw t l) (hlim:l.length<=1000000) (hsm:∀x∈l,x.t.length<=100000) (h0:Aa H k0=some (rr t i)) (hk:k0<nx) (hi:i<=l.length) (hC:Cl H nx) (name:ByteArray) :
  ∃f:Fin,StR l t k0 H nx (ShA 7) (λx=>.ag (El.cs x)) (DZ (l.map kt) name i) f/\AH Xa (G q) 59 [.ptr k0 0,.t (sv name)] H nx f.r f.H f.nx:=by
 obtain⟨Z,hZ⟩:∃Z,Z=DZ (l.map kt) name i:=⟨_,rfl⟩
 rw[<-hZ];refine tH.callX rfl ?_;(conv in ZE=>cbv);refine Ae Ac ?_;simp -implicitDefEqProofs
 obtain⟨H1,hH1⟩:∃H1:Ab,H1=(nx,.cells LN (zEd.map .t))::H:=⟨_,rfl⟩
 have r1:Aa H1 k0=some (rr t i):=by rw[hH1,Az,zz (by omega)];exact h0
 have p1:Aa H1 nx=some (.cells LN (zEd.map .t)):=by rw[hH1,Az,zy rfl]
 have K1:Kr k0 H nx H1 (nx+1):=by rw[hH1];exact Kr.refl.cons (ClR.trees _ _ _)
 refine Bg (s':=⟨[(4,.ptr nx 0),(1,.t (sv name)),(0,.ptr k0 0)],H1,nx+1,55⟩) (by rw[hH1];exact sub_env (by simp -implicitDefEqProofs)) rfl ?_
 have fin:∀(Hx:Ab) (ds:List T) (n:Nat),ds.length=7->Aa Hx nx=some (.cells LN (zEd.map .t))->Kr k0 H nx Hx n->∃Hy,AM 7 Hx (.ptr nx 0) (.t (.ag ds))=some Hy/\Aj true 7 Hy (.ptr nx 0)=some (.t (.ag ds))/\Aa Hy k0=Aa Hx k0/\Kr k0 H nx Hy n:=λHx ds n hd hx hK=>by
  refine⟨_,Jk hx rfl hd,ldN (ty:=LN) (ds:=ds) ?_ hd,by rw[AN,zz (by omega)],hK.upd (.inr (Xh _)) (ClR.trees _ _ _)⟩;rw[AN,zy rfl,hx];rfl
 obtain⟨y,e,j,H2,n2,ta,r2,hj,⟨s,rfl⟩,hd,K2,a1,a2⟩:=E7 (Ia (q:=q) ht hlim r1 (nx:=nx+1) (by omega) hi 3);have CA:Ctx Xa (G q) _:=As.nil.ctxH (AF.cons a2 .nil) mixed;have n2':=K2.n;have KT:=K1.trans K2
 have p2:Aa H2 nx=some (.cells LN (zEd.map .t)):=by rw[K2.k nx (by omega) (by omega)];exact p1
 obtain⟨Hz,sz,lz,ez,Kz⟩:=fin H2 zEd n2 rfl p2 KT;refine Ae CA ?_;simp -implicitDefEqProofs [a1];rcases hd with⟨x,hx,hxy,rfl⟩ | ⟨hx,he⟩
 rotate_left
 .have hb:(e != 0)=true:=by rw[bne_iff_ne];exact he
  refine Ae Ac ?_;simp -implicitDefEqProofs [hb,RA,sz,-Bo];exact A0 ⟨.t (.tu [.ag zEd,iv e]),Hz,n2⟩ ⟨⟨_,e,j,rfl,ez.trans r2,hj,⟨_,rfl,rfl⟩,.inr ⟨by rw[hZ];unfold DZ;rw[hx],he⟩⟩,Kz⟩ (by simp -implicitDefEqProofs [lz])
 injection hxy with hxy;injection hxy with hxy;subst hxy;have hss:=A8c hsm hx;have gw:=A7z hss;refine Ae Ac ?_;simp -implicitDefEqProofs
 cases hw:Fu s.data.toList with
 | none=>
  have gw:Nl [sv s]=some (.tu [Ah,iv 8]):=by rw[gw];unfold Gd;rw[hw]
  have hwd:FA s = .error 1:=by unfold FA;rw[hw]
  refine Ae RB ?_;simp -implicitDefEqProofs [Pj,gw];refine Ae Ac ?_;simp -implicitDefEqProofs [RA,sz,-Bo];exact A0 ⟨.t (.tu [.ag zEd,iv 1]),Hz,n2⟩ ⟨⟨_,1,j,rfl,ez.trans r2,hj,⟨_,rfl,rfl⟩,.inr ⟨by rw[hZ];unfold DZ;rw[hx];simp only;rw[hwd],by decide⟩⟩,Kz⟩ (by simp -implicitDefEqProofs [lz])
 | some w=>
  have gw:Nl [sv s]=some (.tu [Aq Ak (w.map bs),iv 0]):=by rw[gw];unfold Gd;rw[hw]
  obtain⟨L,hL⟩:∃L,L=w.map bs:=⟨_,rfl⟩
  rw[<-hL]at gw;have hIs:=IsS.tree Ak L
  obtain⟨W,hW⟩:∃W,W=Aq Ak L:=⟨_,rfl⟩
  rw[<-hW]at gw hIs;have hlen:AO (.t W)=some (.t (iv (L.length:Int))):=hIs.len
  have hLl:∀x∈L,x.size<=100000:=λx hx=>by
   rw[hL]at hx;obtain⟨y,hy,rfl⟩:=Xo.1 hx;have h1:=A8a hw y hy;have h2:s.data.toList.length=s.size:=rfl
   have h3:(bs y).size=y.length:=by simp[ByteArray.size]
   omega
  refine Ae RB ?_;simp -implicitDefEqProofs [Pj,gw]
  by_cases hn:L=[]
  .have hwn:w=[]:=by
    rw[hn]at hL;exact(List.map_eq_nil_iff.1 hL.symm)
   have hwd:FA s = .error 1:=by unfold FA;rw[hw,hwn];rfl
   have hl0:AO (.t W)=some (.t (iv 0)):=by rw[hlen,hn];rfl
   refine Ae Ac ?_;simp -implicitDefEqProofs [hl0,RA,sz,-Bo];exact A0 ⟨.t (.tu [.ag zEd,iv 1]),Hz,n2⟩ ⟨⟨_,1,j,rfl,ez.trans r2,hj,⟨_,rfl,rfl⟩,.inr ⟨by rw[hZ];unfold DZ;rw[hx];simp only;rw[hwd],by decide⟩⟩,Kz⟩ (by simp -implicitDefEqProofs [lz])
  have hwn:w≠[]:=λe=>hn (by rw[hL,e];rfl)
  have hl1:((L.length:Int)==0)=false:=by
   rw[zu];intro e;exact hn (Xw (by omega))
  refine Ae Ac ?_;simp -implicitDefEqProofs [hlen,hl1];refine AE (α:=Unit) (λ_=>⟨[(8,.t W),(4,.ptr nx 0),(1,.t (sv name)),(0,.ptr k0 0)],H2,n2,55⟩) (λ_=>FA s = .ok L) (λ_=>rfl) ?_ ?_
  .refine Ae Ac ?_;simp -implicitDefEqProofs [hlen];refine AG ?_;refine BV (SEn k0 nx L.length name W H2 n2) (λc=>L.length-c) (λc=>c<=L.length/\∀(k:Nat) x,k<c->L[k]?=some x->Cx x=true) 0 (λ_=>rfl) ⟨Xi _,λk x h=>by omega⟩ ?_ rfl ?_
   .exact sub_env (by simp -implicitDefEqProofs [SEn])
   rintro c ⟨hc,hall⟩;by_cases hlt:c<L.length
   .obtain⟨x,hxc⟩:∃x,L[c]?=some x:=⟨_,Xr hlt⟩
    have hia:Bd 1 (.t W) (.t (.v (.int .i64 (c:Int))))=some (.t (.pt (sv x::AU Ak L c))):=hIs.iaddr hxc .i64
    have hlti:(c:Int)<(L.length:Int):=by omega
    have gx:=iW (hLl x (Xd hxc));have hcnt:=A8b hw
    have hLw:L.length=w.length:=by rw[hL,Xk]
    have h2:s.data.toList.length=s.size:=rfl;have ej:Xj.wrap ((c:Int)+1)=(c:Int)+1:=AP (n:=c+1) rfl (by omega);refine Ae Ac ?_;simp -implicitDefEqProofs [SEn,hlti,hlt]
    cases hwx:Cx x with
    | true=>
     rw[hwx]at gx;refine Ar RB ?_;simp -implicitDefEqProofs [Pj,hia,DY,gx,ej];refine Am.mk (c+1) ⟨⟨by omega,λk y hk hy=>?_⟩,by omega⟩ (sub_env (by simp -implicitDefEqProofs [SEn]));by_cases hkc:k=c
     .subst hkc;rw[hxc]at hy;injection hy with hy;rw[<-hy];exact hwx
     .exact hall k y (by omega) hy
    | false=>
     rw[hwx]at gx
     have hwd:FA s = .error 1:=by
      unfold FA;rw[hw];simp only;rw[zz hwn,zz];intro h;have h1:x∈L:=Xd hxc;rw[hL]at h1;obtain⟨y,hy,hyx⟩:=Xo.1 h1;have h3:=Xn.1 h y hy;rw[hyx,hwx]at h3;cases h3
     refine Ar RB ?_;simp -implicitDefEqProofs [Pj,hia,DY,gx,RA,sz,-Bo];exact A0 ⟨.t (.tu [.ag zEd,iv 1]),Hz,n2⟩ ⟨⟨_,1,j,rfl,ez.trans r2,hj,⟨_,rfl,rfl⟩,.inr ⟨by rw[hZ];unfold DZ;rw[hx];simp only;rw[hwd],by decide⟩⟩,Kz⟩ (by simp -implicitDefEqProofs [lz])
   .have hlti:¬(c:Int)<(L.length:Int):=by omega
    refine Ae Ac ?_;simp -implicitDefEqProofs [SEn,hlti,hlt];refine Ar Ac ?_;simp -implicitDefEqProofs;refine Am.mk () ?_ (sub_env (by simp -implicitDefEqProofs));unfold FA;rw[hw];simp only;rw[zz hwn,zy,hL];refine Xn.2 λy hy=>?_;obtain⟨k,hk⟩:=List.getElem?_of_mem (show bs y∈L by rw[hL];exact Xo.2 ⟨y,hy,rfl⟩);have hkl:=(Xx.1 hk).1;exact hall k _ (by omega) hk
  rintro _ hwd;obtain⟨y,e,j4,H4,n4,tb,r4,hj4,⟨ds,rfl,hdl⟩,hd,K4,t1,t2⟩:=E7 (UK (q:=q) (nx:=n2) ht hlim r2 (by omega) hj (KT.cl hC) name);have CB:Ctx Xa (G q) _:=As.nil.ctxH (AF.cons t2 .nil) mixed;have n4':=K4.n
  have p4:Aa H4 nx=some (.cells LN (zEd.map .t)):=by rw[K4.k nx (by omega) (by omega)];exact p2
  have st5:AM 6 ((n4,.cells Ef [.t (sv ⟨#[]⟩),.t (iv 0),.t (sv ⟨#[]⟩),.t Ah,.t Ah,.t Ah])::H4) (.ptr n4 0) (.t (.ag ds))=some ((n4,.cells Ef (ds.map .t))::H4):=Dv rfl hdl H4
  obtain⟨H5,hH5⟩:∃H5:Ab,H5=(n4,.cells Ef (ds.map .t))::H4:=⟨_,rfl⟩
  rw[<-hH5]at st5
  have r5:Aa H5 k0=some (rr t j4):=by rw[hH5,Az,zz (by omega)];exact r4
  have p5:Aa H5 nx=some (.cells LN (zEd.map .t)):=by rw[hH5,Az,zz (by omega)];exact p4
  have o5:Aa H5 n4=some (.cells Ef (ds.map .t)):=by rw[hH5,Az,zy rfl]
  have K5:Kr k0 H nx H5 (n4+1):=by rw[hH5];exact(KT.trans K4).cons (ClR.trees _ _ _)
  have lD:=ldN o5 hdl;obtain⟨Hy,sy,ly,ey,Ky⟩:=fin H5 (W::ds) (n4+1) (by rw[Xg,hdl]) p5 K5
  have bd:∀Φ Hx n,Ai Φ Hx n (.build [(0,1),(1,6)] [.slice none 0 0,.string ⟨#[]⟩,.int .i64 0,.string ⟨#[]⟩,.slice none 0 0,.slice none 0 0,.slice none 0 0] [0,1]) [.t W,.t (.ag ds)]=some (.t (.ag (W::ds)),Hx,n):=λΦ Hx n=>by rw[hW];exact A7w Φ Hx n hdl
  refine Ae CB ?_;simp -implicitDefEqProofs [t1,st5];refine Ar Ac ?_;simp -implicitDefEqProofs [lD,bd,sy,-Bo];refine A0 ⟨.t (.tu [.ag (W::ds),iv e]),Hy,n4+1⟩ ⟨⟨_,e,j4,rfl,ey.trans r5,hj4,⟨_,rfl,by rw[Xg,hdl]⟩,?_⟩,Ky⟩ (by simp -implicitDefEqProofs [ly]);rcases hd with⟨d,hdd,hxy,rfl⟩ | ⟨hdd,he⟩
  .injection hxy with hxy;subst hxy;exact .inl ⟨.ent L d,by rw[hZ];unfold DZ;rw[hx];simp only;rw[hwd];simp only;rw[hdd],by rw[hW];rfl,rfl⟩
  .exact .inr ⟨by rw[hZ];unfold DZ;rw[hx];simp only;rw[hwd];simp only;rw[hdd],he⟩
end
def Fm (d:Ds):Int:=Bb d 1
def DF (d:Dfn):Int:=if AD false d.name=false then 1 else if 256<d.defaults.length then 7 else if Fm d.strict≠0 then Fm d.strict else AV Fm d.defaults
structure SzD (d:Dfn):Prop where
 n:SzS d.name
 s:D2 d.strict
 l:d.defaults.length<=100000
 d:∀k∈d.defaults,D2 k
noncomputable def LO:Tbl:=[(64,gTn),(106,Nf)]
theorem Nm:Ctx Xa (G q) (orc LO):=(As.cons hTn (.cons fW .nil)).ctx mixed
def Pk (D:T) (n:Nat) (c:Nat×Ab×Nat):Ad:=⟨[(24,.t (iv (c.1:Int))),(23,.t (iv (n:Int))),(22,.t D)],c.2.1,c.2.2,34⟩
theorem A8e {d:Dfn} {c:List T} (hx:Dk d c) (hz:SzD d):A1 Xa (G q) 70 [.ag c] (· = iv (DF d)):=by
 obtain⟨R,hR⟩:∃R,R=DF d:=⟨_,rfl⟩
 rw[<-hR];unfold DF at hR;obtain⟨a1,a2,a3,a4,E,rfl,hs,tf⟩:=hx.six;have gs:=Ux hs hz.s;have lE:AO (.t E)=some (.t (iv (d.defaults.length:Int))):=tf.len;have gn:=LB hz.n;have hc:Bj (.t (.ag [sv d.name,a1,a2,a3,a4,E]))=some [.t (sv d.name),.t a1,.t a2,.t a3,.t a4,.t E]:=rfl
 obtain⟨H0,hH0⟩:∃H0:Ab,H0=[(0,.cells 59 [.t (sv d.name),.t a1,.t a2,.t a3,.t a4,.t E])]:=⟨_,rfl⟩
 have q0:Aj false 1 H0 (.ptr 0 0)=some (.t (sv d.name)):=by rw[hH0];rfl
 have q5:Aj false 1 H0 (.ptr 0 5)=some (.t E):=by rw[hH0];rfl
 have q1:Aj true 4 H0 (.ptr 0 1)=some (.t (.ag [a1,a2,a3,a4])):=by rw[hH0];rfl
 refine CG (args:=[.ag [sv d.name,a1,a2,a3,a4,E]]) ?_;refine tQ.callX rfl ?_;(conv in ZM=>cbv);refine Ae Ac ?_;simp -implicitDefEqProofs [hc];refine Bg (s':=⟨[(1,.ptr 0 0)],H0,1,34⟩) (by rw[hH0];exact sub_env (by simp -implicitDefEqProofs)) rfl ?_;clear hH0
 cases hn:AD false d.name with
 | false=>
  rw[hn]at gn;rw[zy hn]at hR;refine Ae Nm ?_;simp -implicitDefEqProofs [q0,LO,gn];exact A0 ⟨.t (iv 1),H0,1⟩ ⟨by rw[hR]⟩ (by simp -implicitDefEqProofs)
 | true=>
 rw[hn]at gn;rw[zz (by rw[hn];decide)]at hR;refine Ae Nm ?_;simp -implicitDefEqProofs [q0,LO,gn];by_cases h1:256<d.defaults.length
 .rw[zy h1]at hR
  have d1:(256:Int)<(d.defaults.length:Int):=by omega
  refine Ae Ac ?_;simp -implicitDefEqProofs [q5,lE,d1,h1];exact A0 ⟨.t (iv 7),H0,1⟩ ⟨by rw[hR]⟩ (by simp -implicitDefEqProofs)
 rw[zz h1]at hR
 have d1:¬(256:Int)<(d.defaults.length:Int):=by omega
 refine Ae Ac ?_;simp -implicitDefEqProofs [q5,lE,d1,h1];by_cases hs:Fm d.strict=0
 rotate_left
 .rw[zy hs]at hR
  have hb:(Fm d.strict != 0)=true:=by rw[bne_iff_ne];exact hs
  have gs:Nf [.ag [a1,a2,a3,a4]]=some (iv (Fm d.strict)):=gs;refine Ae Nm ?_;simp -implicitDefEqProofs [q1,LO,gs,hb];exact A0 ⟨.t (iv (Fm d.strict)),H0,1⟩ ⟨by rw[hR]⟩ (by simp -implicitDefEqProofs)
 rw[zz (λh=>h hs)]at hR
 have gs:Nf [.ag [a1,a2,a3,a4]]=some (iv 0):=by rw[gs];show some (iv (Fm d.strict))=_;rw[hs]
 refine Ae Nm ?_;simp -implicitDefEqProofs [q1,LO,gs];refine AE (α:=Unit×Ab×Nat) (λc=>⟨[],c.2.1,c.2.2,34⟩) (λ_=>R=0) (λ_=>rfl) ?_ ?_
 rotate_left
 .rintro⟨_,H,nx⟩ hz0;refine Ar Ac ?_;simp -implicitDefEqProofs;exact A0 ⟨.t (iv 0),H,nx⟩ ⟨by rw[hz0]⟩ (by simp -implicitDefEqProofs)
 refine Ae Ac ?_;simp -implicitDefEqProofs [q5,lE];refine AG ?_;refine BV (Pk E d.defaults.length) (λc=>d.defaults.length-c.1) (FiI Fm d.defaults) (0,H0,1) (λ_=>rfl) ⟨Xi _,rfl⟩ (sub_env (by simp -implicitDefEqProofs [Pk])) rfl ?_;rintro⟨j,H,nx⟩ ⟨hj,he⟩;simp only at hj he;by_cases hlt:j<d.defaults.length
 rotate_left
 .have hlt':¬(j:Int)<(d.defaults.length:Int):=by omega
  rw[Yc (by omega)]at he;refine Ae Ac ?_;simp -implicitDefEqProofs [Pk,hlt,hlt'];refine Ae Ac ?_;simp -implicitDefEqProofs;exact Am.mk ((),H,nx) (by rw[hR,he];rfl) (sub_env (by simp -implicitDefEqProofs))
 have hlt':(j:Int)<(d.defaults.length:Int):=by omega
 obtain⟨y,hy⟩:∃y,d.defaults[j]?=some y:=⟨_,Xr hlt⟩
 rw[LC hy]at he;obtain⟨cy,ry,ia,hcy⟩:=tf.iaddr hy .i64;have hel:=hcy.len;have la:=lpn (r:=ry) H hel;have gy:=Ux hcy (hz.d y (Xd hy));have gy:Nf [.ag cy]=some (iv (Fm y)):=gy;have sn:AM 4 ((nx,.cells 57 [.t (iv 0),.t (sv ⟨#[]⟩),.t Ah,.t Ah])::H) (.ptr nx 0) (.t (.ag cy))=some ((nx,.cells 57 (cy.map .t))::H):=Dv (ty:=57) rfl hel H;have le:Aj true 4 ((nx,.cells 57 (cy.map .t))::H) (.ptr nx 0)=some (.t (.ag cy)):=ldN (by rw[Az,zy rfl]) hel;generalize cy.map PV.t=W at sn le;have hl:=hz.l;have e1:Xj.wrap ((j:Int)+1)=((j+1:Nat):Int):=AP (by omega) (by omega);refine Ae Ac ?_;simp -implicitDefEqProofs [Pk,hlt,hlt'];refine Ae Ac ?_;simp -implicitDefEqProofs;by_cases h0:Fm y=0
 .rw[h0]at gy;rw[zz (λh=>h h0)]at he;refine Ar Nm ?_;simp -implicitDefEqProofs [ia,la,sn,le,LO,gy,e1];exact Am.mk (j+1,(nx,.cells 57 W)::H,nx+1) ⟨⟨by show j+1<=d.defaults.length;omega,he⟩,by show d.defaults.length-(j+1)<d.defaults.length-j;omega⟩ (sub_env (by simp -implicitDefEqProofs [Pk]))
 .rw[zy h0]at he
  have hb:(Fm y != 0)=true:=by rw[bne_iff_ne];exact h0
  refine Ar Nm ?_;simp -implicitDefEqProofs [ia,la,sn,le,LO,gy,hb];exact A0 ⟨.t (iv (Fm y)),(nx,.cells 57 W)::H,nx+1⟩ ⟨by rw[hR,he]⟩ (by simp -implicitDefEqProofs)
noncomputable def RC (ts:List T):Option T:=g1 tDf (λd=>open Classical in if SzD d then some (iv (DF d))else none) ts
theorem Pl {d:Dfn} {c:List T} (hx:Dk d c) (h:SzD d):RC [.ag c]=some (iv (DF d)):=by
 show g1 _ _ _=_;rw[D8 (τ:=tDf) (x:=d) ⟨c,rfl,hx⟩,zy h]
theorem Pm:GOK Xa (G q) 70 RC:=D6 λa x r ha hr=>by
 split at hr
 .rename_i hc;injection hr with hr;subst hr;obtain⟨c,rfl,hd⟩:=ha;exact A8e hd hc
 .cases hr
def Ij (s:ByteArray):Int:=if Cx s then 0 else 1
def GC (p:List ByteArray×Dfn):Int:=if p.1=[]then 1 else if AV Ij p.1≠0 then 1 else DF p.2
structure SzE (p:List ByteArray×Dfn):Prop where
 l:p.1.length<=100000
 w:∀s∈p.1,s.size<=100000
 d:SzD p.2
theorem UO {s:ByteArray}:Ij s≠0 ↔ Cx s=false:=by
 unfold Ij;cases Cx s<;>decide
noncomputable def RD:Tbl:=[(99,gWd),(70,RC)]
theorem UP:Ctx Xa (G q) (orc RD):=(As.cons hWd (.cons Pm .nil)).ctx mixed
def SEe (H0:Ab) (t:T) (n j:Nat):Ad:=⟨[(12,.t (iv (j:Int))),(11,.t (iv (n:Int))),(10,.t t),(1,.ptr 0 0)],H0,1,23⟩
theorem A8f {p:List ByteArray×Dfn} {c:List T} (hx:G3 p c) (hz:SzE p):A1 Xa (G q) 72 [.ag c] (· = iv (GC p)):=by
 obtain⟨w,d⟩:=p
 obtain⟨R,hR⟩:∃R,R=GC (w,d):=⟨_,rfl⟩
 rw[<-hR];unfold GC at hR;simp only at hR;obtain⟨U,cd,rfl,ts,td⟩:=hx;have gd:=Pl td hz.d;obtain⟨a2,a3,a4,a5,a6,hd6,_⟩:=td.six
 obtain⟨a1,ha1⟩:∃a1,a1=sv d.name:=⟨_,rfl⟩
 simp only at ts hd6;rw[<-ha1]at hd6;subst hd6;have lU:AO (.t U)=some (.t (iv (w.length:Int))):=ts.len;have hc:Bj (.t (.ag [U,a1,a2,a3,a4,a5,a6]))=some [.t U,.t a1,.t a2,.t a3,.t a4,.t a5,.t a6]:=rfl
 obtain⟨H0,hH0⟩:∃H0:Ab,H0=[(0,.cells 61 [.t U,.t a1,.t a2,.t a3,.t a4,.t a5,.t a6])]:=⟨_,rfl⟩
 have q0:Aj false 1 H0 (.ptr 0 0)=some (.t U):=by rw[hH0];rfl
 have q1:Aj true 6 H0 (.ptr 0 1)=some (.t (.ag [a1,a2,a3,a4,a5,a6])):=by rw[hH0];rfl
 refine CG (args:=[.ag [U,a1,a2,a3,a4,a5,a6]]) ?_;refine tS.callX rfl ?_;(conv in ZO=>cbv);refine Ae Ac ?_;simp -implicitDefEqProofs [hc];refine Bg (s':=⟨[(1,.ptr 0 0)],H0,1,23⟩) (by rw[hH0];exact sub_env (by simp -implicitDefEqProofs)) rfl ?_;clear hH0
 by_cases h0:w=[]
 .rw[zy h0]at hR
  have l0:AO (.t U)=some (.t (iv 0)):=by rw[lU,h0];rfl
  refine Ae Ac ?_;simp -implicitDefEqProofs [q0,l0];exact A0 ⟨.t (iv 1),H0,1⟩ ⟨by rw[hR]⟩ (by simp -implicitDefEqProofs)
 rw[zz h0]at hR
 have hne:((w.length:Int)==0)=false:=by
  rw[zu];intro e;exact h0 (Xw (by omega))
 refine Ae Ac ?_;simp -implicitDefEqProofs [q0,lU,hne];refine AE (α:=Unit) (λ_=>⟨[(1,.ptr 0 0)],H0,1,23⟩) (λ_=>AV Ij w=0) (λ_=>rfl) ?_ ?_
 .refine Ae Ac ?_;simp -implicitDefEqProofs [q0,lU];refine AG ?_;refine BV (SEe H0 U w.length) (λc=>w.length-c) (FiJ Ij w) 0 (λ_=>rfl) ⟨Xi _,rfl⟩ (sub_env (by simp -implicitDefEqProofs [SEe])) rfl ?_;rintro j ⟨hj,he⟩;by_cases hlt:j<w.length
  rotate_left
  .have hlt':¬(j:Int)<(w.length:Int):=by omega
   rw[Yc (by omega)]at he;refine Ae Ac ?_;simp -implicitDefEqProofs [SEe,hlt,hlt'];refine Ae Ac ?_;simp -implicitDefEqProofs;exact Am.mk () he (sub_env (by simp -implicitDefEqProofs))
  have hlt':(j:Int)<(w.length:Int):=by omega
  obtain⟨y,hy⟩:∃y,w[j]?=some y:=⟨_,Xr hlt⟩
  rw[LC hy]at he;have ia:Bd 1 (.t U) (.t (iv (j:Int)))=some (.t (.pt (sv y::AU Ak w j))):=ts.iaddr hy .i64;have g:=iW (hz.w y (Xd hy));have hl:=hz.l;simp only at hl;have e1:Xj.wrap ((j:Int)+1)=((j+1:Nat):Int):=AP (by omega) (by omega);refine Ae Ac ?_;simp -implicitDefEqProofs [SEe,hlt,hlt'];refine Ae Ac ?_;simp -implicitDefEqProofs
  cases hb:Cx y with
  | true=>
   rw[hb]at g;rw[zz (by rw[UO,hb];decide)]at he;refine Ar UP ?_;simp -implicitDefEqProofs [ia,ldS,RD,g,e1];exact Am.mk (j+1) ⟨⟨by omega,he⟩,by omega⟩ (sub_env (by simp -implicitDefEqProofs [SEe]))
  | false=>
   rw[hb]at g;rw[zy (UO.2 hb)]at he
   have hf:AV Ij w≠0:=by rw[he];exact UO.2 hb
   rw[zy hf]at hR;refine Ar UP ?_;simp -implicitDefEqProofs [ia,ldS,RD,g];exact A0 ⟨.t (iv 1),H0,1⟩ ⟨by rw[hR]⟩ (by simp -implicitDefEqProofs)
 rintro _ hw;rw[zz (λh=>h hw)]at hR;refine Ar UP ?_;simp -implicitDefEqProofs [q1,RD,gd];exact A0 ⟨.t (iv (DF d)),H0,1⟩ ⟨by rw[hR]⟩ (by simp -implicitDefEqProofs)
def ES (p:ByteArray×ByteArray):Int:=if F0 p.1&&F0 p.2 then 0 else 1
def FR (p:Afx×Dfn):Int:=
 if p.1.kind=0/\p.1.pairs≠[]then 1 else if(p.1.kind=1\/p.1.kind=2)/\p.1.pairs=[]then 1 else if ¬(p.1.kind=0\/p.1.kind=1\/p.1.kind=2)then 14 else if AV ES p.1.pairs≠0 then 1 else DF p.2
structure SzL (p:Afx×Dfn):Prop where
 l:p.1.pairs.length<=100000
 w:∀s∈p.1.pairs,SzS s.1/\SzS s.2
 d:SzD p.2
noncomputable def gQu (ts:List T):Option T:=open Classical in match ts with
 | [.v (.string s)]=>if SzS s then some (bv (F0 s))else none
 | _=>none
theorem hQu:GOK Xa (G q) 107 gQu:=λargs r h=>by
 unfold gQu at h;split at h
 .split at h
  .rename_i hs;injection h with h;subst h;exact A5p _ hs
  .cases h
 .cases h
theorem iY {s:ByteArray} (hs:SzS s):gQu [sv s]=some (bv (F0 s)):=zy hs
noncomputable def Pn:Tbl:=[(107,gQu),(70,RC)]
theorem RE:Ctx Xa (G q) (orc Pn):=(As.cons hQu (.cons Pm .nil)).ctx mixed
def SLe (E:T) (R0:Row) (n:Nat) (c:Nat×List (Nat×Row)×Nat):Ad:=⟨[(27,.t (iv (c.1:Int))),(26,.t (iv (n:Int))),(25,.t E),(1,.ptr 0 0)],c.2.1++[(0,R0)],c.2.2,45⟩
structure LeI (L:List (ByteArray×ByteArray)) (c:Nat×List (Nat×Row)×Nat):Prop where
 f:FiJ ES L c.1
 n:∀p∈c.2.1,p.1≠0
 p:0<c.2.2
structure LeR (R:Int) (L:List (ByteArray×ByteArray)) (d:Dfn):Prop where
 e:R=if AV ES L≠0 then 1 else DF d
structure LeA (L:List (ByteArray×ByteArray)) (A:List (Nat×Row)):Prop where
 z:AV ES L=0
 a:∀p∈A,p.1≠0
theorem A8g {A:List (Nat×Row)} {R:Row} (h:∀p∈A,p.1≠0):Aa (A++[(0,R)]) 0=some R:=by
 induction A with
 | nil=>rfl
 | cons p r ih=>
  obtain⟨k,x⟩:=p;rw[List.cons_append,Az,zz (h _ Yv)];exact ih λp hp=>h p (Yw _ hp)
theorem A8h {p:Afx×Dfn} {c:List T} (hx:G4 p c) (hz:SzL p):A1 Xa (G q) 74 [.ag c] (· = iv (FR p)):=by
 obtain⟨a,d⟩:=p
 obtain⟨R,hR⟩:∃R,R=FR (a,d):=⟨_,rfl⟩
 rw[<-hR];unfold FR at hR;simp only at hR;obtain⟨ca,cd,rfl,⟨E,rfl,tf⟩,td⟩:=hx;have gd:=Pl td hz.d;obtain⟨a2,a3,a4,a5,a6,hd6,_⟩:=td.six
 obtain⟨a1,ha1⟩:∃a1,a1=sv d.name:=⟨_,rfl⟩
 simp only at tf hd6;rw[<-ha1]at hd6;subst hd6
 obtain⟨k,hk⟩:∃k,k=a.kind:=⟨_,rfl⟩
 rw[<-hk]at hR ⊢;have lE:AO (.t E)=some (.t (iv (a.pairs.length:Int))):=tf.len;show A1 Xa (G q) 74 [.ag [iv k,E,a1,a2,a3,a4,a5,a6]] (· = iv R);have hc:Bj (.t (.ag [iv k,E,a1,a2,a3,a4,a5,a6]))=some [.t (iv k),.t E,.t a1,.t a2,.t a3,.t a4,.t a5,.t a6]:=rfl
 obtain⟨R0,hR0⟩:∃R0:Row,R0 = .cells 118 [.t (iv k),.t E,.t a1,.t a2,.t a3,.t a4,.t a5,.t a6]:=⟨_,rfl⟩
 have q0:∀H:Ab,Aa H 0=some R0->Aj false 1 H (.ptr 0 0)=some (.t (iv k)):=λH h=>by simp only[Aj,h,hR0];rfl
 have q1:∀H:Ab,Aa H 0=some R0->Aj false 1 H (.ptr 0 1)=some (.t E):=λH h=>by simp only[Aj,h,hR0];rfl
 have q2:∀H:Ab,Aa H 0=some R0->Aj true 6 H (.ptr 0 2)=some (.t (.ag [a1,a2,a3,a4,a5,a6])):=λH h=>by simp only[Aj,h,hR0];rfl
 refine CG (args:=[.ag [iv k,E,a1,a2,a3,a4,a5,a6]]) ?_;refine tU.callX rfl ?_;(conv in ZQ=>cbv);refine Ae Ac ?_;simp -implicitDefEqProofs [hc];refine Bg (s':=⟨[(1,.ptr 0 0)],[(0,R0)],1,45⟩) (by rw[hR0];exact sub_env (by simp -implicitDefEqProofs)) rfl ?_;have h00:Aa [(0,R0)] 0=some R0:=rfl;have p0:=q0 _ h00;have p1:=q1 _ h00;refine AE (α:=Unit) (λ_=>⟨[(1,.ptr 0 0)],[(0,R0)],1,45⟩) (λ_=>LeR R a.pairs d) (λ_=>rfl) ?_ ?_
 .refine Ae Ac ?_;simp -implicitDefEqProofs [p0];refine AG ?_
  by_cases hE0:a.pairs=[]
  .have l0:AO (.t E)=some (.t (iv 0)):=by rw[lE,hE0];rfl
   by_cases k0:k=0
   .rw[zz (by simp[hE0]),zz (by simp[k0]),zz (by simp[k0])]at hR;subst k0;refine Ar Ac ?_;simp -implicitDefEqProofs [p1,l0];exact Am.mk () ⟨hR⟩ (sub_env (by simp -implicitDefEqProofs))
   have hb0:(k==0)=false:=by rw[zu];exact k0
   by_cases k12:k=1\/k=2
   .rw[zz (by simp[hE0]),zy ⟨k12,hE0⟩]at hR;rcases k12 with rfl | rfl
    .refine Ar Ac ?_;simp -implicitDefEqProofs [p1,l0];exact A0 ⟨.t (iv 1),[(0,R0)],1⟩ ⟨by rw[hR]⟩ (by simp -implicitDefEqProofs)
    .refine Ar Ac ?_;simp -implicitDefEqProofs [p1,l0];exact A0 ⟨.t (iv 1),[(0,R0)],1⟩ ⟨by rw[hR]⟩ (by simp -implicitDefEqProofs)
   .rw[zz (by simp[hE0]),zz (λh=>k12 h.1),zy (by omega)]at hR
    have hb1:(k==1)=false:=by rw[zu];omega
    have hb2:(k==2)=false:=by rw[zu];omega
    refine Ar Ac ?_;simp -implicitDefEqProofs [hb0,hb1,hb2];exact A0 ⟨.t (iv 14),[(0,R0)],1⟩ ⟨by rw[hR]⟩ (by simp -implicitDefEqProofs)
  .have hlen:0<a.pairs.length:=by
    cases h:a.pairs with
    | nil=>exact absurd h hE0
    | cons _ _=>simp
   have d1:(0:Int)<(a.pairs.length:Int):=by omega
   have d2:((a.pairs.length:Int)==0)=false:=by rw[zu];omega
   by_cases k0:k=0
   .rw[zy ⟨k0,hE0⟩]at hR;subst k0;refine Ar Ac ?_;simp -implicitDefEqProofs [p1,lE,d1,hlen];exact A0 ⟨.t (iv 1),[(0,R0)],1⟩ ⟨by rw[hR]⟩ (by simp -implicitDefEqProofs)
   have hb0:(k==0)=false:=by rw[zu];exact k0
   rw[zz (λh=>k0 h.1),zz (λh=>hE0 h.2)]at hR;by_cases k12:k=1\/k=2
   .rw[zz (by omega)]at hR;rcases k12 with rfl | rfl
    .refine Ar Ac ?_;simp -implicitDefEqProofs [p1,lE,d2];exact Am.mk () ⟨hR⟩ (sub_env (by simp -implicitDefEqProofs))
    .refine Ar Ac ?_;simp -implicitDefEqProofs [p1,lE,d2];exact Am.mk () ⟨hR⟩ (sub_env (by simp -implicitDefEqProofs))
   .rw[zy (by omega)]at hR
    have hb1:(k==1)=false:=by rw[zu];omega
    have hb2:(k==2)=false:=by rw[zu];omega
    refine Ar Ac ?_;simp -implicitDefEqProofs [hb0,hb1,hb2];exact A0 ⟨.t (iv 14),[(0,R0)],1⟩ ⟨by rw[hR]⟩ (by simp -implicitDefEqProofs)
 rintro _ ⟨hR⟩;refine AE (λc:List (Nat×Row)×Nat=>⟨[(1,.ptr 0 0)],c.1++[(0,R0)],c.2,45⟩) (λc=>LeA a.pairs c.1) (λ_=>rfl) ?_ ?_
 rotate_left
 .rintro⟨A,nx⟩ ⟨hz0,hA⟩;simp only at hA;rw[zz (λh=>h hz0)]at hR;have p2:=q2 _ (A8g (R:=R0) hA);refine Ar RE ?_;simp -implicitDefEqProofs [p2,Pn,gd];exact A0 ⟨.t (iv (DF d)),A++[(0,R0)],nx⟩ ⟨by rw[hR]⟩ (by simp -implicitDefEqProofs)
 refine Ae Ac ?_;simp -implicitDefEqProofs [p1,lE];refine AG ?_;refine BV (SLe E R0 a.pairs.length) (λc=>a.pairs.length-c.1) (LeI a.pairs) (0,[],1) (λ_=>rfl) ⟨⟨Xi _,rfl⟩,λ_ h=>(by cases h),Ye _⟩ (sub_env (by simp -implicitDefEqProofs [SLe])) rfl ?_;rintro⟨j,A,nx⟩ ⟨⟨hj,he⟩,hA,hnx⟩;simp only at hj he hA hnx
 obtain⟨H,hH⟩:∃H,H=A++[(0,R0)]:=⟨_,rfl⟩
 unfold SLe;simp only;rw[<-hH];by_cases hlt:j<a.pairs.length
 rotate_left
 .have hlt':¬(j:Int)<(a.pairs.length:Int):=by omega
  rw[Yc (by omega)]at he;refine Ae Ac ?_;simp -implicitDefEqProofs [hlt,hlt'];refine Ae Ac ?_;simp -implicitDefEqProofs;exact Am.mk (A,nx) ⟨he,hA⟩ (by rw[hH];exact sub_env (by simp -implicitDefEqProofs))
 have hlt':(j:Int)<(a.pairs.length:Int):=by omega
 obtain⟨y,hy⟩:∃y,a.pairs[j]?=some y:=⟨_,Xr hlt⟩
 rw[LC hy]at he;have ia:Bd 2 (.t E) (.t (iv (j:Int)))=some (.t (.pt (sv y.1::sv y.2::AU eFt a.pairs j))):=tf.iaddr hy .i64;obtain⟨k1,k2⟩:=hz.w y (Xd hy);have g1:=iY k1;have g2:=iY k2;have hl:=hz.l;simp only at hl;have e1:Xj.wrap ((j:Int)+1)=((j+1:Nat):Int):=AP (by omega) (by omega);refine Ae Ac ?_;simp -implicitDefEqProofs [hlt,hlt'];refine Ae Ac ?_;simp -implicitDefEqProofs
 cases hb1:F0 y.1 with
 | false=>
  rw[hb1]at g1
  have hd:ES y=1:=by unfold ES;rw[hb1];rfl
  rw[hd,zy (by decide)]at he;rw[zy (by rw[he];decide)]at hR;refine Ar RE ?_;simp -implicitDefEqProofs [ia,Ie,Ig,Ib,Ic,Pn,g1];exact A0 ⟨.t (iv 1),(nx,.cells 69 [.t (sv y.1),.t (sv y.2)])::H,nx+1⟩ ⟨by rw[hR]⟩ (by simp -implicitDefEqProofs)
 | true=>
  rw[hb1]at g1
  cases hb2:F0 y.2 with
  | false=>
   rw[hb2]at g2
   have hd:ES y=1:=by unfold ES;rw[hb1,hb2];rfl
   rw[hd,zy (by decide)]at he;rw[zy (by rw[he];decide)]at hR;refine Ar RE ?_;simp -implicitDefEqProofs [ia,Ie,Ig,Ib,Ic,Pn,g1,g2];exact A0 ⟨.t (iv 1),(nx,.cells 69 [.t (sv y.1),.t (sv y.2)])::H,nx+1⟩ ⟨by rw[hR]⟩ (by simp -implicitDefEqProofs)
  | true=>
   rw[hb2]at g2
   have hd:ES y=0:=by unfold ES;rw[hb1,hb2];rfl
   rw[hd,zz (by decide)]at he;refine Ar RE ?_;simp -implicitDefEqProofs [ia,Ie,Ig,Ib,Ic,Pn,g1,g2,e1];refine Am.mk (j+1,(nx,.cells 69 [.t (sv y.1),.t (sv y.2)])::A,nx+1) ⟨⟨⟨by show j+1<=a.pairs.length;omega,he⟩,λp hp=>?_,Nat.succ_pos _⟩,by show a.pairs.length-(j+1)<a.pairs.length-j;omega⟩ (by rw[hH];exact sub_env (by simp -implicitDefEqProofs [SLe]));rcases Xl.1 hp with rfl | hp
   .show nx≠0;omega
   .exact hA p hp
noncomputable def iZ (ts:List T):Option T:=g1 tEn (λd=>open Classical in if SzE d then some (iv (GC d))else none) ts
theorem A8i {x:List ByteArray×Dfn} {c:List T} (hx:G3 x c) (h:SzE x):iZ [.ag c]=some (iv (GC x)):=by
 show g1 _ _ _=_;rw[D8 (τ:=tEn) (x:=x) ⟨c,rfl,hx⟩,zy h]
theorem A8j:GOK Xa (G q) 72 iZ:=D6 λa x r ha hr=>by
 split at hr
 .rename_i hc;injection hr with hr;subst hr;obtain⟨c,rfl,hd⟩:=ha;exact A8f hd hc
 .cases hr
noncomputable def j9 (ts:List T):Option T:=g1 tLx (λd=>open Classical in if SzL d then some (iv (FR d))else none) ts
theorem A8k {x:Afx×Dfn} {c:List T} (hx:G4 x c) (h:SzL x):j9 [.ag c]=some (iv (FR x)):=by
 show g1 _ _ _=_;rw[D8 (τ:=tLx) (x:=x) ⟨c,rfl,hx⟩,zy h]
theorem A8l:GOK Xa (G q) 74 j9:=D6 λa x r ha hr=>by
 split at hr
 .rename_i hc;injection hr with hr;subst hr;obtain⟨c,rfl,hd⟩:=ha;exact A8h hd hc
 .cases hr
def BW (p:PV) (e:Int):PV:=Ei [p,.t (iv e)]
structure StM (l:List Tok) (t:T) (k0:Nat) (name:ByteArray) (ks:Nat->Nat) (els:List El) (H:Ab) (nx:Nat) (o:Res Fx) (f:Fin):Prop where
 ex:∃ps e i',f.r=BW (Bi ps) e/\ps.length=10/\(Cl H nx->ClR f.nx (.cells B5 ps))/\Aa f.H k0=some (rr t i')/\i'<=l.length/\((o = .error e/\e≠0)\/(∃a,o = .ok (a,i')/\e=0/\∃name' ks' els',ps=Bx name' ks' els'/\Du els' ks' f.H f.nx/\(∀c,c<nx->Co els ks c->Co els' ks' c) /\
  (match a with | .md n=>name'=n/\els'=els | .el y=>name'=name/\els'=els++[y])))
 k:∀c,c<nx->c≠k0->Co els ks c->Aa f.H c=Aa H c
 n:nx<=f.nx
 fr:Frs H nx->Frs f.H f.nx
 cl:Cl H nx->Cl f.H f.nx
section
variable {t : T} {k0 i nx : Nat} {H : Ab} {l : List Tok} {els : List El} {ks : Nat -> Nat} {name : ByteArray}
theorem A8m {fn:FuncId} {xs:List PV} {o:Res Fx} (h:∃f:Fin,StM l t k0 name ks els H nx o f/\AH Xa (G q) fn xs H nx f.r f.H f.nx) :
  ∃ps e H' nx' tb,StM l t k0 name ks els H nx o ⟨BW (Bi ps) e,H',nx'⟩/\ps.length=10/\tb xs H nx=some (BW (Bi ps) e,H',nx')/\HOK Xa (G q) fn tb:=by
 obtain⟨⟨fr,fH,fn'⟩,hS,hc⟩:=h;obtain⟨ps,e,i',hr,hl,_⟩:=hS.ex;simp only at hr hc;subst hr;obtain⟨tb,t1,t2⟩:=hAt hc hS.fr;exact⟨ps,e,fH,fn',tb,hS,hl,t1,t2⟩
theorem A8n (ps:List PV) (h:ps.length=10) (b ty:Nat) (zs:List PV) (hz:zs.length=10) (R:Ab):AM 10 ((b,.cells ty zs)::R) (.ptr b 0) (Bi ps)=some ((b,.cells ty ps)::R):=by
 have h1:=Fw (n:=10) (b:=b) (o:=0) (H:=(b,.cells ty zs)::R) (t:=Bi ps) (ns:=ps) (ty:=ty) (cs:=zs) (by rw[Az,zy rfl]) (L7 ps) h (by omega);rw[h1];congr 1;simp only[Xc,if_true];rw[OZ _ _ (by omega)]
theorem Nn (M:Du els ks H nx):ClR nx (.cells B5 (Bx name ks els)):=ClR.cells λp hp=>by
 unfold Bx at hp;simp only[Xl,X6,or_false]at hp;rcases hp with rfl | rfl | rfl | rfl | rfl | rfl | rfl | rfl | rfl | rfl
 .exact ClP.t _ _
 all_goals exact ClP.rowP λh=>M.lt _ h
theorem RF {ps zs:List PV} {kr ty:Nat} {Hx:Ab} (hz:Aa Hx kr=some (.cells ty zs)) (h1:zs.length=10) (h2:ps.length=10):AM 10 Hx (.ptr kr 0) (Bi ps)=some (Xc Hx kr (.cells ty ps))/\Aj true 10 (Xc Hx kr (.cells ty ps)) (.ptr kr 0)=some (Bi ps):=by
 constructor
 .have h3:=Fw (n:=10) (o:=0) (t:=Bi ps) (ns:=ps) hz (L7 ps) h2 (by omega);rw[OZ _ _ (by omega)]at h3;exact h3
 .have hl:Aa (Xc Hx kr (.cells ty ps)) kr=some (.cells ty ps):=by rw[AN,zy rfl,hz];rfl
  simp only[Aj,hl,if_true,X7,List.drop_zero];rw[zy (by omega),List.take_of_length_le (by omega)]
abbrev zMd:List T:=[sv ⟨#[]⟩,Ah,Ah,Ah,Ah,Ah,Ah,Ah,Ah,Ah]
structure MdB (l:List Tok) (t:T) (k0:Nat) (name:ByteArray) (ks:Nat->Nat) (els:List El) (H:Ab) (nx:Nat) (i:Nat) (Hx:Ab) (n:Nat):Prop where
 rd:Aa Hx k0=some (rr t i)
 i:i<=l.length
 bx:Aa Hx nx=some (.cells B5 (Bx name ks els))
 rs:Aa Hx (nx+1)=some (.cells B5 (zMd.map .t))
 M:Du els ks Hx n
 k:∀c,c<nx->c≠k0->Co els ks c->Aa Hx c=Aa H c
 hn:nx+2<=n
 fr:Frs H nx->Frs Hx n
 cl:Cl H nx->Cl Hx n
 n0:Co els ks k0
 n1:Co els ks nx
 n2:Co els ks (nx+1)
 k0:k0<nx
theorem MdB.mk0 (M:Du els ks H nx) (h0:Aa H k0=some (rr t i)) (hk:k0<nx) (hi:i<=l.length) (hn:Co els ks k0) :
  MdB l t k0 name ks els H nx i ((nx+1,.cells B5 (zMd.map .t))::(nx,.cells B5 (Bx name ks els))::H) (nx+2):=by
 refine⟨by rw[Az,zz (by omega),Az,zz (by omega)];exact h0,hi,by rw[Az,zz (by omega),Az,zy rfl],by rw[Az,zy rfl],M.keep (λj hj=>by have:=M.lt j hj;rw[Az,zz (by omega),Az,zz (by omega)]) (Yx _ 2),
  λc h1 _ _=>by rw[Az,zz (by omega),Az,zz (by omega)],Xh _,λh=>(h.cons (Ye _) (Xp _)).cons (Ye _) (Xp _),
  λh=>(h.cons ((Nn M).mono (Xp _)) (Xp _)).cons (ClR.trees _ _ _) (Xp _),hn,λj hj=>by have:=M.lt j hj;omega,λj hj=>by have:=M.lt j hj;omega,hk⟩
theorem MdB.kr {Hx H':Ab} {n n' j:Nat} (B:MdB l t k0 name ks els H nx i Hx n) (K:Kr k0 Hx n H' n') (hr:Aa H' k0=some (rr t j)) (hj:j<=l.length):MdB l t k0 name ks els H nx j H' n':=by
 have h1:=B.hn;have h2:=B.k0;have h3:=K.n
 exact⟨hr,hj,by rw[K.k nx (by omega) (by omega)];exact B.bx,by rw[K.k (nx+1) (by omega) (by omega)];exact B.rs,B.M.keep (λj hj=>K.k _ (B.M.lt j hj) (λe=>B.n0 j hj e.symm)) h3,
  λc c1 c2 c3=>(K.k c (by omega) c2).trans (B.k c c1 c2 c3),by omega,λh=>K.fr (B.fr h),λh=>K.cl (B.cl h),B.n0,B.n1,B.n2,h2⟩
theorem MdB.cons {Hx:Ab} {n:Nat} (B:MdB l t k0 name ks els H nx i Hx n) {r:Row} (hr:ClR (n+1) r):MdB l t k0 name ks els H nx i ((n,r)::Hx) (n+1):=by
 have h1:=B.hn;have h2:=B.k0;exact B.kr (Kr.refl.cons hr) (by rw[Az,zz (by omega)];exact B.rd) B.i
theorem MdB.end_err {Hx:Ab} {n:Nat} {e:Int} {o:Res Fx} (B:MdB l t k0 name ks els H nx i Hx n) (he:o = .error e/\e≠0):∃Hy,AM 10 Hx (.ptr (nx+1) 0) (Bi (Bx name ks els))=some Hy/\Aj true 10 Hy (.ptr (nx+1) 0)=some (Bi (Bx name ks els)) /\
  StM l t k0 name ks els H nx o ⟨BW (Bi (Bx name ks els)) e,Hy,n⟩:=by
 obtain⟨s1,l1⟩:=RF (ps:=Bx name ks els) B.rs rfl rfl;have h1:=B.hn;have h2:=B.k0;refine⟨_,s1,l1,⟨⟨_,e,i,rfl,rfl,λ_=>Nn (name:=name) B.M,by show Aa (Xc _ _ _) _=_;rw[AN,zz (by omega)];exact B.rd,B.i,.inl he⟩,λc c1 c2 c3=>by show Aa (Xc _ _ _) _=_;rw[AN,zz (by omega)];exact B.k c c1 c2 c3,by show nx<=n;omega,λh=>(B.fr h).upd,λh=>(B.cl h).upd ?_⟩⟩;exact(Nn (name:=name) B.M)
theorem MdB.end_push {Hx H2:Ab} {n n2 j:Nat} {x:List T} {e:Int} {o:Res Fx} (B:MdB l t k0 name ks els H nx i Hx n) (pu:PuM els ks name nx j x Hx n H2 n2) (he:(o = .error e/\e≠0)\/(∃y:El,y.j=j/\y.cs=x/\o = .ok (.el y,i)/\e=0)) :
  ∃P Hy,Aj true 10 H2 (.ptr nx 0)=some P/\AM 10 H2 (.ptr (nx+1) 0) P=some Hy/\Aj true 10 Hy (.ptr (nx+1) 0)=some P/\StM l t k0 name ks els H nx o ⟨BW P e,Hy,n2⟩:=by
 obtain⟨ps,hl,hb,hy⟩:=pu.bx;have h1:=B.hn;have h2:=B.k0;have h3:=pu.n
 have r2:Aa H2 k0=some (rr t i):=by rw[pu.k k0 (by omega) (by omega) B.n0];exact B.rd
 have rs2:Aa H2 (nx+1)=some (.cells B5 (zMd.map .t)):=by rw[pu.k (nx+1) (by omega) (by omega) B.n2];exact B.rs
 obtain⟨s1,l1⟩:=RF (ps:=ps) rs2 rfl hl;refine⟨Bi ps,_,Pb hb hl,s1,l1,⟨⟨ps,e,i,rfl,hl,λh=>(pu.cl (B.cl h)) _ _ hb,by show Aa (Xc _ _ _) _=_;rw[AN,zz (by omega)];exact r2,B.i,?_⟩,λc c1 c2 c3=>by show Aa (Xc _ _ _) _=_;rw[AN,zz (by omega),pu.k c (by omega) (by omega) c3];exact B.k c c1 c2 c3,by show nx<=n2;omega,λh=>(pu.fr (B.fr h)).upd,λh=>?_⟩⟩
 .rcases he with he | ⟨y,e1,e2,e3,e4⟩
  .exact .inl he
  .obtain⟨ks',hp,hM,hN⟩:=hy y e1 e2;exact .inr ⟨.el y,e3,e4,name,ks',els++[y],hp,hM.keep (λj hj=>by show Aa (Xc _ _ _) _=_;rw[AN,zz (λe=>hN (nx+1) (by omega) B.n2 j hj e.symm)]) (Xh _),λc c1 c2=>hN c (by omega) c2,rfl,rfl⟩
 .have h4:=pu.cl (B.cl h);exact h4.upd (h4 _ _ hb)
theorem MdB.upd {Hx:Ab} {n b:Nat} {r:Row} (B:MdB l t k0 name ks els H nx i Hx n) (hb:nx+2<=b) (hN:Co els ks b) (hr:ClR n r):MdB l t k0 name ks els H nx i (Xc Hx b r) n:=by
 have h2:=B.k0
 exact⟨by rw[AN,zz (by omega)];exact B.rd,B.i,by rw[AN,zz (by omega)];exact B.bx,by rw[AN,zz (by omega)];exact B.rs,B.M.keep (λj hj=>by rw[AN,zz (λe=>hN j hj e.symm)]) (Xh _),
  λc c1 c2 c3=>by rw[AN,zz (by omega)];exact B.k c c1 c2 c3,B.hn,λh=>(B.fr h).upd,λh=>(B.cl h).upd hr,B.n0,B.n1,B.n2,h2⟩
end
def RG (r:Res El):Res Fx:=match r with
 | .error e=>.error e
 | .ok (x,p)=>.ok (.el x,p)
theorem A8o (j:Nat) (els:List El):Cz j els<=els.length:=List.length_filter_le _ _
theorem UQ (n:Nat) {ds:List T} (h:ds.length=6):EE 59 6 [.string ⟨#[]⟩,.int .i64 0,.string ⟨#[]⟩,.slice none 0 0,.slice none 0 0,.slice none 0 0] 1 [(0,.t (.ag ds))] n=some (.row n 0 1 6,.cells 59 (ds.map .t)):=by
 match ds,h with
 | [_,_,_,_,_,_],_=>rfl
section
variable {t : T} {k0 i nx : Nat} {H : Ab} {l : List Tok} {els : List El} {ks : Nat -> Nat} {name : ByteArray}
theorem MdB.push {Hx:Ab} {n:Nat} (B:MdB l t k0 name ks els H nx i Hx n) (hels:els.length<=1000000) {j o z ty by':Nat} (hj:j<9) (ho:o=j+1) (hz:z=zE j) (hty:ty=tyE j) (x:List T) (hx:x.length=z) {xs:List PV} (hxs:xs=x.map .t) (hby:by'<=1000) :
  ∃p p' H1 H2,Aj false 1 Hx (.ptr nx o)=some p/\Cc ty z by' ((n,.cells ty xs)::Hx) (n+1) p (.row n 0 1 z)=some (p',H1,n+2)/\AM 1 H1 (.ptr nx o) p'=some H2/\PuM els ks name nx j x Hx n H2 (n+2):=
 A3s B.M B.bx (by have:=B.hn;omega) B.n1 hj ho hz hty x hx xs hxs hby (Yl (A8o j els) hels)
theorem A8p (ht:IsS Aw t l) (hlim:l.length<=1000000) (h0:Aa H k0=some (rr t i)) (hk:k0<nx) (hi:i<=l.length) (hC:Cl H nx) (M:Du els ks H nx) (hn0:Co els ks k0) (hels:els.length<=1000000) (nm:ByteArray) {kind:Nat} {f:Dfn->El}
  (hkf:(kind=4/\f = .tmp)\/(kind=7/\f = .rul)\/(kind=8/\f = .roo)) :
  ∃fi:Fin,StM l t k0 name ks els H nx (RG (elD f (Db (l.map kt) nm i))) fi/\AH Xa (G q) 61 [.ptr k0 0,Bi (Bx name ks els),.t (iv (kind:Int)),.t (sv nm)] H nx fi.r fi.H fi.nx:=by
 obtain⟨O,hO⟩:∃O,O=RG (elD f (Db (l.map kt) nm i)):=⟨_,rfl⟩
 rw[<-hO];have hcp:=L7 (Bx name ks els);have B0:=MdB.mk0 (l:=l) (t:=t) (name:=name) M h0 hk hi hn0
 obtain⟨H1,hH1⟩:∃H1:Ab,H1=(nx+1,.cells B5 (zMd.map .t))::(nx,.cells B5 (Bx name ks els))::H:=⟨_,rfl⟩
 rw[<-hH1]at B0
 obtain⟨ps,hps⟩:∃ps,ps=Bx name ks els:=⟨_,rfl⟩
 obtain⟨P,hP⟩:∃P,P=Bi (Bx name ks els):=⟨_,rfl⟩
 rw[<-hP,<-hps]at hcp;rw[<-hP]
 have all:∀{Hx:Ab} {n:Nat} {j:Nat},MdB l t k0 name ks els H nx j Hx n->Aj true 10 Hx (.ptr nx 0)=some P:=λB=>by rw[hP];exact Pb B.bx rfl
 refine tJ.callX rfl ?_;(conv in ZG=>cbv);refine Ae Ac ?_;simp -implicitDefEqProofs [hcp];refine Bg (s':=⟨[(8,.ptr (nx+1) 0),(5,.ptr nx 0),(3,.t (sv nm)),(2,.t (iv (kind:Int))),(0,.ptr k0 0)],H1,nx+2,46⟩) (by rw[hH1,<-hps];exact sub_env (by simp -implicitDefEqProofs)) rfl ?_;obtain⟨y,e,j,H2,n2,ta,r2,hj,⟨ds,rfl,hdl⟩,hd,K2,a1,a2⟩:=E7 (UK (q:=q) (nx:=nx+2) ht hlim B0.rd (by omega) hi (B0.cl hC) nm);have CA:Ctx Xa (G q) _:=As.nil.ctxH (AF.cons a2 .nil) mixed;have B2:=B0.kr K2 r2 hj;have st3:AM 6 ((n2,.cells Ef [.t (sv ⟨#[]⟩),.t (iv 0),.t (sv ⟨#[]⟩),.t Ah,.t Ah,.t Ah])::H2) (.ptr n2 0) (.t (.ag ds))=some ((n2,.cells Ef (ds.map .t))::H2):=Dv rfl hdl H2;have B3:=B2.cons (r:=.cells Ef (ds.map .t)) (ClR.trees _ _ _)
 obtain⟨H3,hH3⟩:∃H3:Ab,H3=(n2,.cells Ef (ds.map .t))::H2:=⟨_,rfl⟩
 have o3:Aa H3 n2=some (.cells Ef (ds.map .t)):=by rw[hH3,Az,zy rfl]
 rw[<-hH3]at st3 B3;have lD:=ldN o3 hdl;refine Ae CA ?_;simp -implicitDefEqProofs [a1,st3];rcases hd with⟨d,hdd,hxy,rfl⟩ | ⟨hdd,he⟩
 rotate_left
 .have hb:(e != 0)=true:=by rw[bne_iff_ne];exact he
  have hOe:O = .error e:=by rw[hO,hdd];rfl
  obtain⟨Hy,sy,ly,S⟩:=B3.end_err ⟨hOe,he⟩;rw[<-hP]at sy ly S;have lP:=all B3;refine Ae Ac ?_;simp -implicitDefEqProofs [hb,lP,sy];exact A0 ⟨BW P e,Hy,n2+1⟩ S (by simp -implicitDefEqProofs [ly,BW])
 injection hxy with hxy;subst hxy
 have hOk:O = .ok (.el (f d),j):=by rw[hO,hdd];rfl
 refine Ae Ac ?_;simp -implicitDefEqProofs;rcases hkf with⟨rfl,rfl⟩ | ⟨rfl,rfl⟩ | ⟨rfl,rfl⟩
 .obtain⟨p,p',H4,H5,l1,ap,s5,pu⟩:=B3.push hels (j:=2) (o:=3) (z:=6) (ty:=59) (by':=112) (by omega) rfl rfl rfl d.cs hdl rfl (by omega);obtain⟨P',Hy,lP,sy,ly,S⟩:=B3.end_push (e:=0) (o:=O) pu (.inr ⟨.tmp d,rfl,rfl,hOk,rfl⟩);have bs:=UQ (n2+1) hdl;refine Ae Ac ?_;simp -implicitDefEqProofs [l1,lD,bs,ap,s5];refine Ar Ac ?_;simp -implicitDefEqProofs [lP,sy];exact A0 ⟨BW P' 0,Hy,n2+3⟩ S (by simp -implicitDefEqProofs [ly,BW])
 .obtain⟨p,p',H4,H5,l1,ap,s5,pu⟩:=B3.push hels (j:=5) (o:=6) (z:=6) (ty:=59) (by':=112) (by omega) rfl rfl rfl d.cs hdl rfl (by omega);obtain⟨P',Hy,lP,sy,ly,S⟩:=B3.end_push (e:=0) (o:=O) pu (.inr ⟨.rul d,rfl,rfl,hOk,rfl⟩);have bs:=UQ (n2+1) hdl;refine Ae Ac ?_;simp -implicitDefEqProofs [l1,lD,bs,ap,s5];refine Ar Ac ?_;simp -implicitDefEqProofs [lP,sy];exact A0 ⟨BW P' 0,Hy,n2+3⟩ S (by simp -implicitDefEqProofs [ly,BW])
 .obtain⟨p,p',H4,H5,l1,ap,s5,pu⟩:=B3.push hels (j:=6) (o:=7) (z:=6) (ty:=59) (by':=112) (by omega) rfl rfl rfl d.cs hdl rfl (by omega);obtain⟨P',Hy,lP,sy,ly,S⟩:=B3.end_push (e:=0) (o:=O) pu (.inr ⟨.roo d,rfl,rfl,hOk,rfl⟩);have bs:=UQ (n2+1) hdl;refine Ae Ac ?_;simp -implicitDefEqProofs [l1,lD,bs,ap,s5];refine Ar Ac ?_;simp -implicitDefEqProofs [lP,sy];exact A0 ⟨BW P' 0,Hy,n2+3⟩ S (by simp -implicitDefEqProofs [ly,BW])
end
theorem RH (p:PV) (e:Int):BC (BW p e) 0=some p/\BC (BW p e) 1=some (.t (iv e)):=by
 cases p<;>exact⟨rfl,rfl⟩
section
variable {L : List KT} {p p1 : Nat} {e : Int}
theorem A8q (h:Gx L p = .error e):Bs L 9 p = .error e:=by simp[Bs,elS,h]
theorem A8r {x:List ByteArray} (h:Gx L p = .ok (x,p1)):Bs L 9 p = .ok (.el (.chk x),p1):=by simp[Bs,elS,h]
theorem A8s (h:AJ L p 2 = .error e):Bs L 10 p = .error e:=by simp[Bs,elS,h]
theorem A8t {x:ByteArray} (h:AJ L p 2 = .ok (x,p1)):Bs L 10 p = .ok (.el (.drp x),p1):=by simp[Bs,elS,h]
theorem A8u {k:Nat} (h:AJ L p 1 = .error e) (h9:k≠9) (h10:k≠10):Bs L k p = .error e:=by
 by_cases h1:k=1
 .simp[Bs,h1,h]
 .simp[Bs,elS,h1,h9,h10,h]
theorem A8v {x:ByteArray} (h:AJ L p 1 = .ok (x,p1)):Bs L 1 p = .ok (.md x,p1):=by simp[Bs,h]
theorem K8 {k:Nat} {x:ByteArray} (h:AJ L p 1 = .ok (x,p1)) (h1:k≠1) (h9:k≠9) (h10:k≠10):Bs L k p=RG (Dr L k x p1):=by
 simp only[Bs,elS,zz h1,zz h9,zz h10,h];rfl
end
section
variable {L : List KT} {p p1 : Nat} {x : El} {nm : ByteArray}
theorem A8w (h:DZ L nm p = .ok (x,p1)):x.j=3:=by
 unfold DZ at h;split at h
 .cases h
 .split at h
  .cases h
  .split at h
   .cases h
   .injection h with h;injection h with h _;subst h;rfl
theorem A8x (h:EJ L nm p = .ok (x,p1)):x.j=4:=by
 unfold EJ at h;split at h
 .cases h
 .split at h
  .cases h
  .injection h with h;injection h with h _;subst h;rfl
end
theorem bsL (n:Nat) (out:List ByteArray):EE 44 1 [.slice none 0 0] 1 [(0,.t (Aq Ak out))] n=some (.row n 0 1 1,.cells 44 [.t (Aq Ak out)]):=by
 cases out<;>rfl
theorem A8y (n:Nat) {ds:List T} (h:ds.length=3):EE 112 3 [.string ⟨#[]⟩,.slice none 0 0,.slice none 0 0] 1 [(0,.t (.ag ds))] n=some (.row n 0 1 3,.cells 112 (ds.map .t)):=by
 match ds,h with
 | [_,_,_],_=>rfl
theorem A8z (n:Nat) {ds:List T} (h:ds.length=7):EE 61 7 [.slice none 0 0,.string ⟨#[]⟩,.int .i64 0,.string ⟨#[]⟩,.slice none 0 0,.slice none 0 0,.slice none 0 0] 1 [(0,.t (.ag ds))] n=some (.row n 0 1 7,.cells 61 (ds.map .t)):=by
 match ds,h with
 | [_,_,_,_,_,_,_],_=>rfl
theorem A9a (n:Nat) {ds:List T} (h:ds.length=8):EE 118 8 [.int .i64 0,.slice none 0 0,.string ⟨#[]⟩,.int .i64 0,.string ⟨#[]⟩,.slice none 0 0,.slice none 0 0,.slice none 0 0] 1 [(0,.t (.ag ds))] n=some (.row n 0 1 8,.cells 118 (ds.map .t)):=by
 match ds,h with
 | [_,_,_,_,_,_,_,_],_=>rfl
section
variable {t : T} {k0 i nx : Nat} {H : Ab} {l : List Tok} {els : List El} {ks : Nat -> Nat} {name : ByteArray}
theorem MdB.end_name {Hx:Ab} {n:Nat} {o:Res Fx} {nm:ByteArray} (B:MdB l t k0 name ks els H nx i Hx n) (ho:o = .ok (.md nm,i)):∃H2 Hy,AM 1 Hx (.ptr nx 0) (.t (sv nm))=some H2/\Aj true 10 H2 (.ptr nx 0)=some (Bi (Bx nm ks els))/\AM 10 H2 (.ptr (nx+1) 0) (Bi (Bx nm ks els))=some Hy /\
  Aj true 10 Hy (.ptr (nx+1) 0)=some (Bi (Bx nm ks els))/\StM l t k0 name ks els H nx o ⟨BW (Bi (Bx nm ks els)) 0,Hy,n⟩:=by
 have h1:=B.hn;have h2:=B.k0;have s0:=Fw (n:=1) (o:=0) (t:=.t (sv nm)) (ns:=[.t (sv nm)]) B.bx rfl rfl (by show 0+1<=10;omega);have e0:Bp (Bx name ks els) 0 [.t (sv nm)]=Bx nm ks els:=rfl;rw[e0]at s0
 obtain⟨H2,hH2⟩:∃H2,H2=Xc Hx nx (.cells B5 (Bx nm ks els)):=⟨_,rfl⟩
 rw[<-hH2]at s0
 have b2:Aa H2 nx=some (.cells B5 (Bx nm ks els)):=by rw[hH2,AN,zy rfl,B.bx];rfl
 have rs2:Aa H2 (nx+1)=some (.cells B5 (zMd.map .t)):=by rw[hH2,AN,zz (by omega)];exact B.rs
 obtain⟨s1,l1⟩:=RF (ps:=Bx nm ks els) rs2 rfl rfl
 have kk:∀c,c≠nx->c≠nx+1->Aa (Xc H2 (nx+1) (.cells B5 (Bx nm ks els))) c=Aa Hx c:=λc c1 c2=>by rw[AN,zz c2,hH2,AN,zz c1]
 refine⟨H2,_,s0,Pb b2 rfl,s1,l1,⟨⟨_,0,i,rfl,rfl,λ_=>Nn (name:=nm) B.M,by show Aa _ k0=_;rw[kk k0 (by omega) (by omega)];exact B.rd,B.i,.inr ⟨_,ho,rfl,nm,ks,els,rfl,B.M.keep (λj hj=>kk _ (λe=>B.n1 j hj e.symm) (λe=>B.n2 j hj e.symm)) (Xh _),λc _ h=>h,rfl,rfl⟩⟩,
  λc c1 c2 c3=>by show Aa _ c=_;rw[kk c (by omega) (by omega)];exact B.k c c1 c2 c3,by show nx<=n;omega,λh=>by show Frs (Xc H2 _ _) n;rw[hH2];exact(B.fr h).upd.upd,λh=>by
   show Cl (Xc H2 _ _) n;rw[hH2]
   exact((B.cl h).upd (Nn (name:=nm) B.M)).upd (Nn (name:=nm) B.M)⟩⟩
theorem A9b (ht:IsS Aw t l) (hlim:l.length<=1000000) (hsm:∀x∈l,x.t.length<=100000) (h0:Aa H k0=some (rr t i)) (hk:k0<nx) (hi:i<=l.length) (hC:Cl H nx) (M:Du els ks H nx) (hn0:Co els ks k0) (hels:els.length<=1000000) {kind:Nat} (hk1:1<=kind) (hk2:kind<=10) :
  ∃fi:Fin,StM l t k0 name ks els H nx (Bs (l.map kt) kind i) fi/\AH Xa (G q) 31 [.ptr k0 0,Bi (Bx name ks els),.t (iv (kind:Int))] H nx fi.r fi.H fi.nx:=by
 obtain⟨O,hO⟩:∃O,O=Bs (l.map kt) kind i:=⟨_,rfl⟩
 rw[<-hO];have hcp:=L7 (Bx name ks els);have B0:=MdB.mk0 (l:=l) (t:=t) (name:=name) M h0 hk hi hn0
 obtain⟨H1,hH1⟩:∃H1:Ab,H1=(nx+1,.cells B5 (zMd.map .t))::(nx,.cells B5 (Bx name ks els))::H:=⟨_,rfl⟩
 rw[<-hH1]at B0
 obtain⟨ps,hps⟩:∃ps,ps=Bx name ks els:=⟨_,rfl⟩
 obtain⟨P,hP⟩:∃P,P=Bi (Bx name ks els):=⟨_,rfl⟩
 rw[<-hP,<-hps]at hcp;rw[<-hP]
 have all:∀{Hx:Ab} {n:Nat} {j:Nat},MdB l t k0 name ks els H nx j Hx n->Aj true 10 Hx (.ptr nx 0)=some P:=λB=>by rw[hP];exact Pb B.bx rfl
 refine tA.callX rfl ?_;(conv in YY=>cbv);refine Ae Ac ?_;simp -implicitDefEqProofs [hcp];refine Bg (s':=⟨[(6,.ptr (nx+1) 0),(4,.ptr nx 0),(2,.t (iv (kind:Int))),(0,.ptr k0 0)],H1,nx+2,121⟩) (by rw[hH1,<-hps];exact sub_env (by simp -implicitDefEqProofs)) rfl ?_;by_cases k9:kind=9
 .subst k9;obtain⟨y,e,j,H2,n2,ta,r2,hj,⟨out,rfl⟩,hd,K2,a1,a2⟩:=E7 (A3k (q:=q) (nx:=nx+2) ht hlim B0.rd (by omega) hi (B0.cl hC));have CA:Ctx Xa (G q) _:=As.nil.ctxH (AF.cons a2 .nil) mixed;have B2:=B0.kr K2 r2 hj;obtain⟨p,p',H4,H5,l1,ap,s5,pu⟩:=B2.push hels (j:=7) (o:=8) (z:=1) (ty:=44) (by':=24) (by omega) rfl rfl rfl [Aq Ak out] rfl (xs:=[.t (Aq Ak out)]) rfl (by omega)
  have he:(O = .error e/\e≠0)\/(∃y:El,y.j=7/\y.cs=[Aq Ak out]/\O = .ok (.el y,j)/\e=0):=by
   rcases hd with⟨x,hx,hxy,rfl⟩ | ⟨hx,he⟩
   .exact .inr ⟨.chk x,rfl,by rw[hxy];rfl,by rw[hO];exact A8r hx,rfl⟩
   .exact .inl ⟨by rw[hO];exact A8q hx,he⟩
  obtain⟨P',Hy,lP,sy,ly,S⟩:=B2.end_push pu he;have bs:=bsL n2 out;refine Ae CA ?_;simp -implicitDefEqProofs [a1,l1,bs,ap,s5,lP,sy];exact A0 ⟨BW P' e,Hy,n2+2⟩ S (by simp -implicitDefEqProofs [ly,BW])
 by_cases k10:kind=10
 .subst k10;obtain⟨y,e,j,H2,n2,ta,r2,hj,⟨s,rfl⟩,hd,K2,a1,a2⟩:=E7 (Ia (q:=q) (nx:=nx+2) ht hlim B0.rd (by omega) hi 2);have CA:Ctx Xa (G q) _:=As.nil.ctxH (AF.cons a2 .nil) mixed;have B2:=B0.kr K2 r2 hj;obtain⟨p,p',H4,H5,l1,ap,s5,pu⟩:=B2.push hels (j:=8) (o:=9) (z:=1) (ty:=9) (by':=16) (by omega) rfl rfl rfl [sv s] rfl (xs:=[.t (sv s)]) rfl (by omega)
  have he:(O = .error e/\e≠0)\/(∃y:El,y.j=8/\y.cs=[sv s]/\O = .ok (.el y,j)/\e=0):=by
   rcases hd with⟨x,hx,hxy,rfl⟩ | ⟨hx,he⟩
   .exact .inr ⟨.drp x,rfl,by rw[hxy];rfl,by rw[hO];exact A8t hx,rfl⟩
   .exact .inl ⟨by rw[hO];exact A8s hx,he⟩
  obtain⟨P',Hy,lP,sy,ly,S⟩:=B2.end_push pu he;refine Ae CA ?_;simp -implicitDefEqProofs [a1,l1,bsS,ap,s5,lP,sy];exact A0 ⟨BW P' e,Hy,n2+2⟩ S (by simp -implicitDefEqProofs [ly,BW])
 have h9:((kind:Int)==9)=false:=by rw[zu];omega
 have h10:((kind:Int)==10)=false:=by rw[zu];omega
 obtain⟨y,e,j,H2,n2,ta,r2,hj,⟨s,rfl⟩,hd,K2,a1,a2⟩:=E7 (Ia (q:=q) (nx:=nx+2) ht hlim B0.rd (by omega) hi 1);have CA:Ctx Xa (G q) _:=As.nil.ctxH (AF.cons a2 .nil) mixed;have B2:=B0.kr K2 r2 hj;have n2':=K2.n;refine Ae Ac ?_;simp -implicitDefEqProofs [h9,h10];refine Ae CA ?_;simp -implicitDefEqProofs [a1];rcases hd with⟨x,hx,hxy,rfl⟩ | ⟨hx,he⟩
 rotate_left
 .have hb:(e != 0)=true:=by rw[bne_iff_ne];exact he
  obtain⟨Hy,sy,ly,S⟩:=B2.end_err ⟨show O = .error e by rw[hO];exact A8u hx k9 k10,he⟩;rw[<-hP]at sy ly S;have lP:=all B2;refine Ae Ac ?_;simp -implicitDefEqProofs [hb,lP,sy];exact A0 ⟨BW P e,Hy,n2⟩ S (by simp -implicitDefEqProofs [ly,BW])
 injection hxy with hxy;injection hxy with hxy;subst hxy;refine Ae Ac ?_;simp -implicitDefEqProofs
 have hcases:kind=1\/kind=2\/kind=3\/kind=5\/kind=6\/kind=4\/kind=7\/kind=8:=by omega
 rcases hcases with rfl | rfl | rfl | rfl | rfl | hdk
 .
  obtain⟨H3,Hy,s3,lP,sy,ly,S⟩:=B2.end_name (o:=O) (nm:=s) (by rw[hO];exact A8v hx);refine Ae Ac ?_;simp -implicitDefEqProofs [s3];refine Ar Ac ?_;simp -implicitDefEqProofs [lP,sy];exact A0 ⟨BW (Bi (Bx s ks els)) 0,Hy,n2⟩ S (by simp -implicitDefEqProofs [ly,BW])
 .
  obtain⟨p,p',H4,H5,l1,ap,s5,pu⟩:=B2.push hels (j:=0) (o:=1) (z:=1) (ty:=9) (by':=16) (by omega) rfl rfl rfl [sv s] rfl (xs:=[.t (sv s)]) rfl (by omega);obtain⟨P',Hy,lP,sy,ly,S⟩:=B2.end_push (e:=0) (o:=O) pu (.inr ⟨.imp s,rfl,rfl,by rw[hO,K8 hx (by omega) (by omega) (by omega)];rfl,rfl⟩);refine Ae Ac ?_;simp -implicitDefEqProofs [l1,bsS,ap,s5];refine Ar Ac ?_;simp -implicitDefEqProofs [lP,sy];exact A0 ⟨BW P' 0,Hy,n2+2⟩ S (by simp -implicitDefEqProofs [ly,BW])
 .
  have Bz:=B2.cons (r:=.cells 112 (([sv ⟨#[]⟩,Ah,Ah]:List T).map .t)) (ClR.trees _ _ _)
  obtain⟨Hz,hHz⟩:∃Hz:Ab,Hz=(n2,.cells 112 (([sv ⟨#[]⟩,Ah,Ah]:List T).map .t))::H2:=⟨_,rfl⟩
  have oz:Aa Hz n2=some (.cells 112 (([sv ⟨#[]⟩,Ah,Ah]:List T).map .t)):=by rw[hHz,Az,zy rfl]
  rw[<-hHz]at Bz;obtain⟨y,e,j3,H3,n3,tb,r3,hj3,⟨ds,rfl,hdl⟩,hd,K3,t1,t2⟩:=E7 (A3y (q:=q) (nx:=n2+1) ht hlim Bz.rd (by omega) hj (Bz.cl hC) s);have CB:Ctx Xa (G q) _:=As.nil.ctxH (AF.cons t2 .nil) mixed;have B3:=Bz.kr K3 r3 hj3;have hn2:=B2.hn
  have o3:Aa H3 n2=some (.cells 112 (([sv ⟨#[]⟩,Ah,Ah]:List T).map .t)):=by rw[K3.k n2 (by omega) (by omega)];exact oz
  have st4:=Jk (n:=3) (ds:=ds) o3 rfl hdl;have B4:=B3.upd (b:=n2) (r:=.cells 112 (ds.map .t)) hn2 (λj hj=>by have:=M.lt j hj;omega) (ClR.trees _ _ _)
  have o4:Aa (Xc H3 n2 (.cells 112 (ds.map .t))) n2=some (.cells 112 (ds.map .t)):=by rw[AN,zy rfl,o3];rfl
  obtain⟨H4,hH4⟩:∃H4:Ab,H4=Xc H3 n2 (.cells 112 (ds.map .t)):=⟨_,rfl⟩
  rw[<-hH4]at st4 B4 o4;have lD:=ldN o4 hdl;obtain⟨p,p',H5,H6,l1,ap,s5,pu⟩:=B4.push hels (j:=1) (o:=2) (z:=3) (ty:=112) (by':=64) (by omega) rfl rfl rfl ds hdl rfl (by omega)
  have he:(O = .error e/\e≠0)\/(∃y:El,y.j=1/\y.cs=ds/\O = .ok (.el y,j3)/\e=0):=by
   rcases hd with⟨d,hdd,hxy,rfl⟩ | ⟨hdd,he⟩
   .injection hxy with hxy;exact .inr ⟨.typ d,rfl,hxy.symm,by rw[hO,K8 hx (by omega) (by omega) (by omega)];simp only[Dr,hdd];rfl,rfl⟩
   .exact .inl ⟨by rw[hO,K8 hx (by omega) (by omega) (by omega)];simp only[Dr,hdd];rfl,he⟩
  obtain⟨P',Hy,lP,sy,ly,S⟩:=B4.end_push pu he;have bs:=A8y n3 hdl;rw[hHz]at t1;have t1:tb [.ptr k0 0,.t (sv s)] ((n2,.cells 112 [.t (sv ⟨#[]⟩),.t Ah,.t Ah])::H2) (n2+1)=some (.t (.tu [.ag ds,iv e]),H3,n3):=t1;refine Ae CB ?_;simp -implicitDefEqProofs [t1,st4,l1,lD,bs,ap,s5];refine Ar Ac ?_;simp -implicitDefEqProofs [lP,sy];exact A0 ⟨BW P' e,Hy,n3+2⟩ S (by simp -implicitDefEqProofs [ly,BW])
 .
  have Bz:=B2.cons (r:=.cells 61 ((zEd:List T).map .t)) (ClR.trees _ _ _)
  obtain⟨Hz,hHz⟩:∃Hz:Ab,Hz=(n2,.cells 61 ((zEd:List T).map .t))::H2:=⟨_,rfl⟩
  have oz:Aa Hz n2=some (.cells 61 ((zEd:List T).map .t)):=by rw[hHz,Az,zy rfl]
  rw[<-hHz]at Bz;obtain⟨y,e,j3,H3,n3,tb,r3,hj3,⟨ds,rfl,hdl⟩,hd,K3,t1,t2⟩:=E7 (A8d (q:=q) (nx:=n2+1) ht hlim hsm Bz.rd (by omega) hj (Bz.cl hC) s);have CB:Ctx Xa (G q) _:=As.nil.ctxH (AF.cons t2 .nil) mixed;have B3:=Bz.kr K3 r3 hj3;have hn2:=B2.hn
  have o3:Aa H3 n2=some (.cells 61 ((zEd:List T).map .t)):=by rw[K3.k n2 (by omega) (by omega)];exact oz
  have st4:=Jk (n:=7) (ds:=ds) o3 rfl hdl;have B4:=B3.upd (b:=n2) (r:=.cells 61 (ds.map .t)) hn2 (λj hj=>by have:=M.lt j hj;omega) (ClR.trees _ _ _)
  have o4:Aa (Xc H3 n2 (.cells 61 (ds.map .t))) n2=some (.cells 61 (ds.map .t)):=by rw[AN,zy rfl,o3];rfl
  obtain⟨H4,hH4⟩:∃H4:Ab,H4=Xc H3 n2 (.cells 61 (ds.map .t)):=⟨_,rfl⟩
  rw[<-hH4]at st4 B4 o4;have lD:=ldN o4 hdl;obtain⟨p,p',H5,H6,l1,ap,s5,pu⟩:=B4.push hels (j:=3) (o:=4) (z:=7) (ty:=61) (by':=136) (by omega) rfl rfl rfl ds hdl rfl (by omega)
  have he:(O = .error e/\e≠0)\/(∃y:El,y.j=3/\y.cs=ds/\O = .ok (.el y,j3)/\e=0):=by
   rcases hd with⟨d,hdd,hxy,rfl⟩ | ⟨hdd,he⟩
   .injection hxy with hxy;exact .inr ⟨d,A8w hdd,hxy.symm,by rw[hO,K8 hx (by omega) (by omega) (by omega)];simp only[Dr,hdd];rfl,rfl⟩
   .exact .inl ⟨by rw[hO,K8 hx (by omega) (by omega) (by omega)];simp only[Dr,hdd];rfl,he⟩
  obtain⟨P',Hy,lP,sy,ly,S⟩:=B4.end_push pu he;have bs:=A8z n3 hdl;rw[hHz]at t1;have t1:tb [.ptr k0 0,.t (sv s)] ((n2,.cells 61 [.t Ah,.t (sv ⟨#[]⟩),.t (iv 0),.t (sv ⟨#[]⟩),.t Ah,.t Ah,.t Ah])::H2) (n2+1)=some (.t (.tu [.ag ds,iv e]),H3,n3):=t1;refine Ae CB ?_;simp -implicitDefEqProofs [t1,st4,l1,lD,bs,ap,s5];refine Ar Ac ?_;simp -implicitDefEqProofs [lP,sy];exact A0 ⟨BW P' e,Hy,n3+2⟩ S (by simp -implicitDefEqProofs [ly,BW])
 .
  have Bz:=B2.cons (r:=.cells 118 ((zLd:List T).map .t)) (ClR.trees _ _ _)
  obtain⟨Hz,hHz⟩:∃Hz:Ab,Hz=(n2,.cells 118 ((zLd:List T).map .t))::H2:=⟨_,rfl⟩
  have oz:Aa Hz n2=some (.cells 118 ((zLd:List T).map .t)):=by rw[hHz,Az,zy rfl]
  rw[<-hHz]at Bz;obtain⟨y,e,j3,H3,n3,tb,r3,hj3,⟨ds,rfl,hdl⟩,hd,K3,t1,t2⟩:=E7 (A7x (q:=q) (nx:=n2+1) ht hlim Bz.rd (by omega) hj (Bz.cl hC) s);have CB:Ctx Xa (G q) _:=As.nil.ctxH (AF.cons t2 .nil) mixed;have B3:=Bz.kr K3 r3 hj3;have hn2:=B2.hn
  have o3:Aa H3 n2=some (.cells 118 ((zLd:List T).map .t)):=by rw[K3.k n2 (by omega) (by omega)];exact oz
  have st4:=Jk (n:=8) (ds:=ds) o3 rfl hdl;have B4:=B3.upd (b:=n2) (r:=.cells 118 (ds.map .t)) hn2 (λj hj=>by have:=M.lt j hj;omega) (ClR.trees _ _ _)
  have o4:Aa (Xc H3 n2 (.cells 118 (ds.map .t))) n2=some (.cells 118 (ds.map .t)):=by rw[AN,zy rfl,o3];rfl
  obtain⟨H4,hH4⟩:∃H4:Ab,H4=Xc H3 n2 (.cells 118 (ds.map .t)):=⟨_,rfl⟩
  rw[<-hH4]at st4 B4 o4;have lD:=ldN o4 hdl;obtain⟨p,p',H5,H6,l1,ap,s5,pu⟩:=B4.push hels (j:=4) (o:=5) (z:=8) (ty:=118) (by':=144) (by omega) rfl rfl rfl ds hdl rfl (by omega)
  have he:(O = .error e/\e≠0)\/(∃y:El,y.j=4/\y.cs=ds/\O = .ok (.el y,j3)/\e=0):=by
   rcases hd with⟨d,hdd,hxy,rfl⟩ | ⟨hdd,he⟩
   .injection hxy with hxy;exact .inr ⟨d,A8x hdd,hxy.symm,by rw[hO,K8 hx (by omega) (by omega) (by omega)];simp only[Dr,hdd];rfl,rfl⟩
   .exact .inl ⟨by rw[hO,K8 hx (by omega) (by omega) (by omega)];simp only[Dr,hdd];rfl,he⟩
  obtain⟨P',Hy,lP,sy,ly,S⟩:=B4.end_push pu he;have bs:=A9a n3 hdl;rw[hHz]at t1;have t1:tb [.ptr k0 0,.t (sv s)] ((n2,.cells 118 [.t (iv 0),.t Ah,.t (sv ⟨#[]⟩),.t (iv 0),.t (sv ⟨#[]⟩),.t Ah,.t Ah,.t Ah])::H2) (n2+1)=some (.t (.tu [.ag ds,iv e]),H3,n3):=t1;refine Ae CB ?_;simp -implicitDefEqProofs [t1,st4,l1,lD,bs,ap,s5];refine Ar Ac ?_;simp -implicitDefEqProofs [lP,sy];exact A0 ⟨BW P' e,Hy,n3+2⟩ S (by simp -implicitDefEqProofs [ly,BW])
 .
  obtain⟨f,hkf,hnam⟩:∃f:Dfn->El,((kind=4/\f = .tmp)\/(kind=7/\f = .rul)\/(kind=8/\f = .roo))/\Dr (l.map kt) kind s j=elD f (Db (l.map kt) s j):=by
   rcases hdk with rfl | rfl | rfl
   .exact⟨.tmp,.inl ⟨rfl,rfl⟩,rfl⟩
   .exact⟨.rul,.inr (.inl ⟨rfl,rfl⟩),rfl⟩
   .exact⟨.roo,.inr (.inr ⟨rfl,rfl⟩),rfl⟩
  have hOe:O=RG (elD f (Db (l.map kt) s j)):=by rw[hO,K8 hx (by omega) k9 k10,hnam]
  obtain⟨ps3,e3,H3,n3,tb,S3,hl3,t1,t2⟩:=A8m (A8p (q:=q) (name:=name) ht hlim B2.rd (by omega) hj (B2.cl hC) B2.M hn0 hels s hkf);rw[<-hOe]at S3;rw[<-hP]at t1;have CB:Ctx Xa (G q) _:=As.nil.ctxH (AF.cons t2 .nil) mixed;have lP:=all B2;have hcl:=B2.hn
  have rs3:Aa H3 (nx+1)=some (.cells B5 (zMd.map .t)):=by rw[S3.k (nx+1) (by omega) (by omega) B2.n2];exact B2.rs
  obtain⟨P3,hP3⟩:∃P3,P3=Bi ps3:=⟨_,rfl⟩
  obtain⟨sy,ly⟩:=RF (ps:=ps3) rs3 rfl hl3
  obtain⟨Hy,hHy⟩:∃Hy,Hy=Xc H3 (nx+1) (.cells B5 ps3):=⟨_,rfl⟩
  rw[<-hP3,<-hHy]at sy ly;rw[<-hP3]at t1;obtain⟨x1,x2⟩:=RH P3 e3
  have d1:((kind:Int)==1)=false:=by rw[zu];omega
  have d2:((kind:Int)==2)=false:=by rw[zu];omega
  have d3:((kind:Int)==3)=false:=by rw[zu];omega
  have d5:((kind:Int)==5)=false:=by rw[zu];omega
  have d6:((kind:Int)==6)=false:=by rw[zu];omega
  have SF:StM l t k0 name ks els H nx O ⟨BW P3 e3,Hy,n3⟩:=by
   obtain⟨ps',e',i',hr',_,hclr,hrd',hi',hdis⟩:=S3.ex;have S3n:n2<=n3:=S3.n
   have hps':ps'=ps3/\e'=e3:=by
    have h1:BW (Bi ps3) e3=BW (Bi ps') e':=hr';have h2:=RH (Bi ps3) e3;have h3:=RH (Bi ps') e';rw[h1]at h2;have h4:=h2.1.symm.trans h3.1;have h5:=h2.2.symm.trans h3.2;injection h4 with h4;injection h5 with h5;injection h5 with h5;injection h5 with h5;injection h5 with _ h5;have h6:=(L7 ps3).symm.trans ((congrArg Bj h4).trans (L7 ps'));injection h6 with h6;exact⟨h6.symm,h5.symm⟩
   obtain⟨rfl,rfl⟩:=hps'
   have hky:∀c,c≠nx+1->Aa Hy c=Aa H3 c:=λc hc=>by rw[hHy,AN,zz hc]
   refine⟨⟨ps',e',i',by rw[hP3],hl3,λh=>hclr (B2.cl h),by show Aa Hy k0=_;rw[hky k0 (by omega)];exact hrd',hi',?_⟩,λc c1 c2 c3=>?_,by show nx<=n3;omega,λh=>?_,λh=>?_⟩
   .rcases hdis with h | ⟨a,h1,h2,name',ks',els',h3,h4,h5,h6⟩
    .exact .inl h
    .exact .inr ⟨a,h1,h2,name',ks',els',h3,h4.keep (λj hj=>hky _ (λe=>h5 (nx+1) (by omega) B2.n2 j hj e.symm)) (Xh _),λc hc hN=>h5 c (by omega) hN,h6⟩
   .show Aa Hy c=_;rw[hky c (by omega),S3.k c (by omega) c2 c3];exact B2.k c c1 c2 c3
   .show Frs Hy n3;rw[hHy];exact(S3.fr (B2.fr h)).upd
   .show Cl Hy n3;rw[hHy];exact(S3.cl (B2.cl h)).upd (hclr (B2.cl h))
  refine Ae CB ?_;simp -implicitDefEqProofs [d1,d2,d3,d5,d6,lP,t1,x1,x2,sy,-BC];exact A0 ⟨BW P3 e3,Hy,n3⟩ SF (by simp -implicitDefEqProofs [ly,BW])
end
noncomputable def Jp (a:List T) (r:T):List T->Option T:=open Classical in λts=>if ts=a then some r else none
theorem Po (a:List T) (r:T):Jp a r a=some r:=by unfold Jp;rw[zy rfl]
theorem Pp {P:Program} {G:A2} {f:FuncId} {a:List T} {r:T} (h:A1 P G f a (· = r)):GOK P G f (Jp a r):=λargs x hx=>by
 unfold Jp at hx;split at hx
 .rename_i e;injection hx with hx;subst hx;subst e;exact h
 .cases hx
theorem A9c (k:Int) (s:ByteArray) (v:Int):A1 Xa (G q) 29 [.ag [iv k,sv s,iv v]] (· = iv (D1 (k,s.data.toList):Nat)):=by
 have hc:Bj (.t (.ag [iv k,sv s,iv v]))=some [.t (iv k),.t (sv s),.t (iv v)]:=rfl;have l0:Aj false 1 [(0,.cells 42 [.t (iv k),.t (sv s),.t (iv v)])] (.ptr 0 0)=some (.t (iv k)):=rfl;have l1:Aj false 1 [(0,.cells 42 [.t (iv k),.t (sv s),.t (iv v)])] (.ptr 0 1)=some (.t (sv s)):=rfl
 obtain⟨L,hL⟩:∃L,s.toList=L:=⟨_,rfl⟩
 have hL2:s.data.toList=L:=by rw[<-HI];exact hL
 rw[hL2];refine sY.runs c0 rfl ?_;by_cases hk:k=1
 rotate_left
 .have hb:(k != 1)=true:=by rw[bne_iff_ne];exact hk
  have e:D1 (k,L)=0:=zz hk;rw[e]
  (conv in Gc=>cbv);simp -implicitDefEqProofs [hc,l0,l1,hb]
 subst hk;have e:D1 (1,L)=Fj L:=zy rfl;rw[e];clear e hL2
 have nb:∀{w:List UInt8},¬L=w->(L==w)=false:=λh=>by rw[zu];exact h
 by_cases h1:L=[109,111,100,117,108,101]
 .subst h1;(conv in Gc=>cbv);simp -implicitDefEqProofs [hc,l0,l1,hL,Fj]
 by_cases h2:L=[105,109,112,111,114,116]
 .subst h2;(conv in Gc=>cbv);simp -implicitDefEqProofs [hc,l0,l1,hL,Fj]
 by_cases h3:L=[116,121,112,101]
 .subst h3;(conv in Gc=>cbv);simp -implicitDefEqProofs [hc,l0,l1,hL,Fj]
 by_cases h4:L=[116,101,109,112,108,97,116,101]
 .subst h4;(conv in Gc=>cbv);simp -implicitDefEqProofs [hc,l0,l1,hL,Fj]
 by_cases h5:L=[101,110,116,114,121]
 .subst h5;(conv in Gc=>cbv);simp -implicitDefEqProofs [hc,l0,l1,hL,Fj]
 by_cases h6:L=[108,101,120,114,117,108,101]
 .subst h6;(conv in Gc=>cbv);simp -implicitDefEqProofs [hc,l0,l1,hL,Fj]
 by_cases h7:L=[114,117,108,101]
 .subst h7;(conv in Gc=>cbv);simp -implicitDefEqProofs [hc,l0,l1,hL,Fj]
 by_cases h8:L=[114,111,111,116]
 .subst h8;(conv in Gc=>cbv);simp -implicitDefEqProofs [hc,l0,l1,hL,Fj]
 by_cases h9:L=[99,104,101,99,107]
 .subst h9;(conv in Gc=>cbv);simp -implicitDefEqProofs [hc,l0,l1,hL,Fj]
 by_cases h10:L=[100,114,111,112]
 .subst h10;(conv in Gc=>cbv);simp -implicitDefEqProofs [hc,l0,l1,hL,Fj]
 (conv in Gc=>cbv);simp -implicitDefEqProofs [hc,l0,l1,hL,Fj,h1,h2,h3,h4,h5,h6,h7,h8,h9,h10,nb h1,nb h2,nb h3,nb h4,nb h5,nb h6,nb h7,nb h8,nb h9,nb h10]
theorem jC {cs:List T} (hcs:cs.length=10) {kind:Nat} (h1:2<=kind) (h2:kind<=10) {a:T} (ha:cs[kind-1]?=some a) {n:Nat} (hn:AO (.t a)=some (.t (iv (n:Int)))):A1 Xa (G q) 30 [.ag cs,iv (kind:Int)] (· = iv (n:Int)):=by
 match cs,hcs with
 | [x0,x1,x2,x3,x4,x5,x6,x7,x8,x9],_=>
  have ld:∀j,Aj false 1 [(0,.cells 51 [.t x0,.t x1,.t x2,.t x3,.t x4,.t x5,.t x6,.t x7,.t x8,.t x9])] (.ptr 0 j)=([.t x0,.t x1,.t x2,.t x3,.t x4,.t x5,.t x6,.t x7,.t x8,.t x9]:List PV)[j]?:=λj=>rfl;have hc:Bj (.t (.ag [x0,x1,x2,x3,x4,x5,x6,x7,x8,x9]))=some [.t x0,.t x1,.t x2,.t x3,.t x4,.t x5,.t x6,.t x7,.t x8,.t x9]:=rfl;refine sZ.runs c0 rfl ?_
  have hk:kind=2\/kind=3\/kind=4\/kind=5\/kind=6\/kind=7\/kind=8\/kind=9\/kind=10:=by omega
  rcases hk with rfl | rfl | rfl | rfl | rfl | rfl | rfl | rfl | rfl
  all_goals
   simp only[Nat.reduceSub,List.getElem?_cons_succ,List.getElem?_cons_zero,Option.some.injEq]at ha;subst ha
   (conv in YX=>cbv);simp -implicitDefEqProofs [hc,ld,hn]
theorem jD {α β:Type} {one:β->Int} (f:α->β):∀L:List α,AV one (L.map f)=AV (λx=>one (f x)) L
 | []=>rfl
 | x::r=>by rw[Xy,AV,AV,jD f r]
theorem IsS.map' {α β:Type} {e:Enc α} {e':Enc β} {f:α->β} (h:∀x,e'.enc (f x)=e.enc x) {t:T} {l:List α} (H:IsS e t l):IsS e' t (l.map f):=by
 rcases H with⟨rfl,rfl⟩ | rfl
 .exact .inl ⟨rfl,rfl⟩
 .exact .inr (by simp only[slT,Xk,List.flatMap_map,h])
theorem IsL.use {α:Type} {z:Nat} {h:0<z} {R:α->List T->Prop} {t:T} {l:List α} (H:IsL z h R t l) {C:Int->Prop} {one:α->Int} (k:∀L:List (α×RwC z),IsS (eR z h) t (L.map (·.2))->L.length=l.length->(∀p∈L,R p.1 p.2.1/\p.1∈l)->C (AV (λp=>one p.1) L)):C (AV one l):=by
 obtain⟨L,rfl,h1,h2⟩:=H;rw[jD]
 exact k L h1 (Xk _).symm λp hp=>⟨h2 p hp,List.mem_map_of_mem hp⟩
theorem A9d {g:List T->Option T} {x y:T} {v:Int} (h:g [x,y]=some (iv v)) (H:Ab) (nx:Nat):Ct g [.t x,.t y] H nx=some (.t (iv v),H,nx):=by
 unfold Ct;simp only[BQ,toT,h,Option.bind,Yy];rfl
theorem Ik {f:FuncId} {x y:T} {v:Int} (h:A1 Xa (G q) f [x,y] (· = iv v)):∃o,(∀H nx,o [.t x,.t y] H nx=some (.t (iv v),H,nx))/\HOK Xa (G q) f o:=⟨Ct (Jp [x,y] (iv v)),λH nx=>A9d (Po _ _) H nx,(Pp h).hok⟩
structure Np (m:ML):Prop where
 n:SzS m.name
 n0:m.imps.length<=1000000
 n1:m.typs.length<=1000000
 n2:m.tmps.length<=1000000
 n3:m.ents.length<=1000000
 n4:m.lexs.length<=1000000
 n5:m.ruls.length<=1000000
 n6:m.roos.length<=1000000
 n7:m.chks.length<=1000000
 n8:m.drps.length<=1000000
 p0:∀s∈m.imps,SzS s
 p1:∀d∈m.typs,SzT d
 p2:∀d∈m.tmps,SzD d
 p3:∀d∈m.ents,SzE d
 p4:∀d∈m.lexs,SzL d
 p5:∀d∈m.ruls,SzD d
 p6:∀d∈m.roos,SzD d
 p7:∀d∈m.chks,d.length<=1000000/\∀s∈d,SzS s
 p8:∀s∈m.drps,SzS s
def Il (m:ML) (k:Nat):Nat:=
 if k=2 then m.imps.length else if k=3 then m.typs.length else if k=4 then m.tmps.length else if k=5 then m.ents.length else if k=6 then m.lexs.length
 else if k=7 then m.ruls.length else if k=8 then m.roos.length else if k=9 then m.chks.length else m.drps.length
def DG (m:ML) (k:Nat):Int:=
 if k=2 then AV Eb m.imps else if k=3 then AV G9 m.typs else if k=4 then AV DF m.tmps else if k=5 then AV GC m.ents else if k=6 then AV FR m.lexs
 else if k=7 then AV DF m.ruls else if k=8 then AV DF m.roos else if k=9 then AV G8 m.chks else AV E8 m.drps
def kinds:List Nat:=[2,3,4,5,6,7,8,9,10]
def K9 (m:ML):Bool:=kinds.any (λk=>decide (256<Il m k))
def FS (m:ML):Int:=if AD false m.name=false then 1 else if K9 m then 7 else AV (DG m) kinds
def Pq (H0:Ab) (k:Nat):Ad:=⟨[(3,.t (iv (k:Int))),(1,.ptr 0 0)],H0,1,69⟩
def Eg (H0:Ab) (c:Nat×Int):Ad:=⟨[(5,.t (iv (c.1:Int))),(4,.t (iv c.2)),(1,.ptr 0 0)],H0,1,69⟩
structure Me1 (m:ML) (k:Nat):Prop where
 a:2<=k
 b:k<=11
 c:∀j,2<=j->j<k->Il m j<=256
structure Me2 (m:ML) (c:Nat×Int):Prop where
 a:3<=c.1
 b:c.1<=11
 e:AV (DG m) kinds=if c.2≠0 then c.2 else AV (DG m) (kinds.drop (c.1-2))
theorem Me1.all {m:ML} (h:Me1 m 11):K9 m=false:=by
 unfold K9;rw[Yz];intro k hk;rw[decide_eq_true_eq]
 have hk:2<=k/\k<=10:=by
  simp only[kinds,Xl,X6,or_false]at hk;omega
 have:=h.c k hk.1 (by omega);omega
theorem Me1.one {m:ML} {k:Nat} (h1:2<=k) (h2:k<=10) (h:256<Il m k):K9 m=true:=by
 unfold K9;rw[Yt];refine⟨k,?_,by rw[decide_eq_true_eq];exact h⟩;simp only[kinds,Xl,X6,or_false];omega
theorem Me2.step {m:ML} {k:Nat} {v:Int} (h:Me2 m (k,0)) (hk:k<=10) (hv:DG m k=v):Me2 m (k+1,v):=by
 have ha:=h.a;have he:=h.e;simp only at ha he;refine⟨by show 3<=k+1;omega,by show k+1<=11;omega,?_⟩;rw[zz (λh=>h rfl)]at he;rw[he]
 have hx:kinds[k-2]?=some k:=by
  have:k=3\/k=4\/k=5\/k=6\/k=7\/k=8\/k=9\/k=10:=by omega
  rcases this with rfl | rfl | rfl | rfl | rfl | rfl | rfl | rfl<;>rfl
 rw[LC hx,hv,show k-2+1=k+1-2 by omega]
theorem A9e {m:ML} {c:List T} (hm:Cn m c) (hz:Np m):A1 Xa (G q) 35 [.ag c] (· = iv (FS m)):=by
 obtain⟨R,hR⟩:∃R,R=FS m:=⟨_,rfl⟩
 rw[<-hR];unfold FS at hR;obtain⟨t0,t1,t2,t3,t4,t5,t6,t7,t8,⟨rfl,h0,h1,h2,h3,h4,h5,h6,h7,h8⟩⟩:=hm;obtain⟨o2,e2,k2⟩:=Ik (show A1 Xa (G q) 65 [t0,fnT 66] (· = iv (DG m 2))from fQ A4w (IsS.map' (e':=eR1) (f:=rwS) (λ_=>rfl) h0) hz.n0 λs hs=>A4x (hz.p0 s hs));obtain⟨o3,e3,k3⟩:=Ik (show A1 Xa (G q) 67 [t1,fnT 68] (· = iv (DG m 3))from h1.use (C:=λv=>A1 Xa (G q) 67 [t1,fnT 68] (· = iv v)) λL hs hl hp=>A4a A5m hs (by have:=hz.n1;omega) λp hpm=>A5l (hp p hpm).1 (hz.p1 _ (hp p hpm).2));obtain⟨o4,e4,k4⟩:=Ik (show A1 Xa (G q) 69 [t2,fnT 70] (· = iv (DG m 4))from h2.use (C:=λv=>A1 Xa (G q) 69 [t2,fnT 70] (· = iv v)) λL hs hl hp=>Uu Pm hs (by have:=hz.n2;omega) λp hpm=>Pl (hp p hpm).1 (hz.p2 _ (hp p hpm).2));obtain⟨o5,e5,k5⟩:=Ik (show A1 Xa (G q) 71 [t3,fnT 72] (· = iv (DG m 5))from h3.use (C:=λv=>A1 Xa (G q) 71 [t3,fnT 72] (· = iv v)) λL hs hl hp=>A4b A8j hs (by have:=hz.n3;omega) λp hpm=>A8i (hp p hpm).1 (hz.p3 _ (hp p hpm).2));obtain⟨o6,e6,k6⟩:=Ik (show A1 Xa (G q) 73 [t4,fnT 74] (· = iv (DG m 6))from h4.use (C:=λv=>A1 Xa (G q) 73 [t4,fnT 74] (· = iv v)) λL hs hl hp=>A4c A8l hs (by have:=hz.n4;omega) λp hpm=>A8k (hp p hpm).1 (hz.p4 _ (hp p hpm).2));obtain⟨o7,e7,k7⟩:=Ik (show A1 Xa (G q) 69 [t5,fnT 70] (· = iv (DG m 7))from h5.use (C:=λv=>A1 Xa (G q) 69 [t5,fnT 70] (· = iv v)) λL hs hl hp=>Uu Pm hs (by have:=hz.n5;omega) λp hpm=>Pl (hp p hpm).1 (hz.p5 _ (hp p hpm).2));obtain⟨o8,e8,k8⟩:=Ik (show A1 Xa (G q) 69 [t6,fnT 70] (· = iv (DG m 8))from h6.use (C:=λv=>A1 Xa (G q) 69 [t6,fnT 70] (· = iv v)) λL hs hl hp=>Uu Pm hs (by have:=hz.n6;omega) λp hpm=>Pl (hp p hpm).1 (hz.p6 _ (hp p hpm).2))
 obtain⟨o9,e9,k9⟩:=Ik (show A1 Xa (G q) 75 [t7,fnT 76] (· = iv (DG m 9))from h7.use (C:=λv=>A1 Xa (G q) 75 [t7,fnT 76] (· = iv v)) λL hs hl hp=>A4d A5o hs (by have:=hz.n7;omega) λp hpm=>by
  obtain⟨u,hu,hu2⟩:=(hp p hpm).1;rw[hu]
  exact A5n hu2 (hz.p7 _ (hp p hpm).2).1 (hz.p7 _ (hp p hpm).2).2)
 obtain⟨o10,e10,k10⟩:=Ik (show A1 Xa (G q) 65 [t8,fnT 77] (· = iv (DG m 10))from fQ A4y (IsS.map' (e':=eR1) (f:=rwS) (λ_=>rfl) h8) hz.n8 λs hs=>A4z (hz.p8 s hs));have gn:=LB hz.n
 have hln:∀k:Nat,2<=k->k<=10->∃a,[sv m.name,t0,t1,t2,t3,t4,t5,t6,t7,t8][k-1]?=some a/\AO (.t a)=some (.t (iv (Il m k:Int))):=by
  intro k ha hb
  have:k=2\/k=3\/k=4\/k=5\/k=6\/k=7\/k=8\/k=9\/k=10:=by omega
  rcases this with rfl | rfl | rfl | rfl | rfl | rfl | rfl | rfl | rfl
  .exact⟨t0,rfl,h0.len⟩
  .exact⟨t1,rfl,h1.len⟩
  .exact⟨t2,rfl,h2.len⟩
  .exact⟨t3,rfl,h3.len⟩
  .exact⟨t4,rfl,h4.len⟩
  .exact⟨t5,rfl,h5.len⟩
  .exact⟨t6,rfl,h6.len⟩
  .exact⟨t7,rfl,h7.len⟩
  .exact⟨t8,rfl,h8.len⟩
 have hlc:∀k:Nat,2<=k->k<=10->A1 Xa (G q) 30 [.ag [sv m.name,t0,t1,t2,t3,t4,t5,t6,t7,t8],iv (k:Int)] (· = iv (Il m k:Int)):=λk ha hb=>by
  obtain⟨a,h1,h2⟩:=hln k ha hb;exact jC rfl ha hb h1 h2
 have hc:Bj (.t (.ag [sv m.name,t0,t1,t2,t3,t4,t5,t6,t7,t8]))=some [.t (sv m.name),.t t0,.t t1,.t t2,.t t3,.t t4,.t t5,.t t6,.t t7,.t t8]:=rfl
 obtain⟨H0,hH0⟩:∃H0:Ab,H0=[(0,.cells 51 [.t (sv m.name),.t t0,.t t1,.t t2,.t t3,.t t4,.t t5,.t t6,.t t7,.t t8])]:=⟨_,rfl⟩
 have ld:∀j,Aj false 1 H0 (.ptr 0 j)=([.t (sv m.name),.t t0,.t t1,.t t2,.t t3,.t t4,.t t5,.t t6,.t t7,.t t8]:List PV)[j]?:=λj=>by rw[hH0];rfl
 have la:Aj true 10 H0 (.ptr 0 0)=some (.t (.ag [sv m.name,t0,t1,t2,t3,t4,t5,t6,t7,t8])):=by rw[hH0];rfl
 refine CG (args:=[.ag [sv m.name,t0,t1,t2,t3,t4,t5,t6,t7,t8]]) ?_;refine tE.callX rfl ?_;(conv in ZB=>cbv);refine Ae Ac ?_;simp -implicitDefEqProofs [hc];refine Bg (s':=⟨[(1,.ptr 0 0)],H0,1,69⟩) (by rw[hH0];exact sub_env (by simp -implicitDefEqProofs)) rfl ?_;clear hH0
 cases hn:AD false m.name with
 | false=>
  rw[hn]at gn;rw[zy hn]at hR;refine Ae Gi ?_;simp -implicitDefEqProofs [ld,FQ,gn];exact A0 ⟨.t (iv 1),H0,1⟩ ⟨by rw[hR]⟩ (by simp -implicitDefEqProofs)
 | true=>
 rw[hn]at gn;rw[zz (by rw[hn];decide)]at hR;refine Ae Gi ?_;simp -implicitDefEqProofs [ld,FQ,gn];refine AE (α:=Unit) (λ_=>⟨[(1,.ptr 0 0)],H0,1,69⟩) (λ_=>K9 m=false) (λ_=>rfl) ?_ ?_
 .refine Ae Ac ?_;simp -implicitDefEqProofs;refine AG ?_;refine BV (Pq H0) (λk=>11-k) (Me1 m) 2 (λ_=>rfl) ⟨by omega,by omega,λj h1 h2=>by omega⟩ (sub_env (by simp -implicitDefEqProofs [Pq])) rfl ?_;intro k hk;obtain⟨ha,hb,hcc⟩:=id hk;by_cases hlt:k<=10
  rotate_left
  .have hlt':¬(k:Int)<=10:=by omega
   have hk11:k=11:=by omega
   subst hk11;refine Ae Ac ?_;simp -implicitDefEqProofs [Pq];exact Am.mk () hk.all (sub_env (by simp -implicitDefEqProofs))
  have hlt':(k:Int)<=10:=by omega
  have e1:Xj.wrap ((k:Int)+1)=((k+1:Nat):Int):=AP (by omega) (by omega)
  obtain⟨g,hg⟩:∃g,g=Jp [.ag [sv m.name,t0,t1,t2,t3,t4,t5,t6,t7,t8],iv (k:Int)] (iv (Il m k:Int)):=⟨_,rfl⟩
  have gl:g [.ag [sv m.name,t0,t1,t2,t3,t4,t5,t6,t7,t8],iv (k:Int)]=some (iv (Il m k:Int)):=by rw[hg];exact Po _ _
  have CL:Ctx Xa (G q) (orc [(30,g)]):=(As.cons (by rw[hg];exact Pp (hlc k ha hlt)) .nil).ctx mixed;refine Ae Ac ?_;simp -implicitDefEqProofs [Pq,hlt,hlt'];by_cases hl:256<Il m k
  .rw[zy (Me1.one ha hlt hl)]at hR
   have hl':(256:Int)<(Il m k:Int):=by omega
   refine Ar CL ?_;simp -implicitDefEqProofs [la,gl,hl,hl'];exact A0 ⟨.t (iv 7),H0,1⟩ ⟨by rw[hR]⟩ (by simp -implicitDefEqProofs)
  .have hl':¬(256:Int)<(Il m k:Int):=by omega
   refine Ar CL ?_;simp -implicitDefEqProofs [la,gl,hl,hl',e1]
   exact Am.mk (k+1) ⟨⟨by omega,by omega,λj h1 h2=>by
    by_cases hj:j=k
    .subst hj;omega
    .exact hcc j h1 (by omega)⟩,by omega⟩ (sub_env (by simp -implicitDefEqProofs [Pq]))
 rintro _ hlong;rw[zz (by rw[hlong];decide)]at hR;have e2':=e2 H0 1;refine Ae (As.nil.ctxH (AF.cons k2 .nil) mixed) ?_;simp -implicitDefEqProofs [ld,e2'];refine AE (λv:Int=>⟨[(4,.t (iv v))],H0,1,69⟩) (λv=>R=v) (λ_=>rfl) ?_ ?_
 rotate_left
 .rintro v hv;refine Ar Ac ?_;simp -implicitDefEqProofs;exact A0 ⟨.t (iv v),H0,1⟩ ⟨by rw[hv]⟩ (by simp -implicitDefEqProofs)
 refine Ae Ac ?_;simp -implicitDefEqProofs;refine AG ?_;refine BV (Eg H0) (λc=>11-c.1) (Me2 m) (3,DG m 2) (λ_=>rfl) ⟨by show 3<=3;omega,by show 3<=11;omega,rfl⟩ (sub_env (by simp -implicitDefEqProofs [Eg])) rfl ?_;rintro⟨k,v⟩ hk;have ha:=hk.a;have hb:=hk.b;have he:=hk.e;simp only at ha hb he;by_cases hv:v=0
 rotate_left
 .have hv':(v==0)=false:=by rw[zu];exact hv
  rw[zy hv]at he;by_cases hlt':(k:Int)<=10
  .refine Ae Ac ?_;simp -implicitDefEqProofs [Eg,hlt',hv'];exact Am.mk v (by rw[hR,he]) (sub_env (by simp -implicitDefEqProofs))
  .refine Ae Ac ?_;simp -implicitDefEqProofs [Eg,hlt'];exact Am.mk v (by rw[hR,he]) (sub_env (by simp -implicitDefEqProofs))
 subst hv;by_cases hlt:k<=10
 rotate_left
 .have hk11:k=11:=by omega
  subst hk11;rw[zz (λh=>h rfl)]at he;refine Ae Ac ?_;simp -implicitDefEqProofs [Eg];exact Am.mk 0 (by rw[hR,he];rfl) (sub_env (by simp -implicitDefEqProofs))
 have fin:∀(v:Int),DG m k=v->Me2 m (k+1,v)/\11-(k+1)<11-k:=λv hv=>⟨hk.step hlt hv,by omega⟩
 have:k=3\/k=4\/k=5\/k=6\/k=7\/k=8\/k=9\/k=10:=by omega
 rcases this with rfl | rfl | rfl | rfl | rfl | rfl | rfl | rfl
 .have e:=e3 H0 1;refine Ae Ac ?_;simp -implicitDefEqProofs [Eg];refine Ar (As.nil.ctxH (AF.cons k3 .nil) mixed) ?_;simp -implicitDefEqProofs [ld,e];exact Am.mk (4,DG m 3) (fin _ rfl) (sub_env (by simp -implicitDefEqProofs [Eg,(by decide:Xj.wrap 4=4)]))
 .have e:=e4 H0 1;refine Ae Ac ?_;simp -implicitDefEqProofs [Eg];refine Ar (As.nil.ctxH (AF.cons k4 .nil) mixed) ?_;simp -implicitDefEqProofs [ld,e];exact Am.mk (5,DG m 4) (fin _ rfl) (sub_env (by simp -implicitDefEqProofs [Eg,(by decide:Xj.wrap 5=5)]))
 .have e:=e5 H0 1;refine Ae Ac ?_;simp -implicitDefEqProofs [Eg];refine Ar (As.nil.ctxH (AF.cons k5 .nil) mixed) ?_;simp -implicitDefEqProofs [ld,e];exact Am.mk (6,DG m 5) (fin _ rfl) (sub_env (by simp -implicitDefEqProofs [Eg,(by decide:Xj.wrap 6=6)]))
 .have e:=e6 H0 1;refine Ae Ac ?_;simp -implicitDefEqProofs [Eg];refine Ar (As.nil.ctxH (AF.cons k6 .nil) mixed) ?_;simp -implicitDefEqProofs [ld,e];exact Am.mk (7,DG m 6) (fin _ rfl) (sub_env (by simp -implicitDefEqProofs [Eg,(by decide:Xj.wrap 7=7)]))
 .have e:=e7 H0 1;refine Ae Ac ?_;simp -implicitDefEqProofs [Eg];refine Ar (As.nil.ctxH (AF.cons k7 .nil) mixed) ?_;simp -implicitDefEqProofs [ld,e];exact Am.mk (8,DG m 7) (fin _ rfl) (sub_env (by simp -implicitDefEqProofs [Eg,(by decide:Xj.wrap 8=8)]))
 .have e:=e8 H0 1;refine Ae Ac ?_;simp -implicitDefEqProofs [Eg];refine Ar (As.nil.ctxH (AF.cons k8 .nil) mixed) ?_;simp -implicitDefEqProofs [ld,e];exact Am.mk (9,DG m 8) (fin _ rfl) (sub_env (by simp -implicitDefEqProofs [Eg,(by decide:Xj.wrap 9=9)]))
 .have e:=e9 H0 1;refine Ae Ac ?_;simp -implicitDefEqProofs [Eg];refine Ar (As.nil.ctxH (AF.cons k9 .nil) mixed) ?_;simp -implicitDefEqProofs [ld,e];exact Am.mk (10,DG m 9) (fin _ rfl) (sub_env (by simp -implicitDefEqProofs [Eg,(by decide:Xj.wrap 10=10)]))
 .have e:=e10 H0 1;refine Ae Ac ?_;simp -implicitDefEqProofs [Eg];refine Ar (As.nil.ctxH (AF.cons k10 .nil) mixed) ?_;simp -implicitDefEqProofs [ld,e];exact Am.mk (11,DG m 10) ⟨(fin _ rfl).1,rfl⟩ (sub_env (by simp -implicitDefEqProofs [Eg,(by decide:Xj.wrap 11=11)]))
noncomputable def jE (ts:List T):Option T:=g1 tMl (λd=>open Classical in if Np d then some (iv (FS d))else none) ts
theorem A9f {x:ML} {c:List T} (hx:Cn x c) (h:Np x):jE [.ag c]=some (iv (FS x)):=by
 show g1 _ _ _=_;rw[D8 (τ:=tMl) (x:=x) ⟨c,rfl,hx⟩,zy h]
theorem A9g:GOK Xa (G q) 35 jE:=D6 λa x r ha hr=>by
 split at hr
 .rename_i hc;injection hr with hr;subst hr;obtain⟨c,rfl,hd⟩:=ha;exact A9e hd hc
 .cases hr
theorem A9h (a b:List UInt8):bs a++bs b=bs (a++b):=by
 show(⟨a.toArray⟩:ByteArray)++⟨b.toArray⟩=_;apply ByteArray.ext;simp[bs,ByteArray.data_append]
theorem FT {a b:List UInt8} (h:a.length+b.length<=2000000000) (Φ:A7) (H:Ab) (nx:Nat):Ai Φ H nx (.bin false .add none) [.t (sv (bs a)),.t (sv (bs b))]=some (.t (sv (bs (a++b))),H,nx):=by
 have e:DJ false .add (.string (bs a)) (.string (bs b))=some (.string (bs a++bs b)):=by
  show(if(bs a).size+(bs b).size<=9223372036854775807 then some (Value.string (bs a++bs b))else none)=_;exact zy (by show a.toArray.size+b.toArray.size<=_;rw[Ya,Ya];omega)
 rw[<-A9h]
 show(match DJ false .add (.string (bs a)) (.string (bs b))with
   | some v=>some (PV.t (.v v),H,nx)
   | none=>_)=_
 rw[e]
inductive Wr:Ds->Prop where
 | mk (op:Int) (name:ByteArray) (path:List ByteArray) (kids:List Ds):1<=op->op<=8->(op=5->path≠[]/\kids.length=1)->(op=7->2<=kids.length)->(op=1->name.size≠0)->(op=4->kids≠[])->path.length<=1000->kids.length<=1000->(wrD (.mk op name path kids)).length<=1000000000->(∀k∈kids,Wr k)->Wr (.mk op name path kids)
def Jq (sep last:List UInt8) (kids:List Ds) (j:Nat):List UInt8:=(if j=0 then []else ER sep last (kids.drop j))++wrL sep last (kids.drop j)
theorem A9i (sep last:List UInt8) (kids:List Ds):Jq sep last kids 0=wrL sep last kids:=by simp[Jq]
theorem A9j (sep last:List UInt8) (kids:List Ds):Jq sep last kids kids.length=[]:=by
 unfold Jq;rw[List.drop_length];split<;>simp[ER,wrL]
def UR (sep last:List UInt8) (n j:Nat):List UInt8:=if j=0 then []else if j+1=n then last else sep
theorem A9k (sep last:List UInt8) (kids:List Ds) {j:Nat} {x:Ds} (h:kids[j]?=some x):Jq sep last kids j=UR sep last kids.length j++(wrD x++Jq sep last kids (j+1)):=by
 obtain⟨hlt,he⟩:=Xx.1 h;unfold Jq UR;rw[List.drop_eq_getElem_cons hlt,he,wrL,zz (show ¬j+1=0 by omega)];by_cases h0:j=0
 .rw[zy h0,zy h0]
 .rw[zz h0,zz h0];congr 1
  cases hd:kids.drop (j+1)with
  | nil=>
   have:kids.length<=j+1:=List.drop_eq_nil_iff.1 hd;rw[zy (by omega)];rfl
  | cons y r=>
   have:(kids.drop (j+1)).length=r.length+1:=by rw[hd];rfl
   rw[Ym]at this;rw[zz (by omega)];rfl
def Pr:List ByteArray->List UInt8
 | []=>[]
 | s::r=>46::Dg (s::r)
theorem US (s:ByteArray) (r:List ByteArray):Dg (s::r)=s.data.toList++Pr r:=by cases r<;>rfl
theorem jH (b:UInt8) {s:ByteArray} (h:s.data.toList.length<=1000000000) (Φ:A7) (H:Ab) (nx:Nat):Ai Φ H nx (.bin false .add none) [.t (sv ⟨#[b]⟩),.t (sv s)]=some (.t (sv (bs (b::s.data.toList))),H,nx):=by
 have:=FT (a:=[b]) (b:=s.data.toList) (by show 1+_<=_;omega) Φ H nx;rw[En]at this;exact this
theorem Wr.parts {op:Int} {name:ByteArray} {path:List ByteArray} {kids:List Ds} (h:Wr (.mk op name path kids)):1<=op/\op<=8/\(op=5->path≠[]/\kids.length=1)/\(op=7->2<=kids.length)/\(op=1->name.size≠0)/\(op=4->kids≠[])/\path.length<=1000/\kids.length<=1000/\(wrD (.mk op name path kids)).length<=1000000000/\∀k∈kids,Wr k:=by
 cases h with
 | mk _ _ _ _ h1 h2 h3 h4 n1 n2 h5 h6 h7 h8=>exact⟨h1,h2,h3,h4,n1,n2,h5,h6,h7,h8⟩
def LP (d:Ds):T:=if Bb d 1≠0 then .tu [sv ⟨#[]⟩,iv (Bb d 1)]else if 65536<(wrD d).length then .tu [sv ⟨#[]⟩,iv 7]else .tu [sv (bs (wrD d)),iv 0]
theorem jJ:∀(path:List ByteArray),(∀s∈path,s.size<=60)->(Dg path).length<=61*path.length
 | [],_=>by simp[Dg]
 | s::r,h=>by
  have h1:s.data.toList.length<=60:=h s (by simp);have ih:=jJ r (λx hx=>h x (by simp[hx]));rw[US,Xb,Xg]
  have:(Pr r).length<=1+(Dg r).length:=by
   cases r with
   | nil=>simp[Pr]
   | cons y r=>simp[Pr];omega
  omega
theorem Small.parts {op:Int} {name:ByteArray} {path:List ByteArray} {kids:List Ds} (h:Small (.mk op name path kids)):name.size<=60/\path.length<=80/\(∀s∈path,s.size<=60)/\kids.length<=400/\∀k∈kids,Small k:=by
 cases h with
 | mk _ _ _ _ h1 h2 h3 h4 h5=>exact⟨h1,h2,h3,h4,h5⟩
theorem A9l {α β:Type} {sep last:List α} (h1:sep.length<=3) (h2:last.length<=3) (r:List β):(ER sep last r).length<=3:=by
 match r with
 | []=>simp[ER]
 | [_]=>exact h2
 | _::_::_=>exact h1
mutual
theorem jK:∀d:Ds,Small d->(wrD d).length+3<=6000*JX d
 | .mk op name path kids,h=>by
  obtain⟨h1,h2,h3,h4,h5⟩:=h.parts;have hd:=jJ path h3;have hn:name.data.toList.length<=60:=h1;have k1:=Ps [32,38,32] [32,38,32] (by simp) (by simp) kids h5;have k2:=Ps [] [] (by simp) (by simp) kids h5;have k3:=Ps [44,32] [44,32] (by simp) (by simp) kids h5;have k4:=Ps [44,32] [32,124,32] (by simp) (by simp) kids h5;rw[wrD,JX];split
  .omega
  .split
   .rw[Xg];omega
   .split
    .rw[Xg];omega
    .split
     .omega
     .split
      .simp only[Xg,Xb,Xm];omega
      .split
       .simp only[Xg,Xb,Xm];omega
       .split
        .simp only[Xg,Xb,Xm];omega
        .split
         .simp only[Xg,Xm];omega
         .simp only[Xg,Xb,Xm];omega
theorem Ps (sep last:List UInt8) (h1:sep.length<=3) (h2:last.length<=3):∀l:List Ds,(∀k∈l,Small k)->(wrL sep last l).length<=6000*FN l
 | [],_=>by simp[wrL]
 | d::r,h=>by
  have i1:=jK d (h d (by simp));have i2:=Ps sep last h1 h2 r (λk hk=>h k (by simp[hk]));have i3:=A9l h1 h2 r;rw[wrL,FN,Xb,Xb];omega
end
theorem jP {k:Ds}:∀{l:List Ds},k∈l->JX k<=FN l
 | d::r,h=>by
  rw[FN];rcases Xl.1 h with rfl | h
  .omega
  .have:=jP h;omega
theorem jQ {k:Ds} {lv:Nat}:∀{l:List Ds},DS l lv=0->k∈l->Bb k lv=0
 | d::r,h,hk=>by
  rw[DS]at h;split at h
  .rename_i h1;exact absurd h h1
  .rename_i h1;rcases Xl.1 hk with rfl | hk
   .exact Decidable.of_not_not h1
   .exact jQ h hk
theorem Small.wr:∀{d:Ds},Small d->JX d<=100000->∀{lv:Nat},Bb d lv=0->Wr d:=λh=>by
 induction h with
 | mk op name path kids h1 h2 h3 h4 h5 ih=>
  intro hn lv hc;have hsz:=jK _ (Small.mk op name path kids h1 h2 h3 h4 h5);rw[Bb]at hc;split at hc
  .omega
  .rename_i hlv;split at hc
   .rename_i hf;exact absurd hc hf
   .rename_i hf;have hf:=Decidable.of_not_not hf;unfold E4 at hf;split at hf
    .omega
    .rename_i hop;split at hf
     .rename_i hB;unfold HS at hB;simp only[X0]at hB;obtain⟨⟨⟨b1,b2⟩,b3⟩,b4⟩:=hB;rw[JX]at hn hsz;refine .mk op name path kids (by omega) (by omega) (λe=>?_) (λe=>?_) (λe=>?_) (λe=>?_) (by omega) (by omega) (by omega) (λk hk=>ih k hk (by have:=jP hk;omega) (jQ hc hk))
      .subst e;refine⟨?_,?_⟩
       .rintro rfl;simp at b2
       .unfold Es at b4;simpa[Fy]using b4
      .subst e;unfold Es at b4;simpa[Fy]using b4
      .subst e;intro hz;rw[zy (by rfl),fR hz]at b1;cases b1
      .subst e;rintro rfl;unfold Es at b4;simp[Fy]at b4
     .omega
section
variable {l : List KT}
def KOK (t:KT):Prop:=(t.1=1\/t.1=2->t.2≠[])/\(t.1=1->AD false (bs t.2)=true)/\(t.1=2->AD true (bs t.2)=true)
def Hm (l:List KT):Prop:=∀t∈l,KOK t
def tkl (t:KT):Nat:=if t.2=[]then 1 else t.2.length
def Bt (l:List KT) (p:Nat):Nat:=((l.take p).map tkl).sum
theorem jR {p:Nat} {t:KT} (h:l[p]?=some t):Bt l (p+1)=Bt l p+tkl t:=by
 unfold Bt;rw[List.take_add_one,h];simp
theorem RI {p:Nat} {t:KT} (h:l[p]?=some t) (hne:t.2≠[]):Bt l (p+1)=Bt l p+t.2.length:=by
 rw[jR h];unfold tkl;rw[zz hne]
theorem jS {p p':Nat} (h:p<=p'):Bt l p<=Bt l p':=by
 unfold Bt
 obtain⟨k,rfl⟩:∃k,p'=p+k:=⟨p'-p,by omega⟩
 rw[List.take_add,Yf,Yn];exact Yx _ _
theorem Hn (_:Hm l) {p:Nat} (h:p<l.length):Bt l p+1<=Bt l (p+1):=by
 have ht:l[p]?=some l[p]:=Xr h;rw[jR ht]
 have:1<=tkl l[p]:=by
  unfold tkl
  cases hh:(l[p]).2 with
  | nil=>simp
  | cons _ _=>simp
 omega
structure Jr (l:List KT) (lv:Nat) (d:Ds) (p p':Nat):Prop where
 ok:Bb d lv=0
 len:(wrD d).length+3+8*Bt l p<=8*Bt l p'
def CX (r:List Ds):Nat:=(r.map λd=>(wrD d).length+3).sum
theorem Pt (a b:List Ds):CX (a++b)=CX a+CX b:=by unfold CX;rw[Yf,Yn]
theorem KA (d:Ds):CX [d]=(wrD d).length+3:=by simp[CX]
theorem Pu (sep last:List UInt8) (h1:sep.length<=3) (h2:last.length<=3):∀r:List Ds,r≠[]->(wrL sep last r).length+3<=CX r
 | [],h=>absurd rfl h
 | [d],_=>by rw[wrL,wrL,KA];simp[ER]
 | d::d2::r,_=>by
  have ih:=Pu sep last h1 h2 (d2::r) (by simp)
  have e:CX (d::d2::r)=(wrD d).length+3+CX (d2::r):=by simp[CX]
  have e2:(ER sep last (d2::r)).length<=3:=by cases r<;>assumption
  rw[wrL,e,Xb,Xb];omega
theorem Nq {p p':Nat} {k:Int} {s:ByteArray} (h:AJ l p k = .ok (s,p')):∃t,l[p]?=some t/\t.1=k/\s=bs t.2/\p'=p+1:=by
 unfold AJ at h;split at h
 .cases h
 .rename_i t ht;split at h
  .rename_i hk;injection h with h;injection h with e1 e2;exact⟨t,ht,hk,e1.symm,e2.symm⟩
  .cases h
theorem jU (s:ByteArray):∀path:List ByteArray,path≠[]->(Dg (path++[s])).length=(Dg path).length+1+s.size
 | [],h=>absurd rfl h
 | [a],_=>by
  have e:s.data.toList.length=s.size:=rfl;show(Dg [a,s]).length=_;simp only[Dg,Xu,Xb,Xg,e];omega
 | a::b::r,_=>by
  have ih:=jU s (b::r) (by simp);show(Dg (a::b::(r++[s]))).length=(Dg (a::b::r)).length+1+s.size;rw[Dg,Dg];simp only[Xb,Xg];have e:b::(r++[s])=b::r++[s]:=rfl;rw[e,ih];omega
theorem jY (hl:Hm l):∀(f p:Nat) (path path':List ByteArray) (p':Nat),E2 l f p path = .ok (path',p')->path≠[]->path.length<=64->path.all (AD true)=true ->
  path'≠[]/\path'.length<=64/\path'.all (AD true)=true/\(Dg path').length+Bt l p<=(Dg path).length+Bt l p'
 | 0,p,path,path',p',h,_,_,_=>by cases h
 | f+1,p,path,path',p',h,hne,h64,hall=>by
  rw[E2]at h;split at h
  .rename_i hs;split at h
   .cases h
   .split at h
    .cases h
    .rename_i s p1 h1;obtain⟨t,ht,hk,rfl,rfl⟩:=Nq h1;have hn:=(hl t (Xd ht)).2.2 hk;obtain⟨i1,i2,i3,i4⟩:=jY hl f _ _ _ _ h (by simp) (by simp;omega) (by rw[List.all_append,hall];simp[hn]);refine⟨i1,i2,i3,?_⟩;rw[jU _ _ hne]at i4;have e1:=Hn hl (DQ hs);have e2:=RI ht ((hl t (Xd ht)).1 (.inr hk));have e3:(bs t.2).size=t.2.length:=rfl;omega
  .injection h with h;injection h with e1 e2;subst e1;subst e2;exact⟨hne,h64,hall,Xh _⟩
theorem A9m (hl:Hm l) {rec:Nat->Res Ds} {lv:Nat} (hlv:lv<=64) (hr:∀p d p',rec p = .ok (d,p')->Jr l (lv+1) d p p') {p p':Nat} {d:Ds} (h:Ff l rec p = .ok (d,p')) :
  Bb d lv=0/\d.op≠4/\(wrD d).length+8*Bt l p<=8*Bt l p':=by
 unfold Ff at h;split at h
 .cases h
 .rename_i s p1 h1;obtain⟨t,ht,hk,rfl,rfl⟩:=Nq h1;have hn:=(hl t (Xd ht)).2.2 hk;split at h
  .cases h
  .rename_i path p2 h3;obtain⟨i1,i2,i3,i4⟩:=jY hl _ _ _ _ _ h3 (by simp) (by simp) (by simp[hn]);split at h
   .cases h
   .rename_i d' p3 h5;have hg:=hr _ _ _ h5;injection h with h;injection h with e1 e2;subst e1;subst e2
    have hpos:0<path.length:=by cases path with
     | nil=>exact absurd rfl i1
     | cons _ _=>simp
    refine⟨?_,(show(5:Int)≠4 by decide),?_⟩
    .rw[Bb,zz (by simp;omega)]
     have hf:E4 5 ⟨#[]⟩ path [d']=0:=by
      unfold E4 HS;rw[zz (by decide),i3];simp[Fy,Es,hpos];rfl
     rw[hf];simp only[ne_eq,not_true_eq_false,if_false];rw[zz (by decide),DS,zz (by rw[hg.ok];simp),DS]
    .rw[wrD];simp only[zz (show ¬(5:Int)=1 by decide),zz (show ¬(5:Int)=2 by decide),zz (show ¬(5:Int)=3 by decide),zz (show ¬(5:Int)=4 by decide),if_true];rw[wrL,wrL];simp only[ER,Xu,Yg,Xg,Xb,Xm];have e1:=RI ht ((hl t (Xd ht)).1 (.inr hk))
     have e2:(Dg [bs t.2]).length=t.2.length:=by simp[Dg]
     have:=hg.len;rw[e2]at i4
     have h1t:1<=t.2.length:=by
      have:=(hl t (Xd ht)).1 (.inr hk)
      cases hh:t.2 with
      | nil=>exact absurd hh this
      | cons _ _=>simp
     omega
theorem jZ (hl:Hm l) {rec:Nat->Res Ds} {lv:Nat} (hlv:lv<=64) (hf:Fwd l rec) (hr:∀p d p',rec p = .ok (d,p')->Jr l (lv+1) d p p'):∀(f p:Nat) (parts parts':List Ds) (p':Nat),brS l rec f p parts = .ok (parts',p') ->
  ∃more,parts'=parts++more/\(∀k∈more,Bb k lv=0/\k.op≠4)/\CX more+8*Bt l p<=8*Bt l p'
 | 0,p,parts,parts',p',h=>by cases h
 | f+1,p,parts,parts',p',h=>by
  rw[brS]at h;split at h
  .cases h
  .rename_i d p1 h1;obtain⟨g1,g2,g3⟩:=A9m hl hlv hr h1;split at h
   .rename_i hs;have hb:=Hn hl (DQ hs);split at h
    .cases h
    .obtain⟨more,e,m1,m2⟩:=jZ hl hlv hf hr f _ _ _ _ h;refine⟨d::more,by rw[e];simp,λk hk=>?_,?_⟩
     .rcases Xl.1 hk with e | e
      .rw[e];exact⟨g1,g2⟩
      .exact m1 k e
     .have:CX (d::more)=(wrD d).length+3+CX more:=by simp[CX]
      omega
   .split at h
    .cases h
    .rename_i p2 h3;obtain⟨e1,h4⟩:=HR h3;have hb:=Hn hl h4;injection h with h;injection h with e2 e3;subst e2;subst e3;subst e1;refine⟨[d],rfl,λk hk=>by rw[Xe.1 hk];exact⟨g1,g2⟩,?_⟩;rw[KA];omega
theorem UT {rec:Nat->Res Ds} {lv:Nat} (hr:∀p d p',rec p = .ok (d,p')->Jr l (lv+1) d p p'):∀(f p:Nat) (kids kids':List Ds) (p':Nat),itS l rec f p kids = .ok (kids',p')->kids.length<=256 ->
  kids'.length<=256/\∃more,kids'=kids++more/\(∀k∈more,Bb k (lv+1)=0)/\CX more+8*Bt l p<=8*Bt l p'
 | 0,p,kids,kids',p',h,_=>by cases h
 | f+1,p,kids,kids',p',h,h256=>by
  rw[itS]at h;split at h
  .split at h
   .cases h
   .split at h
    .cases h
    .rename_i d p1 h1;have hg:=hr _ _ _ h1;obtain⟨i0,more,e,m1,m2⟩:=UT hr f _ _ _ _ h (by simp;omega);refine⟨i0,d::more,by rw[e];simp,λk hk=>?_,?_⟩
     .rcases Xl.1 hk with e | e
      .rw[e];exact hg.ok
      .exact m1 k e
     .have:CX (d::more)=(wrD d).length+3+CX more:=by simp[CX]
      have h2:=hg.len;have h3:=jS (l:=l) (show p<=p+1 by omega);omega
  .injection h with h;injection h with e1 e2;subst e1;subst e2;exact⟨h256,[],by simp,λk hk=>(by cases hk),by simp[CX]⟩
theorem Pv {s:List UInt8} {op:Int} {kids:List Ds} {p p':Nat} {d:Ds} (h:Da l s op kids p = .ok (d,p')):d = .mk op ⟨#[]⟩ [] kids/\p'=p+1/\p<l.length:=by
 have h0:=IY h;unfold Da at h;split at h
 .cases h
 .injection h with h;injection h with e _;exact⟨e.symm,h0⟩
theorem Pw {op:Int} {kids:List Ds} {lv:Nat} (hlv:lv<=64) (h256:kids.length<=256) (ho:op=6\/op=8\/(op=7/\2<=kids.length)) (hk:∀k∈kids,Bb k (lv+1)=0):Bb (.mk op ⟨#[]⟩ [] kids) lv=0:=by
 have hf:E4 op ⟨#[]⟩ [] kids=0:=by
  unfold E4 HS;rcases ho with rfl | rfl | ⟨rfl,h2⟩
  .rw[zz (by decide)];rfl
  .rw[zz (by decide)];rfl
  .rw[zz (by decide)];simp[Fy,Es,h2];rfl
 rw[Bb,zz (by simp;omega),hf];simp only[ne_eq,not_true_eq_false,if_false];rw[zz (by omega)];exact Uw hk
theorem A9n (hl:Hm l) {rec:Nat->Res Ds} {lv:Nat} (hlv:lv<=64) (hf:Fwd l rec) (hr:∀p d p',rec p = .ok (d,p')->Jr l (lv+1) d p p') {p p':Nat} {d:Ds} (h:Dq l rec p = .ok (d,p')) :
  Bb d lv=0/\d.op≠4/\(wrD d).length+8*Bt l p<=8*Bt l p':=by
 unfold Dq at h;split at h
 .cases h
 .split at h
  .obtain⟨rfl,rfl,h2⟩:=Pv h;have hb:=Hn hl h2;refine⟨Pw hlv (by simp) (.inl rfl) (λk hk=>by cases hk),by decide,?_⟩
   have:(wrD (.mk 6 ⟨#[]⟩ [] [])).length=2:=by rw[wrD,wrL];rfl
   omega
  .split at h
   .cases h
   .rename_i d1 p1 h1;have hg:=hr _ _ _ h1;split at h
    .cases h
    .rename_i kids p2 h3;obtain⟨i0,more,e,m1,m2⟩:=UT hr _ _ _ _ _ h3 (by simp)
     have hkids:∀k∈kids,Bb k (lv+1)=0:=by
      intro k hk;rw[e]at hk;rcases Xf.1 hk with h | h
      .rw[Xe.1 h];exact hg.ok
      .exact m1 k h
     have hsum:CX kids=(wrD d1).length+3+CX more:=by rw[e,Pt,KA]
     have hne:kids≠[]:=by rw[e];simp
     have h5:=hg.len;split at h
     .rename_i hb;have hb1:=Hn hl (DQ hb);split at h
      .cases h
      .split at h
       .cases h
       .rename_i d3 p3 h6;have hg3:=hr _ _ _ h6;have h7:=hg3.len;obtain⟨rfl,rfl,h8⟩:=Pv h;have hb2:=Hn hl h8;refine⟨Pw hlv (by simp;omega) (.inr (.inr ⟨rfl,?_⟩)) (λk hk=>?_),(show(7:Int)≠4 by decide),?_⟩
        .rw[Xb,e];simp
        .rcases Xf.1 hk with h | h
         .exact hkids k h
         .rw[Xe.1 h];exact hg3.ok
        .have hw:=Pu [44,32] [32,124,32] (by decide) (by decide) (kids++[d3]) (by simp);rw[Pt,KA]at hw
         have:(wrD (.mk 7 ⟨#[]⟩ [] (kids++[d3]))).length=(wrL [44,32] [32,124,32] (kids++[d3])).length+2:=by
          rw[wrD];simp only[zz (show ¬(7:Int)=1 by decide),zz (show ¬(7:Int)=2 by decide),zz (show ¬(7:Int)=3 by decide),zz (show ¬(7:Int)=4 by decide),zz (show ¬(7:Int)=5 by decide),zz (show ¬(7:Int)=6 by decide),if_true];simp
         omega
     .obtain⟨rfl,rfl,h8⟩:=Pv h;have hb2:=Hn hl h8;refine⟨Pw hlv i0 (.inl rfl) hkids,(show(6:Int)≠4 by decide),?_⟩;have hw:=Pu [44,32] [44,32] (by decide) (by decide) kids hne
      have:(wrD (.mk 6 ⟨#[]⟩ [] kids)).length=(wrL [44,32] [44,32] kids).length+2:=by
       rw[wrD];simp only[zz (show ¬(6:Int)=1 by decide),zz (show ¬(6:Int)=2 by decide),zz (show ¬(6:Int)=3 by decide),zz (show ¬(6:Int)=4 by decide),zz (show ¬(6:Int)=5 by decide),if_true];simp
      omega
theorem A9o (hl:Hm l) {rec:Nat->Res Ds} {lv:Nat} (hlv:lv<=64) (hf:Fwd l rec) (hr:∀p d p',rec p = .ok (d,p')->Jr l (lv+1) d p p') {p p':Nat} {d:Ds} (h:DA l rec p = .ok (d,p')) :
  Bb d lv=0/\d.op≠4/\(wrD d).length+8*Bt l p<=8*Bt l p':=by
 have w8:∀kids:List Ds,(wrD (.mk 8 ⟨#[]⟩ [] kids)).length<=(wrL [44,32] [44,32] kids).length+6:=by
  intro kids;rw[wrD];simp only[zz (show ¬(8:Int)=1 by decide),zz (show ¬(8:Int)=2 by decide),zz (show ¬(8:Int)=3 by decide),zz (show ¬(8:Int)=4 by decide),zz (show ¬(8:Int)=5 by decide),zz (show ¬(8:Int)=6 by decide),zz (show ¬(8:Int)=7 by decide)];split
  .simp
  .simp
 unfold DA at h;split at h
 .cases h
 .split at h
  .obtain⟨rfl,rfl,h2⟩:=Pv h;have hb:=Hn hl h2;refine⟨Pw hlv (by simp) (.inr (.inl rfl)) (λk hk=>by cases hk),by decide,?_⟩;have:=w8 [];rw[wrL]at this;simp only[Xm]at this;omega
  .split at h
   .cases h
   .rename_i d1 p1 h1;have hg:=hr _ _ _ h1;split at h
    .cases h
    .rename_i kids p2 h3;obtain⟨i0,more,e,m1,m2⟩:=UT hr _ _ _ _ _ h3 (by simp)
     have hkids:∀k∈kids,Bb k (lv+1)=0:=by
      intro k hk;rw[e]at hk;rcases Xf.1 hk with h | h
      .rw[Xe.1 h];exact hg.ok
      .exact m1 k h
     have hsum:CX kids=(wrD d1).length+3+CX more:=by rw[e,Pt,KA]
     have hne:kids≠[]:=by rw[e];simp
     have h5:=hg.len;obtain⟨rfl,rfl,h8⟩:=Pv h;have hb2:=Hn hl h8;refine⟨Pw hlv i0 (.inr (.inl rfl)) hkids,(show(8:Int)≠4 by decide),?_⟩;have hw:=Pu [44,32] [44,32] (by decide) (by decide) kids hne;have:=w8 kids;omega
theorem kA {op:Int} (ho:op=1\/op=2\/op=3) {s:ByteArray} (hs:AD false s=true) {lv:Nat} (hlv:lv<=64):Bb (.mk op s [] []) lv=0:=by
 have hf:E4 op s [] []=0:=by
  unfold E4 HS;rcases ho with rfl | rfl | rfl<;>rw[zz (by decide)]<;>simp[Fy,Es,hs]
 rw[Bb,zz (by simp;omega),hf];simp only[ne_eq,not_true_eq_false,if_false];rw[DS]
theorem kB (hl:Hm l) {rec:Nat->Res Ds} {lv:Nat} (hlv:lv<=64) (hf:Fwd l rec) (hr:∀p d p',rec p = .ok (d,p')->Jr l (lv+1) d p p') {p p':Nat} {parts parts':List Ds} (h:Di l rec p parts = .ok (parts',p')) :
  ∃more,parts'=parts++more/\more≠[]/\(∀k∈more,Bb k lv=0/\k.op≠4)/\CX more+8*Bt l p<=8*Bt l p':=by
 have one:∀{d:Ds} {q:Nat},p<q->Bb d lv=0/\d.op≠4/\(wrD d).length+8*Bt l (p+1)<=8*Bt l q->p<l.length->∃more,parts++[d]=parts++more/\more≠[]/\(∀k∈more,Bb k lv=0/\k.op≠4)/\CX more+8*Bt l p<=8*Bt l q:=by
  intro d q _ ⟨h1,h2,h3⟩ hp;have hb:=Hn hl hp;refine⟨[d],rfl,by simp,λk hk=>by rw[Xe.1 hk];exact⟨h1,h2⟩,?_⟩;rw[KA];omega
 have leaf:∀{op:Int},(op=2\/op=3)->∀{q:Nat},p<l.length->DX parts (Fv op (AJ l (p+1) 1)) = .ok (parts',q)->∃more,parts'=parts++more/\more≠[]/\(∀k∈more,Bb k lv=0/\k.op≠4)/\CX more+8*Bt l p<=8*Bt l q:=by
  intro op ho q hp hm;obtain⟨d,hd,rfl⟩:=LH hm;unfold Fv at hd;split at hd
  .cases hd
  .rename_i s p1 h1;obtain⟨t,ht,hk,rfl,rfl⟩:=Nq h1;injection hd with hd;injection hd with e1 e2;subst e1;subst e2;have hn:=(hl t (Xd ht)).2.1 hk;refine one (by omega) ⟨kA (by omega) hn hlv,?_,?_⟩ hp
   .show op≠4;omega
   .have e3:=RI ht ((hl t (Xd ht)).1 (.inl hk))
    have h1t:1<=t.2.length:=by
     have:=(hl t (Xd ht)).1 (.inl hk)
     cases hh:t.2 with
     | nil=>exact absurd hh this
     | cons _ _=>simp
    have:(wrD (.mk op (bs t.2) [] [])).length=t.2.length+1:=by
     rw[wrD];rcases ho with rfl | rfl<;>simp
    omega
 unfold Di at h;split at h
 .cases h
 .rename_i t ht;have hp:=(Xx.1 ht).1;split at h
  .rename_i hk;injection h with h;injection h with e1 e2;subst e1;subst e2;have hn:=(hl t (Xd ht)).2.1 hk;refine⟨[_],rfl,by simp,λk hk'=>by rw[Xe.1 hk'];exact⟨kA (.inl rfl) hn hlv,(show(1:Int)≠4 by decide)⟩,?_⟩;rw[KA];have e3:=RI ht ((hl t (Xd ht)).1 (.inl hk))
   have h1t:1<=t.2.length:=by
    have:=(hl t (Xd ht)).1 (.inl hk)
    cases hh:t.2 with
    | nil=>exact absurd hh this
    | cons _ _=>simp
   have:(wrD (.mk 1 (bs t.2) [] [])).length=t.2.length:=by rw[wrD];simp
   omega
  .split at h
   .cases h
   .split at h
    .exact leaf (.inl rfl) hp h
    .split at h
     .exact leaf (.inr rfl) hp h
     .split at h
      .have h2:=OA hf _ _ _ _ _ h;obtain⟨more,e,m1,m2⟩:=jZ hl hlv hf hr _ _ _ _ _ h;have hb:=Hn hl hp;refine⟨more,e,λe0=>?_,m1,by omega⟩;rw[e,e0]at h2;simp at h2
      .split at h
       .obtain⟨d,hd,rfl⟩:=LH h;exact one (by have:=Tz hf hd;omega) (A9n hl hlv hf hr hd) hp
       .split at h
        .obtain⟨d,hd,rfl⟩:=LH h;exact one (by have:=T9 hf hd;omega) (A9o hl hlv hf hr hd) hp
        .cases h
theorem kC (hl:Hm l) {rec:Nat->Res Ds} {lv:Nat} (hlv:lv<=64) (hf:Fwd l rec) (hr:∀p d p',rec p = .ok (d,p')->Jr l (lv+1) d p p'):∀(f p:Nat) (parts parts':List Ds) (p':Nat),Fg l rec f p parts = .ok (parts',p') ->
  ∃more,parts'=parts++more/\(∀k∈more,Bb k lv=0/\k.op≠4)/\CX more+8*Bt l p<=8*Bt l p'
 | 0,p,parts,parts',p',h=>by cases h
 | f+1,p,parts,parts',p',h=>by
  rw[Fg]at h;split at h
  .split at h
   .cases h
   .split at h
    .cases h
    .rename_i parts1 p1 h1;obtain⟨m,e,_,m1,m2⟩:=kB hl hlv hf hr h1;obtain⟨more,e2,m3,m4⟩:=kC hl hlv hf hr f _ _ _ _ h;have hb:=jS (l:=l) (show p<=p+1 by omega);refine⟨m++more,by rw[e2,e,Xz],λk hk=>?_,?_⟩
     .rcases Xf.1 hk with h | h
      .exact m1 k h
      .exact m3 k h
     .rw[Pt];omega
  .injection h with h;injection h with e1 e2;subst e1;subst e2;exact⟨[],by simp,λk hk=>(by cases hk),by simp[CX]⟩
theorem kD (hl:Hm l):∀(n:Nat),n<=64->∀p d p',AA l n p = .ok (d,p')->Jr l (65-n) d p p'
 | 0,_,p,d,p',h=>by
  rw[AA]at h;split at h<;>cases h
 | n+1,hn,p,d,p',h=>by
  have ih:∀p d p',AA l n p = .ok (d,p')->Jr l ((65-(n+1))+1) d p p':=λp d p' h=>by
   rw[show(65-(n+1))+1=65-n by omega];exact kD hl n (by omega) p d p' h
  rw[AA]at h;split at h
  .cases h
  .split at h
   .cases h
   .rename_i parts p1 h1;have h2:=JW (DR n) h1;obtain⟨m,e,mne,m1,m2⟩:=kB hl (by omega) (DR n) ih h1;rw[Yg]at e;subst e;split at h
    .cases h
    .rename_i parts' p2 h3;have h4:=OB (DR n) _ _ _ _ _ h3 (h2.2.2.2 (by simp));obtain⟨more,e2,m3,m4⟩:=kC hl (by omega) (DR n) ih _ _ _ _ _ h3;injection h with h;injection h with e3 e4;subst e3;subst e4
     have hall:∀k∈parts',Bb k (65-(n+1))=0/\k.op≠4:=by
      intro k hk;rw[e2]at hk;rcases Xf.1 hk with h | h
      .exact m1 k h
      .exact m3 k h
     have hsum:CX parts'+8*Bt l p<=8*Bt l p2:=by rw[e2,Pt];omega
     have hne:parts'≠[]:=by
      rw[e2];intro e;exact mne (Y0.1 e).1
     cases parts' with
     | nil=>exact absurd rfl hne
     | cons a r=>
      cases r with
      | nil=>
       rw[KA]at hsum;exact⟨(hall a (by simp)).1,hsum⟩
      | cons b r=>
       have hw:=Pu [32,38,32] [32,38,32] (by decide) (by decide) (a::b::r) (by simp);refine⟨?_,?_⟩
       .show Bb (.mk 4 ⟨#[]⟩ [] (a::b::r)) _=0
        have hf:E4 4 ⟨#[]⟩ [] (a::b::r)=0:=by
         unfold E4 HS;rw[zz (by decide)]
         have hany:((a::b::r).any λk=>decide (k.op=4))=false:=by
          rw[Yz];intro k hk hd;exact(hall k hk).2 (of_decide_eq_true hd)
         have hkb:Es 4 (a::b::r)=true:=by
          show(decide (2<=(a::b::r).length) && !((a::b::r).any λk=>decide (k.op=4)))=true;rw[hany];simp
         rw[hkb];rfl
        have h256:=h4.2.2.2;rw[Bb,zz (by simp at h256 ⊢;omega),hf];simp only[ne_eq,not_true_eq_false,if_false,if_true];exact Uw λk hk=>(hall k hk).1
       .have:(wrD (Oz (a::b::r))).length=(wrL [32,38,32] [32,38,32] (a::b::r)).length:=by
         show(wrD (.mk 4 ⟨#[]⟩ [] (a::b::r))).length=_;rw[wrD];simp
        omega
end
theorem kE {big:Bool} {c:UInt8} {r:List UInt8} (hb:(big=false/\B7 c=true)\/(big=true/\Bq c=true)) (h:AB big (c::r)<=32) :
  (c::r).take (AB big (c::r))≠[]/\AD big (bs ((c::r).take (AB big (c::r))))=true:=by
 have hp:BL big c=true:=by
  unfold BL;rcases hb with⟨rfl,h0⟩ | ⟨rfl,h0⟩<;>simp[h0]
 have hd:AR c=false/\¬c.toNat=45:=by
  rcases hb with⟨_,h⟩ | ⟨_,h⟩
  .simp only[B7,X0,decide_eq_true_eq]at h;simp only[AR,Y1,decide_eq_false_iff_not];omega
  .simp only[Bq,X0,decide_eq_true_eq]at h;simp only[AR,Y1,decide_eq_false_iff_not];omega
 have e:(c::r).take (AB big (c::r))=c::(r.takeWhile (BL big)):=by
  unfold AB;rw[OW,List.takeWhile_cons,zy hp]
 rw[e];refine⟨by simp,?_⟩
 have hl:(c::r.takeWhile (BL big)).length<=32:=by
  rw[<-e,Y3];omega
 have hs:(bs (c::r.takeWhile (BL big))).size=(c::r.takeWhile (BL big)).length:=rfl;unfold AD
 have hall:(c::r.takeWhile (BL big)).all (BL big)=true:=by
  rw[Y4,hp,Bool.true_and,Xn];exact λx hx=>OV hx
 show(decide ((bs (c::r.takeWhile (BL big))).size<=32) && !AR c && !decide (c.toNat=45)&&(c::r.takeWhile (BL big)).all (BL big))=true;rw[hs,hall,hd.1,zw hl,zx hd.2];rfl
theorem A9p {t:Tok} (h:Nb t):KOK (kt t):=by
 obtain⟨c,r,he,hk,ht⟩:=h;have e1:(kt t).1=t.k:=rfl;have e2:(kt t).2=t.t:=rfl;unfold KOK;rw[e1,e2];rw[Ax]at he hk ht;split at ht
 .rename_i hl;rw[zy hl]at he hk
  have hr:AB false (c::r)<=32:=by
   have he:(if 32<AB false (c::r)then(7:Int)else 0)=0:=he;split at he
   .cases he
   .omega
  obtain⟨h1,h2⟩:=kE (.inl ⟨rfl,hl⟩) hr;have hk:t.k=1:=hk;rw[hk,ht];exact⟨λ_=>h1,λ_=>h2,λh=>absurd h (by decide)⟩
 .rename_i hl;rw[zz hl]at he hk;split at ht
  .rename_i hu;rw[zy hu]at he hk
   have hr:AB true (c::r)<=32:=by
    have he:(if 32<AB true (c::r)then(7:Int)else 0)=0:=he;split at he
    .cases he
    .omega
   obtain⟨h1,h2⟩:=kE (.inr ⟨rfl,hu⟩) hr;have hk:t.k=2:=hk;rw[hk,ht];exact⟨λ_=>h1,λh=>absurd h (by decide),λ_=>h2⟩
  .rename_i hu;rw[zz hu]at hk
   have:t.k=4\/t.k=3\/t.k=5:=by
    split at hk
    .exact .inl hk
    .split at hk
     .exact .inr (.inl hk)
     .exact .inr (.inr hk)
   exact⟨λh=>by omega,λh=>by omega,λh=>by omega⟩
theorem A9q {D:List UInt8} {l:Nat} {ts:List Tok} (h:CZ D l = .ok ts):Hm (ts.map kt):=λt ht=>by
 obtain⟨x,hx,rfl⟩:=Xo.1 ht;exact A9p ((OX _ _ _ _ h).1 x hx)
theorem KB {big:Bool} {s:ByteArray} (h:AD big s=true):s.size<=32:=by
 obtain⟨_,_,_,h,_⟩:=Ko h;exact h
mutual
theorem Nr:∀(d:Ds) (lv:Nat),Bb d lv=0->Small d
 | .mk op name path kids,lv,h=>by
  obtain⟨_,h2,h3,_,_,hf,hk⟩:=Ks h;obtain⟨f1,f2,f3,f4⟩:=LA hf;refine .mk op name path kids ?_ (by omega) (λs hs=>?_) (by omega) (kF kids _ hk)
  .split at f1
   .have:=KB f1;omega
   .omega
  .have:=KB (Xn.1 f3 s hs);omega
theorem kF:∀(l:List Ds) (lv:Nat),DS l lv=0->∀k∈l,Small k
 | [],_,_,k,hk=>by cases hk
 | d::r,lv,h,k,hk=>by
  obtain⟨h1,h2⟩:=L9 h;rcases Xl.1 hk with e | hk
  .rw[e];exact Nr d lv h1
  .exact kF r lv h2 k hk
end
mutual
theorem kG:∀(d:Ds) (lv:Nat),Bb d lv=0->JX d<=(wrD d).length
 | .mk op name path kids,lv,h=>by
  obtain⟨_,h2,h3,o1,o8,hf,hk⟩:=Ks h;obtain⟨f1,f2,f3,f4⟩:=LA hf;obtain⟨k5,k7,k4,kl⟩:=Uv f4
  have hop:op=1\/op=2\/op=3\/op=4\/op=5\/op=6\/op=7\/op=8:=by omega
  have nl:name.data.toList.length=name.size:=rfl;rw[JX,wrD];rcases hop with rfl | rfl | rfl | rfl | rfl | rfl | rfl | rfl
  .obtain rfl:=kl rfl;obtain⟨c,r,e,_⟩:=Ko (show AD false name=true from f1);rw[zy rfl,e];simp[FN]
  .obtain rfl:=kl rfl;simp[FN]
  .obtain rfl:=kl rfl;simp[FN]
  .obtain⟨h1,_⟩:=k4 rfl;have i:=Ns kids _ hk [32,38,32] [32,38,32] (by simp) (by simp);rw[zy ⟨h1,by decide,by decide⟩]at i;simp only[zz (show ¬(4:Int)=1 by decide),zz (show ¬(4:Int)=2 by decide),zz (show ¬(4:Int)=3 by decide),if_true];omega
  .have h1:=k5 rfl;have i:=Ns kids _ hk [] [] (by simp) (by simp);simp[Xb];omega
  .have i:=Ns kids _ hk [44,32] [44,32] (by simp) (by simp);simp[Xb];omega
  .have i:=Ns kids _ hk [44,32] [32,124,32] (by simp) (by simp);simp[Xb];omega
  .have i:=Ns kids _ hk [44,32] [44,32] (by simp) (by simp);simp only[zz (show ¬(8:Int)=1 by decide),zz (show ¬(8:Int)=2 by decide),zz (show ¬(8:Int)=3 by decide),zz (show ¬(8:Int)=4 by decide),zz (show ¬(8:Int)=5 by decide),zz (show ¬(8:Int)=6 by decide),zz (show ¬(8:Int)=7 by decide)]
   cases kids with
   | nil=>simp[FN]
   | cons k r=>simp[Xb];omega
theorem Ns:∀(l:List Ds) (lv:Nat),DS l lv=0->∀(sep last:List UInt8),True->True->FN l+(if 2<=l.length/\1<=sep.length/\1<=last.length then 1 else 0)<=(wrL sep last l).length
 | [],_,_,sep,last,_,_=>by simp[FN,wrL]
 | d::r,lv,h,sep,last,_,_=>by
  obtain⟨h1,h2⟩:=L9 h;have i1:=kG d lv h1;have i2:=Ns r lv h2 sep last trivial trivial;rw[FN,wrL,Xb,Xb]
  have i3:FN r<=(wrL sep last r).length:=by omega
  split
  .rename_i hc
   have:1<=(ER sep last r).length:=by
    match r,hc with
    | [_],hc=>exact hc.2.2
    | _::_::_,hc=>exact hc.2.1
   omega
  .omega
end
structure TkG (l:List KT) (B:Nat):Prop where
 k:Hm l
 q:∀t∈l,t.1=3->t.2.all Ec=true
 s:∀t∈l,t.2.length<=B
 n:l.length<=B
 b:∀p,Bt l p<=2*B
section
variable {α : Type} {l : List KT} {B p p' : Nat} {P : α -> Prop}
theorem Nt {step:Nat->Res α} (hs:∀p x p',step p = .ok (x,p')->P x) (sep:List UInt8) (mx:Nat):∀(f p:Nat) (out out':List α) (p':Nat),Ch l step sep mx f p out = .ok (out',p')->(∀x∈out,P x)->∀x∈out',P x
 | 0,p,out,out',p',h,_=>by cases h
 | f+1,p,out,out',p',h,ho=>by
  rw[Ch]at h;split at h
  .cases h
  .rename_i s p1 h1
   have hn:∀x∈out++[s],P x:=λx hx=>by
    rcases Xf.1 hx with hx | hx
    .exact ho x hx
    .rw[Xe]at hx;subst hx;exact hs _ _ _ h1
   split at h
   .split at h
    .cases h
    .exact Nt hs sep mx f _ _ _ _ h hn
   .injection h with h;injection h with h _;subst h;exact hn
theorem kH {step:Nat->Res α} (hs:Dx l step) (sep:List UInt8) (mx:Nat):∀(f p:Nat) (out out':List α) (p':Nat),Ch l step sep mx f p out = .ok (out',p')->out'.length+p<=out.length+p'
 | 0,p,out,out',p',h=>by cases h
 | f+1,p,out,out',p',h=>by
  rw[Ch]at h;split at h
  .cases h
  .rename_i s p1 h1;have h0:=hs _ _ _ h1;split at h
   .split at h
    .cases h
    .have:=kH hs sep mx f _ _ _ _ h;rw[Xb,Xv]at this;omega
   .injection h with h;injection h with h h2;subst h;subst h2;rw[Xb,Xv];omega
theorem Im {one:α->Int}:∀{L:List α},(∀x∈L,one x=0)->AV one L=0
 | [],_=>rfl
 | x::r,h=>by
  rw[AV,zz (λhn=>hn (h x Yv))];exact Im λy hy=>h y (Yw _ hy)
theorem LQ {one:α->Int}:∀{L:List α},AV one L=0->∀x∈L,one x=0
 | [],_,x,hx=>by cases hx
 | y::r,h,x,hx=>by
  rw[AV]at h;split at h
  .rename_i hn;exact absurd h hn
  .rename_i hn;rcases Xl.1 hx with rfl | hx
   .exact Decidable.of_not_not hn
   .exact LQ h x hx
end
def dfZ (B:Nat) (d:Dfn):Prop:=(wrD d.strict).length<=16*B/\∀k∈d.defaults,(wrD k).length<=16*B
section
variable {l : List KT} {B p p' : Nat} (G : TkG l B)
include G
theorem RJ {s:ByteArray} (h:AJ l p 1 = .ok (s,p')):AD false s=true:=by
 obtain⟨t,ht,hk,rfl,_⟩:=Nq h;exact(G.k t (Xd ht)).2.1 hk
theorem UU {s:ByteArray} (h:AJ l p 2 = .ok (s,p')):AD true s=true:=by
 obtain⟨t,ht,hk,rfl,_⟩:=Nq h;exact(G.k t (Xd ht)).2.2 hk
theorem UV {s:ByteArray} (h:AJ l p 3 = .ok (s,p')):F0 s=true/\s.size<=B:=by
 obtain⟨t,ht,hk,rfl,_⟩:=Nq h;have hm:=Xd ht;exact⟨G.q t hm hk,by show t.2.toArray.size<=B;rw[Ya];exact G.s t hm⟩
theorem A9r {r:List ByteArray} (h:HO l p = .ok (r,p')):AV Eb r=0/\r.length<=256:=by
 refine⟨Im (Nt (P:=λs=>Eb s=0) (λp x p' hx=>?_) _ _ _ _ _ _ _ h λx hx=>by cases hx),(GA (Ii 1) _ _ _ _ _ _ _ h).2.2.2 (by decide)⟩;unfold Eb;rw[zy (RJ G hx)]
theorem A9s {x:ByteArray×ByteArray} (h:ftS l p = .ok (x,p')):FD x=0:=by
 unfold ftS at h;split at h
 .cases h
 .rename_i s p1 h1;split at h
  .cases h
  .rename_i v p2 h2;injection h with h;injection h with h _;subst h;unfold FD;rw[UU G h1,RJ G h2];rfl
theorem A9t {r:List (ByteArray×ByteArray)} (h:HP l p = .ok (r,p')):AV FD r=0/\r.length<=256:=
 ⟨Im (Nt (P:=λs=>FD s=0) (λp x p' hx=>A9s G hx) _ _ _ _ _ _ _ h λx hx=>by cases hx),(GA Rz _ _ _ _ _ _ _ h).2.2.2 (by decide)⟩
theorem A9u {r:List ByteArray} (h:Gx l p = .ok (r,p')):G8 r=0:=by
 have h1:=Im (Nt (P:=λs=>E8 s=0) (λp x p' hx=>by
  unfold E8
  rw[zy (UU G hx)]) _ _ _ _ _ _ _ h λx hx=>by cases hx)
 have h2:=(GA (Ii 2) _ _ _ _ _ _ _ h).2.2;unfold G8;rw[zz (by rintro rfl;simp at h2),zz (by have:=h2.2 (by decide);omega),h1]
theorem kI {d:Ds} (h:AA l 64 p = .ok (d,p')):Fm d=0/\(wrD d).length<=16*B:=by
 have h1:=kD G.k 64 (by omega) _ _ _ h;refine⟨h1.ok,?_⟩;have h2:=h1.len;have h3:=G.b p';omega
theorem A9v {r:List Ds} (h:JV l p = .ok (r,p')):AV Fm r=0/\r.length<=256/\∀k∈r,(wrD k).length<=16*B:=by
 have h1:=Nt (P:=λs=>Fm s=0/\(wrD s).length<=16*B) (λp x p' hx=>kI G hx) _ _ _ _ _ _ _ h λx hx=>by cases hx
 exact⟨Im λx hx=>(h1 x hx).1,(GA (DR 64) _ _ _ _ _ _ _ h).2.2.2 (by decide),λx hx=>(h1 x hx).2⟩
theorem A9w {x:ByteArray×ByteArray} (h:DB l p = .ok (x,p')):ES x=0/\x.1.size<=B/\x.2.size<=B:=by
 unfold DB at h;split at h
 .cases h
 .rename_i s p1 h1;split at h
  .cases h
  .rename_i v p2 h2;injection h with h;injection h with h _;subst h;have a:=UV G h1;have b:=UV G h2;refine⟨?_,a.2,b.2⟩;unfold ES;rw[a.1,b.1];rfl
theorem A9x {r:List (ByteArray×ByteArray)} (h:Hh l p = .ok (r,p')):AV ES r=0/\r≠[]/\r.length<=B/\∀x∈r,x.1.size<=B/\x.2.size<=B:=by
 have h1:=Nt (P:=λs=>ES s=0/\s.1.size<=B/\s.2.size<=B) (λp x p' hx=>A9w G hx) _ _ _ _ _ _ _ h λx hx=>by cases hx
 have h2:=GA Ni _ _ _ _ _ _ _ h;have h3:=kH Ni _ _ _ _ _ _ _ h;have:=G.n;refine⟨Im λx hx=>(h1 x hx).1,by rintro rfl;simp at h2,?_,λx hx=>(h1 x hx).2⟩;simp only[Xm]at h3;omega
theorem A9y {name:ByteArray} (hn:AD false name=true) {x:TyD} (h:Fi l name p = .ok (x,p')):G9 x=0:=by
 unfold Fi at h;split at h
 .cases h
 .rename_i su p1 h1;split at h
  .cases h
  .rename_i fe p2 h2;injection h with h;injection h with h _;subst h
   have g1:AV Eb su=0/\su.length<=256:=by
    unfold C8 at h1;split at h1
    .exact A9r G h1
    .injection h1 with h1;injection h1 with h1 _;subst h1;exact⟨rfl,Xi _⟩
   have g2:AV FD fe=0/\fe.length<=256:=by
    unfold C8 at h2;split at h2
    .exact A9t G h2
    .injection h2 with h2;injection h2 with h2 _;subst h2;exact⟨rfl,Xi _⟩
   unfold G9;rw[zz (by rw[hn];decide),zz (by simp only;omega),zz (λhh=>hh g1.1),g2.1]
theorem Js {name:ByteArray} (hn:AD false name=true) {x:Dfn} (h:Db l name p = .ok (x,p')):DF x=0/\dfZ B x:=by
 unfold Db at h;split at h
 .cases h
 .rename_i p1 h1;split at h
  .cases h
  .rename_i d p2 h2;split at h
   .cases h
   .rename_i df p3 h3;injection h with h;injection h with h _;subst h;have g1:=kI G h2
    have g2:AV Fm df=0/\df.length<=256/\∀k∈df,(wrD k).length<=16*B:=by
     unfold C8 at h3;split at h3
     .exact A9v G h3
     .injection h3 with h3;injection h3 with h3 _;subst h3;exact⟨rfl,Xi _,λk hk=>by cases hk⟩
    refine⟨?_,g1.2,g2.2.2⟩;unfold DF;rw[zz (by rw[hn];decide),zz (by simp only;omega),zz (λhh=>hh g1.1),g2.1]
theorem kJ {a:Afx} (h:C9 l p = .ok (a,p')):(a.kind=0/\a.pairs=[])\/((a.kind=1\/a.kind=2)/\AV ES a.pairs=0/\a.pairs≠[]/\a.pairs.length<=B/\∀x∈a.pairs,x.1.size<=B/\x.2.size<=B):=by
 have afk:∀(k:Int) (p:Nat),Er l k p = .ok (a,p')->a.kind=k/\AV ES a.pairs=0/\a.pairs≠[]/\a.pairs.length<=B/\∀x∈a.pairs,x.1.size<=B/\x.2.size<=B:=λk p h=>by
  unfold Er at h;split at h
  .cases h
  .rename_i c p1 h1;injection h with h;injection h with h _;subst h;exact⟨rfl,A9x G h1⟩
 unfold C9 at h;split at h
 .cases h
 .split at h
  .injection h with h;injection h with h _;subst h;exact .inl ⟨rfl,rfl⟩
  .split at h
   .obtain⟨h1,h2⟩:=afk _ _ h;exact .inr ⟨.inl h1,h2⟩
   .split at h
    .obtain⟨h1,h2⟩:=afk _ _ h;exact .inr ⟨.inr h1,h2⟩
    .cases h
end
theorem A9z {s:ByteArray} {w:List ByteArray} (h:FA s = .ok w):w≠[]/\AV Ij w=0/\∃ws,Fu s.data.toList=some ws/\w=ws.map bs:=by
 unfold FA at h;split at h
 .cases h
 .rename_i ws hws;split at h
  .cases h
  .rename_i hne;split at h
   .rename_i hall;injection h with h;subst h;refine⟨by simpa using hne,Im λx hx=>?_,ws,hws,rfl⟩;obtain⟨y,hy,rfl⟩:=Xo.1 hx;unfold Ij;rw[zy (Xn.1 hall y hy)]
   .cases h
def elE:El->Int
 | .imp s=>Eb s
 | .typ x=>G9 x
 | .tmp d=>DF d
 | .ent w d=>GC (w,d)
 | .lex a d=>FR (a,d)
 | .rul d=>DF d
 | .roo d=>DF d
 | .chk p=>G8 p
 | .drp s=>E8 s
def elZ (B:Nat):El->Prop
 | .imp _=>True
 | .typ _=>True
 | .tmp d=>dfZ B d
 | .ent w d=>w.length<=B+1/\dfZ B d
 | .lex a d=>(a.pairs.length<=B/\∀x∈a.pairs,x.1.size<=B/\x.2.size<=B)/\dfZ B d
 | .rul d=>dfZ B d
 | .roo d=>dfZ B d
 | .chk _=>True
 | .drp _=>True
structure Nu (B:Nat) (x:El):Prop where
 e:elE x=0
 z:elZ B x
section
variable {l : List KT} {B p p' : Nat} (G : TkG l B)
include G
theorem B0a {name:ByteArray} (hn:AD false name=true) {x:El} (h:DZ l name p = .ok (x,p')):Nu B x/\x.j=3:=by
 unfold DZ at h;split at h
 .cases h
 .rename_i s p1 h1;split at h
  .cases h
  .rename_i w h2;split at h
   .cases h
   .rename_i d p2 h3;injection h with h;injection h with h _;subst h;obtain⟨w1,w2,ws,w3,w4⟩:=A9z h2;have hs:=(UV G h1).2;refine⟨⟨?_,?_⟩,rfl⟩
    .show GC (w,d)=0;unfold GC;rw[zz w1,zz (λhh=>hh w2)];exact(Js G hn h3).1
    .refine⟨?_,(Js G hn h3).2⟩;show w.length<=B+1;rw[w4,Xk];unfold Fu at w3;split at w3
     .split at w3
      .injection w3 with w3;subst w3;exact Xi _
      .split at w3
       .cases w3
       .injection w3 with w3;subst w3;have:=Ra s.data.toList [];have hl:s.data.toList.length=s.size:=rfl;omega
     .cases w3
theorem B0b {name:ByteArray} (hn:AD false name=true) {x:El} (h:EJ l name p = .ok (x,p')):Nu B x/\x.j=4:=by
 unfold EJ at h;split at h
 .cases h
 .rename_i a p1 h1;split at h
  .cases h
  .rename_i d p2 h2;injection h with h;injection h with h _;subst h;obtain⟨hd,hz⟩:=Js G hn h2;refine⟨?_,rfl⟩;rcases kJ G h1 with⟨k0,hp⟩ | ⟨k12,h3,h4,h5,h6⟩
   .refine⟨?_,?_⟩
    .show FR (a,d)=0;unfold FR;simp only;rw[zz (λhh=>hh.2 hp),zz (by rw[k0];omega),zz (by rw[k0];omega),hp];exact hd
    .show(a.pairs.length<=B/\_)/\_;rw[hp];exact⟨⟨Xi _,λx hx=>by cases hx⟩,hz⟩
   .refine⟨?_,⟨h5,h6⟩,hz⟩;show FR (a,d)=0;unfold FR;simp only;rw[zz (by omega),zz (λhh=>h4 hh.2),zz (by omega),zz (λhh=>hh h3)];exact hd
theorem B0c {k:Nat} (hk:2<=k) (hk2:k<=8) {name:ByteArray} (hn:AD false name=true) {x:El} (h:Dr l k name p = .ok (x,p')):Nu B x/\x.j=k-2:=by
 unfold Dr at h;split at h
 .rename_i e;subst e;injection h with h;injection h with h _;subst h;refine⟨⟨?_,trivial⟩,rfl⟩;show Eb name=0;unfold Eb;rw[zy hn]
 .split at h
  .rename_i e;subst e;split at h
   .cases h
   .rename_i y p1 h1;injection h with h;injection h with h _;subst h;exact⟨⟨A9y G hn h1,trivial⟩,rfl⟩
  .split at h
   .rename_i e;subst e;exact B0a G hn h
   .split at h
    .rename_i e;subst e;exact B0b G hn h
    .split at h
     .rename_i e;subst e;obtain⟨y,h',rfl⟩:=Jn h;exact⟨⟨(Js G hn h').1,(Js G hn h').2⟩,rfl⟩
     .split at h
      .rename_i e;subst e;obtain⟨y,h',rfl⟩:=Jn h;exact⟨⟨(Js G hn h').1,(Js G hn h').2⟩,rfl⟩
      .obtain⟨y,h',rfl⟩:=Jn h;refine⟨⟨(Js G hn h').1,(Js G hn h').2⟩,?_⟩;show 6=k-2;omega
theorem B0d {k:Nat} (hk:2<=k) (hk2:k<=10) {x:El} (h:elS l k p = .ok (x,p')):Nu B x/\x.j=k-2:=by
 unfold elS at h;split at h
 .rename_i e;subst e;split at h
  .cases h
  .rename_i y p1 h1;injection h with h;injection h with h _;subst h;exact⟨⟨A9u G h1,trivial⟩,rfl⟩
 .split at h
  .rename_i e;subst e;split at h
   .cases h
   .rename_i y p1 h1;injection h with h;injection h with h _;subst h;refine⟨⟨?_,trivial⟩,rfl⟩;show E8 y=0;unfold E8;rw[zy (UU G h1)]
  .split at h
   .cases h
   .rename_i name p1 h1;exact B0c G hk (by omega) (RJ G h1) h
theorem B0e {k:Nat} (hk:k≠0) (hk2:k<=10) {x:Fx} (h:Bs l k p = .ok (x,p')):(k=1/\∃n,x = .md n/\AD false n=true)\/(2<=k/\∃y,x = .el y/\Nu B y/\y.j=k-2):=by
 unfold Bs at h;split at h
 .rename_i e;split at h
  .cases h
  .rename_i name p1 h1;injection h with h;injection h with h _;subst h;exact .inl ⟨e,name,rfl,RJ G h1⟩
 .split at h
  .cases h
  .rename_i y p1 h1;injection h with h;injection h with h _;subst h;obtain⟨h2,h3⟩:=B0d G (by omega) hk2 h1;exact .inr ⟨by omega,y,rfl,h2,h3⟩
end
theorem kindW_le (s:List UInt8):Fj s<=10:=by
 unfold Fj
 repeat' split
 all_goals omega
theorem kindT_le (t:KT):D1 t<=10:=by
 unfold D1;split
 .exact kindW_le _
 .exact Xi _
structure CY (B:Nat) (m:Md):Prop where
 n:AD false m.name=true
 e:∀x∈m.els,Nu B x
 c:∀j,Cz j m.els<=256
structure KD (B p:Nat) (s:Sta):Prop where
 m:∀m∈s.all,CY B m/\m.els.length<=p
 n:s.all.length<=256
theorem kK (j:Nat) (x:El):Cz j [x]=if x.j=j then 1 else 0:=by
 unfold Cz;rw[List.filter_cons];by_cases h:x.j=j
 .rw[zy h,zy (zw h)];rfl
 .rw[zz h,zz (by rw[zx h];decide)];rfl
theorem KD.mono {B p p':Nat} {s:Sta} (h:KD B p s) (hp:p<=p'):KD B p' s:=⟨λm hm=>⟨(h.m m hm).1,Yl (h.m m hm).2 hp⟩,h.n⟩
theorem KD.add {l:List KT} {B p p':Nat} {s:Sta} (G:TkG l B) (h:KD B p s) {t:KT} {a:Fx} (hc:MN l s t p = .ok (a,p')):KD B p' (s.add a)/\p<p'/\p'<=l.length:=by
 rw[GB]at hc;split at hc
 .cases hc
 .rename_i hm;have hm:=Decidable.of_not_not hm;have hf:=R8 t p a p' hc;refine⟨?_,hf⟩;unfold clA at hc;split at hc
  .cases hc
  .rename_i x p1 h1;split at hc
   .cases hc
   .rename_i p2 h2;injection hc with hc;injection hc with hc _;subst hc
    have hk0:D1 t≠0:=by
     intro e;rw[CQ,zy e]at hm;cases hm
    rcases B0e G hk0 (kindT_le t) h1 with⟨k1,n,rfl,hn⟩ | ⟨k2,y,rfl,hy,hj⟩
    .rw[CQ,zz hk0,zy k1]at hm
     have hlen:s.all.length<256:=by
      split at hm
      .cases hm
      .omega
     refine⟨λm hmm=>?_,?_⟩
     .have hmm:m∈s.all++[(⟨n,[]⟩:Md)]:=hmm;rcases Xf.1 hmm with hmm | hmm
      .exact(h.mono (by omega)).m m hmm
      .rw[Xe]at hmm;subst hmm;exact⟨⟨hn,(λx hx=>by cases hx),λj=>Xi _⟩,Xi _⟩
     .show(s.all++[(⟨n,[]⟩:Md)]).length<=256;rw[Xb];show s.all.length+1<=256;omega
    .rw[CQ,zz hk0,zz (by omega)]at hm;obtain⟨F,cur⟩:=s
     cases cur with
     | none=>cases hm
     | some m0=>
      simp only at hm
      have hcnt:Cz (D1 t-2) m0.els<256:=by
       split at hm
       .cases hm
       .omega
      have hm0:=h.m m0 (List.mem_append_right _ (Xe.2 rfl));refine⟨λm hmm=>?_,?_⟩
      .have hmm:m∈F++[⟨m0.name,m0.els++[y]⟩]:=hmm;rcases Xf.1 hmm with hmm | hmm
       .exact(h.mono (by omega)).m m (List.mem_append_left _ hmm)
       .rw[Xe]at hmm;subst hmm;refine⟨⟨hm0.1.n,λx hx=>?_,λj=>?_⟩,?_⟩
        .rcases Xf.1 hx with hx | hx
         .exact hm0.1.e x hx
         .rw[Xe]at hx;subst hx;exact hy
        .show Cz j (m0.els++[y])<=256;rw[Tu,kK];split
         .rename_i e;rw[<-e,hj];omega
         .exact hm0.1.c j
        .show(m0.els++[y]).length<=p';rw[Xb,Xv];have:=hm0.2;omega
      .have hl:=h.n;show(F++[_]).length<=256;have hl:(F++[m0]).length<=256:=hl;rw[Xb,Xv]at hl ⊢;exact hl
theorem kL {l:List KT} {B:Nat} (G:TkG l B):∀(f p:Nat) (s s':Sta),CR l f p s = .ok s'->KD B p s->p<=l.length->KD B l.length s'
 | 0,p,s,s',h,_,_=>by cases h
 | f+1,p,s,s',h,hs,hp=>by
  rw[CR]at h;split at h
  .injection h with h;subst h;exact hs.mono hp
  .split at h
   .cases h
   .rename_i a p1 h1;obtain⟨g1,g2,g3⟩:=hs.add G h1;exact kL G f p1 _ _ h g1 g3
theorem kM {t:Tok} (h:Nb t) (h3:t.k=3):t.t.all Ec=true:=by
 obtain⟨c,r,he,hk,ht⟩:=h;rw[Ax]at he hk ht
 have pk:∀D:List UInt8,(D.take (A9 D).1).all Ec=true:=by
  intro D
  induction D with
  | nil=>rfl
  | cons d D ih=>
   rw[A9];split
   .rfl
   .split
    .rename_i h34 hp;show(d::D.take (A9 D).1).all Ec=true;rw[Y4,ih,Y5];unfold prt at hp;simp only[X0,decide_eq_true_eq]at hp;unfold Ec;rw[decide_eq_true_eq];exact⟨hp.1,hp.2,h34⟩
    .rfl
 split at ht
 .rename_i hl;rw[zy hl]at hk;have hk:t.k=1:=hk;omega
 .rename_i hl;rw[zz hl]at hk;split at ht
  .rename_i hu;rw[zy hu]at hk;have hk:t.k=2:=hk;omega
  .rename_i hu;rw[zz hu]at hk;split at ht
   .rename_i hd;rw[zy hd]at hk;have hk:t.k=4:=hk;omega
   .rename_i hd;rw[zz hd]at hk;split at ht
    .rw[ht];exact pk _
    .rename_i h34;rw[zz h34]at hk;have hk:t.k=5:=hk;omega
theorem kN {D:List UInt8} {ts:List Tok} {B:Nat} (h:CZ D 1 = .ok ts) (hD:D.length<=B):TkG (ts.map kt) B:=by
 obtain⟨h1,h2⟩:=OX _ _ _ _ h;have h4:=Rc h;rw[Ym]at h2;refine⟨A9q h,λt ht h3=>?_,λt ht=>?_,by rw[Xk];omega,λn=>?_⟩
 .obtain⟨x,hx,rfl⟩:=Xo.1 ht;exact kM (h1 x hx) h3
 .obtain⟨x,hx,rfl⟩:=Xo.1 ht
  have h5:x.t.length<=(wrT x).length:=by
   unfold wrT wr;split
   .simp;omega
   .exact Xh _
  have h6:(wrT x).length<=(ts.flatMap wrT).length:=by
   obtain⟨a,b,rfl⟩:=List.append_of_mem hx;rw[Yk,X8,Xb,Xb];omega
  show x.t.length<=B;omega
 .have key:∀l:List Tok,((l.map kt).map tkl).sum<=(l.flatMap wrT).length+l.length:=by
   intro l
   induction l with
   | nil=>simp
   | cons t l ih=>
    have:tkl (kt t)<=(wrT t).length+1:=by
     unfold tkl wrT wr kt;simp only;split
     .omega
     .split<;>simp<;>omega
    rw[Xy,Xy,List.sum_cons,X8,Xb,Xg];omega
  have h7:Bt (ts.map kt) n<=((ts.map kt).map tkl).sum:=by
   unfold Bt
   conv=>rhs;rw[<-List.take_append_drop n (ts.map kt),Yf,Yn]
   omega
  have:=key ts;omega
theorem LR {s:List UInt8} {L:List Md} {B:Nat} (h:Cd s = .ok L) (hB:s.length<=B):(∀m∈L,CY B m/\m.els.length<=B)/\L.length<=256:=by
 unfold Cd at h;split at h
 .cases h
 .split at h
  .cases h
  .rename_i ts hts;split at h
   .cases h
   .rename_i st hst;injection h with h;subst h;have G:=kN hts hB;have:=kL G _ _ _ _ hst ⟨(λm hm=>by cases hm),Xi _⟩ (Xi _);exact⟨λm hm=>⟨(this.m m hm).1,Yl (this.m m hm).2 G.n⟩,this.n⟩
open Go Go.Shelf Go.RowKit
variable {P : Program} {ρ : Ren}
theorem B0f (w:World) (o:Obj):BS w (w.drew.alloc o):=λk hk arr ty fz he=>by
 have e:(w.drew.alloc o).heap[k]?=w.heap[k]?:=by
  show(w.heap.push o)[k]?=_;rw[Yo,zz (Nat.ne_of_lt hk)]
 rw[e]at he;exact⟨arr,fz,he,rfl⟩
def Buf (e:TypeId) (w:World) (v:Value) (n:Nat) (xs:List Value):Prop:=
 xs.length=n/\((v = .slice none 0 0/\n=0)\/∃g cap cur,v = .slice (some ⟨g,0,none⟩) n cap/\w.heap[g]?=some (.cells cur e (0,0))/\n<=cap/\cap<=cur.size/\cur.toList.take n=xs)
theorem Buf.keep {e:TypeId} {w w':World} {v:Value} {n:Nat} {xs:List Value} (h:Buf e w v n xs) (hk:∀k,v.ownBlock=some k->w'.heap[k]?=w.heap[k]?):Buf e w' v n xs:=by
 obtain⟨h1,h2⟩:=h;refine⟨h1,h2.imp id λh=>?_⟩;obtain⟨g,cap,cur,rfl,h3,h4⟩:=h;exact⟨g,cap,cur,rfl,(hk g rfl).trans h3,h4⟩
structure Px (w w':World) (b:Option Nat) (row row':Option Nat):Prop where
 os:w'.os=w.os
 tape:w'.tape=w.tape
 output:w'.output=w.output
 size:w.heap.size<=w'.heap.size
 block:∀k,k<w.heap.size->some k≠b->some k≠row->w'.heap[k]?=w.heap[k]?
 shape:BS w w'
 fresh:row'=row\/row'=some w.heap.size
theorem kO (w:World) (o:Obj) (row:Option Nat):Px w (w.drew.alloc o) none row (some w.heap.size):=
 ⟨rfl,rfl,rfl,by show _<=(w.heap.push o).size;simp,λk hk _ _=>by show(w.heap.push o)[k]?=_;rw[Yo,zz (Nat.ne_of_lt hk)],B0f w o,.inr rfl⟩
theorem B0g (w:World) (t u ty e:TypeId) (i:TypeInfo) (ht:P.underlying t=some (.slice e)) (hu:P.underlying u=some .string) (hi:P.info? e=some i) (hz:i.zero=some (.int .u8 0))
  (hsize:i.size=1) (hby:i.bytes=1) (v:Value) (n:Nat) (xs:List Value) (hown:Buf e w v n xs) (s:ByteArray) (hbytes:n+s.size<=140737488355328) :
  ∃v' w',(Builtin.append_ #[t,u] ty #[v,.string s]).run P w = .ok v' w'/\Buf e w' v' (n+s.size) (xs++Lib.strCells s)/\Px w w' none v.ownBlock v'.ownBlock:=by
 obtain⟨hxl,hown⟩:=hown
 have hlen:(xs++Lib.strCells s).length=n+s.size:=by rw[Xb,hxl,Lib.strCells_length]
 have hz1:(Value.int IntKind.u8 0).cells.size=1:=rfl
 have new:∀old:Nat,Buf e (w.drew.alloc (.cells (xs.toArray++(Lib.strCells s).toArray++Builtin.zeroCells (Value.int .u8 0).cells (grownCap w (n+s.size) old e-(n+s.size))) e)) (.slice (some ⟨w.heap.size,0,none⟩) (n+s.size) (grownCap w (n+s.size) old e)) (n+s.size) (xs++Lib.strCells s):=λold=>by
  have hge:=grownCap_ge w (n+s.size) old e;refine⟨hlen,.inr ⟨w.heap.size,_,(xs.toArray++(Lib.strCells s).toArray++Builtin.zeroCells (Value.int .u8 0).cells (grownCap w (n+s.size) old e-(n+s.size))),rfl,?_,hge,?_,?_⟩⟩
  .show(w.heap.push _)[w.heap.size]?=_;rw[Yo,zy rfl]
  .simp only[Array.size_append,Ya,size_zeroCells,hz1,hxl,Lib.strCells_length];omega
  .simp only[Array.toList_append,Xz];rw[<-Xz,<-hlen];exact Y6
 rcases hown with⟨rfl,rfl⟩ | ⟨g,cap,cur,rfl,hg,hnc,hcs,htake⟩
 .have hx:xs=[]:=Xw hxl;subst hx;by_cases hm:s.size=0
  .have hf:=Lib.run_firstCells_string (P:=P) w 1 s;rw[hm]at hf;have hn:Lib.strCells s=[]:=Xw (by rw[Lib.strCells_length];exact hm);refine⟨.slice none 0 0,w,?_,by rw[hm,hn];exact⟨rfl,.inl ⟨rfl,rfl⟩⟩,⟨rfl,rfl,rfl,Xh _,λ_ _ _ _=>rfl,BS.refl w,.inl rfl⟩⟩;simp[Builtin.append_,run_underlying ht,run_underlying hu,sizeOf,typeInfo,hi,hsize,Builtin.lenOf,hm,hf]
  .have h:=run_append_nil_string (P:=P) w t u ty e i (.int .u8 0) ht hu hi hz s (by omega) (by omega) (by rw[hby];omega);have hgr:=new 0;simp only[X7,Yg,Array.empty_append]at hgr ⊢
   have e1:(s.data.map λb=>Value.int .u8 b.toNat)=(Lib.strCells s).toArray:=by
    apply Xs;simp[Lib.strCells]
   rw[e1]at h;exact⟨_,_,h,hgr,kO w _ _⟩
 .by_cases hroom:n+s.size<=cap
  .have h:=Lib.run_append_room_string (P:=P) w t u ty e i ht hu hi hsize g n cap cur hg s hroom (by omega);have hnew:=setRow_heap w g cur (cur.toList.take n++Lib.strCells s++cur.toList.drop (n+s.size)).toArray e _ hg
   have hsz:(cur.toList.take n++Lib.strCells s++cur.toList.drop (n+s.size)).toArray.size=cur.size:=by
    simp only[Ya,Xb,Y3,Ym,Array.length_toList,Lib.strCells_length];omega
   refine⟨_,_,h,⟨hlen,.inr ⟨g,cap,_,rfl,hnew,hroom,by rw[hsz];exact hcs,?_⟩⟩,⟨rfl,rfl,rfl,by simp,λk _ _ hk=>setRow_other w g k _ (λe=>hk (by simp[Value.ownBlock,e])),λk hk arr ty fz he=>?_,.inl rfl⟩⟩
   .rw[htake,<-hlen];exact Y6
   .by_cases hkg:k=g
    .subst hkg;rw[hnew]at he;injection he with he;injection he with he1 he2 he3;subst he1;subst he2;exact⟨cur,(0,0),hg,hsz.symm⟩
    .rw[setRow_other w g k _ hkg]at he;exact⟨arr,fz,he,rfl⟩
  .have holds:∀j u,xs[j]?=some u->w.cell? ((⟨g,0,none⟩:Addr).add j)=some u:=λj u hj=>by
    have hjn:j<n:=by have:=(Xx.1 hj).1;omega
    rw[<-htake,Yh,zy hjn]at hj
    have ea:(⟨g,0,none⟩:Addr).add j=⟨g,j,none⟩:=by simp only[Addr.add];split<;>simp_all
    rw[ea,Lib.cell_of_heap hg];simpa using hj
   have h:=Lib.run_append_grow_string (P:=P) w t u ty e i (.int .u8 0) ht hu hi hz ⟨g,0,none⟩ n cap xs (by rw[hsize];simpa using hxl) holds s (by omega) (by omega) (by rw[hby];exact growslice_fits (by omega) (by omega));exact⟨_,_,h,new cap,kO w _ _⟩
theorem B0h {ops:Array Oper} {AU:List Oper} {o:Oper} {a:Act} {w:World} {Q:Exit->Act->World->Prop} (hgd:o.guard=none) (sl x:Operand) (t u:TypeId)
  (ho:o.op = .call { callee:=.builtin .append,args:=#[sl,x],argTypes:=#[t,u] })
  (e:TypeId) (i:TypeInfo) (ht:P.underlying t=some (.slice e)) (hu:P.underlying u=some .string) (hi:P.info? e=some i) (hz:i.zero=some (.int .u8 0))
  (hsize:i.size=1) (hby:i.bytes=1)
  (v:Value) (n:Nat) (xs:List Value) (hs:a.eval sl=v) (hown:Buf e w v n xs) (s:ByteArray) (hx:a.eval x = .string s)
  (hbytes:n+s.size<=140737488355328)
  (h:∀v' w',Buf e w' v' (n+s.size) (xs++Lib.strCells s)->Px w w' none v.ownBlock v'.ownBlock->wpList P ops Q AU (a.put o.dst v') w'):wpList P ops Q (o::AU) a w:=by
 refine wpList_plain hgd λK hK=>?_;obtain⟨v',w',hr,h2,h3⟩:=B0g (P:=P) w t u o.type e i ht hu hi hz hsize hby v n xs hown s hbytes;unfold Oper.wp execOp;simp only[ho,resolve,invoke,builtin,Sem.run_bind,Sem.run_pure,Result.andThen_ok,List.map_toArray,Xy,List.map_nil,hs,hx,hr];exact hK _ _ (h v' w' h2 h3)
theorem B0i (L:Lays.n240 P ρ) (X:Builder.X72 P ρ) (b c:Nat) (w:World) (h0:w.cell? ⟨b,0,none⟩=some (.pointer none)) (hc:0<c) (hsh:w.shape? b=some ((ρ.t 72),c)) (hlies:liesAt P P.depth (ρ.t 72) (c / P.cellsOf (ρ.t 72)) 0 (ρ.t 72) 1=true) (hfz:w.frozen? ⟨b,0,none⟩=false) :
  Calls P (ρ.f 240) #[.pointer (some ⟨b,0,none⟩)] w λe w'=>e = .returned (.tuple #[])/\w'=w.setCell ⟨b,0,none⟩ (.pointer (some ⟨b,0,none⟩)):=by
 obtain⟨j,hj,hjs⟩:=Yp.1 X.sizeBuilder;have mixed:=L.mixed;have t72:=L.t72;have a72:=L.a72;have z72:=L.z72;have v72:=L.v72;have u72:=run_underlying L.t72;have t70:=L.t70;have a70:=L.a70;have z70:=L.z70;have v70:=L.v70;have u70:=run_underlying L.t70;have t9:=L.t9;have a9:=L.a9;have z9:=L.z9;have v9:=L.v9;have u9:=run_underlying L.t9;have t4:=L.t4;have a4:=L.a4;have z4:=L.z4;have v4:=L.v4;have u4:=run_underlying L.t4;have t164:=L.t164;have a164:=L.a164;have z164:=L.z164;have v164:=L.v164;have u164:=run_underlying L.t164
 go_enter L.f240,Body.n240_ntmps ρ
 go_wp2
 rw[Lib.run_to_unsafe w ⟨b,0,none⟩ L.t70 L.t164 hj (by rw[hjs];decide) hsh hc];simp only[Yq];rw[Oper.upon_value]
 go_wp2
 rw[run_callFunc_extern L.f276 (by kernel_rfl) (by kernel_rfl) (by kernel_rfl) (e:=Extern.AbiNoEscape.same) (by kernel_rfl)];rw[Lib.run_noEscape];simp only[Yq];rw[Oper.upon_value]
 go_wp2
 rw[Lib.run_from_unsafe w ⟨b,0,none⟩ L.t164 L.t70 hj hsh hlies];simp only[Yq];rw[Oper.upon_value]
 go_wp2
 go_end0
 exact⟨rfl,rfl⟩
theorem kP {w:World} {b o:Nat} {arr:Array Value} {T:TypeId} (hb:w.heap[b]?=some (.cells arr T (0,0))) (x:Value):(w.setCell ⟨b,o,none⟩ x).heap[b]?=some (.cells (arr.setIfInBounds o x) T (0,0)):=by
 simp[World.setCell,Yi,hb]
theorem kQ (w:World) (b o:Nat) (x:Value):BS w (w.setCell ⟨b,o,none⟩ x):=λk hk arr ty fz he=>by
 by_cases hkb:k=b
 .subst hkb;simp only[World.setCell,Yi,if_true]at he;obtain⟨ob,h1,h2⟩:=Yp.1 he
  cases ob with
  | cells c e f=>
   simp only[Option.isSome_none,Yd,if_false]at h2;injection h2 with h3 h4 h5;subst h3;subst h4;exact⟨c,f,h1,by simp⟩
  | _=>simp at h2
 .rw[show(w.setCell ⟨b,o,none⟩ x).heap[k]?=w.heap[k]? from Below.heap_setCell _ _ _ _ hkb]at he;exact⟨arr,fz,he,rfl⟩
theorem B0j (L:Lays.n166 P ρ) (X:Builder.Extra P ρ) (hlies:∀k,1<=k->liesAt P P.depth (ρ.t 72) k 0 (ρ.t 72) 1=true) (hc2:P.cellsOf (ρ.t 72)=2) (b:Nat) (arr:Array Value) (p v:Value) (xs:List Value) (s:ByteArray) (w:World) (hp:p = .pointer none\/p = .pointer (some ⟨b,0,none⟩))
  (hb:w.heap[b]?=some (.cells arr (ρ.t 72) (0,0))) (ha0:arr[0]?=some p) (ha1:arr[1]?=some v)
  (hown0:Buf (ρ.t 5) w v xs.length xs) (hne:v.ownBlock≠some b) (hlen:xs.length+s.size<=140737488355328) :
  Calls P (ρ.f 166) #[.pointer (some ⟨b,0,none⟩),.string s] w λe w'=>e = .returned (.tuple #[.int .i64 s.size,.nilIface]) /\
   ∃v',w'.heap[b]?=some (.cells ((arr.setIfInBounds 0 (.pointer (some ⟨b,0,none⟩))).setIfInBounds 1 v') (ρ.t 72) (0,0))/\Buf (ρ.t 5) w' v' (xs.length+s.size) (xs++Lib.strCells s)/\v'.ownBlock≠some b/\Px w w' (some b) v.ownBlock v'.ownBlock:=by
 obtain⟨i0,hi,hz0,hz1,hz2⟩:=info_parts X.infoByte;have mixed:=L.mixed;have t72:=L.t72;have a72:=L.a72;have z72:=L.z72;have v72:=L.v72;have u72:=run_underlying L.t72;have t70:=L.t70;have a70:=L.a70;have z70:=L.z70;have v70:=L.v70;have u70:=run_underlying L.t70;have t37:=L.t37;have a37:=L.a37;have z37:=L.z37;have v37:=L.v37;have u37:=run_underlying L.t37;have t3:=L.t3;have a3:=L.a3;have z3:=L.z3;have v3:=L.v3;have u3:=run_underlying L.t3;have t9:=L.t9;have a9:=L.a9;have z9:=L.z9;have v9:=L.v9;have u9:=run_underlying L.t9;have t4:=L.t4;have a4:=L.a4;have z4:=L.z4;have v4:=L.v4;have u4:=run_underlying L.t4;have t164:=L.t164;have a164:=L.a164;have z164:=L.z164;have v164:=L.v164;have u164:=run_underlying L.t164;have t5:=X.t5;have a5:=X.a5;have z5:=X.z5;have v5:=X.v5;have u5:=run_underlying X.t5;have e240:∀args w,(callFunc (ρ.f 240) args).run P w = .ok (.enter (ρ.f 240) args) w:=enters_of L.f240 (by kernel_rfl) rfl;have hblt:b<w.heap.size:=(Xq.1 hb).1;have hsz:1<arr.size:=(Xq.1 ha1).1
 obtain⟨arr1,harr1⟩:∃arr1,arr1=arr.setIfInBounds 0 (.pointer (some ⟨b,0,none⟩)):=⟨_,rfl⟩
 have h10:arr1[0]?=some (.pointer (some ⟨b,0,none⟩)):=by rw[harr1,Yb,zy rfl,zy (by omega)]
 have h11:arr1[1]?=some v:=by rw[harr1,Yb,zz (by omega),ha1]
 rw[<-harr1]
 have hcc:Calls P (ρ.f 240) #[.pointer (some ⟨b,0,none⟩)] w λe w'=>e = .returned (.tuple #[])/\w'.heap[b]?=some (.cells arr1 (ρ.t 72) (0,0))/\Buf (ρ.t 5) w' v xs.length xs/\w'.heap.size=w.heap.size/\w'.os=w.os/\w'.tape=w.tape/\w'.output=w.output/\(∀k,k≠b->w'.heap[k]?=w.heap[k]?)/\BS w w':=by
  rcases hp with rfl | rfl
  .refine(B0i { L with } X.toX72 b arr.size w (by rw[Lib.cell_of_heap hb,ha0]) (by omega) (by simp[World.shape?,hb]) (by rw[hc2];exact hlies _ (by omega)) (Lib.frozen_of_heap hb 0)).mono ?_;rintro e w' ⟨rfl,rfl⟩;have hk:∀k,k≠b->(w.setCell ⟨b,0,none⟩ (.pointer (some ⟨b,0,none⟩))).heap[k]?=w.heap[k]?:=λk hk=>Below.heap_setCell _ _ _ _ hk;refine⟨rfl,by rw[harr1];exact kP hb _,?_,by simp[World.setCell],rfl,rfl,rfl,hk,kQ _ _ _ _⟩;exact hown0.keep λk e=>hk k (λe2=>hne (by rw[e,e2]))
  .refine(Any.Builder_copyCheck_used { L with } X.toX72 b w (by rw[Lib.cell_of_heap hb,ha0])).mono ?_;rintro e w' ⟨rfl,rfl⟩
   have e1:arr1=arr:=by
    rw[harr1];apply Array.ext (by simp);intro k hk1 hk2;rw[Array.getElem_setIfInBounds (by simpa using hk2)];split
    .rename_i e;subst e;rw[Array.getElem?_eq_getElem hk2]at ha0;injection ha0 with ha0;exact ha0.symm
    .rfl
   exact⟨rfl,by rw[e1];exact hb,hown0,rfl,rfl,rfl,rfl,λk _=>rfl,BS.refl _⟩
 go_enter L.f166,Body.n166_ntmps ρ
 go_wp2_with (go_at_fn (ρ.f 240);refine hcc.mono ?_)
 rintro e w1 ⟨rfl,hbk,hown,hsz1,ho1,ho2,ho3,hk1,hsh1⟩
 have c0:w1.cell? ⟨b,0,none⟩=some (.pointer (some ⟨b,0,none⟩)):=by rw[Lib.cell_of_heap hbk,h10]
 have c1:w1.cell? ⟨b,1,none⟩=some v:=by rw[Lib.cell_of_heap hbk,h11]
 go_wp2_with (at_builtin;refine B0h rfl _ _ (ρ.t 37) (ρ.t 9) rfl (ρ.t 5) i0 L.t37 L.t9 hi hz0 hz1 hz2 _ _ _ rfl hown s rfl ?c4 ?_)
 case c4=>omega
 intro v' w2 hown' hgrow;have hfresh:=hgrow.fresh;have hsh2:=hgrow.shape
 have hb2:w2.heap[b]?=some (.cells arr1 (ρ.t 72) (0,0)):=by
  rw[hgrow.block b (by omega) (by simp) (λe=>hne e.symm)];exact hbk
 have d0:w2.cell? ⟨b,0,none⟩=some (.pointer (some ⟨b,0,none⟩)):=by rw[Lib.cell_of_heap hb2,h10]
 have d1:w2.cell? ⟨b,1,none⟩=some v:=by rw[Lib.cell_of_heap hb2,h11]
 have f1:w2.frozen? ⟨b,1,none⟩=false:=Lib.frozen_of_heap hb2 1
 have hvo:v'.ownBlock≠some b:=by
  rcases hfresh with h | h
  .rw[h];exact hne
  .rw[h];intro e;injection e with e;omega
 obtain⟨ao,n',cap,rfl⟩:∃ao n' cap,v' = .slice ao n' cap:=by
  rcases hown'.2 with⟨hv,_⟩ | ⟨g,cap,cur,hv,_⟩
  .exact⟨_,_,_,hv⟩
  .exact⟨_,_,_,hv⟩
 go_wp2
 go_ret2
 have hk2:∀k,k≠b->(w2.setCell ⟨b,1,none⟩ (.slice ao n' cap)).heap[k]?=w2.heap[k]?:=λk hk=>Below.heap_setCell _ _ _ _ hk;refine⟨rfl,.slice ao n' cap,kP hb2 _,?_,hvo,⟨hgrow.os.trans ho1,hgrow.tape.trans ho2,hgrow.output.trans ho3,?_,λk hk hkb hkr=>?_,?_,?_⟩⟩
 .exact hown'.keep λk e=>hk2 k (λe2=>hvo (by rw[e,e2]))
 .have:=hgrow.size;simp only[World.setCell,Y7];omega
 .have hkb':k≠b:=λe=>hkb (by rw[e]);rw[hk2 k hkb',hgrow.block k (by omega) (by simp) hkr,hk1 k hkb']
 .exact(hsh1.trans (by omega) hsh2).trans (by have:=hgrow.size;omega) (kQ _ _ _ _)
 .rwa[hsz1]at hfresh
theorem B0k (k:Nat) (hk:1<=k):liesAt Xa Xa.depth 84 k 0 84 1=true:=by
 obtain⟨d,hd⟩:∃d,Xa.depth=d+1:=⟨Xa.depth-1,by kernel_rfl⟩
 have hs:Xa.cellsOf 84=2:=by kernel_rfl
 have hf:sameLayout Xa Xa.depth 84 84=true:=by kernel_rfl
 rw[hd]at hf ⊢;rw[liesAt,hd,rowAt];simp only[hs,hf]
 have:0+1<=k:=by omega
 simp[hk]
open Go Go.Abs Go.RowKit
def eB:Enc UInt8:=⟨1,λb=>[.v (.int .u8 b.toNat)],λ_=>rfl,by omega,λa b h=>by
 injection h with h;injection h with h;injection h with _ h
 exact UInt8.toNat_inj.1 (by exact_mod_cast h)⟩
abbrev tyB:Nat:=84
abbrev tyU:Nat:=5
def BB (p:PV) (g:Nat) (l:List UInt8):Row:=.cells tyB [p,rowP eB g l]
theorem UW (l:List UInt8):l.flatMap eB.enc=l.map λb=>T.v (.int .u8 b.toNat):=by
 induction l with
 | nil=>rfl
 | cons x l ih=>rw[X8,ih];rfl
def wsH (H:Ab) (b g nx:Nat) (l m:List UInt8):Ab:=(nx,rowOf eB tyU m)::upd (if l.isEmpty then H else rem H g) b (BB (.ptr b 0) nx m)
theorem B0l (s:List UInt8):Lib.strCells (bs s)=s.map λb=>Value.int .u8 b.toNat:=by
 unfold Lib.strCells;simp[bs]
theorem B0m (b:Nat) (arr:Array Value) (p v:Value) (xs:List Value) (s:ByteArray) (w:World) (hp:p = .pointer none\/p = .pointer (some ⟨b,0,none⟩))
  (hb:w.heap[b]?=some (.cells arr tyB (0,0))) (ha0:arr[0]?=some p) (ha1:arr[1]?=some v)
  (hown0:Buf tyU w v xs.length xs) (hne:v.ownBlock≠some b) (hlen:xs.length+s.size<=140737488355328) :
  Calls Xa 36 #[.pointer (some ⟨b,0,none⟩),.string s] w λe w'=>e = .returned (.tuple #[.int .i64 s.size,.nilIface]) /\
   ∃v',w'.heap[b]?=some (.cells ((arr.setIfInBounds 0 (.pointer (some ⟨b,0,none⟩))).setIfInBounds 1 v') tyB (0,0))/\Buf tyU w' v' (xs.length+s.size) (xs++Lib.strCells s)/\v'.ownBlock≠some b/\Px w w' (some b) v.ownBlock v'.ownBlock:=
 B0j (ρ:=Tryz.lays156_ren) { Tryz.lays156 with } Tryz.Builder_Extra_156 B0k (by kernel_rfl) b arr p v xs s w hp hb ha0 ha1 hown0 hne hlen
abbrev byV (l:List UInt8):List Value:=l.map λb=>Value.int .u8 b.toNat
theorem UX {L:Abs.Loc} {w:World} {H:Ab} {g:Nat} {l:List UInt8} {v:Value} (hok:BA Xa (G q) L H w) (hg:Ay eB tyU H g l) (hv:Af Xa L w (rowP eB g l) v) :
  Buf tyU w v l.length (byV l)/\(v.ownBlock=if l.isEmpty then none else some (L.μ g)):=by
 cases l with
 | nil=>
  simp only[rowP,Af,Ao]at hv;subst hv;exact⟨⟨rfl,.inl ⟨rfl,rfl⟩⟩,rfl⟩
 | cons x r=>
  rcases hg with hg | hg
  .cases hg
  .obtain⟨arr,ha,hl,hc⟩:=hok.rep g _ hg;simp only[rowP,Af]at hv;obtain⟨_,_,c,rfl,hnc,hfit⟩:=hv;have hf:=hfit arr tyU (0,0) ha;have hz:eB.z=1:=rfl;rw[hz]at hf;rw[UW]at hl hc;refine⟨⟨by simp[byV],.inr ⟨L.μ g,c,arr,rfl,ha,hnc,by omega,?_⟩⟩,rfl⟩;apply List.ext_getElem?;intro k;rw[Yh];by_cases hk:k<(x::r).length
   .rw[zy hk]
    obtain⟨y,hy⟩:∃y,(x::r)[k]?=some y:=⟨_,Xr hk⟩
    obtain⟨z,h1,_,h2⟩:=hc k (.t (.v (.int .u8 y.toNat))) (by simp only[Xt,hy,X9]);simp only[Af,Ao]at h2;subst h2;simp only[byV,Xt,hy,X9];simpa using h1
   .rw[zz hk,List.getElem?_eq_none (by simpa[byV]using hk)]
theorem KE {H:Ab} {b g nx k:Nat} {l m:List UInt8} {r:Row} (h:Aa (wsH H b g nx l m) k=some r) :
  (k=nx/\r=rowOf eB tyU m)\/(k≠nx/\k=b/\r=BB (.ptr b 0) nx m)\/(k≠nx/\k≠b/\(l=[]\/k≠g)/\Aa H k=some r):=by
 unfold wsH at h;rw[Az]at h;split at h
 .rename_i e;injection h with h;exact .inl ⟨e.symm,h.symm⟩
 .rename_i hn;rw[AN]at h;split at h
  .rename_i e;obtain⟨_,_,rfl⟩:=AZ h;exact .inr (.inl ⟨λe=>hn e.symm,e,rfl⟩)
  .rename_i hb;refine .inr (.inr ⟨λe=>hn e.symm,hb,?_⟩)
   cases l with
   | nil=>exact⟨.inl rfl,h⟩
   | cons x r=>
    simp only[List.isEmpty_cons,Yd,if_false]at h;rw[CJ]at h;split at h
    .cases h
    .exact⟨.inr (by assumption),h⟩
theorem B0n {H:Ab} {b g:Nat} {p:PV} {l:List UInt8} (h:Aa H b=some (BB p g l)) (hg:Ay eB tyU H g l) (hl:l≠[]):g≠b:=by
 rintro rfl;rcases hg with hg | hg
 .exact hl hg
 .rw[hg]at h;injection h with h;injection h with h1 h2;exact absurd h1 (by decide)
theorem UY {H:Ab} {nx b g:Nat} {p:PV} {l s:List UInt8} (h:Aa H b=some (BB p g l)) (hp:p = .t (.v (.pointer none))\/p = .ptr b 0) (hg:Ay eB tyU H g l) (hs:s≠[]) (hlen:l.length+s.length<=140737488355328) :
  AH Xa (G q) 36 [.ptr b 0,.t (sv (bs s))] H nx (.t (.tu [iv (s.length:Int),.v .nilIface])) (wsH H b g nx l (l++s)) (nx+1):=by
 refine⟨⟨_,(Tryz.f36.body).get!,Tryz.func36,by kernel_rfl,by kernel_rfl⟩,λL w us hok hnx hargs=>?_⟩
 have hus:us = #[.pointer (some ⟨L.μ b,0,none⟩),.string (bs s)]:=by
  simp only[A5,Af,Ao]at hargs;obtain⟨x,xs,e,⟨_,rfl⟩,y,ys,rfl,rfl,rfl⟩:=hargs;exact Xs e
 subst hus;obtain⟨arr,hb,hsz,hc⟩:=hok.rep b _ h;obtain⟨x0,ha0,_,hx0⟩:=hc 0 p rfl;obtain⟨v,ha1,_,hv⟩:=hc 1 (rowP eB g l) rfl
 have hp':x0 = .pointer none\/x0 = .pointer (some ⟨L.μ b,0,none⟩):=by
  rcases hp with rfl | rfl
  .simp only[Af,Ao]at hx0;exact .inl hx0
  .simp only[Af]at hx0;exact .inr hx0.2
 obtain⟨hbuf,hob⟩:=UX hok hg hv;have hgl:l≠[]->Aa H g=some (rowOf eB tyU l):=λhl=>hg.resolve_left hl;have hbn:b<nx:=hnx▸hok.nx b _ h
 have hne:v.ownBlock≠some (L.μ b):=by
  rw[hob]
  cases l with
  | nil=>simp
  | cons y r=>
   intro e;injection e with e;exact B0n h hg (by simp) (hok.inj _ _ _ _ (hgl (by simp)) h e)
 have hl1:(byV l).length=l.length:=Xk ..;have hl2:(bs s).size=s.length:=rfl;refine(B0m (L.μ b) arr x0 v (byV l) (bs s) w hp' hb ha0 ha1 (by rw[hl1];exact hbuf) hne (by rw[hl1,hl2];exact hlen)).mono ?_;rintro e w' ⟨rfl,v',hb',hbuf',hne',hW⟩;rw[hl1,hl2,B0l]at hbuf';have hslen:0<s.length:=Y8.2 hs
 obtain⟨g',cap,cur,rfl,hg',hncap,hcap,htake⟩:∃g' cap cur,v' = .slice (some ⟨g',0,none⟩) (l.length+s.length) cap/\w'.heap[g']?=some (.cells cur tyU (0,0))/\l.length+s.length<=cap/\cap<=cur.size/\cur.toList.take (l.length+s.length)=byV l++byV s:=by
  rcases hbuf'.2 with⟨_,h0⟩ | h
  .omega
  .exact h
 have hmb:L.μ b<w.heap.size:=(Xq.1 hb).1;have hg'lt:g'<w'.heap.size:=(Xq.1 hg').1;have hg'b:g'≠L.μ b:=λe=>hne' (by rw[e];rfl)
 have hgn:(l≠[]/\g'=L.μ g)\/g'=w.heap.size:=by
  rcases hW.fresh with h1 | h1
  .left;rw[hob]at h1
   cases l with
   | nil=>cases h1
   | cons y r=>injection h1 with h1;exact⟨by simp,h1⟩
  .right;injection h1
 have hkeep:∀k,k<w.heap.size->k≠L.μ b->(l=[]\/k≠L.μ g)->w'.heap[k]?=w.heap[k]?:=λk hk hkb hkg=>hW.block k hk (λe=>hkb (by injection e)) (λe=>by
  rw[hob]at e
  cases l with
  | nil=>cases e
  | cons y r=>
   injection e with e;rcases hkg with h | h
   .cases h
   .exact h e)
 have hI:∀k,L.I k->k<w.heap.size/\k≠L.μ b/\(l=[]\/k≠L.μ g):=λk hk=>by
  refine⟨hok.lt k hk,λe=>hok.apart b _ h (e▸hk),?_⟩
  by_cases hl:l=[]
  .exact .inl hl
  .exact .inr λe=>hok.apart g _ (hgl hl) (e▸hk)
 have hother:∀k r,Aa H k=some r->k≠b->(l=[]\/k≠g)->w'.heap[L.μ k]?=w.heap[L.μ k]?:=λk r hk hkb hkg=>by
  refine hkeep _ (hok.rep k r hk).lt (λe=>hkb (hok.inj _ _ _ _ hk h e)) ?_;rcases hkg with hl | hkg
  .exact .inl hl
  .by_cases hl:l=[]
   .exact .inl hl
   .exact .inr λe=>hkg (hok.inj _ _ _ _ hk (hgl hl) e)
 let L':Abs.Loc:=⟨L.I,λk=>if k=nx then g' else L.μ k,nx+1⟩
 have hμ:∀k,k≠nx->L'.μ k=L.μ k:=λk hk=>zz hk;have hμn:L'.μ nx=g':=zy rfl
 have hnb:b≠nx:=by omega
 have hm:Bh L w L' w':=⟨λk hk=>⟨hk,by have:=hI k hk;exact hkeep k this.1 this.2.1 this.2.2⟩,by show L.nx<=nx+1;omega,λk hk=>hμ k (by omega),hW.size,hW.shape⟩
 have hIg:¬L.I g':=by
  rcases hgn with⟨hl,e⟩ | e
  .rw[e];exact hok.apart g _ (hgl hl)
  .rw[e];intro hh;have:=hok.lt _ hh;omega
 have hmne:l++s≠[]:=by simp[hs]
 refine⟨.tuple #[.int .i64 (bs s).size,.nilIface],L',rfl,?_,⟨λk hk=>Y9 (hok.lt k hk) hW.size,λk r hk=>?_,λk r hk=>?_,λk k' r r' hk hk' e=>?_,λk r hk=>?_,FH hok hm.keeps⟩,rfl,hm,⟨hW.size,λk hk hkm=>?_,λ_ h=>h,λ_ h=>.inl h,λk hk=>?_,hW.shape,⟨hW.os,hW.tape,hW.output⟩⟩⟩
 .simp[Af,Ao,Bf,hl2]
 .rcases KE hk with⟨rfl,rfl⟩ | ⟨_,rfl,rfl⟩ | ⟨h1,h2,h3,h4⟩
  .rw[hμn];refine⟨cur,hg',?_,λj c hj=>?_⟩
   .rw[UW,Xk,Xk,Xb];omega
   .rw[UW,Xt,Xt]at hj
    cases hy:(l++s)[j]? with
    | none=>rw[hy]at hj;cases hj
    | some y=>
     rw[hy]at hj;injection hj with hj;subst hj
     have hjl:j<l.length+s.length:=by have:=(Xx.1 hy).1;rwa[Xb]at this
     refine⟨.int .u8 y.toNat,?_,rfl,by simp only[Af,Ao]⟩
     have:(cur.toList.take (l.length+s.length))[j]?=some (.int .u8 y.toNat):=by
      rw[htake,show byV l++byV s=byV (l++s)from(Yf ..).symm];simp only[byV,Xt,hy,X9]
     rw[Yh,zy hjl]at this;simpa using this
  .rw[hμ _ hnb];refine⟨_,hb',by simpa using hsz,λj c hj=>?_⟩;have h2:1<arr.size:=(Xq.1 ha1).1
   match j,hj with
   | 0,hj=>
    injection hj with hj;subst hj;refine⟨.pointer (some ⟨L.μ k,0,none⟩),?_,rfl,?_⟩
    .rw[Yb,zz (by omega),Yb,zy rfl,zy (by omega)]
    .simp only[Af];exact⟨by show k<nx+1;omega,by rw[hμ _ hnb]⟩
   | 1,hj=>
    injection hj with hj;subst hj;refine⟨.slice (some ⟨g',0,none⟩) (l.length+s.length) cap,?_,rfl,?_⟩
    .rw[Yb,zy rfl,zy (by simp;omega)]
    .obtain⟨y,r,e⟩:=Za hmne;have hel:(l++s).length=l.length+s.length:=Xb ..;rw[e]at hel ⊢;simp only[rowP,Af,hμn,hel];refine⟨by show nx<nx+1;omega,hg'lt,cap,rfl,hncap,λarr' ty fz he=>?_⟩;rw[hg']at he;injection he with he;injection he with he1 he2 he3;subst he1;show 0+cap*1<=_;omega
   | j+2,hj=>cases hj
  .rw[hμ _ h1];exact(hok.rep k r h4).keep hm (hother k r h4 h2 h3)
 .rcases KE hk with⟨rfl,rfl⟩ | ⟨_,rfl,rfl⟩ | ⟨h1,h2,h3,h4⟩
  .rw[hμn];exact hIg
  .rw[hμ _ hnb];exact hok.apart k _ h
  .rw[hμ _ h1];exact hok.apart k _ h4
 .have key:∀k r,Aa (wsH H b g nx l (l++s)) k=some r->k≠nx->L.μ k≠g':=λk r hk hkn=>by
   rcases KE hk with⟨rfl,rfl⟩ | ⟨_,rfl,rfl⟩ | ⟨h1,h2,h3,h4⟩
   .exact absurd rfl hkn
   .exact λe=>hg'b e.symm
   .rcases hgn with⟨hl,e⟩ | e
    .rw[e];intro e2;rcases h3 with h3 | h3
     .exact hl h3
     .exact h3 (hok.inj _ _ _ _ h4 (hgl hl) e2)
    .rw[e];have:=(hok.rep k r h4).lt;omega
  have old:∀k r,Aa (wsH H b g nx l (l++s)) k=some r->k≠nx->∃r0,Aa H k=some r0:=λk r hk hkn=>by
   rcases KE hk with⟨rfl,rfl⟩ | ⟨_,rfl,rfl⟩ | ⟨h1,h2,h3,h4⟩
   .exact absurd rfl hkn
   .exact⟨_,h⟩
   .exact⟨_,h4⟩
  by_cases k1:k=nx
  .by_cases k2:k'=nx
   .rw[k1,k2]
   .rw[k1,hμn,hμ _ k2]at e;exact absurd e.symm (key k' r' hk' k2)
  .by_cases k2:k'=nx
   .rw[k2,hμn,hμ _ k1]at e;exact absurd e (key k r hk k1)
   .rw[hμ _ k1,hμ _ k2]at e;obtain⟨r0,h0⟩:=old k r hk k1;obtain⟨r1,h1⟩:=old k' r' hk' k2;exact hok.inj _ _ _ _ h0 h1 e
 .show k<nx+1;rcases KE hk with⟨rfl,rfl⟩ | ⟨_,rfl,rfl⟩ | ⟨h1,h2,h3,h4⟩
  .omega
  .omega
  .have:=hok.nx k _ h4;omega
 .refine hkeep k hk (λe=>hkm ⟨b,_,h,e.symm⟩) ?_
  by_cases hl:l=[]
  .exact .inl hl
  .exact .inr λe=>hkm ⟨g,_,hgl hl,e.symm⟩
 .obtain⟨k0,r,h0,e⟩:=hk;rcases KE h0 with⟨rfl,rfl⟩ | ⟨_,rfl,rfl⟩ | ⟨h1,h2,h3,h4⟩
  .rw[hμn]at e;rcases hgn with⟨hl,e2⟩ | e2
   .exact .inr ⟨g,_,hgl hl,by rw[<-e,e2]⟩
   .exact .inl (by omega)
  .rw[hμ _ hnb]at e;exact .inr ⟨_,_,h,e⟩
  .rw[hμ _ h1]at e;exact .inr ⟨_,_,h4,e⟩
open Go Go.Abs Go.Shelf Go.RowKit
section
variable {P : Program} {ρ : Ren}
theorem B0o (L:Lays.n169 P ρ) (X:Builder.Extra P ρ) (b g cap:Nat) (arr cur:Array Value) (l:List UInt8) (w:World) (hb:w.heap[b]?=some (.cells arr (ρ.t 72) (0,0)))
  (ha1:arr[1]?=some (.slice (some ⟨g,0,none⟩) l.length cap)) (hg:w.heap[g]?=some (.cells cur (ρ.t 5) (0,0))) (hnc:l.length<=cap) (hcs:cap<=cur.size) (htake:cur.toList.take l.length=byV l) (h0:l≠[]) (hlen:l.length<=140737488355328) :
  Calls P (ρ.f 169) #[.pointer (some ⟨b,0,none⟩)] w λe w'=>e = .returned (.string (bs l))/\w'=w.drew.freeze ⟨g,0,none⟩ l.length:=by
 have hl0:l.length≠0:=by simpa using h0
 have c1:w.drew.cell? ⟨b,1,none⟩=some (.slice (some ⟨g,0,none⟩) l.length cap):=by
  have:w.drew.heap[b]?=some (.cells arr (ρ.t 72) (0,0)):=hb;rw[Lib.cell_of_heap this];exact ha1
 have hg':w.drew.heap[g]?=some (.cells cur (ρ.t 5) (0,0)):=hg
 have hSD:(Builtin.unsafeSliceData_ #[(ρ.t 37)] (ρ.t 127) #[.slice (some ⟨g,0,none⟩) l.length cap]).run P w.drew = .ok (.pointer (some ⟨g,0,none⟩)) w.drew:=
  Lib.run_unsafeSliceData_row _ _ _ _ _ _ (by omega)
 have hUS:(Builtin.unsafeString_ #[(ρ.t 127),(ρ.t 3)] (ρ.t 9) #[.pointer (some ⟨g,0,none⟩),.int .i64 l.length]).run P w.drew = .ok (.string ⟨l.toArray⟩) (w.drew.freeze ⟨g,0,none⟩ l.length):=by
  refine Lib.run_unsafeString_row w.drew (ρ.t 127) (ρ.t 3) (ρ.t 9) (ρ.t 5) L.t127 X.cellsByte g cur.size (by simp[World.shape?,hg']) l h0 (by omega) (by omega) ?_;intro j x hx;have hj:j<l.length:=(Xx.1 hx).1
  have:(cur.toList.take l.length)[j]?=some (.int .u8 x.toNat):=by rw[htake];simp only[byV,Xt,hx,X9]
  rw[Yh,zy hj]at this
  have ea:(⟨g,0,none⟩:Addr).add j=⟨g,j,none⟩:=by simp only[Addr.add];split<;>simp_all
  rw[ea,Lib.cell_of_heap hg'];simpa using this
 have mixed:=L.mixed;have t72:=L.t72;have a72:=L.a72;have z72:=L.z72;have v72:=L.v72;have u72:=run_underlying L.t72;have t70:=L.t70;have a70:=L.a70;have z70:=L.z70;have v70:=L.v70;have u70:=run_underlying L.t70;have t37:=L.t37;have a37:=L.a37;have z37:=L.z37;have v37:=L.v37;have u37:=run_underlying L.t37;have t127:=L.t127;have a127:=L.a127;have z127:=L.z127;have v127:=L.v127;have u127:=run_underlying L.t127;have t3:=L.t3;have a3:=L.a3;have z3:=L.z3;have v3:=L.v3;have u3:=run_underlying L.t3;have t9:=L.t9;have a9:=L.a9;have z9:=L.z9;have v9:=L.v9;have u9:=run_underlying L.t9;have t5:=X.t5;have a5:=X.a5;have z5:=X.z5;have v5:=X.v5;have u5:=run_underlying X.t5
 go_enter L.f169,Body.n169_ntmps ρ
 go_wp2
 go_region_o
 all_goals (go_wp2;go_ret;exact⟨rfl,rfl⟩)
theorem B0p (L:Lays.n170 P ρ) (b:Nat) (arr:Array Value) (ao:Option Addr) (n cap:Nat) (w:World) (hb:w.heap[b]?=some (.cells arr (ρ.t 72) (0,0))) (ha1:arr[1]?=some (.slice ao n cap)) :
  Calls P (ρ.f 170) #[.pointer (some ⟨b,0,none⟩)] w λe w'=>e = .returned (.int .i64 n)/\w'=w:=by
 have c1:w.cell? ⟨b,1,none⟩=some (.slice ao n cap):=by rw[Lib.cell_of_heap hb];exact ha1
 have mixed:=L.mixed;have t72:=L.t72;have a72:=L.a72;have z72:=L.z72;have v72:=L.v72;have u72:=run_underlying L.t72;have t70:=L.t70;have a70:=L.a70;have z70:=L.z70;have v70:=L.v70;have u70:=run_underlying L.t70;have t37:=L.t37;have a37:=L.a37;have z37:=L.z37;have v37:=L.v37;have u37:=run_underlying L.t37;have t3:=L.t3;have a3:=L.a3;have z3:=L.z3;have v3:=L.v3;have u3:=run_underlying L.t3
 go_enter L.f170,Body.n170_ntmps ρ
 go_wp2
 go_ret
 exact⟨rfl,rfl⟩
end
theorem kR (w:World) (g k n:Nat) (h:k≠g):(w.drew.freeze ⟨g,0,none⟩ n).heap[k]?=w.heap[k]?:=by
 unfold World.freeze;split
 .rfl
 .simp only[Yi];rw[zz (λe=>h e.symm)];rfl
theorem UZ (w:World) (g n:Nat):(w.drew.freeze ⟨g,0,none⟩ n).heap.size=w.heap.size:=by
 unfold World.freeze;split
 .rfl
 .simp only[Y7];rfl
theorem kS (w:World) (g n:Nat):BS w (w.drew.freeze ⟨g,0,none⟩ n):=λk hk arr ty fz he=>by
 by_cases hkg:k=g
 .subst hkg;unfold World.freeze at he;split at he
  .exact⟨arr,fz,he,rfl⟩
  .simp only[Yi,if_true]at he;obtain⟨ob,h1,h2⟩:=Yp.1 he
   cases ob with
   | cells c e f=>
    obtain⟨lo,hi⟩:=f;injection h2 with h3 h4 h5;subst h3;subst h4;exact⟨c,_,h1,rfl⟩
   | _=>simp at h2
 .rw[kR w g k n hkg]at he;exact⟨arr,fz,he,rfl⟩
theorem B0q (w:World) (g n:Nat):Ca w (w.drew.freeze ⟨g,0,none⟩ n):=by
 unfold World.freeze;split
 .exact⟨rfl,rfl,rfl⟩
 .exact⟨rfl,rfl,rfl⟩
theorem kT {H:Ab} {nx b g:Nat} {p:PV} {l:List UInt8} (h:Aa H b=some (BB p g l)) (hg:Ay eB tyU H g l) (h0:l≠[]) (hlen:l.length<=140737488355328) :
  AH Xa (G q) 39 [.ptr b 0] H nx (.t (sv (bs l))) (rem H g) nx:=by
 refine⟨⟨_,(Tryz.f39.body).get!,Tryz.func39,by kernel_rfl,by kernel_rfl⟩,λL w us hok hnx hargs=>?_⟩
 have hus:us = #[.pointer (some ⟨L.μ b,0,none⟩)]:=by
  simp only[A5,Af,Ao]at hargs;obtain⟨x,xs,e,⟨_,rfl⟩,rfl⟩:=hargs;exact Xs e
 subst hus;obtain⟨arr,hb,hsz,hc⟩:=hok.rep b _ h;obtain⟨v,ha1,_,hv⟩:=hc 1 (rowP eB g l) rfl;obtain⟨⟨_,hbuf⟩,hob⟩:=UX hok hg hv;have hgl:=hg.resolve_left h0;have hpos:0<l.length:=Y8.2 h0;obtain⟨g',cap,cur,rfl,hg',hnc,hcs,htake⟩:=hbuf.resolve_left (by rintro⟨_,h⟩;omega)
 have hge:g'=L.μ g:=by
  rw[show l.isEmpty=false by cases l<;>simp_all]at hob;injection hob
 subst hge;refine(B0o (ρ:=Tryz.lays169_ren) Tryz.lays169 Tryz.Builder_Extra_169 (L.μ b) (L.μ g) cap arr cur l w hb ha1 hg' hnc hcs htake h0 hlen).mono ?_;rintro e w' ⟨rfl,rfl⟩;have hk:∀k,k≠L.μ g->(w.drew.freeze ⟨L.μ g,0,none⟩ l.length).heap[k]?=w.heap[k]?:=λk hk=>kR w _ k _ hk
 have hlook:∀k r,Aa (rem H g) k=some r->Aa H k=some r/\L.μ k≠L.μ g:=λk r hk=>by
  rw[CJ]at hk;split at hk
  .cases hk
  .rename_i hkg;exact⟨hk,λe=>hkg (hok.inj _ _ _ _ hk hgl e)⟩
 have hm:Bh L w L (w.drew.freeze ⟨L.μ g,0,none⟩ l.length):=⟨λk hI=>⟨hI,hk k (λe=>hok.apart g _ hgl (e▸hI))⟩,Xh _,λ_ _=>rfl,by rw[UZ];exact Xh _,kS _ _ _⟩
 refine⟨_,L,rfl,by simp only[Af,Ao],⟨λk hI=>by rw[UZ];exact hok.lt k hI,λk r hr=>?_,λk r hr=>hok.apart k r (hlook k r hr).1,λk k' r r' hr hr'=>hok.inj k k' r r' (hlook k r hr).1 (hlook k' r' hr').1,λk r hr=>hok.nx k r (hlook k r hr).1,FH hok hm.keeps⟩,hnx,hm,⟨by rw[UZ];exact Xh _,λk hk2 hkm=>hk k (λe=>hkm ⟨g,_,hgl,e.symm⟩),λ_ h=>h,λ_ h=>.inl h,λk hkm=>?_,kS _ _ _,B0q _ _ _⟩⟩
 .obtain⟨h1,h2⟩:=hlook k r hr;exact(hok.rep k r h1).keep hm (hk _ h2)
 .obtain⟨k0,r,h1,e⟩:=hkm;exact .inr ⟨k0,r,(hlook k0 r h1).1,e⟩
theorem kU {H:Ab} {nx b g:Nat} {p:PV} {l:List UInt8} (h:Aa H b=some (BB p g l)) (hg:Ay eB tyU H g l) :
  AH Xa (G q) 38 [.ptr b 0] H nx (.t (iv (l.length:Int))) H nx:=by
 refine⟨⟨_,(Tryz.f38.body).get!,Tryz.func38,by kernel_rfl,by kernel_rfl⟩,λL w us hok hnx hargs=>?_⟩
 have hus:us = #[.pointer (some ⟨L.μ b,0,none⟩)]:=by
  simp only[A5,Af,Ao]at hargs;obtain⟨x,xs,e,⟨_,rfl⟩,rfl⟩:=hargs;exact Xs e
 subst hus;obtain⟨arr,hb,hsz,hc⟩:=hok.rep b _ h;obtain⟨v,ha1,_,hv⟩:=hc 1 (rowP eB g l) rfl;obtain⟨⟨_,hbuf⟩,_⟩:=UX hok hg hv
 obtain⟨ao,cap,rfl⟩:∃ao cap,v = .slice ao l.length cap:=by
  rcases hbuf with⟨rfl,h0⟩ | ⟨g',cap,cur,rfl,_⟩
  .exact⟨none,0,by rw[h0]⟩
  .exact⟨_,_,rfl⟩
 refine(B0p (ρ:=Tryz.lays170_ren) Tryz.lays170 (L.μ b) arr ao l.length cap w hb ha1).mono ?_;rintro e w' ⟨rfl,rfl⟩;exact⟨_,L,rfl,by simp only[Af,Ao],hok,hnx,Bh.refl _ _,Ext.refl _ _ _⟩
noncomputable def gJo (ts:List T):Option T:=g2 (tSl Ak) BU (λl s=>open Classical in if l.length<=100000/\(Lib.join (l.map (·.data.toList)) s.data.toList).length<=1000000000 then some (sv (bs (Lib.join (l.map (·.data.toList)) s.data.toList)))else none) ts
theorem hJo:GOK Xa (G q) 80 gJo:=Do λa b l s r ha hb hr=>by
 have e2:b = .v (.string s):=hb;subst e2;split at hr
 .rename_i hc;injection hr with hr;subst hr;refine⟨⟨_,(Tryz.f80.body).get!,Tryz.func80,by kernel_rfl,by kernel_rfl⟩,λI w us hlt hG hargs=>?_⟩
  obtain⟨J,hJ⟩:∃J,J=Lib.join (l.map (·.data.toList)) s.data.toList:=⟨_,rfl⟩
  rw[<-hJ]at hc ⊢
  have fin:Calls Xa 80 us w (λe w'=>e = .returned (.string (bs J))/\Below w.heap.size w w')->Calls Xa 80 us w λe w'=>∃v r I',e = .returned v/\r=sv (bs J)/\Ao I' w' r v/\Ca w w'/\w.heap.size<=w'.heap.size/\(∀g,g<w.heap.size->w'.heap[g]?=w.heap[g]?) /\
   (∀g,I g->I' g)/\(∀g,I' g->I g\/w.heap.size<=g)/\(∀g,I' g->g<w'.heap.size):=λh=>h.mono λe w' ⟨he,hb⟩=>
   ⟨_,_,I,he,rfl,by simp only[Ao],⟨hb.os,hb.tape,hb.output⟩,hb.size,hb.block,λ_ h=>h,λ_ h=>.inl h,λg hg=>Y9 (hlt g hg) hb.size⟩
  refine fin ?_
  have hnone:∀(a0:Option Addr) (c:Nat),l=[]->us = #[.slice a0 0 c,.string s]->Calls Xa 80 us w (λe w'=>e = .returned (.string (bs J))/\Below w.heap.size w w'):=λa0 c hl hu=>by
   subst hl;subst hu
   have:J=[]:=by rw[hJ];rfl
   subst this
   exact(Tryz.strings_Join_none a0 c s w).mono λe w' h=>⟨h.1,Ol h.2⟩
  rcases ha with⟨rfl,hl⟩ | rfl
  .simp only[Bf,Ao]at hargs;obtain⟨x,xs,e,rfl,y,ys,rfl,rfl,rfl⟩:=hargs;exact hnone none 0 hl (Xs e)
  .simp only[slT,Bf,Ao]at hargs;obtain⟨x,xs,e,⟨a0,c,rfl,hnc,hx⟩,y,ys,rfl,rfl,rfl⟩:=hargs;rcases hx with⟨hl,_⟩ | ⟨hsp,hI,hC⟩
   .have hl':=Xw hl;refine hnone (some a0) c hl' (Xs (by rw[e,hl]))
   .obtain⟨bk,o,sp⟩:=a0;simp only at hsp hI hC;subst hsp;have hu:us = #[.slice (some ⟨bk,o,none⟩) l.length c,.string s]:=Xs e;subst hu;rw[aU]at hC;rw[hJ]
    exact Tryz.strings_Join bk o c l s w (λj x hx=>by
     obtain⟨z,h1,_,h2⟩:=hC.at_ j (c:=.v (.string x)) (by rw[Xt,hx];rfl);simp only[Ao]at h2;subst h2
     exact h1) (hlt bk hI) (by omega) hnc (by rw[<-hJ];omega)
 .cases hr
theorem B0r (l:List ByteArray):Lib.join (l.map (·.data.toList)) [46]=Dg l:=by
 cases l with
 | nil=>rfl
 | cons s r=>
  rw[Xy,Lib.join_cons,US];congr 1
  induction r with
  | nil=>rfl
  | cons x r ih=>
   rw[Xy,Pr,US,<-ih];simp[Lib.joinTail]
theorem B0s {t:T} {l:List ByteArray} (h:IsS Ak t l) (hl:l.length<=1000) (hd:(Dg l).length<=1000000000):gJo [t,sv ⟨#[46]⟩]=some (sv (bs (Dg l))):=by
 have e:Lib.join (l.map (·.data.toList)) (⟨#[46]⟩:ByteArray).data.toList=Dg l:=B0r l;show g2 _ _ _ _=_;rw[Dz (τ:=tSl Ak) (σ:=BU) (x:=l) (y:=⟨#[46]⟩) h rfl,e,zy ⟨by omega,hd⟩]
section
variable {H : Ab} {b g NX : Nat} {l m : List UInt8}
theorem Nv {R:Row} (h:Aa H b=some R) (hb:b≠NX) (hg:l=[]\/b≠g):Aa (wsH H b g NX l m) b=some (BB (.ptr b 0) NX m):=by
 unfold wsH;rw[Az,zz (Ne.symm hb),AN,zy rfl]
 cases l with
 | nil=>show Yy _ (Aa H b)=_;rw[h];rfl
 | cons x r=>
  rw[zz (by simp),CJ,zz (hg.resolve_left (by simp)),h];rfl
theorem KG {k:Nat} (hk:k≠b) (hg:l=[]\/k≠g) (hn:k≠NX):Aa (wsH H b g NX l m) k=Aa H k:=by
 unfold wsH;rw[Az,zz (Ne.symm hn),AN,zz hk]
 cases l with
 | nil=>rfl
 | cons x r=>rw[zz (by simp),CJ,zz (hg.resolve_left (by simp))]
theorem Nw:Ay eB tyU (wsH H b g NX l m) NX m:=.inr (by unfold wsH;rw[Az,zy rfl])
theorem KH (hb:b<NX):(∀k x,Aa H k=some x->k<NX)->∀k x,Aa (wsH H b g NX l m) k=some x->k<NX+1:=λhf k x hk=>by
 rcases KE hk with⟨rfl,_⟩ | ⟨_,rfl,_⟩ | ⟨_,_,_,h4⟩
 .omega
 .omega
 .have:=hf k x h4;omega
end
theorem W.lift {f:FuncId} {ps:List PV} {p:PV} {l m:List UInt8} {R0:Ab} {n0:Nat} {r:T}
  (h:AH Xa (G q) f ps ([(0,BB p 1 l)]++(A4 eB tyU 1 l++R0)) n0 (.t r) ([(0,BB (.ptr 0 0) n0 m)]++(A4 eB tyU n0 m++R0)) (n0+1))
  {H:Ab} {NX:Nat} (σ:Nat->Nat) (hσ:∀x,x<n0->σ x<NX) (hinj:∀x y,x<n0->y<n0->σ x=σ y->x=y) (hn0:2<=n0) (hm:m≠[])
  (hp:under n0 p=true) (h0:Aa H (σ 0)=some (BB (ren σ p) (σ 1) l)) (hg:Ay eB tyU H (σ 1) l)
  (hR:∀x∈R0,Aa H (σ x.1)=some (BE σ x.2)/\2<=x.1/\x.1<n0/\Cm n0 x.2=true) (hR2:∀x∈R0,BE (CO σ n0 NX) x.2=BE σ x.2/\Cm (n0+1) x.2=true/\Aa R0 x.1=some x.2) (hps:B8 n0 ps=true) :
  AH Xa (G q) f (Bn σ ps) H NX (.t r) (wsH H (σ 0) (σ 1) NX l m) (NX+1):=by
 have h2:=AH.lift h σ NX H (wsH H (σ 0) (σ 1) NX l m) hσ hinj (by omega) (λx hx=>?_) hps rfl (λx hx=>?_) (λk x hk=>?_)
 .rw[show NX+(n0+1-n0)=NX+1 by omega]at h2;exact h2
 .rcases Xf.1 hx with hx | hx
  .simp only[Xe]at hx;subst hx;refine⟨?_,by show 0<n0;omega,?_⟩
   .rw[h0];simp only[BB,BE,Bn,Ek]
   .simp only[BB,Cm,B8,hp,Em _ _ _ _ (show 1<n0 by omega),Yr]
  .rcases Xf.1 hx with hx | hx
   .obtain⟨hn,rfl⟩:=Fc hx;exact⟨by show Aa H (σ 1)=_;rw[HG];exact hg.resolve_left hn,by show 1<n0;omega,HH _ _ _ _⟩
   .obtain⟨h1,_,h3,h4⟩:=hR x hx;exact⟨h1,h3,h4⟩
 .rcases Xf.1 hx with hx | hx
  .simp only[Xe]at hx;subst hx;refine⟨by show 0<n0+1;omega,?_⟩;simp only[BB,Cm,B8,Em _ _ _ _ (show n0<n0+1 by omega),Yr,under,Y5];exact zw (by omega)
  .rcases Xf.1 hx with hx | hx
   .obtain⟨_,rfl⟩:=Fc hx;exact⟨by show n0<n0+1;omega,HH _ _ _ _⟩
   .obtain⟨_,_,h3,h4⟩:=hR x hx;exact⟨by omega,(hR2 x hx).2.1⟩
 .rcases KE hk with⟨rfl,rfl⟩ | ⟨hkn,rfl,rfl⟩ | ⟨h1,h2,h3,h4⟩
  .refine .inl ⟨n0,rowOf eB tyU m,?_,by simp[CO],by rw[HG]⟩;exact((Ay.head eB tyU R0 n0 m).cons (k:=0) (by omega)).resolve_left hm
  .refine .inl ⟨0,BB (.ptr 0 0) n0 m,rfl,by simp[CO];omega,?_⟩;have e0:CO σ n0 NX 0=σ 0:=zy (by omega)
   have e1:CO σ n0 NX n0=NX:=by simp[CO]
   simp only[BB,BE,Bn,ren,Ek,e0,e1]
  .by_cases hx:∃y∈R0,σ y.1=k
   .obtain⟨y,hy,rfl⟩:=hx;obtain⟨k1,k2,k3,k4⟩:=hR y hy;obtain⟨j1,j2,j3⟩:=hR2 y hy;refine .inl ⟨y.1,y.2,?_,by simp[CO,k3],?_⟩
    .show Aa ((0,_)::(A4 eB tyU n0 m++R0)) y.1=_;rw[Az,zz (by omega)]
     cases m with
     | nil=>exact j3
     | cons z r=>show Aa ((n0,_)::R0) y.1=_;rw[Az,zz (by omega)];exact j3
    .rw[h4]at k1;injection k1 with k1;rw[j1,k1]
   .refine .inr ⟨h4,λb0 x0 hb0 e=>?_⟩;rcases Xf.1 (BK hb0)with h5 | h5
    .simp only[Xe]at h5;injection h5 with h5;subst h5;exact h2 e.symm
    .rcases Xf.1 h5 with h5 | h5
     .obtain⟨hn,h6⟩:=Fc h5;injection h6 with h6;subst h6;rcases h3 with h3 | h3
      .exact hn h3
      .exact h3 e.symm
     .exact hx ⟨_,h5,e⟩
abbrev DH:PV:=.t (.v (.pointer none))
def Io (q:Gl) (d:Ds):Prop:=∀(c:List T) (p:PV) (l:List UInt8),BG d c->(p=DH\/p = .ptr 0 0)->l.length+(wrD d).length<=1000000000 ->
 AH Xa (G q) 125 [.ptr 0 0,.t (.ag c)] ([(0,BB p 1 l)]++(A4 eB tyU 1 l++[])) 2 (.t (.tu [])) ([(0,BB (.ptr 0 0) 2 (l++wrD d))]++(A4 eB tyU 2 (l++wrD d)++[])) 3
theorem B0t:A6 Xa (G q) 140 3 23 SI []:=by
 obtain⟨fn,h1,h2,h3,h4,h5⟩:=sL (q:=q);exact⟨fn,h1,h2,h3,h4,by omega⟩
theorem Va:∀{d:Ds},Wr d->wrD d≠[]:=λh=>by
 induction h with
 | mk op name path kids h1 h2 h3 h4 n1 n2 h5 h6 h7 h8 ih=>
  rw[wrD];split
  .rename_i e;intro hn;have:name.data.toList.length=name.size:=rfl;rw[hn]at this;exact n1 e this.symm
  .split
   .simp
   .split
    .simp
    .split
     .rename_i e;obtain⟨k,r,rfl⟩:=Za (n2 e);rw[wrL];intro hn;exact ih k (by simp) (Y0.1 hn).1
     .split
      .simp
      .split
       .simp
       .split
        .simp
        .split<;>simp
theorem Io.at_ {d:Ds} (h:Io q d) (hw:Wr d) {H:Ab} {NX b g:Nat} {p:PV} {l:List UInt8} {c:List T} (hc:BG d c) (hl:l.length+(wrD d).length<=1000000000) (h0:Aa H b=some (BB p g l)) (hp:p=DH\/p = .ptr b 0) (hg:Ay eB tyU H g l) (hb:b<NX) (hgn:g<NX) (hgb:g≠b) :
  AH Xa (G q) 125 [.ptr b 0,.t (.ag c)] H NX (.t (.tu [])) (wsH H b g NX l (l++wrD d)) (NX+1):=by
 obtain⟨p0,hp0,hpr⟩:∃p0,(p0=DH\/p0 = .ptr 0 0)/\p=ren (λx=>if x=0 then b else g) p0:=by
  rcases hp with rfl | rfl
  .exact⟨DH,.inl rfl,rfl⟩
  .exact⟨.ptr 0 0,.inr rfl,rfl⟩
 have hpu:under 2 p0=true:=by rcases hp0 with rfl | rfl<;>rfl
 have:=W.lift (h c p0 l hc hp0 hl) (H:=H) (NX:=NX) (λx=>if x=0 then b else g) (λx _=>by show(if x=0 then b else g)<NX;split<;>assumption)
  (λx y hx hy e=>by
   have e:(if x=0 then b else g)=(if y=0 then b else g):=e
   split at e<;>split at e<;>omega) (Xh _) (by simp[Va hw]) hpu (by rw[<-hpr];exact h0) hg (λx hx=>(by cases hx)) (λx hx=>(by cases hx)) rfl
 exact this
theorem RK {B nx nx' n k b:Nat} {env env':List (Nat×PV)} {H R:Ab} {p:PV} {l:List UInt8} (h0:Aa H 0=some (BB p k l)) (hp:p=DH\/p = .ptr 0 0) (hr:Ay eB tyU H k l) (hb:b<nx') (hB:B<=b) (hb0:0<b) (hk0:k≠0)
  (hR:∀x∈R,Aa H x.1=some (BE (λx=>if x=b then k else x) x.2)/\x.1<nx'/\x.1≠b/\x.1≠k/\Cm nx' x.2=true/\x.1≠0)
  (he:∀x∈env',Aa env x.1=some (ren (λx=>if x=b then k else x) x.2)/\under nx' x.2=true) :
  Sub Xa (G q) B ⟨env,H,nx,n⟩ ⟨env',[(0,BB p b l)]++(A4 eB tyU b l++R),nx',n⟩:=by
 have s0:(if(0:Nat)=b then k else 0)=0:=zz (by omega);refine JD (λx=>if x=b then k else x) rfl (by show B<=nx';omega) (λx hx=>by show(if x=b then k else x)=x;rw[zz (by omega)]) he (λx hx=>?_) (λx hx y hy e=>?_)
 .rcases Xf.1 hx with hx | hx
  .simp only[Xe]at hx;subst hx;refine⟨?_,by show 0<nx';omega,?_⟩
   .show Aa H (if(0:Nat)=b then k else 0)=_;rw[s0,h0]
    have:ren (λx=>if x=b then k else x) p=p:=by
     rcases hp with rfl | rfl
     .rfl
     .simp only[ren,s0]
    simp only[BB,BE,Bn,Ek,this,if_true]
   .have:under nx' p=true:=by
     rcases hp with rfl | rfl
     .rfl
     .exact zw (by omega)
    simp only[BB,Cm,B8,this,Em _ _ _ _ hb,Yr]
  .rcases Xf.1 hx with hx | hx
   .obtain⟨hn,rfl⟩:=Fc hx;refine⟨?_,hb,HH _ _ _ _⟩;show Aa H (if b=b then k else b)=_;rw[zy rfl,HG];exact hr.resolve_left hn
   .obtain⟨h1,h2,h3,h4,h5,h6⟩:=hR x hx;refine⟨?_,h2,h5⟩;show Aa H (if x.1=b then k else x.1)=_;rw[zz h3];exact h1
 .have cls:∀z,z∈[(0,BB p b l)]++(A4 eB tyU b l++R)->z.1=0\/z.1=b\/(z.1≠0/\z.1≠b/\z.1≠k):=λz hz=>by
   rcases Xf.1 hz with hz | hz
   .simp only[Xe]at hz;subst hz;exact .inl rfl
   .rcases Xf.1 hz with hz | hz
    .obtain⟨_,rfl⟩:=Fc hz;exact .inr (.inl rfl)
    .obtain⟨h1,h2,h3,h4,h5,h6⟩:=hR z hz;exact .inr (.inr ⟨h6,h3,h4⟩)
  have e:(if x.1=b then k else x.1)=(if y.1=b then k else y.1):=e;have cx:=cls x hx;have cy:=cls y hy;split at e<;>split at e<;>omega
def B0u:Nat:=81
abbrev F3:Row:=.cells B0u [.ptr 0 0]
structure Kw where
 j:Nat
 p:PV
 A:List UInt8
def SKw (tk:T) (sep:List UInt8) (n:Nat) (a:Kw):Ad:=⟨[(9,.t (iv (a.j:Int))),(8,.t (iv (n:Int))),(7,.t tk),(1,.t (sv (bs sep))),(2,.ptr 2 0)],[(0,BB a.p 3 a.A)]++(A4 eB tyU 3 a.A++[(2,F3)]),4,23⟩
structure B0v (kids:List Ds) (sep m:List UInt8) (p:PV) (a:Kw):Prop where
 le:a.j<=kids.length
 hp:a.p=DH\/a.p = .ptr 0 0
 h0:a.p=DH->a.j=0/\p=DH
 eq:a.A++Jq sep sep kids a.j=m
theorem Vb {H:Ab} (h:Aa H 2=some F3):Aj false 1 H (.ptr 2 0)=some (.ptr 0 0):=by
 simp only[Aj,h];rfl
theorem kV {H:Ab} {b ty:Nat} {a b0 c d:T} (h:Aa H b=some (.cells ty [.t a,.t b0,.t c,.t d])):Aj true 4 H (.ptr b 0)=some (.t (.ag [a,b0,c,d])):=by
 simp only[Aj,h];rfl
theorem B0w (R:Ab) (a b0 c d:T):AM 4 ((4,zD)::R) (.ptr 4 0) (.t (.ag [a,b0,c,d]))=some ((4,.cells 57 [.t a,.t b0,.t c,.t d])::R):=rfl
theorem B0x {kids:List Ds} (hw:∀k∈kids,Io q k/\Wr k) (hn:kids.length<=1000) {tk:T} (hk:IsK tk kids) (sep:List UInt8) {p:PV} {l:List UInt8} (hp:p=DH\/p = .ptr 0 0) (hkne:p=DH->kids≠[]) (hsep:sep≠[]\/kids.length<=1)
  (hl:l.length+(wrL sep sep kids).length<=1000000000) :
  AH Xa (G q) 140 [.t tk,.t (sv (bs sep)),.ptr 2 0] ([(0,BB p 1 l)]++(A4 eB tyU 1 l++[(2,F3)])) 3 (.t (.tu [])) ([(0,BB (.ptr 0 0) 3 (l++wrL sep sep kids))]++(A4 eB tyU 3 (l++wrL sep sep kids)++[(2,F3)])) 4:=by
 obtain⟨m,hm⟩:∃m,m=l++wrL sep sep kids:=⟨_,rfl⟩
 rw[<-hm]
 have hml:m.length<=1000000000:=by rw[hm,Xb];exact hl
 have hlk:AO (.t tk)=some (.t (iv (kids.length:Int))):=hk.len;refine B0t.callP rfl ?_;(conv in SI=>cbv);refine Av AL ?_;simp -implicitDefEqProofs [hlk];refine BD ?_;refine D5 (SKw tk sep kids.length) (λa=>kids.length-a.j) (B0v kids sep m p) ⟨0,p,l⟩ (λ_=>rfl) ⟨Xi _,hp,λh=>⟨rfl,h⟩,by rw[A9i,hm]⟩ ?_ rfl ?_
 .refine RK (k:=1) rfl hp ((Ay.head eB tyU [(2,F3)] 1 l).cons (by omega)) (by omega) (by omega) (by omega) (by omega) ?_ ?_
  .intro x hx;simp only[Xe]at hx;subst hx;refine⟨?_,by show 2<4;omega,by show 2≠3;omega,by show 2≠1;omega,rfl,by show 2≠0;omega⟩;cases l<;>rfl
  .simp -implicitDefEqProofs [ren,under]
 rintro⟨j,pj,A⟩ ⟨hj,hpj,hp0,heq⟩;simp only at hj hpj hp0 heq
 obtain⟨H0,hH0⟩:∃H0,H0=[(0,BB pj 3 A)]++(A4 eB tyU 3 A++[(2,F3)]):=⟨_,rfl⟩
 have l00:Aa H0 0=some (BB pj 3 A):=by rw[hH0];rfl
 have l02:Aa H0 2=some F3:=by rw[hH0];cases A<;>rfl
 have r0:Ay eB tyU H0 3 A:=by rw[hH0];exact(Ay.head eB tyU [(2,F3)] 3 A).cons (by omega)
 have hS:SKw tk sep kids.length ⟨j,pj,A⟩=⟨[(9,.t (iv (j:Int))),(8,.t (iv (kids.length:Int))),(7,.t tk),(1,.t (sv (bs sep))),(2,.ptr 2 0)],H0,4,23⟩:=by rw[hH0];rfl
 rw[hS];by_cases hlt:j<kids.length
 .obtain⟨x,hx⟩:∃x,kids[j]?=some x:=⟨_,Xr hlt⟩
  obtain⟨kp,ci,h1,h2,h3⟩:=OJ hk hx;obtain⟨hwx,hwr⟩:=hw x (Xd hx)
  have hlt':(j:Int)<(kids.length:Int):=by omega
  obtain⟨j1,hj1⟩:∃j1,j1=j+1:=⟨_,rfl⟩
  have ej:Xj.wrap ((j:Int)+1)=(j1:Int):=AP (by omega) (by omega)
  have hlen:(A++Jq sep sep kids j).length<=1000000000:=by rw[heq];exact hml
  rw[A9k sep sep kids hx]at heq hlen;rw[<-hj1]at heq hlen;simp only[Xb]at hlen
  obtain⟨ca,cb,cc,cd,rfl⟩:∃ca cb cc cd,ci=[ca,cb,cc,cd]:=by
   cases x with
   | mk op name path ks=>
    obtain⟨tp',tk',rfl,_,_⟩:=h3.parts;exact⟨_,_,_,_,rfl⟩
  obtain⟨H1,hH1⟩:∃H1,H1=((4,.cells 57 [.t ca,.t cb,.t cc,.t cd])::H0:Ab):=⟨_,rfl⟩
  have st:=B0w H0 ca cb cc cd;rw[<-hH1]at st
  have l10:Aa H1 0=some (BB pj 3 A):=by rw[hH1,Az,zz (by omega)];exact l00
  have l12:Aa H1 2=some F3:=by rw[hH1,Az,zz (by omega)];exact l02
  have r1:Ay eB tyU H1 3 A:=by rw[hH1];exact r0.cons (by omega)
  have l14:Aa H1 4=some (.cells 57 [.t ca,.t cb,.t cc,.t cd]):=by rw[hH1,Az,zy rfl]
  have b1:=Vb l12;have g1:=kV l14;unfold UR at heq hlen;by_cases h0:j=0
  .rw[zy h0]at heq hlen
   have h0':¬(0:Int)<(j:Int):=by omega
   have h0n:¬0<j:=by omega
   obtain⟨m1,hm1⟩:∃m1,m1=A++wrD x:=⟨_,rfl⟩
   rw[Yg,<-Xz,<-hm1]at heq
   obtain⟨H2,hH2⟩:∃H2,H2=wsH H1 0 3 5 A m1:=⟨_,rfl⟩
   have c37:=hwx.at_ hwr h3 (H:=H1) (NX:=5) (b:=0) (g:=3) (p:=pj) (l:=A) (by omega) l10 hpj r1 (by omega) (by omega) (by omega);rw[<-hm1,<-hH2]at c37
   obtain⟨t37,ht37⟩:∃t,t=Fe [.ptr 0 0,.t (.ag [ca,cb,cc,cd])] H1 5 (.t (.tu []),H2,6):=⟨_,rfl⟩
   have C:Ctx Xa (G q) (orh [] [(125,t37)]):=As.nil.ctxH (AF.cons (by rw[ht37];exact E0 c37 (by rw[hH2];exact KH (by omega))) .nil) mixed
   have e37:t37 [.ptr 0 0,.t (.ag [ca,cb,cc,cd])] H1 5=some (.t (.tu []),H2,6):=by rw[ht37];exact DL _ _ _ _
   refine Ap C ?_;simp -implicitDefEqProofs [hlt,hlt',h0',h0n,h1,h2,st,b1,g1,e37,ej]
   have l20:Aa H2 0=some (BB (.ptr 0 0) 5 m1):=by rw[hH2];exact Nv l10 (by omega) (.inr (by omega))
   have l22:Aa H2 2=some F3:=by rw[hH2,KG (by omega) (.inr (by omega)) (by omega)];exact l12
   have r2:Ay eB tyU H2 5 m1:=by rw[hH2];exact Nw
   refine Am.mk (⟨j1,.ptr 0 0,m1⟩:Kw) ⟨⟨by show j1<=_;omega,.inr rfl,λh=>(by cases h),heq⟩,by show kids.length-j1<kids.length-j;omega⟩ ?_;refine RK (k:=5) l20 (.inr rfl) r2 (by omega) (by omega) (by omega) (by omega) ?_ ?_
   .intro y hy;simp only[Xe]at hy;subst hy;exact⟨l22,by show 2<4;omega,by show 2≠3;omega,by show 2≠5;omega,rfl,by show 2≠0;omega⟩
   .simp -implicitDefEqProofs [ren,under]
  .rw[zz h0,show(if j+1=kids.length then sep else sep)=sep by split<;>rfl]at heq hlen
   have h0':(0:Int)<(j:Int):=by omega
   have h0n:0<j:=by omega
   have hse:sep≠[]:=hsep.resolve_right (by omega);have hpp:pj = .ptr 0 0:=hpj.resolve_left (λh=>h0 (hp0 h).1);subst hpp
   obtain⟨m0,hm0⟩:∃m0,m0=A++sep:=⟨_,rfl⟩
   obtain⟨m1,hm1⟩:∃m1,m1=m0++wrD x:=⟨_,rfl⟩
   have hm0l:m0.length=A.length+sep.length:=by rw[hm0,Xb]
   rw[<-Xz,<-hm0,<-Xz,<-hm1]at heq
   obtain⟨H2,hH2⟩:∃H2,H2=wsH H1 0 3 5 A m0:=⟨_,rfl⟩
   have l20:Aa H2 0=some (BB (.ptr 0 0) 5 m0):=by rw[hH2];exact Nv l10 (by omega) (.inr (by omega))
   have l22:Aa H2 2=some F3:=by rw[hH2,KG (by omega) (.inr (by omega)) (by omega)];exact l12
   have l24:Aa H2 4=some (.cells 57 [.t ca,.t cb,.t cc,.t cd]):=by rw[hH2,KG (by omega) (.inr (by omega)) (by omega)];exact l14
   have r2:Ay eB tyU H2 5 m0:=by rw[hH2];exact Nw
   have b2:=Vb l22;have g2:=kV l24
   obtain⟨H3,hH3⟩:∃H3,H3=wsH H2 0 5 6 m0 m1:=⟨_,rfl⟩
   have l30:Aa H3 0=some (BB (.ptr 0 0) 6 m1):=by rw[hH3];exact Nv l20 (by omega) (.inr (by omega))
   have l32:Aa H3 2=some F3:=by rw[hH3,KG (by omega) (.inr (by omega)) (by omega)];exact l22
   have r3:Ay eB tyU H3 6 m1:=by rw[hH3];exact Nw
   have c64:=UY (q:=q) (nx:=5) l10 (.inr rfl) r1 hse (by omega);rw[<-hm0,<-hH2]at c64;have c37:=hwx.at_ hwr h3 (H:=H2) (NX:=6) (b:=0) (g:=5) (p:=.ptr 0 0) (l:=m0) (by omega) l20 (.inr rfl) r2 (by omega) (by omega) (by omega);rw[<-hm1,<-hH3]at c37
   obtain⟨t64,ht64⟩:∃t,t=Fe [.ptr 0 0,.t (sv (bs sep))] H1 5 (.t (.tu [iv (sep.length:Int),.v .nilIface]),H2,6):=⟨_,rfl⟩
   obtain⟨t37,ht37⟩:∃t,t=Fe [.ptr 0 0,.t (.ag [ca,cb,cc,cd])] H2 6 (.t (.tu []),H3,7):=⟨_,rfl⟩
   have C:Ctx Xa (G q) (orh [] [(36,t64),(125,t37)]):=As.nil.ctxH (AF.cons (by rw[ht64];exact E0 c64 (by rw[hH2];exact KH (by omega))) (AF.cons (by rw[ht37];exact E0 c37 (by rw[hH3];exact KH (by omega))) .nil)) mixed
   have e64:t64 [.ptr 0 0,.t (sv (bs sep))] H1 5=some (.t (.tu [iv (sep.length:Int),.v .nilIface]),H2,6):=by rw[ht64];exact DL _ _ _ _
   have e37:t37 [.ptr 0 0,.t (.ag [ca,cb,cc,cd])] H2 6=some (.t (.tu []),H3,7):=by rw[ht37];exact DL _ _ _ _
   refine Ap C ?_;simp -implicitDefEqProofs [hlt,hlt',h0',h0n,h1,h2,st,b1,e64,b2,g2,e37,ej];refine Am.mk (⟨j1,.ptr 0 0,m1⟩:Kw) ⟨⟨by show j1<=_;omega,.inr rfl,λh=>(by cases h),heq⟩,by show kids.length-j1<kids.length-j;omega⟩ ?_;refine RK (k:=6) l30 (.inr rfl) r3 (by omega) (by omega) (by omega) (by omega) ?_ ?_
   .intro y hy;simp only[Xe]at hy;subst hy;exact⟨l32,by show 2<4;omega,by show 2≠3;omega,by show 2≠6;omega,rfl,by show 2≠0;omega⟩
   .simp -implicitDefEqProofs [ren,under]
 .have hje:j=kids.length:=by omega
  have hlt':¬(j:Int)<(kids.length:Int):=by omega
  rw[hje,A9j,Xu]at heq;subst heq
  have hpp:pj = .ptr 0 0:=by
   rcases hpj with h | h
   .obtain⟨h1,h2⟩:=hp0 h;exact absurd (Xw (by omega)) (hkne h2)
   .exact h
  subst hpp;refine Ap AL ?_;simp -implicitDefEqProofs [hlt,hlt'];exact⟨.inl rfl,⟨[],H0,4,23⟩,[],sub_env (by simp -implicitDefEqProofs),rfl,rfl,hH0,rfl⟩
end Go.Proofs.YtobnacghaamfoaaGreatDoor
