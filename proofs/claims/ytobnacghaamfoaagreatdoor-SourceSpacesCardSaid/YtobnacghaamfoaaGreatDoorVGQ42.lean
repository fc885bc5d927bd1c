/- Auxiliary facts. -/
import Derived.Test.YtobnacghaamfoaaGreatDoorVGQ41
set_option linter.unusedSimpArgs false
set_option maxRecDepth 100000
set_option maxHeartbeats 0
set_option linter.unusedVariables false
open Bool renaming false_eq_true->Xa
open Go.Proofs.Tryz renaming prog->Xb
open List renaming length_append->Xc,length_cons->Xd,length_drop->Xe,take_succ_cons->Xf,drop_succ_cons->Xg,length_take->Xh,mem_singleton->Xi,nil_append->Xj,length_nil->Xk,eq_nil_of_length_eq_zero->Xl
namespace Go.Proofs.YtobnacghaamfoaaGreatDoor
open Go Go.Abs
variable {q : Gl}
theorem BO.length:∀{l:List Ds} {c:List T},BO l c->c.length=l.length*4
 | [],c,h=>by simp only[BO]at h;subst h;rfl
 | d::l,c,h=>by
  simp only[BO]at h;obtain⟨c1,c2,rfl,h1,h2⟩:=h;have e1:c1.length=4:=h1.len;rw[Xc,e1,BO.length h2,Xd];omega
theorem BO.cut:∀(n:Nat) {l:List Ds} {c:List T},BO l c->BO (l.take n) (c.take (n*4))/\BO (l.drop n) (c.drop (n*4))
 | 0,l,c,h=>by simpa[BO]using h
 | n+1,[],c,h=>by simp only[BO]at h;subst h;simp[BO]
 | n+1,d::l,c,h=>by
  simp only[BO]at h;obtain⟨c1,c2,rfl,h1,h2⟩:=h;have e1:c1.length=4:=h1.len;obtain⟨i1,i2⟩:=BO.cut n h2;rw[show(n+1)*4=c1.length+n*4 by omega,List.take_length_add_append,List.drop_length_add_append,Xf,Xg];exact⟨by simp only[BO];exact⟨c1,_,rfl,h1,i1⟩,i2⟩
theorem IsK.cut {t:T} {l:List Ds} (h:IsK t l) (hl:l≠[]) {n:Nat} (hn:n<=l.length) :
  ∃t1 t2,EY 4 (.t t) none (some (.t (iv (n:Int))))=some (.t t1)/\EY 4 (.t t) (some (.t (iv (n:Int)))) none=some (.t t2)/\IsK t1 (l.take n)/\IsK t2 (l.drop n):=by
 rcases h with⟨_,h⟩ | ⟨c,rfl,h⟩
 .exact absurd h hl
 .obtain⟨i1,i2⟩:=BO.cut n h;have hcl:=BO.length h;refine⟨.sl n (c.take (n*4)),.sl (l.length-n) (c.drop (n*4)),?_,?_,.inr ⟨_,by rw[Xh,Nat.min_eq_left hn],i1⟩,.inr ⟨_,by rw[Xe],i2⟩⟩
  .have e:Cj (some (PV.t (iv (n:Int)))) l.length=some n:=by simp[Cj]
   have e0:Cj none 0=some 0:=rfl;simp only[EY,e,e0];rw[zy ⟨Nat.zero_le _,hn⟩];simp
  .have e:Cj (some (PV.t (iv (n:Int)))) 0=some n:=by simp[Cj]
   have e0:Cj none l.length=some l.length:=rfl;simp only[EY,e,e0];rw[zy ⟨hn,Nat.le_refl _⟩,List.take_of_length_le (by rw[Xe,hcl,<-Nat.sub_mul];exact Nat.le_refl _)]
theorem kW (sep last:List UInt8):∀{kids:List Ds},2<=kids.length->wrL sep last kids=wrL sep sep (kids.take (kids.length-1))++(last++wrL [] [] (kids.drop (kids.length-1)))
 | [],h=>by simp at h
 | [_],h=>by simp at h
 | [a,b],_=>by simp[wrL,ER]
 | a::b::c::r,_=>by
  have ih:=kW sep last (kids:=b::c::r) (by simp)
  have e:(a::b::c::r).length-1=(b::c::r).length-1+1:=by simp
  rw[e,Xf,Xg,wrL,ih,wrL]
  have e2:(b::c::r).length-1=(c::r).length-1+1:=by simp
  rw[show ER sep last (b::c::r)=sep from rfl,e2,Xf]
  have:ER sep sep (b::List.take ((c::r).length-1) (c::r))=sep:=by
   cases List.take ((c::r).length-1) (c::r)<;>rfl
  rw[this];simp
theorem B0y {kids:List Ds} (hw:∀k∈kids,Io q k/\Wr k) (hn:kids.length<=1000) {tk:T} (hk:IsK tk kids) (sep:List UInt8) (hsep:sep≠[]\/kids.length<=1)
  {H:Ab} {NX g:Nat} {p:PV} {l:List UInt8} (hkne:p=DH->kids≠[]) (hm:l++wrL sep sep kids≠[]) (hl:l.length+(wrL sep sep kids).length<=1000000000) (h0:Aa H 0=some (BB p g l)) (hp:p=DH\/p = .ptr 0 0) (h2:Aa H 2=some F3) (hg:Ay eB tyU H g l) (hgn:g<NX) (hg0:g≠0) (hg2:g≠2) (hnx:2<NX) :
  AH Xb (G q) 140 [.t tk,.t (sv (bs sep)),.ptr 2 0] H NX (.t (.tu [])) (wsH H 0 g NX l (l++wrL sep sep kids)) (NX+1):=by
 have hpu:under 3 p=true:=by rcases hp with rfl | rfl<;>rfl
 have hpr:ren (λx=>if x=1 then g else x) p=p:=by rcases hp with rfl | rfl<;>rfl
 have:=W.lift (B0x hw hn hk sep hp hkne hsep hl) (H:=H) (NX:=NX) (λx=>if x=1 then g else x) (λx hx=>by show(if x=1 then g else x)<NX;split<;>omega)
  (λx y hx hy e=>by
   have e:(if x=1 then g else x)=(if y=1 then g else y):=e
   split at e<;>split at e<;>omega) (by omega) hm hpu (by rw[hpr];exact h0) hg (λx hx=>by
   simp only[Xi]at hx;subst hx
   exact⟨h2,by show 2<=2;omega,by show 2<3;omega,rfl⟩) (λx hx=>by
   simp only[Xi]at hx;subst hx
   exact⟨rfl,rfl,rfl⟩) rfl
 exact this
theorem kX {H:Ab} {nx b g:Nat} {p:PV} {l s:List UInt8} (h:Aa H b=some (BB p g l)) (hp:p = .t (.v (.pointer none))\/p = .ptr b 0) (hg:Ay eB tyU H g l) (hs:s≠[]) (hlen:l.length+s.length<=140737488355328) (hb:b<nx) :
 HOK Xb (G q) 36 (Fe [.ptr b 0,.t (sv (bs s))] H nx (.t (.tu [iv (s.length:Int),.v .nilIface]),wsH H b g nx l (l++s),nx+1)):=E0 (UY h hp hg hs hlen) (KH hb)
theorem B0z {kids:List Ds} (hw:∀k∈kids,Io q k/\Wr k) (hn:kids.length<=1000) {tk:T} (hk:IsK tk kids) (sep:List UInt8) (hsep:sep≠[]\/kids.length<=1)
 {H:Ab} {NX g:Nat} {p:PV} {l:List UInt8} (hkne:p=DH->kids≠[]) (hm:l++wrL sep sep kids≠[]) (hl:l.length+(wrL sep sep kids).length<=1000000000) (h0:Aa H 0=some (BB p g l)) (hp:p=DH\/p = .ptr 0 0) (h2:Aa H 2=some F3) (hg:Ay eB tyU H g l) (hgn:g<NX) (hg0:g≠0) (hg2:g≠2) (hnx:2<NX) :
 HOK Xb (G q) 140 (Fe [.t tk,.t (sv (bs sep)),.ptr 2 0] H NX (.t (.tu []),wsH H 0 g NX l (l++wrL sep sep kids),NX+1)):=E0 (B0y hw hn hk sep hsep hkne hm hl h0 hp h2 hg hgn hg0 hg2 hnx) (KH (by omega))
structure WS (H:Ab) (g:Nat) (p:PV) (l:List UInt8) (op:Int) (name:ByteArray) (tp tk:T):Prop where
 r0:Aa H 0=some (BB p g l)
 r2:Aa H 2=some F3
 r3:Aa H 3=some (Dd op name tp tk)
 rg:Ay eB tyU H g l
 hp:p=DH\/p = .ptr 0 0
section
variable {H : Ab} {g nx : Nat} {p : PV} {l m : List UInt8} {op : Int} {name : ByteArray} {tp tk : T}
theorem WS.next (h:WS H g p l op name tp tk) (g0:g≠0) (g2:g≠2) (g3:g≠3) (hn:3<nx):WS (wsH H 0 g nx l m) nx (.ptr 0 0) m op name tp tk where
 r0:=Nv h.r0 (by omega) (.inr (Ne.symm g0))
 r2:=(KG (by omega) (.inr (Ne.symm g2)) (by omega)).trans h.r2
 r3:=(KG (by omega) (.inr (Ne.symm g3)) (by omega)).trans h.r3
 rg:=Nw
 hp:=.inr rfl
theorem WS.ld (h:WS H g p l op name tp tk):Aj false 1 H (.ptr 2 0)=some (.ptr 0 0):=Vb h.r2
theorem WS.d0 (h:WS H g p l op name tp tk):Aj false 1 H (.ptr 3 0)=some (.t (iv op)):=by simp only[Aj,h.r3];rfl
theorem WS.d1 (h:WS H g p l op name tp tk):Aj false 1 H (.ptr 3 1)=some (.t (sv name)):=by simp only[Aj,h.r3];rfl
theorem WS.d2 (h:WS H g p l op name tp tk):Aj false 1 H (.ptr 3 2)=some (.t tp):=by simp only[Aj,h.r3];rfl
theorem WS.d3 (h:WS H g p l op name tp tk):Aj false 1 H (.ptr 3 3)=some (.t tk):=by simp only[Aj,h.r3];rfl
theorem WS.fin (h:WS H g (.ptr 0 0) l op name tp tk) (g0:g≠0) {env:List (Nat×PV)} {e:Exit} (he:e = .normal\/e = .ret) (n:Nat) :
  F7 Xb (G q) 2 [] (λr0 H0 nx0=>r0=PV.t (T.tu [])/\H0=(0,BB (.ptr 0 0) 2 l)::A4 eB tyU 2 l/\nx0=3) e ⟨env,H,nx,n⟩:=
 ⟨he,⟨[],[(0,BB (.ptr 0 0) 2 l)]++(A4 eB tyU 2 l++[]),3,n⟩,[],RK h.r0 (.inr rfl) h.rg (by omega) (by omega) (by omega) g0 (λx hx=>(by cases hx)) (λx hx=>(by cases hx)),rfl,rfl,by rw[List.append_nil];rfl,rfl⟩
theorem WS.write (h:WS H g p l op name tp tk) (g0:g≠0) (g2:g≠2) (g3:g≠3) (hn:3<nx) {s:List UInt8} (hs:s≠[]) (hlen:l.length+s.length<=2000000000) :
  ∃t H2,WS H2 nx (.ptr 0 0) (l++s) op name tp tk/\HOK Xb (G q) 36 t/\t [.ptr 0 0,.t (sv (bs s))] H nx=some (.t (.tu [iv (s.length:Int),.v .nilIface]),H2,nx+1):=
 ⟨_,_,h.next g0 g2 g3 hn,kX h.r0 h.hp h.rg hs (by omega) (by omega),DL _ _ _ _⟩
theorem WS.kids {kids:List Ds} (h:WS H g p l op name tp tk) (g0:g≠0) (g2:g≠2) (g3:g≠3) (hn:3<nx) (hgn:g<nx) (hw:∀k∈kids,Io q k/\Wr k) (hkl:kids.length<=1000) {ts:T} (hk:IsK ts kids) (sep:List UInt8) (hsep:sep≠[]\/kids.length<=1)
  (hkne:p=DH->kids≠[]) (hm:l++wrL sep sep kids≠[]) (hl:l.length+(wrL sep sep kids).length<=1000000000) :
  ∃t H2,WS H2 nx (.ptr 0 0) (l++wrL sep sep kids) op name tp tk/\HOK Xb (G q) 140 t/\t [.t ts,.t (sv (bs sep)),.ptr 2 0] H nx=some (.t (.tu []),H2,nx+1):=
 ⟨_,_,h.next g0 g2 g3 hn,B0z hw hkl hk sep hsep hkne hm hl h.r0 h.hp h.r2 h.rg hgn g0 g2 (by omega),DL _ _ _ _⟩
end
theorem B1a {op:Int} {name:ByteArray} {path:List ByteArray} {kids:List Ds} (hwr:Wr (.mk op name path kids)) (hkids:∀k∈kids,Io q k):Io q (.mk op name path kids):=λc p l hc hp hl=>by
 obtain⟨w1,w2,w3,w4,wn1,wn2,w5,w6,w7,w8⟩:=hwr.parts
 have hw:∀k∈kids,Io q k/\Wr k:=λk hk=>⟨hkids k hk,w8 k hk⟩
 obtain⟨tp,tk,rfl,hpa,hk⟩:=hc.parts
 obtain⟨W,hW⟩:∃W,W=wrD (.mk op name path kids):=⟨_,rfl⟩
 rw[<-hW]at hl ⊢;rw[wrD]at hW
 obtain⟨H1,hH1⟩:∃H1,H1=((3,Dd op name tp tk)::(2,F3)::(0,BB p 1 l)::A4 eB tyU 1 l:Ab):=⟨_,rfl⟩
 have ws1:WS H1 1 p l op name tp tk:=by
  rw[hH1];refine⟨rfl,rfl,rfl,?_,hp⟩;exact(((Ay.head' eB tyU 1 l).cons (by omega)).cons (by omega)).cons (by omega)
 have hop:op=1\/op=2\/op=3\/op=4\/op=5\/op=6\/op=7\/op=8:=by omega
 refine sK.callP rfl ?_;(conv in YM=>cbv);refine Av AL ?_;simp -implicitDefEqProofs [HU];have mk1:exM (.mkf (.func 140) 0) [PV.ptr 2 0]=some (.fn (.func 140) [] [.ptr 2 0]):=rfl;refine Av AL ?_;simp -implicitDefEqProofs [mk1];refine MC.sub (s':=⟨[(4,.fn (.func 140) [] [.ptr 2 0]),(3,.ptr 3 0),(2,.ptr 2 0)],H1,4,100⟩) (by rw[hH1];exact sub_env (by simp -implicitDefEqProofs)) rfl ?_;have d0:=ws1.d0;have d1:=ws1.d1;have d2:=ws1.d2;have d3:=ws1.d3;have b1:=ws1.ld
 have hWl:W.length<=1000000000:=by omega
 obtain⟨m,hm⟩:∃m,m=l++W:=⟨_,rfl⟩
 rw[<-hm]
 have one:∀s:List UInt8,s≠[]->s.length<=1000000000->∃t H2,WS H2 4 (.ptr 0 0) (l++s) op name tp tk/\HOK Xb (G q) 36 t/\t [.ptr 0 0,.t (sv (bs s))] H1 4=some (.t (.tu [iv (s.length:Int),.v .nilIface]),H2,5):=λs hs hsl=>
  ⟨_,_,ws1.next (by omega) (by omega) (by omega) (by omega),kX ws1.r0 ws1.hp ws1.rg hs (by omega) (by omega),DL _ _ _ _⟩
 rcases hop with rfl | rfl | rfl | rfl | rfl | rfl | rfl | rfl
 .rw[zy rfl]at hW;have hne:name.data.toList≠[]:=λh=>wn1 rfl (by have:name.data.toList.length=name.size:=rfl;rw[h]at this;exact this.symm);obtain⟨t,H2,ws2,hok,e⟩:=one name.data.toList hne (by rw[<-hW];exact hWl);rw[En]at e;rw[<-hW,<-hm]at ws2;have C:=As.nil.ctxH (AF.cons hok .nil) mixed;refine Ap C ?_;simp -implicitDefEqProofs [d0,d1,b1,e];exact ws2.fin (by omega) (.inl rfl) 100
 .rw[zz (by decide),zy rfl]at hW;have a1:=jH 64 (s:=name) (by rw[hW,Xd]at hWl;omega);obtain⟨t,H2,ws2,hok,e⟩:=one W (by rw[hW];simp) hWl;rw[<-hm]at ws2;rw[<-hW]at a1;have C:=As.nil.ctxH (AF.cons hok .nil) mixed;refine Ap C ?_;simp -implicitDefEqProofs [d0,d1,b1,a1,e];exact ws2.fin (by omega) (.inl rfl) 100
 .rw[zz (by decide),zz (by decide),zy rfl]at hW;have a1:=jH 35 (s:=name) (by rw[hW,Xd]at hWl;omega);obtain⟨t,H2,ws2,hok,e⟩:=one W (by rw[hW];simp) hWl;rw[<-hm]at ws2;rw[<-hW]at a1;have C:=As.nil.ctxH (AF.cons hok .nil) mixed;refine Ap C ?_;simp -implicitDefEqProofs [d0,d1,b1,a1,e];exact ws2.fin (by omega) (.inl rfl) 100
 .rw[zz (by decide),zz (by decide),zz (by decide),zy rfl]at hW;have hne:=wn2 rfl
  have hmne:l++wrL [32,38,32] [32,38,32] kids≠[]:=by
   rw[<-hW];have:=Va hwr;rw[wrD,zz (by decide),zz (by decide),zz (by decide),zy rfl,<-hW]at this;simp[this]
  obtain⟨t,H2,ws2,hok,e⟩:=ws1.kids (q:=q) (nx:=4) (by omega) (by omega) (by omega) (by omega) (by omega) hw w6 hk [32,38,32] (.inl (by simp)) (λ_=>hne) hmne (by rw[<-hW];exact hl);rw[<-hW,<-hm]at ws2;rw[show bs [32,38,32]=⟨#[32,38,32]⟩from rfl]at e;have C:=As.nil.ctxH (AF.cons hok .nil) mixed;refine Ap C ?_;simp -implicitDefEqProofs [d0,d3,e];exact ws2.fin (by omega) (.inl rfl) 100
 .rw[zz (by decide),zz (by decide),zz (by decide),zz (by decide),zy rfl]at hW;obtain⟨hpne,hk1⟩:=w3 rfl
  obtain⟨D,hD⟩:∃D,D=Dg path:=⟨_,rfl⟩
  obtain⟨J,hJ⟩:∃J,J=wrL [] [] kids:=⟨_,rfl⟩
  rw[<-hD,<-hJ]at hW
  have hJl:D.length+J.length+3=W.length:=by rw[hW];simp;omega
  have gj:=B0s hpa w5 (by rw[<-hD];omega);rw[<-hD]at gj;have a1:=FT (a:=[91]) (b:=D) (by simp;omega);have a2:=FT (a:=91::D) (b:=[32]) (by simp;omega);rw[show bs [91]=⟨#[91]⟩from rfl]at a1;rw[show bs [32]=⟨#[32]⟩from rfl]at a2;simp only[List.cons_append,Xj]at a1 a2;obtain⟨t2,H2,ws2,hok2,e2⟩:=ws1.write (q:=q) (nx:=4) (s:=91::(D++[32])) (by omega) (by omega) (by omega) (by omega) (by simp) (by simp;omega);obtain⟨t3,H3,ws3,hok3,e3⟩:=ws2.kids (q:=q) (nx:=5) (by omega) (by omega) (by omega) (by omega) (by omega) hw w6 hk [] (.inr (by omega)) (λh=>(by cases h)) (by simp) (by rw[<-hJ,Xc];simp;omega);rw[<-hJ]at ws3;obtain⟨t4,H4,ws4,hok4,e4⟩:=ws3.write (q:=q) (nx:=6) (s:=[93]) (by omega) (by omega) (by omega) (by omega) (by simp) (by simp;omega)
  have hfin:l++91::(D++[32])++J++[93]=m:=by rw[hm,hW];simp
  rw[hfin]at ws4;rw[show bs []=⟨#[]⟩from rfl]at e3;rw[show bs [93]=⟨#[93]⟩from rfl]at e4;have b2:=ws2.ld;have c3:=ws2.d3;have b3:=ws3.ld;refine Av AL ?_;simp -implicitDefEqProofs [d0];refine BD ?_;refine Av AL ?_;simp -implicitDefEqProofs;refine Cr (t:=false) rfl ?_;simp only[Xa,if_false];refine Av AL ?_;simp -implicitDefEqProofs;refine Cr (t:=false) rfl ?_;simp only[Xa,if_false];refine Av AL ?_;simp -implicitDefEqProofs;refine Cr (t:=false) rfl ?_;simp only[Xa,if_false];refine Av AL ?_;simp -implicitDefEqProofs;refine Cr (t:=false) rfl ?_;simp only[Xa,if_false];refine Av AL ?_;simp -implicitDefEqProofs;refine Cr (t:=true) rfl ?_;simp only[if_true];refine Av ((As.cons (hJo (q:=q)) .nil).ctxH (AF.cons hok2 .nil) mixed) ?_;simp -implicitDefEqProofs [b1,d2,gj,a1,a2,e2];refine Av (As.nil.ctxH (AF.cons hok3 .nil) mixed) ?_;simp -implicitDefEqProofs [c3,e3];refine Ap (As.nil.ctxH (AF.cons hok4 .nil) mixed) ?_;simp -implicitDefEqProofs [b3,e4];exact ws4.fin (by omega) (.inl rfl) 100
 .rw[zz (by decide),zz (by decide),zz (by decide),zz (by decide),zz (by decide),zy rfl]at hW
  obtain⟨J,hJ⟩:∃J,J=wrL [44,32] [44,32] kids:=⟨_,rfl⟩
  rw[<-hJ]at hW
  have hJl:J.length+2=W.length:=by rw[hW];simp
  obtain⟨t2,H2,ws2,hok2,e2⟩:=ws1.write (q:=q) (nx:=4) (s:=[60]) (by omega) (by omega) (by omega) (by omega) (by simp) (by simp;omega);obtain⟨t3,H3,ws3,hok3,e3⟩:=ws2.kids (q:=q) (nx:=5) (by omega) (by omega) (by omega) (by omega) (by omega) hw w6 hk [44,32] (.inl (by simp)) (λh=>(by cases h)) (by simp) (by rw[<-hJ,Xc];simp;omega);rw[<-hJ]at ws3;obtain⟨t4,H4,ws4,hok4,e4⟩:=ws3.write (q:=q) (nx:=6) (s:=[62]) (by omega) (by omega) (by omega) (by omega) (by simp) (by simp;omega)
  have hfin:l++[60]++J++[62]=m:=by rw[hm,hW];simp
  rw[hfin]at ws4;rw[show bs [60]=⟨#[60]⟩from rfl]at e2;rw[show bs [44,32]=⟨#[44,32]⟩from rfl]at e3;rw[show bs [62]=⟨#[62]⟩from rfl]at e4;have b2:=ws2.ld;have c3:=ws2.d3;have b3:=ws3.ld;refine Av AL ?_;simp -implicitDefEqProofs [d0];refine BD ?_;refine Av AL ?_;simp -implicitDefEqProofs;refine Cr (t:=false) rfl ?_;simp only[Xa,if_false];refine Av AL ?_;simp -implicitDefEqProofs;refine Cr (t:=false) rfl ?_;simp only[Xa,if_false];refine Av AL ?_;simp -implicitDefEqProofs;refine Cr (t:=false) rfl ?_;simp only[Xa,if_false];refine Av AL ?_;simp -implicitDefEqProofs;refine Cr (t:=false) rfl ?_;simp only[Xa,if_false];refine Av AL ?_;simp -implicitDefEqProofs;refine Cr (t:=false) rfl ?_;simp only[Xa,if_false];refine Av AL ?_;simp -implicitDefEqProofs;refine Cr (t:=true) rfl ?_;simp only[if_true];refine Av (As.nil.ctxH (AF.cons hok2 .nil) mixed) ?_;simp -implicitDefEqProofs [b1,e2];refine Av (As.nil.ctxH (AF.cons hok3 .nil) mixed) ?_;simp -implicitDefEqProofs [c3,e3];refine Ap (As.nil.ctxH (AF.cons hok4 .nil) mixed) ?_;simp -implicitDefEqProofs [b3,e4];exact ws4.fin (by omega) (.inl rfl) 100
 .rw[zz (by decide),zz (by decide),zz (by decide),zz (by decide),zz (by decide),zz (by decide),zy rfl,kW [44,32] [32,124,32] (w4 rfl)]at hW;have h2k:=w4 rfl
  have hkne:kids≠[]:=by rintro rfl;simp at h2k
  obtain⟨n,hn⟩:∃n,n=kids.length-1:=⟨_,rfl⟩
  rw[<-hn]at hW;obtain⟨t1,t2,s1,s2,i1,i2⟩:=IsK.cut hk hkne (n:=n) (by omega)
  obtain⟨J,hJ⟩:∃J,J=wrL [44,32] [44,32] (kids.take n):=⟨_,rfl⟩
  obtain⟨J2,hJ2⟩:∃J2,J2=wrL [] [] (kids.drop n):=⟨_,rfl⟩
  rw[<-hJ,<-hJ2]at hW
  have hJl:J.length+J2.length+5=W.length:=by rw[hW];simp;omega
  have hlk:AO (.t tk)=some (.t (iv (kids.length:Int))):=hk.len;have en:IntKind.i64.wrap ((kids.length:Int)-1)=(n:Int):=AP (by omega) (by omega);obtain⟨t3,H3,ws3,hok3,e3⟩:=ws1.write (q:=q) (nx:=4) (s:=[60]) (by omega) (by omega) (by omega) (by omega) (by simp) (by simp;omega);obtain⟨t4,H4,ws4,hok4,e4⟩:=ws3.kids (q:=q) (nx:=5) (by omega) (by omega) (by omega) (by omega) (by omega) (λk h=>hw k (List.mem_of_mem_take h)) (by rw[Xh];omega) i1 [44,32] (.inl (by simp)) (λh=>(by cases h)) (by simp) (by rw[<-hJ,Xc];simp;omega);rw[<-hJ]at ws4;obtain⟨t5,H5,ws5,hok5,e5⟩:=ws4.write (q:=q) (nx:=6) (s:=[32,124,32]) (by omega) (by omega) (by omega) (by omega) (by simp) (by simp;omega);obtain⟨t6,H6,ws6,hok6,e6⟩:=ws5.kids (q:=q) (nx:=7) (by omega) (by omega) (by omega) (by omega) (by omega) (λk h=>hw k (List.mem_of_mem_drop h)) (by rw[Xe];omega) i2 [] (.inr (by rw[Xe];omega)) (λh=>(by cases h)) (by simp) (by rw[<-hJ2];simp only[Xc,Xd,Xk];omega);rw[<-hJ2]at ws6;obtain⟨t7,H7,ws7,hok7,e7⟩:=ws6.write (q:=q) (nx:=8) (s:=[62]) (by omega) (by omega) (by omega) (by omega) (by simp) (by simp only[Xc,Xd,Xk];omega)
  have hfin:l++[60]++J++[32,124,32]++J2++[62]=m:=by rw[hm,hW];simp
  rw[hfin]at ws7;rw[show bs [60]=⟨#[60]⟩from rfl]at e3;rw[show bs [44,32]=⟨#[44,32]⟩from rfl]at e4;rw[show bs [32,124,32]=⟨#[32,124,32]⟩from rfl]at e5;rw[show bs []=⟨#[]⟩from rfl]at e6;rw[show bs [62]=⟨#[62]⟩from rfl]at e7;have c3:=ws3.d3;have b4:=ws4.ld;have c5:=ws5.d3;have b6:=ws6.ld;refine Av AL ?_;simp -implicitDefEqProofs [d0];refine BD ?_;refine Av AL ?_;simp -implicitDefEqProofs;refine Cr (t:=false) rfl ?_;simp only[Xa,if_false];refine Av AL ?_;simp -implicitDefEqProofs;refine Cr (t:=false) rfl ?_;simp only[Xa,if_false];refine Av AL ?_;simp -implicitDefEqProofs;refine Cr (t:=false) rfl ?_;simp only[Xa,if_false];refine Av AL ?_;simp -implicitDefEqProofs;refine Cr (t:=false) rfl ?_;simp only[Xa,if_false];refine Av AL ?_;simp -implicitDefEqProofs;refine Cr (t:=false) rfl ?_;simp only[Xa,if_false];refine Av AL ?_;simp -implicitDefEqProofs;refine Cr (t:=false) rfl ?_;simp only[Xa,if_false];refine Av AL ?_;simp -implicitDefEqProofs;refine Cr (t:=true) rfl ?_;simp only[if_true];refine Av AL ?_;simp -implicitDefEqProofs [d3,hlk,en];refine Av (As.nil.ctxH (AF.cons hok3 .nil) mixed) ?_;simp -implicitDefEqProofs [b1,e3];refine Av (As.nil.ctxH (AF.cons hok4 .nil) mixed) ?_;simp -implicitDefEqProofs [c3,s1,e4];refine Av (As.nil.ctxH (AF.cons hok5 .nil) mixed) ?_;simp -implicitDefEqProofs [b4,e5];refine Av (As.nil.ctxH (AF.cons hok6 .nil) mixed) ?_;simp -implicitDefEqProofs [c5,s2,e6];refine Ap (As.nil.ctxH (AF.cons hok7 .nil) mixed) ?_;simp -implicitDefEqProofs [b6,e7];exact ws7.fin (by omega) (.inl rfl) 100
 .rw[zz (by decide),zz (by decide),zz (by decide),zz (by decide),zz (by decide),zz (by decide),zz (by decide)]at hW
  obtain⟨J,hJ⟩:∃J,J=wrL [44,32] [44,32] kids:=⟨_,rfl⟩
  rw[<-hJ]at hW;have hlk:AO (.t tk)=some (.t (iv (kids.length:Int))):=hk.len
  have hJl:J.length+3<=W.length:=by
   rw[hW];split
   .rename_i h;rw[hJ,Xl h,wrL];simp
   .simp only[Xd,Xc];omega
  obtain⟨t2,H2,ws2,hok2,e2⟩:=ws1.write (q:=q) (nx:=4) (s:=[60,33,32]) (by omega) (by omega) (by omega) (by omega) (by simp) (by simp;omega);obtain⟨t3,H3,ws3,hok3,e3⟩:=ws2.kids (q:=q) (nx:=5) (by omega) (by omega) (by omega) (by omega) (by omega) hw w6 hk [44,32] (.inl (by simp)) (λh=>(by cases h)) (by simp) (by rw[<-hJ,Xc];simp;omega);rw[<-hJ]at ws3;rw[show bs [60,33,32]=⟨#[60,33,32]⟩from rfl]at e2;rw[show bs [44,32]=⟨#[44,32]⟩from rfl]at e3;have b2:=ws2.ld;have c3:=ws2.d3;have b3:=ws3.ld;have c33:=ws3.d3;refine Av AL ?_;simp -implicitDefEqProofs [d0];refine BD ?_;refine Av AL ?_;simp -implicitDefEqProofs;refine Cr (t:=false) rfl ?_;simp only[Xa,if_false];refine Av AL ?_;simp -implicitDefEqProofs;refine Cr (t:=false) rfl ?_;simp only[Xa,if_false];refine Av AL ?_;simp -implicitDefEqProofs;refine Cr (t:=false) rfl ?_;simp only[Xa,if_false];refine Av AL ?_;simp -implicitDefEqProofs;refine Cr (t:=false) rfl ?_;simp only[Xa,if_false];refine Av AL ?_;simp -implicitDefEqProofs;refine Cr (t:=false) rfl ?_;simp only[Xa,if_false];refine Av AL ?_;simp -implicitDefEqProofs;refine Cr (t:=false) rfl ?_;simp only[Xa,if_false];refine Av AL ?_;simp -implicitDefEqProofs;refine Cr (t:=false) rfl ?_;simp only[Xa,if_false];refine Av AL ?_;simp -implicitDefEqProofs;refine Cr (t:=true) rfl ?_;simp only[if_true];refine Av (As.nil.ctxH (AF.cons hok2 .nil) mixed) ?_;simp -implicitDefEqProofs [b1,e2];refine Av (As.nil.ctxH (AF.cons hok3 .nil) mixed) ?_;simp -implicitDefEqProofs [c3,e3];by_cases hz:kids.length=0
  .rw[zy hz]at hW
   have hz':¬0<kids.length:=by omega
   have hJ0:J=[]:=by rw[hJ,Xl hz,wrL]
   subst hJ0;obtain⟨t4,H4,ws4,hok4,e4⟩:=ws3.write (q:=q) (nx:=6) (s:=[33,62]) (by omega) (by omega) (by omega) (by omega) (by simp) (by simp;omega)
   have hfin:l++[60,33,32]++[]++[33,62]=m:=by rw[hm,hW];simp
   rw[hfin]at ws4;rw[show bs [33,62]=⟨#[33,62]⟩from rfl]at e4;refine Ap (As.nil.ctxH (AF.cons hok4 .nil) mixed) ?_;simp -implicitDefEqProofs [c33,hlk,hz,hz',b3,e4];exact ws4.fin (by omega) (.inl rfl) 100
  .rw[zz hz]at hW
   have hJl2:J.length+6=W.length:=by rw[hW];simp
   have hz':0<kids.length:=by omega
   obtain⟨t4,H4,ws4,hok4,e4⟩:=ws3.write (q:=q) (nx:=6) (s:=[32]) (by omega) (by omega) (by omega) (by omega) (by simp) (by simp;omega);obtain⟨t5,H5,ws5,hok5,e5⟩:=ws4.write (q:=q) (nx:=7) (s:=[33,62]) (by omega) (by omega) (by omega) (by omega) (by simp) (by simp;omega)
   have hfin:l++[60,33,32]++J++[32]++[33,62]=m:=by rw[hm,hW];simp
   rw[hfin]at ws5;rw[show bs [32]=⟨#[32]⟩from rfl]at e4;rw[show bs [33,62]=⟨#[33,62]⟩from rfl]at e5;have b4:=ws4.ld;refine Av (As.nil.ctxH (AF.cons hok4 .nil) mixed) ?_;simp -implicitDefEqProofs [c33,hlk,hz',b3,e4];refine Ap (As.nil.ctxH (AF.cons hok5 .nil) mixed) ?_;simp -implicitDefEqProofs [b4,e5];exact ws5.fin (by omega) (.inl rfl) 100
theorem B1b:∀{d:Ds},Wr d->Io q d:=λh=>by
 induction h with
 | mk op name path kids h1 h2 h3 h4 n1 n2 h5 h6 h7 h8 ih=>exact B1a (.mk op name path kids h1 h2 h3 h4 n1 n2 h5 h6 h7 h8) ih
theorem B1c {c:List T} {d:Ds} (hd:BG d c) (hs:D2 d) (hw:Bb d 1=0->Wr d) :
  A1 Xb (G q) 110 [.ag c] (· = LP d):=by
 cases d with
 | mk op name path kids=>
 have hg:=Ux hd hs;have hd0:=hd;obtain⟨tp,tk,rfl,hp,hk⟩:=hd.parts;have C0:Ctx Xb (G q) _:=(As.cons (fW (q:=q)) .nil).ctx mixed;refine sJ.call rfl ?_;(conv in YL=>cbv)
 obtain⟨R,hR⟩:∃R,R=LP (.mk op name path kids):=⟨_,rfl⟩
 rw[<-hR];unfold LP at hR;generalize hE:Bb (.mk op name path kids) 1=E at hg hR hw;by_cases he:E=0
 .subst he;have hwr:=hw rfl;have hwl:=hwr.parts.2.2.2.2.2.2.2.2.1;have hwne:=Va hwr;rw[zz (by omega)]at hR
  obtain⟨H1,hH1⟩:∃H1,H1=([(1,BB DH 0 []),(0,Dd op name tp tk)]:Ab):=⟨_,rfl⟩
  have l1:Aa H1 1=some (BB DH 0 []):=by rw[hH1];rfl
  have c37:=(B1b (q:=q) hwr).at_ hwr hd0 (H:=H1) (NX:=2) (b:=1) (g:=0) (p:=DH) (l:=[]) (by simpa using hwl) l1 (.inl rfl) (.inl rfl) (by omega) (by omega) (by omega);rw[Xj]at c37;generalize wrD (.mk op name path kids)=W at hR hwl hwne c37
  obtain⟨H2,hH2⟩:∃H2,H2=wsH H1 1 0 2 [] W:=⟨_,rfl⟩
  rw[<-hH2]at c37
  have l2:Aa H2 1=some (BB (.ptr 1 0) 2 W):=by rw[hH2];exact Nv l1 (by omega) (.inl rfl)
  have r2:Ay eB tyU H2 2 W:=by rw[hH2];exact Nw
  have l0:Aa H2 0=some (Dd op name tp tk):=by rw[hH2,KG (by omega) (.inl rfl) (by omega),hH1];rfl
  have c38:=kU (q:=q) (nx:=3) l2 r2;have c39:=kT (q:=q) (nx:=3) l2 r2 hwne (by omega)
  obtain⟨t37,e37,hok37⟩:∃t,t [.ptr 1 0,.t (.ag [iv op,sv name,tp,tk])] H1 2=some (.t (.tu []),H2,3)/\HOK Xb (G q) 125 t:=⟨_,DL _ _ _ _,E0 c37 (by rw[hH2];exact KH (by omega))⟩
  obtain⟨t38,e38,hok38⟩:∃t,t [.ptr 1 0] H2 3=some (.t (iv (W.length:Int)),H2,3)/\HOK Xb (G q) 38 t:=⟨_,DL _ _ _ _,E0 c38 λh=>h⟩
  obtain⟨t39,e39,hok39⟩:∃t,t [.ptr 1 0] H2 3=some (.t (sv (bs W)),rem H2 2,3)/\HOK Xb (G q) 39 t:=⟨_,DL _ _ _ _,E0 c39 λh k x hk=>by
   rw[CJ]at hk;split at hk
   .cases hk
   .exact h k x hk⟩
  refine Av C0 ?_;simp -implicitDefEqProofs [HU];refine Av C0 ?_;simp -implicitDefEqProofs [dl4,hg];refine Av C0 ?_;simp -implicitDefEqProofs;refine MC.sub (s':=⟨[(5,.ptr 1 0),(3,.t (iv 0)),(2,.t (sv ⟨#[]⟩)),(1,.ptr 0 0)],H1,2,16⟩) (by rw[hH1];exact sub_env (by simp -implicitDefEqProofs)) rfl ?_
  have g1:Aj true 4 H1 (.ptr 0 0)=some (.t (.ag [iv op,sv name,tp,tk])):=by rw[hH1];rfl
  refine Av (As.nil.ctxH (AF.cons hok37 .nil) mixed) ?_;simp -implicitDefEqProofs [g1,e37];by_cases hl:65536<W.length
  .rw[zy hl]at hR
   have hl':(65536:Int)<(W.length:Int):=by omega
   rw[hR];refine Ap (As.nil.ctxH (AF.cons hok38 .nil) mixed) ?_;simp -implicitDefEqProofs [e38,hl,hl']
  .rw[zz hl]at hR
   have hl':¬(65536:Int)<(W.length:Int):=by omega
   rw[hR];refine Av (As.nil.ctxH (AF.cons hok38 .nil) mixed) ?_;simp -implicitDefEqProofs [e38,hl,hl'];refine Ap (As.nil.ctxH (AF.cons hok39 .nil) mixed) ?_;simp -implicitDefEqProofs [e39]
 .rw[zy he]at hR
  have hb:(E != 0)=true:=by simpa using he
  rw[hR];refine Ap C0 ?_;simp -implicitDefEqProofs [HU,dl4,hg,hb]
noncomputable def Vc (ts:List T):Option T:=g1 tD (λd=>open Classical in if D2 d/\(Bb d 1=0->Wr d)then some (LP d)else none) ts
theorem kY {c:List T} {d:Ds} (h:BG d c) (hs:D2 d) (hw:Bb d 1=0->Wr d):Vc [.ag c]=some (LP d):=by
 show g1 _ _ _=_;rw[D8 (τ:=tD) (x:=d) ⟨c,rfl,h⟩,zy ⟨hs,hw⟩]
theorem B1d:GOK Xb (G q) 110 Vc:=D6 λa x r ha hr=>by
 split at hr
 .rename_i hc;injection hr with hr;subst hr;obtain⟨c,rfl,hd⟩:=ha;exact B1c hd hc.1 hc.2
 .cases hr
end Go.Proofs.YtobnacghaamfoaaGreatDoor
