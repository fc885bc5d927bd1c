/- Auxiliary facts. -/
import Derived.Test.YtmplckgbeaifkaaGreatDoorVCQ43
import Derived.Test.YtmplckgbeaifkaaGreatDoorVCQ32
set_option linter.unusedSimpArgs false
set_option maxRecDepth 100000
set_option maxHeartbeats 0
set_option linter.unusedVariables false
namespace Go.Proofs.YtmplckgbeaifkaaGreatDoor
open Go Go.Abs Go.ChangeShapes Go.WideShapes Go.ChangeAt Go.RowKit
section
variable {H : Type} {enc : TypeId × Value -> H} {W : World} {spare : Nat -> Bool} {held : Bool} {N : Nat}
def Bd (b:Nat) (d:Dv):Prop:=6*nodD d<=b/\(b<=2000000->B0g d)/\IntD d
theorem Bd.wd {b:Nat} {d:Dv} (h:Bd b d) (hb:b<=1048576):Wd d:=⟨h.2.1 (by omega),h.2.2,by have:=h.1;omega⟩
theorem G4f {bs:List Nat} {l:List DC} (h:F2 (fun b c=>Bd b c.d) bs l):6*nodK (l.map DC.d)<=bs.sum/\(bs.sum<=2000000->A7m (l.map DC.d))/\IntK (l.map DC.d):=by
 induction h with
 | nil=>exact⟨by simp[nodK],fun _=>by simp[A7m],by simp[IntK]⟩
 | cons h1 _ ih=>
  obtain⟨a1,a2,a3⟩:=h1;obtain⟨i1,i2,i3⟩:=ih;simp only[List.map_cons,List.sum_cons,nodK,A7m,IntK];exact⟨by omega,fun hs=>⟨a2 (by omega),i2 (by omega)⟩,a3,i3⟩
theorem E1b:∀N,Rd enc Tryz.prog W spare held N 26 fun b ts=>∃c:DC,ts=eDC.enc c/\Bd b c.d
 | 0=>fun fuel hf=>by omega
 | N+1=>by
  have hk:=(C0u (e:=eDC) (R:=fun b c=>Bd b c.d) Tryz.underlying24 (by kernel_rfl) (E1b N)).less (Nat.le_succ N);refine(B2p (N:=N) Tryz.underlying26 ⟨rfl,by kernel_rfl,by kernel_rfl,by kernel_rfl,by kernel_rfl,trivial⟩ (by kernel_rfl) (.cons (C2p Tryz.underlying3) (.cons (C6u Tryz.underlying9) (.cons (C2p Tryz.underlying3) (.cons (C2p Tryz.underlying3) (.cons hk .nil)))))).mono fun b ts h=>?_;obtain⟨_,rfl,b0,_,t0,_,rfl,rfl,⟨k,rfl,rfl,hk⟩,b1,_,t1,_,rfl,rfl,⟨nm,rfl,rfl⟩,b2,_,t2,_,rfl,rfl,⟨f,rfl,rfl,hf⟩,b3,_,t3,_,rfl,rfl,⟨t,rfl,rfl,ht⟩,b4,_,t4,_,rfl,rfl,⟨x,l,bs,rfl,hx,hF,hb⟩,rfl,rfl⟩:=h;obtain⟨h1,h2,h3⟩:=G4f hF;refine⟨⟨.mk k nm f t (l.map DC.d),[iv k,sv nm,iv f,iv t,x],?_⟩,rfl,?_,fun hs=>?_,?_⟩
  ·rw[Abs.IsD];exact⟨x,rfl,hx.isK⟩
  ·show 6*nodD (.mk k nm f t (l.map DC.d))<=_;rw[nodD];omega
  ·show B0g (.mk k nm f t (l.map DC.d));rw[B0g];exact⟨by omega,h2 (by omega)⟩
  ·show IntD (.mk k nm f t (l.map DC.d));rw[IntD];exact⟨hk,hf,ht,h3⟩
theorem G0v:Rd enc Tryz.prog W spare held N 59 fun b ts=>∃p:Pr,ts=ePr.enc p/\p.name.size+5<=b:=by
 refine(B2p (N:=N) (P:=Tryz.prog) Tryz.underlying59 ⟨rfl,by kernel_rfl,by kernel_rfl,by kernel_rfl,trivial⟩ (by kernel_rfl) (.cons (C2p Tryz.underlying3) (.cons (C6u Tryz.underlying9) (.cons (C2p Tryz.underlying3) (.cons (C2p Tryz.underlying3) .nil))))).less (Nat.le_succ N) |>.mono fun b ts h=>?_
 obtain⟨_,rfl,b0,_,t0,_,rfl,rfl,⟨k,rfl,rfl,_⟩,b1,_,t1,_,rfl,rfl,⟨nm,rfl,rfl⟩,b2,_,t2,_,rfl,rfl,⟨f,rfl,rfl,_⟩,b3,_,t3,_,rfl,rfl,⟨t,rfl,rfl,_⟩,rfl,rfl⟩:=h;exact⟨⟨k,nm,f,t⟩,rfl,by show nm.size+5<=_;omega⟩
theorem D7q:Rd enc Tryz.prog W spare held N 61 fun b ts=>∃d:Dc,ts=eDc.enc d/\d.p.name.size+7<=b:=by
 refine(B2p (N:=N) (P:=Tryz.prog) Tryz.underlying61 ⟨rfl,by kernel_rfl,trivial⟩ (by kernel_rfl) (.cons G0v (.cons (F9p Tryz.underlying4) .nil))).less (Nat.le_succ N) |>.mono fun b ts h=>?_
 obtain⟨_,rfl,b0,_,t0,_,rfl,rfl,⟨p,rfl,hp⟩,b1,_,t1,_,rfl,rfl,⟨y,rfl,rfl⟩,rfl,rfl⟩:=h;exact⟨⟨p,y⟩,rfl,by show p.name.size+7<=_;omega⟩
structure Bi (b:Nat) (x:It):Prop where
 id:x.id.size<=b
 words:x.words.length<=b
 word:∀w∈x.words,w.size<=b
 decs:7*x.decs.length<=b
 names:∀d∈x.decs,d.p.name.size<=b
 gold:Bd b x.gold
 big:11<=b
theorem Bd.up {b b':Nat} {d:Dv} (h:Bd b d) (hb:b<=b'):Bd b' d:=⟨by have:=h.1;omega,fun h'=>h.2.1 (by omega),h.2.2⟩
theorem Bi.sm {b:Nat} {x:It} (h:Bi b x) (hb:b<=1048576):SmI x:=
 ⟨⟨by have:=h.words;omega,fun w hw=>by have:=h.word w hw;unfold lim;omega⟩,by have:=h.decs;omega,fun d hd=>by have:=h.names d hd;unfold lim;omega,h.gold.wd hb,by have:=h.id;unfold lim;omega⟩
theorem Bi.decs' {b:Nat} {x:It} (h:Bi b x) (hb:b<=1048576):x.decs.length<=200000:=by have:=h.decs;omega
theorem F1l:Rd enc Tryz.prog W spare held N 28 fun b ts=>∃c:IC,ts=eIC.enc c/\Bi b c.x:=by
 have hw:=(C0u (N:=N) (enc:=enc) (W:=W) (spare:=spare) (held:=held) (P:=Tryz.prog) (e:=eStr) (R:=fun b s=>b=s.size+1) Tryz.underlying22 (by kernel_rfl) ((C6u Tryz.underlying9).mono fun b ts ⟨s,e,h⟩=>⟨s,e,h⟩)).less (Nat.le_succ N);have hd:=(C0u (N:=N) (enc:=enc) (W:=W) (spare:=spare) (held:=held) (P:=Tryz.prog) (e:=eDc) (R:=fun b d=>d.p.name.size+7<=b) Tryz.underlying23 (by kernel_rfl) D7q).less (Nat.le_succ N)
 refine(B2p (N:=N) (P:=Tryz.prog) Tryz.underlying28 ⟨rfl,by kernel_rfl,by kernel_rfl,by kernel_rfl,by kernel_rfl,trivial⟩ (by kernel_rfl) (.cons (C6u Tryz.underlying9) (.cons hw (.cons (C2p Tryz.underlying3) (.cons hd (.cons (E1b N) .nil)))))).less (Nat.le_succ N) |>.mono fun b ts h=>?_
 obtain⟨_,rfl,b0,_,t0,_,rfl,rfl,⟨id,rfl,rfl⟩,b1,_,t1,_,rfl,rfl,⟨tw,ws,bw,rfl,hw,hwF,hwb⟩,b2,_,t2,_,rfl,rfl,⟨st,rfl,rfl,_⟩,b3,_,t3,_,rfl,rfl,⟨td,ds,bd,rfl,hd,hdF,hdb⟩,b4,_,t4,_,rfl,rfl,⟨g,rfl,hg⟩,rfl,rfl⟩:=h;have l1:=hwF.len (k:=1) (fun b a h=>by omega);have l2:=hdF.len (k:=7) (fun b a h=>by omega);have g1:=hg.1
 have g2:1<=nodD g.d:=by cases g.d;rw[nodD];omega
 refine⟨⟨⟨id,ws,st,ds,g.d⟩,[sv id,tw,iv st,td]++g.cs,tw,td,g.cs,rfl,hw,hd,g.ok⟩,by show _=[sv id,tw,iv st,td]++g.cs;simp[eDC],?_⟩;refine⟨by show id.size<=_;omega,by show ws.length<=_;omega,fun w hw'=>?_,by show 7*ds.length<=_;omega,fun d hd'=>?_,hg.up (by omega),by omega⟩
 ·obtain⟨b',h1,h2⟩:=hwF.mem w hw';omega
 ·obtain⟨b',h1,h2⟩:=hdF.mem d hd';omega
theorem G0w:Rd enc Tryz.prog W spare held N 39 fun b ts=>∃(ver:ByteArray) (u:T) (l:List IC),ts=[sv ver,u]/\IsS eIC u l/\ver.size<=b/\11*l.length<=b/\∀c∈l,∃b',b'<=b/\Bi b' c.x:=by
 have hi:=(C0u (N:=N) (enc:=enc) (W:=W) (spare:=spare) (held:=held) (P:=Tryz.prog) (e:=eIC) (R:=fun b c=>Bi b c.x) Tryz.underlying37 (by kernel_rfl) F1l).less (Nat.le_succ N)
 refine(B2p (N:=N) (P:=Tryz.prog) Tryz.underlying39 ⟨rfl,by kernel_rfl,trivial⟩ (by kernel_rfl) (.cons (C6u Tryz.underlying9) (.cons hi .nil))).less (Nat.le_succ N) |>.mono fun b ts h=>?_
 obtain⟨_,rfl,b0,_,t0,_,rfl,rfl,⟨ver,rfl,rfl⟩,b1,_,t1,_,rfl,rfl,⟨u,l,bs,rfl,hu,hF,hb⟩,rfl,rfl⟩:=h;have l1:=hF.len (k:=11) (fun b a h=>h.big);refine⟨ver,u,l,rfl,hu,by omega,by omega,fun c hc=>?_⟩;obtain⟨b',h1,h2⟩:=hF.mem c hc;exact⟨b',by omega,h2⟩
theorem F1m {ts:List T} {us:Array Value} (h:RdL W ts us.toList):RepT (Old W) W (.ag ts) (.agg us):=by
 simp only[RepT];exact⟨us,rfl,h.2,h.1⟩
theorem B7z {v:Value} {d:DataW H} {p:List MemPlace} (h:DataW.Trod enc Tryz.prog W 0 spare held 28 v d p) {us:Array Value} (hv:v = .agg us) (hb:Rows.uptoBulk d<=1048576) :
  ∃c:IC,SmI c.x/\c.x.decs.length<=200000/\RepT (Old W) W (.ag c.cs) v:=by
 obtain⟨fuel,hf⟩:=h;subst hv;obtain⟨ts,hr,c,rfl,hB⟩:=F1l (N:=fuel+1) fuel (by omega) _ (d,p) hf;exact⟨c,hB.sm hb,hB.decs' hb,F1m hr⟩
theorem A8s {v:Value} {d:DataW H} {p:List MemPlace} (h:DataW.Trod enc Tryz.prog W 0 spare held 39 v d p) {us:Array Value} (hv:v = .agg us) (hb:Rows.uptoBulk d<=1048576) :
  ∃(ver:ByteArray) (u:T) (l:List IC),IsS eIC u l/\SmB ver l/\(∀c∈l,c.x.decs.length<=200000)/\RepT (Old W) W (.ag [sv ver,u]) v:=by
 obtain⟨fuel,hf⟩:=h;subst hv;obtain⟨ts,hr,ver,u,l,rfl,hu,h1,h2,h3⟩:=G0w (N:=fuel+1) fuel (by omega) _ (d,p) hf;have h1:ver.size<=Rows.uptoBulk d:=h1;have h2:11*l.length<=Rows.uptoBulk d:=h2;refine⟨ver,u,l,hu,⟨by unfold lim;omega,by omega,fun c hc=>?_⟩,fun c hc=>?_,F1m hr⟩
 ·obtain⟨b',g1,g2⟩:=h3 c hc;have g1:b'<=Rows.uptoBulk d:=g1;exact g2.sm (by omega)
 ·obtain⟨b',g1,g2⟩:=h3 c hc;have g1:b'<=Rows.uptoBulk d:=g1;exact g2.decs' (by omega)
end
end Go.Proofs.YtmplckgbeaifkaaGreatDoor
