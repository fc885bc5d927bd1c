/- Auxiliary facts. -/
import Derived.Test.YtmplckgbeaifkaaGreatDoorVDQ15
import Derived.Test.YtmplckgbeaifkaaGreatDoorVDQ25
set_option linter.unusedSimpArgs false
set_option maxRecDepth 100000
set_option maxHeartbeats 0
set_option linter.unusedVariables false
namespace Go.Proofs.YtmplckgbeaifkaaGreatDoor
open Go Go.Abs Go.ChangeShapes Go.WideShapes Go.ChangeAt Go.RowKit
section
variable {H : Type} {enc : TypeId × Value -> H} {W : World} {spare : Nat -> Bool} {held : Bool} {N : Nat}
def Bd (b:Nat) (d:Dv):Prop:=6*nodD d<=b/\(b<=2000000->A8k d)/\IntD d
theorem Bd.wd {b:Nat} {d:Dv} (h:Bd b d) (hb:b<=1048576):Wd d:=⟨h.2.1 (by omega),h.2.2,by have:=h.1;omega⟩
theorem F5n {bs:List Nat} {l:List DC} (h:F2 (fun b c=>Bd b c.d) bs l):6*nodK (l.map DC.d)<=bs.sum/\(bs.sum<=2000000->A6f (l.map DC.d))/\IntK (l.map DC.d):=by
 induction h with
 | nil=>exact⟨by simp[nodK],fun _=>by simp[A6f],by simp[IntK]⟩
 | cons h1 _ ih=>
  obtain⟨a1,a2,a3⟩:=h1;obtain⟨i1,i2,i3⟩:=ih;simp only[List.map_cons,List.sum_cons,nodK,A6f,IntK];exact⟨by omega,fun hs=>⟨a2 (by omega),i2 (by omega)⟩,a3,i3⟩
theorem D5g:∀N,Rd enc Tryz.prog W spare held N 26 fun b ts=>∃c:DC,ts=eDC.enc c/\Bd b c.d
 | 0=>fun fuel hf=>by omega
 | N+1=>by
  have hk:=(B8d (e:=eDC) (R:=fun b c=>Bd b c.d) Tryz.underlying24 (by kernel_rfl) (D5g N)).less (Nat.le_succ N);refine(B0p (N:=N) Tryz.underlying26 ⟨rfl,by kernel_rfl,by kernel_rfl,by kernel_rfl,by kernel_rfl,trivial⟩ (by kernel_rfl) (.cons (B9s Tryz.underlying3) (.cons (C2w Tryz.underlying9) (.cons (B9s Tryz.underlying3) (.cons (B9s Tryz.underlying3) (.cons hk .nil)))))).mono fun b ts h=>?_;obtain⟨_,rfl,b0,_,t0,_,rfl,rfl,⟨k,rfl,rfl,hk⟩,b1,_,t1,_,rfl,rfl,⟨nm,rfl,rfl⟩,b2,_,t2,_,rfl,rfl,⟨f,rfl,rfl,hf⟩,b3,_,t3,_,rfl,rfl,⟨t,rfl,rfl,ht⟩,b4,_,t4,_,rfl,rfl,⟨x,l,bs,rfl,hx,hF,hb⟩,rfl,rfl⟩:=h;obtain⟨h1,h2,h3⟩:=F5n hF;refine⟨⟨.mk k nm f t (l.map DC.d),[iv k,sv nm,iv f,iv t,x],?_⟩,rfl,?_,fun hs=>?_,?_⟩
  ·rw[Abs.IsD];exact⟨x,rfl,hx.isK⟩
  ·show 6*nodD (.mk k nm f t (l.map DC.d))<=_;rw[nodD];omega
  ·show A8k (.mk k nm f t (l.map DC.d));rw[A8k];exact⟨by omega,h2 (by omega)⟩
  ·show IntD (.mk k nm f t (l.map DC.d));rw[IntD];exact⟨hk,hf,ht,h3⟩
theorem F2o:Rd enc Tryz.prog W spare held N 59 fun b ts=>∃p:Pr,ts=ePr.enc p/\p.name.size+5<=b:=by
 refine(B0p (N:=N) (P:=Tryz.prog) Tryz.underlying59 ⟨rfl,by kernel_rfl,by kernel_rfl,by kernel_rfl,trivial⟩ (by kernel_rfl) (.cons (B9s Tryz.underlying3) (.cons (C2w Tryz.underlying9) (.cons (B9s Tryz.underlying3) (.cons (B9s Tryz.underlying3) .nil))))).less (Nat.le_succ N) |>.mono fun b ts h=>?_
 obtain⟨_,rfl,b0,_,t0,_,rfl,rfl,⟨k,rfl,rfl,_⟩,b1,_,t1,_,rfl,rfl,⟨nm,rfl,rfl⟩,b2,_,t2,_,rfl,rfl,⟨f,rfl,rfl,_⟩,b3,_,t3,_,rfl,rfl,⟨t,rfl,rfl,_⟩,rfl,rfl⟩:=h;exact⟨⟨k,nm,f,t⟩,rfl,by show nm.size+5<=_;omega⟩
theorem D2a:Rd enc Tryz.prog W spare held N 61 fun b ts=>∃d:Dc,ts=eDc.enc d/\d.p.name.size+7<=b:=by
 refine(B0p (N:=N) (P:=Tryz.prog) Tryz.underlying61 ⟨rfl,by kernel_rfl,trivial⟩ (by kernel_rfl) (.cons F2o (.cons (F1i Tryz.underlying4) .nil))).less (Nat.le_succ N) |>.mono fun b ts h=>?_
 obtain⟨_,rfl,b0,_,t0,_,rfl,rfl,⟨p,rfl,hp⟩,b1,_,t1,_,rfl,rfl,⟨y,rfl,rfl⟩,rfl,rfl⟩:=h;exact⟨⟨p,y⟩,rfl,by show p.name.size+7<=_;omega⟩
structure Bi (b:Nat) (x:It):Prop where
 id:x.id.size<=b
 words:x.words.length<=b
 word:∀w∈x.words,w.size<=b
 decs:7*x.decs.length<=b
 names:∀d∈x.decs,d.p.name.size<=b
 gold:Bd b x.gold
 big:11<=b
theorem Bd.up {b b':Nat} {d:Dv} (h:Bd b d) (hb:b<=b'):Bd b' d:=⟨by have:=h.1;omega,fun h'=>h.2.1 (by omega),h.2.2⟩
theorem Bi.sm {b:Nat} {x:It} (h:Bi b x) (hb:b<=1048576):SmI x:=
 ⟨⟨by have:=h.words;omega,fun w hw=>by have:=h.word w hw;unfold lim;omega⟩,by have:=h.decs;omega,fun d hd=>by have:=h.names d hd;unfold lim;omega,h.gold.wd hb,by have:=h.id;unfold lim;omega⟩
theorem Bi.decs' {b:Nat} {x:It} (h:Bi b x) (hb:b<=1048576):x.decs.length<=200000:=by have:=h.decs;omega
theorem F2p:Rd enc Tryz.prog W spare held N 28 fun b ts=>∃c:IC,ts=eIC.enc c/\Bi b c.x:=by
 have hw:=(B8d (N:=N) (enc:=enc) (W:=W) (spare:=spare) (held:=held) (P:=Tryz.prog) (e:=eStr) (R:=fun b s=>b=s.size+1) Tryz.underlying22 (by kernel_rfl) ((C2w Tryz.underlying9).mono fun b ts ⟨s,e,h⟩=>⟨s,e,h⟩)).less (Nat.le_succ N);have hd:=(B8d (N:=N) (enc:=enc) (W:=W) (spare:=spare) (held:=held) (P:=Tryz.prog) (e:=eDc) (R:=fun b d=>d.p.name.size+7<=b) Tryz.underlying23 (by kernel_rfl) D2a).less (Nat.le_succ N)
 refine(B0p (N:=N) (P:=Tryz.prog) Tryz.underlying28 ⟨rfl,by kernel_rfl,by kernel_rfl,by kernel_rfl,by kernel_rfl,trivial⟩ (by kernel_rfl) (.cons (C2w Tryz.underlying9) (.cons hw (.cons (B9s Tryz.underlying3) (.cons hd (.cons (D5g N) .nil)))))).less (Nat.le_succ N) |>.mono fun b ts h=>?_
 obtain⟨_,rfl,b0,_,t0,_,rfl,rfl,⟨id,rfl,rfl⟩,b1,_,t1,_,rfl,rfl,⟨tw,ws,bw,rfl,hw,hwF,hwb⟩,b2,_,t2,_,rfl,rfl,⟨st,rfl,rfl,_⟩,b3,_,t3,_,rfl,rfl,⟨td,ds,bd,rfl,hd,hdF,hdb⟩,b4,_,t4,_,rfl,rfl,⟨g,rfl,hg⟩,rfl,rfl⟩:=h;have l1:=hwF.len (k:=1) (fun b a h=>by omega);have l2:=hdF.len (k:=7) (fun b a h=>by omega);have g1:=hg.1
 have g2:1<=nodD g.d:=by cases g.d;rw[nodD];omega
 refine⟨⟨⟨id,ws,st,ds,g.d⟩,[sv id,tw,iv st,td]++g.cs,tw,td,g.cs,rfl,hw,hd,g.ok⟩,by show _=[sv id,tw,iv st,td]++g.cs;simp[eDC],?_⟩;refine⟨by show id.size<=_;omega,by show ws.length<=_;omega,fun w hw'=>?_,by show 7*ds.length<=_;omega,fun d hd'=>?_,hg.up (by omega),by omega⟩
 ·obtain⟨b',h1,h2⟩:=hwF.mem w hw';omega
 ·obtain⟨b',h1,h2⟩:=hdF.mem d hd';omega
theorem F2q:Rd enc Tryz.prog W spare held N 39 fun b ts=>∃(ver:ByteArray) (u:T) (l:List IC),ts=[sv ver,u]/\IsS eIC u l/\ver.size<=b/\11*l.length<=b/\∀c∈l,∃b',b'<=b/\Bi b' c.x:=by
 have hi:=(B8d (N:=N) (enc:=enc) (W:=W) (spare:=spare) (held:=held) (P:=Tryz.prog) (e:=eIC) (R:=fun b c=>Bi b c.x) Tryz.underlying37 (by kernel_rfl) F2p).less (Nat.le_succ N)
 refine(B0p (N:=N) (P:=Tryz.prog) Tryz.underlying39 ⟨rfl,by kernel_rfl,trivial⟩ (by kernel_rfl) (.cons (C2w Tryz.underlying9) (.cons hi .nil))).less (Nat.le_succ N) |>.mono fun b ts h=>?_
 obtain⟨_,rfl,b0,_,t0,_,rfl,rfl,⟨ver,rfl,rfl⟩,b1,_,t1,_,rfl,rfl,⟨u,l,bs,rfl,hu,hF,hb⟩,rfl,rfl⟩:=h;have l1:=hF.len (k:=11) (fun b a h=>h.big);refine⟨ver,u,l,rfl,hu,by omega,by omega,fun c hc=>?_⟩;obtain⟨b',h1,h2⟩:=hF.mem c hc;exact⟨b',by omega,h2⟩
theorem F2r {x:T} {v:Value} (h:RdL W [x] [v]):RepT (Old W) W x v:=by
 have:=h.1;simp only[RepL]at this;obtain⟨z,zs,hz,h3,_⟩:=this;simp at hz;rw[hz.1];exact h3
theorem F2s {ts:List T} {us:Array Value} (h:RdL W ts us.toList):RepT (Old W) W (.ag ts) (.agg us):=by
 simp only[RepT];exact⟨us,rfl,h.2,h.1⟩
theorem E3w {v:Value} {d:DataW H} {p:List MemPlace} (h:DataW.Trod enc Tryz.prog W 0 spare held 39 v d p) {us:Array Value} (hv:v = .agg us) (hb:Rows.uptoBulk d<=1048576) :
  ∃(ver:ByteArray) (u:T) (l:List IC),IsS eIC u l/\SmB ver l/\(∀c∈l,c.x.decs.length<=200000)/\RepT (Old W) W (.ag [sv ver,u]) v:=by
 obtain⟨fuel,hf⟩:=h;subst hv;obtain⟨ts,hr,ver,u,l,rfl,hu,h1,h2,h3⟩:=F2q (N:=fuel+1) fuel (by omega) _ (d,p) hf;have h1:ver.size<=Rows.uptoBulk d:=h1;have h2:11*l.length<=Rows.uptoBulk d:=h2;refine⟨ver,u,l,hu,⟨by unfold lim;omega,by omega,fun c hc=>?_⟩,fun c hc=>?_,F2s hr⟩
 ·obtain⟨b',g1,g2⟩:=h3 c hc;have g1:b'<=Rows.uptoBulk d:=g1;exact g2.sm (by omega)
 ·obtain⟨b',g1,g2⟩:=h3 c hc;have g1:b'<=Rows.uptoBulk d:=g1;exact g2.decs' (by omega)
end
open Go Go.Abs
variable {q : Gl}
section
variable (ver version : ByteArray) (u tl : T) (n : Nat)
def oRow (version:ByteArray) (p:PV):Row:=.cells 39 [.t (sv version),p]
end
theorem bd2 (Φ:A0o) (H:Heap) (nx:Nat) (v:ByteArray):A0d Φ H nx (.build [(0,1),(1,1)] [.string ⟨#[]⟩,.slice none 0 0] [0]) [.t (sv v)]=some (.t (.ag [sv v,nilS]),H,nx):=rfl
theorem C0m {α:Type} {e:Enc α} {ty b:Nat} {H:Heap} {l:List α} {F:List Nat} (h:A1e e ty H b l) (hb:b∈F):frzP H F (rowP e b l) = .t (A2e e l):=by
 unfold frzP;rw[h.toT];cases l<;>simp[E0k,hb]
theorem sBu {H:Heap} {b:Nat} {v v':ByteArray} {u u':T} {l:List IC} (h:Abs.look H b=some (bRow v' u')) (hu:IsS eIC u l):A0r 2 H (.ptr b 0) (.t (.ag [sv v,u]))=some (upd H b (bRow v u)):=by
 rcases hu with⟨rfl,_⟩ | rfl<;>simp[A0r,A0y,A3h,h,bRow]
theorem ldO {H:Heap} {b:Nat} {v:ByteArray} {p:PV} (h:Abs.look H b=some (oRow v p)):A0f false 1 H (.ptr b 1)=some p:=by
 simp[A0f,h,oRow]
theorem sO {H:Heap} {b:Nat} {v:ByteArray} {p p':PV} (h:Abs.look H b=some (oRow v p)) (hp:A0y p'=some [p']):A0r 1 H (.ptr b 1) p'=some (upd H b (oRow v p')):=by
 simp[A0r,hp,h,oRow,A3h]
theorem bsI (id:ByteArray) (tw:T) (st:Int) (td:T) (k:Int) (nm:ByteArray) (f t:Int) (tk:T) (m:Nat):A5z 28 9 [.string ⟨#[]⟩,.slice none 0 0,.int .i64 0,.slice none 0 0,.int .i64 0,.string ⟨#[]⟩,.int .i64 0,.int .i64 0,.slice none 0 0] 1 [(0,.t (.ag [sv id,tw,iv st,td,iv k,sv nm,iv f,iv t,tk]))] m=some (.row m 0 1 9,iRow id tw st td k nm f t tk):=rfl
def gEx:List T->Option T
 | []=>some (bv true)
 | _=>none
theorem SmI.e {x:It} (h:SmI x):SmE x:=⟨h.words.1,h.len,h.gold.2.2⟩
end Go.Proofs.YtmplckgbeaifkaaGreatDoor
namespace Go.Abs
open Go
def F5o (H:Heap) (F:List Nat):List Nat:=F.filter fun b=>match look H b with
 | some (.cells _ cs)=>(allT cs).isSome
 | _=>false
def frzR:Nat->A0b->A0b
 | 0,s=>s
 | k+1,s=>match F5o s.H (F1u s.H)with
  | []=>s
  | F=>frzR k (s.frz F)
def E3x (tab:List (Nat×FnM)) (rounds:Nat) (Φ:A0o) (f:FuncId) (args:List T):Option T:=
 match look tab f with
 | some fm=>if args.length=fm.k then
   (match runF Φ rounds fm.M (startM fm.N args)with
   | some (.ret,s)=>resT fm.vs (frzR 4 s)
   | _=>none)
  else none
 | none=>none
def C3r (tab:List (Nat×FnM)) (memo:Memo) (rounds:Nat):Nat->A0o
 | 0=>⟨memo.get,fun _ _ _ _=>none⟩
 | n+1=>⟨fun f args=>match memo.get f args with
   | some r=>some r
   | none=>E3x tab rounds (C3r tab memo rounds n) f args,E2q tab rounds (C3r tab memo rounds n)⟩
section
variable {P : Program} {G : A0q} {B : Nat} {Φ : A0o}
theorem B8h:∀(k:Nat) (s:A0b),Sub P G B s (frzR k s)
 | 0,s=>Sub.refl s
 | k+1,s=>by
  unfold frzR;split
  ·exact Sub.refl s
  ·exact(C4l _).trans (B8h k _)
theorem C9h (hm:P.follows .mixedOrders=true) {tab:List (Nat×FnM)} (ht:F1v P G tab) (rounds:Nat) (hΦ:Φ.Sound P G) (f:FuncId) (args:List T) (r:T) (h:E3x tab rounds Φ f args=some r):A0z P G f args (· = r):=by
 unfold E3x at h;split at h
 ·rename_i fm hf;split at h
  ·rename_i hk;split at h
   ·rename_i s hr;unfold resT at h;split at h
    ·rename_i ps hps;split at h
     ·rename_i r' F hT;injection h with h;subst h;refine(ht _ (A0k hf)).call hk fun c hc hn=>?_
      exact(A3p (Q:=fun e s1=>e = .ret/\s1=s) ⟨hm,hΦ⟩ rounds fm.M hr ⟨rfl,rfl⟩ c hc hn).post fun e s1 hq=>⟨frzR 4 s1,B8h 4 s1,by
       obtain⟨rfl,rfl⟩:=hq
       exact⟨.inr rfl,ps,r',F,hps,hT,rfl⟩⟩
     ·cases h
    ·cases h
   ·cases h
  ·cases h
 ·cases h
theorem A7o (hm:P.follows .mixedOrders=true) {tab:List (Nat×FnM)} (ht:F1v P G tab) {memo:Memo} (hme:B5d P G memo) (rounds:Nat):∀n,(C3r tab memo rounds n).Sound P G
 | 0=>⟨fun _ _ _ h=>Memo.get_sound hme h,fun _ _ _ _ _ _ _ h=>(by cases h),fun _ _ _ _ _ _ _ h=>(by cases h)⟩
 | n+1=>⟨fun f args r h=>by
   simp only[C3r]at h;split at h
   ·rename_i r' hr;injection h with h;subst h;exact Memo.get_sound hme hr
   ·exact C9h hm ht rounds (A7o hm ht hme rounds n) f args r h,
   fun f ps H nx r H' nx' h=>(B7m hm ht rounds (A7o hm ht hme rounds n) f ps H nx r H' nx' h).1,
   fun f ps H nx r H' nx' h _=>(B7m hm ht rounds (A7o hm ht hme rounds n) f ps H nx r H' nx' h).2⟩
end
end Go.Abs
