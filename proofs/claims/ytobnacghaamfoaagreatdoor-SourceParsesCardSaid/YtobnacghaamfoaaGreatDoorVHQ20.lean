/- Auxiliary facts. -/
import Derived.Test.YtobnacghaamfoaaGreatDoorVHQ19
import Derived.Test.YtobnacghaamfoaaGreatDoorCards
import Derived.Test.YtobnacghaamfoaaGreatDoorTie
import Derived.Deep.DeepHandedRow
import Derived.Stop.LaidErr
set_option linter.unusedSimpArgs false
set_option maxRecDepth 100000
set_option maxHeartbeats 0
set_option linter.unusedVariables false
open Go.Proofs.Tryz renaming prog->Xa,underlying9->Xm,underlying86->Xv,underlying236->Xw,underlying238->Xx
open List renaming length_map->Xb,length_append->Xg,mem_singleton->Xj,getElem?_eq_some_iff->Xl,getElem?_eq_getElem->Xn,mem_map->Xp,mem_of_getElem?->Xs,nil_append->Xu,all_eq_true->X1,map_cons->X2,map_nil->X3,length_singleton->X4,take_of_length_le->X5
open Go.IntKind renaming i64->Xc
open Nat renaming le_succ->Xd,lt_succ_self->Xf,le_refl->Xh,zero_le->Xi
open Go.Abs renaming upd->Xe
open Option renaming some->Xk,bind_eq_some_iff->Xq,map_eq_some_iff->Xz
open Int renaming eq_ofNat_of_zero_le->Xo
open Bool renaming eq_iff_iff->Xr,false_eq_true->Xt
open UInt8 renaming ofNat->Xy
open ByteArray renaming size->X0
namespace Go.Proofs.YtobnacghaamfoaaGreatDoor
open Go Go.Abs Go.ChangeShapes Go.WideShapes Go.ChangeAt Go.RowKit
theorem own:ownKnob Xa.godebug=none:=by kernel_rfl
theorem A6i:laidOutB Xa=true:=by kernel_rfl
abbrev TE:List (String×DataW Unit):=[("math/bits.deBruijn32tab", Rows.laid_math_bits_deBruijn32tab),("math/bits.deBruijn64tab", Rows.laid_math_bits_deBruijn64tab),("internal/strconv.uint64pow10", Rows.laid_internal_strconv_uint64pow10),("unicode/utf8.acceptRanges", Rows.laid_unicode_utf8_acceptRanges),("strconv.ErrRange", Rows.laid_strconv_ErrRange),("strconv.ErrSyntax", Rows.laid_strconv_ErrSyntax),("unicode/utf8.first", Rows.laid_unicode_utf8_first)]
theorem A6j {W:World} (h:W.ShapedOpen Xa):∃m,W.var? Xa "internal/bytealg.MaxLen" = some #[.int .i64 m]:=by
 obtain⟨h1,hr1⟩:=h;clear hr1;obtain⟨cs,hw,hsz,hok⟩:=h1 0 #[.int .i64 0] 3 (of_decide_eq_true (by kernel_rfl)) (by kernel_rfl);obtain⟨ts,hts,hnn,hc⟩:=hok (by kernel_rfl);have e1:cs.size=1:=hsz
 obtain⟨v,hv⟩:∃v,cs = #[v]:=by
  obtain⟨l⟩:=cs
  cases l with
  | nil=>cases e1
  | cons v r=>cases r with
   | nil=>exact⟨v,rfl⟩
   | cons _ _=>simp at e1
 subst hv;obtain⟨u,hu,hcell⟩:=hc 0 v rfl;have hts':ts=[3]:=Xk.inj (hts.symm.trans (show Xa.cellTypes Xa.depth 3=some [3]by kernel_rfl));subst hts'
 have hu3:u=3:=by simpa using hu.symm
 subst hu3;unfold Cell.ok at hcell;have hun:=Tryz.underlying3;generalize Xa.underlying 3=d at hcell hun;subst hun;cases v<;>simp only at hcell
 case int kd nv=>
  obtain⟨rfl,hh⟩:=hcell;refine⟨nv,?_⟩;unfold World.var?
  rw[show Xa.globalNamed "internal/bytealg.MaxLen" = some 0 by kernel_rfl]
  simp only[Option.bind_some,hw]
theorem gG : "*errors.errorString" = "*" ++ "errors.errorString":=by decide
theorem gI (u:TypeId) (h:Xa.typeName? 3 u=some "*errors.errorString"):u=236:=
 typeName_ptr_named (nm:= "errors.errorString") (by rw[<-gG];kernel_rfl) (by kernel_rfl) (by decide) u (by rw[<-gG];exact h)
theorem A6k {W:World} (h:laidMetH Xa TE W) (hsh:W.ShapedOpen Xa):∃q:Gl,∀(g:Nat) (cs:List T),Aa (G q) g=some cs->Old W g/\Ev (Old W) W cs g:=by
 have h0:laidMet Xa TE W:=h
 have t:Lib.TabIs Xa W "internal/strconv.uint64pow10" .u64 Vq:=Lib.tabIs_of_head (by kernel_rfl) (show(Xa.globals[5]?).map (·.type)=some 251 by kernel_rfl) Tryz.underlying251 Tryz.underlying147 (by kernel_rfl) (by kernel_rfl) h0.tail.tail
 obtain⟨m,hm⟩:=A6j hsh;obtain⟨a1,s1,v1,_⟩:=laid_sentinel (g:=2) (ti:=86) (tp:=236) (te:=238) (ts:=9) h0.tail.tail.tail.tail (by kernel_rfl) (by kernel_rfl) Xv gI Xw Xx rfl rfl Xm (by kernel_rfl) (by kernel_rfl);obtain⟨a0,s0,v0,_⟩:=laid_sentinel (g:=1) (ti:=86) (tp:=236) (te:=238) (ts:=9) h0.tail.tail.tail.tail.tail (by kernel_rfl) (by kernel_rfl) Xv gI Xw Xx rfl rfl Xm (by kernel_rfl) (by kernel_rfl);refine⟨⟨m,236,.pointer (some a0),236,.pointer (some a1)⟩,λg cs hl=>?_⟩;simp only[G,Aa]at hl;split at hl
 .rename_i e;subst e;injection hl with hl;subst hl;exact Pg (vs:=[.iface 236 (.pointer (some a0))]) v0 (by kernel_rfl) (by intro x hx;simp at hx;subst hx;rfl)
 .split at hl
  .rename_i e;subst e;injection hl with hl;subst hl;exact Pg (vs:=[.iface 236 (.pointer (some a1))]) v1 (by kernel_rfl) (by intro x hx;simp at hx;subst hx;rfl)
  .split at hl
   .rename_i e;subst e;injection hl with hl;subst hl;exact rS t (by kernel_rfl)
   .split at hl
    .rename_i e;subst e;injection hl with hl;subst hl;exact Pg (vs:=[.int .i64 m]) hm (by kernel_rfl) (by intro x hx;simp at hx;subst hx;rfl)
    .cases hl
def gJ:Lit->Value
 | .int k n=>.int k n
 | _=>undef
def A6l:DataW Unit->List Value
 | .lit x=>[gJ x]
 | .agg l=>l.flatMap fun | .lit x=>[gJ x] | _=>[]
 | _=>[]
def Ou:DataW Unit->List Value
 | .agg l=>l.flatMap A6l
 | _=>[]
noncomputable def low:Nat:=(World.holding Xa default ⟨#[],#[],[]⟩).heap.size
def Lh (h:Array Obj) (g:Nat) (cs:Array Value):Array Obj:=h.modify g fun
 | .cells _ t frozen=>.cells cs t frozen
 | o=>o
noncomputable def TF (os:Os):World:=
 let w0:=World.holding Xa os ⟨#[.cells #[.string ⟨#[105,110,118,97,108,105,100,32,115,121,110,116,97,120]⟩] 238,.cells #[.string ⟨#[118,97,108,117,101,32,111,117,116,32,111,102,32,114,97,110,103,101]⟩] 238],#[],[]⟩
 { w0 with heap:=Lh (Lh (Lh (Lh (Lh (Lh (Lh w0.heap 1 #[.iface 236 (.pointer (some ⟨low,0,none⟩))]) 2 #[.iface 236 (.pointer (some ⟨low+1,0,none⟩))]) 3 (Ou Rows.laid_unicode_utf8_first).toArray) 4 (Ou Rows.laid_unicode_utf8_acceptRanges).toArray)
  5 (Ou Rows.laid_internal_strconv_uint64pow10).toArray) 6 (Ou Rows.laid_math_bits_deBruijn32tab).toArray) 7 (Ou Rows.laid_math_bits_deBruijn64tab).toArray }
theorem A6m (os:Os) (args:Array Value):laidMet Xa TE ((TF os).forCall (λ_ _=>0) ⟨#[],args,[]⟩).memory:=
 laidMet_of_run' 8 (by kernel_rfl) (by kernel_rfl)
theorem A6n {W:World} {base:Nat} {v:Value} (h:Value.okWide Xa W .any base 9 v):∃s,v = .string s/\s.size<=lim:=by
 obtain⟨s,rfl⟩:=okWide_string Xm h;refine⟨s,rfl,?_⟩;unfold Value.okWide at h;have hu:=Xm;unfold Cell.okWide Cell.ok at h;generalize Xa.underlying 9=d at h hu;subst hu;have h':(s.size:Int)<=Xc.max:=h
 have e:Xc.max=9223372036854775807:=by decide
 rw[e]at h';show s.size<=9223372036854775807;omega
open Go Go.Abs
variable {q : Gl}
def TG:PV->Option UInt8
 | .t (.v (.int .u8 n))=>if 0<=n/\n<256 then some (Xy n.toNat)else none
 | _=>none
def Qt:List PV->Option (List UInt8)
 | []=>some []
 | p::r=>match TG p,Qt r with
  | some b,some l=>some (b::l)
  | _,_=>none
theorem A6o {p:PV} {b:UInt8} (h:TG p=some b):p = .t (.v (.int .u8 b.toNat)):=by
 unfold TG at h;split at h
 .rename_i n;split at h
  .rename_i hn;injection h with h;subst h
   have e:((Xy n.toNat).toNat:Int)=n:=by
    rw[UInt8.toNat_ofNat'];omega
   rw[e]
  .cases h
 .cases h
theorem gK:∀{ps:List PV} {l:List UInt8},Qt ps=some l->ps=(l.flatMap eB.enc).map .t
 | [],l,h=>by injection h with h;subst h;rfl
 | p::r,l,h=>by
  unfold Qt at h;split at h
  .rename_i b m hb hm;injection h with h;subst h;rw[A6o hb,gK hm];rfl
  .cases h
def Ov (H:Ab) (b:Nat):Option (PV×Nat×List UInt8):=match Aa H b with
 | some (.cells ty [p,.t (.v (.slice none 0 0))])=>if ty=tyB then some (p,0,[])else none
 | some (.cells ty [p,.row g 0 n 1])=>if ty=tyB then(match Aa H g with
  | some (.cells tu cs)=>if tu=tyU/\cs.length=n/\0<n then(Qt cs).map λl=>(p,g,l)else none
  | _=>none)else none
 | _=>none
theorem TH {H:Ab} {b g:Nat} {p:PV} {l:List UInt8} (h:Ov H b=some (p,g,l)):Aa H b=some (Lc p g l)/\Ar eB tyU H g l:=by
 unfold Ov at h;split at h
 .rename_i ty p' hl;split at h
  .rename_i ht;injection h with h;injection h with h1 h;injection h with h2 h3;subst h1;subst h2;subst h3;subst ht;exact⟨hl,.inl rfl⟩
  .cases h
 .rename_i ty p' g' n hl;split at h
  .rename_i ht;split at h
   .rename_i tu cs hg;split at h
    .rename_i hc;obtain⟨h1,h2,h3⟩:=hc;obtain⟨l',hb,e⟩:=Xz.1 h;injection e with e1 e;injection e with e2 e3;subst e1;subst e2;subst e3;subst ht;subst h1;have hcs:=gK hb
     have hn:l'.length=n:=by
      rw[<-h2,hcs,Xb,Qp,Xb]
     refine⟨?_,.inr (by rw[hg,hcs];rfl)⟩;rw[hl,<-hn]
     cases l' with
     | nil=>rw[<-hn]at h3;cases h3
     | cons x r=>rfl
    .cases h
   .cases h
  .cases h
 .cases h
def TI (b:Nat):PV->Bool
 | .t (.v (.pointer none))=>true
 | .ptr c 0=>c==b
 | _=>false
theorem A6p {b:Nat} {p:PV} (h:TI b p=true):p = .t (.v (.pointer none))\/p = .ptr b 0:=by
 unfold TI at h;split at h
 .exact .inl rfl
 .rename_i c;rw[beq_iff_eq]at h;subst h;exact .inr rfl
 .cases h
def TJ (f:Nat) (ps:List PV) (H:Ab) (nx:Nat):Option (PV×Ab×Nat):=
 if f=36 then(match ps with
  | [.ptr b 0,.t (.v (.string s))]=>(Ov H b).bind λx=>if TI b x.1=true/\s.data.toList≠[]/\x.2.2.length+s.data.toList.length<=1000000/\b<nx then some (.t (.tu [iv (s.data.toList.length:Int),.v .nilIface]),wsH H b x.2.1 nx x.2.2 (x.2.2++s.data.toList),nx+1)else none
  | _=>none)
 else if f=38 then(match ps with
  | [.ptr b 0]=>(Ov H b).map λx=>(.t (iv (x.2.2.length:Int)),H,nx)
  | _=>none)
 else if f=39 then(match ps with
  | [.ptr b 0]=>(Ov H b).bind λx=>if x.2.2≠[]/\x.2.2.length<=1000000 then some (.t (sv (bs x.2.2)),rem H x.2.1,nx)else none
  | _=>none)
 else none
theorem A6q {f:Nat} {ps:List PV} {H:Ab} {nx:Nat} {r:PV} {H':Ab} {nx':Nat} (h:TJ f ps H nx=some (r,H',nx')):AB Xa (G q) f ps H nx r H' nx'/\((∀b x,Aa H b=some x->b<nx)->∀b x,Aa H' b=some x->b<nx'):=by
 unfold TJ at h;split at h
 .rename_i hf;subst hf;split at h
  .rename_i b s;obtain⟨⟨p,g,l⟩,hg,h⟩:=Xq.1 h;simp only at h;split at h
   .rename_i hc;obtain⟨c1,c2,c3,c4⟩:=hc;injection h with h;injection h with h1 h;injection h with h2 h3;subst h1;subst h2;subst h3;obtain⟨k1,k2⟩:=TH hg;have:=A4v (q:=q) (nx:=nx) (s:=s.data.toList) k1 (A6p c1) k2 c2 (by omega);rw[GZ]at this;exact⟨this,A5b c4⟩
   .cases h
  .cases h
 .split at h
  .rename_i hf;subst hf;split at h
   .rename_i b;obtain⟨⟨p,g,l⟩,hg,h⟩:=Xz.1 h;injection h with h1 h;injection h with h2 h3;subst h1;subst h2;subst h3;obtain⟨k1,k2⟩:=TH hg;exact⟨A5a k1 k2,λh=>h⟩
   .cases h
  .split at h
   .rename_i hf;subst hf;split at h
    .rename_i b;obtain⟨⟨p,g,l⟩,hg,h⟩:=Xq.1 h;simp only at h;split at h
     .rename_i hc;injection h with h;injection h with h1 h;injection h with h2 h3;subst h1;subst h2;subst h3;obtain⟨k1,k2⟩:=TH hg
      exact⟨A4z k1 k2 hc.1 (by have:=hc.2;omega),λh k x hk=>by
       rw[Cr]at hk;split at hk
       .cases hk
       .exact h k x hk⟩
     .cases h
    .cases h
   .cases h
def TK (m:DZ) (f:Nat) (ps:List PV) (H:Ab) (nx:Nat):Option (PV×Ab×Nat):=match Cx H ps with
 | some (ts,[])=>(m.get f ts).bind λr=>if CE r=true then some (.t r,H,nx)else none
 | _=>none
theorem A6r {m:DZ} (hm:Hg Xa (G q) m) {f:Nat} {ps:List PV} {H:Ab} {nx:Nat} {r:PV} {H':Ab} {nx':Nat} (h:TK m f ps H nx=some (r,H',nx')):AB Xa (G q) f ps H nx r H' nx'/\H'=H/\nx'=nx:=by
 unfold TK at h;split at h
 .rename_i ts ht;obtain⟨r',hr,h⟩:=Xq.1 h;split at h
  .rename_i hp;injection h with h;injection h with h1 h;injection h with h2 h3;subst h1;subst h2;subst h3;have:=AA.callP (nx:=nx) ht (DZ.get_sound hm hr);rw[zy hp]at this;exact⟨this,rfl,rfl⟩
  .cases h
 .cases h
noncomputable def DV (Φ:AC) (k:Nat):Ak->Ac->Option (Exit×Ac)
 | .seq a b,s=>match DV Φ k a s with
  | some (.normal,s1)=>DV Φ k b s1
  | r=>r
 | .cond c a b,s=>match c.ev s.env with
  | .t (.v (.bool t))=>bif t then DV Φ k a s else DV Φ k b s
  | _=>none
 | .block id b,s=>match DV Φ k b s with
  | some (.exit i,s1)=>if i=id then some (.normal,s1)else some (.exit i,s1)
  | r=>r
 | .loop b,s=>LQ (λs=>match DV Φ k b { s with env:=Ig s.env [] }with
  | r=>r) k s
 | M,s=>BE Φ M s
section
variable {P : Program} {G : Ay} {B N : Nat} {Φ : AC}
theorem Gr (k:Nat):∀(M:Ak) {s:Ac} {e:Exit} {s':Ac},DV Φ k M s=some (e,s')->s'.n=s.n
 | .skip,s,e,s',h | .ops _,s,e,s',h | .draw _,s,e,s',h | .drawG _ _,s,e,s',h | .drawE _,s,e,s',h | .exit _,s,e,s',h | .ret,s,e,s',h | .scope _,s,e,s',h=>Ey _ h
 | .seq a b,s,e,s',h=>by
  simp only[DV]at h;split at h
  .rename_i s1 h1;rw[Gr k b h,Gr k a h1]
  .exact Gr k a h
 | .cond c a b,s,e,s',h=>by
  simp only[DV]at h;split at h
  .rename_i t ht;cases t
   .exact Gr k b h
   .exact Gr k a h
  .cases h
 | .block id b,s,e,s',h=>by
  simp only[DV]at h;split at h
  .rename_i i s1 h1;split at h
   .simp only[Xk.injEq,Prod.mk.injEq]at h;rw[<-h.2,Gr k b h1]
   .simp only[Xk.injEq,Prod.mk.injEq]at h;rw[<-h.2,Gr k b h1]
  .exact Gr k b h
 | .loop b,s,e,s',h=>by
  simp only[DV]at h
  have:∀(m:Nat) (s:Ac),LQ (λs=>DV Φ k b { s with env:=Ig s.env [] }) m s=some (e,s')->s'.n=s.n:=by
   intro m
   induction m with
   | zero=>intro s h;cases h
   | succ m ih=>
    intro s h;simp only[LQ]at h;split at h
    .rename_i s1 h1;have:=Gr k b h1;rw[ih s1 h,this]
    .have:=Gr k b h;exact this
  exact this k s h
theorem Gs (hΦ:Ctx P G Φ) (k:Nat):∀(M:Ak) {Q:Exit->Ac->Prop} {s:Ac} {e:Exit} {s':Ac},DV Φ k M s=some (e,s')->Q e s'->MC P G B N M Q s
 | .skip,Q,s,e,s',h,hq | .ops _,Q,s,e,s',h,hq | .draw _,Q,s,e,s',h,hq | .drawG _ _,Q,s,e,s',h,hq | .drawE _,Q,s,e,s',h,hq | .exit _,Q,s,e,s',h,hq | .ret,Q,s,e,s',h,hq | .scope _,Q,s,e,s',h,hq=>Eh hΦ _ h hq
 | .seq a b,Q,s,e,s',h,hq=>by
  intro c hc hn;refine JY ?_ c hc hn;simp only[DV]at h;split at h
  .rename_i s1 h1;exact Gs hΦ k a h1 ⟨(Gr k a h1).trans hn,Gs hΦ k b h hq⟩
  .rename_i hne;refine Gs hΦ k a h ?_;cases e
   case normal=>exact absurd h (hne s')
   all_goals exact hq
 | .cond c a b,Q,s,e,s',h,hq=>by
  simp only[DV]at h;split at h
  .rename_i t ht;refine JZ ht ?_;cases t
   .exact Gs hΦ k b h hq
   .exact Gs hΦ k a h hq
  .cases h
 | .block id b,Q,s,e,s',h,hq=>by
  refine BI ?_;simp only[DV]at h;split at h
  .rename_i i s1 h1;refine Gs hΦ k b h1 ?_;simp only[Kd];split at h
   .rename_i hid;rw[zy hid];simp only[Xk.injEq,Prod.mk.injEq]at h;obtain⟨rfl,rfl⟩:=h;exact hq
   .rename_i hid;rw[zz hid];simp only[Xk.injEq,Prod.mk.injEq]at h;obtain⟨rfl,rfl⟩:=h;exact hq
  .rename_i hne;refine Gs hΦ k b h ?_;cases e
   case exit i=>exact absurd h (hne i s')
   all_goals exact hq
 | .loop b,Q,s,e,s',h,hq=>by
  simp only[DV]at h;intro c hc hn;refine OP (λm s=>s.n=N/\LQ (λs=>DV Φ k b { s with env:=Ig s.env [] }) m s=some (e,s')) k ⟨hn,h⟩ (λ_ _ h=>h.1) ?_ c hc hn;rintro m s ⟨hsn,hm⟩
  cases m with
  | zero=>cases hm
  | succ m=>
   refine MC.sub (tY trivial) rfl ?_;simp only[LQ]at hm;split at hm
   .rename_i s1 h1;exact Gs hΦ k b h1 ⟨m,by omega,s1,Sub.refl s1,(Gr k b h1).trans hsn,hm⟩
   .rename_i hne;refine Gs hΦ k b hm ?_;cases e
    case normal=>exact absurd hm (hne s')
    all_goals exact hq
end
noncomputable def TL (tab:List (Nat×FnM)) (rounds:Nat) (Φ:AC) (f:FuncId) (args:List T):Option T:=
 match Aa tab f with
 | some fm=>if args.length=fm.k then
   (match DV Φ rounds fm.M (IY fm.N args)with
   | some (.ret,s)=>ZG fm.vs s
   | _=>none)
  else none
 | none=>none
theorem A6s {tab:List (Nat×FnM)} (ht:Pu Xa (G q) tab) (rounds:Nat) {Φ:AC} (hΦ:Φ.Sound Xa (G q)) {f:FuncId} {args:List T} {r:T} (h:TL tab rounds Φ f args=some r):AA Xa (G q) f args (· = r):=by
 unfold TL at h;split at h
 .rename_i fm hf;split at h
  .rename_i hk;split at h
   .rename_i s hr;unfold ZG at h;split at h
    .rename_i ps hps;split at h
     .rename_i r' F hT;injection h with h;subst h;refine(ht _ (BF hf)).call hk λc hc hn=>?_
      exact(Gs (Q:=λe s1=>e = .ret/\s1=s) ⟨mixed,hΦ⟩ rounds fm.M hr ⟨rfl,rfl⟩ c hc hn).post λe s1 hq=>⟨s1,Sub.refl s1,by
       obtain⟨rfl,rfl⟩:=hq
       exact⟨.inr rfl,ps,r',F,hps,hT,rfl⟩⟩
     .cases h
    .cases h
   .cases h
  .cases h
 .cases h
noncomputable def TM (tab:List (Nat×FnM)) (rounds:Nat) (Φ:AC) (f:FuncId) (ps:List PV) (H:Ab) (nx:Nat):Option (PV×Ab×Nat):=
 match Aa tab f with
 | some fm=>if ps.length=fm.k then
   (match DV Φ rounds fm.M ⟨FD 0 ps,H,nx,fm.N⟩with
   | some (.normal,s)=>match CH s fm.vs with
    | some rs=>if RU s.nx s.H then some (CF rs,s.H,s.nx)else none
    | none=>none
   | some (.ret,s)=>match CH s fm.vs with
    | some rs=>if RU s.nx s.H then some (CF rs,s.H,s.nx)else none
    | none=>none
   | _=>none)
  else none
 | none=>none
theorem A6t {tab:List (Nat×FnM)} (ht:Pu Xa (G q) tab) (rounds:Nat) {Φ:AC} (hΦ:Φ.Sound Xa (G q)) {f:FuncId} {ps:List PV} {H:Ab} {nx:Nat} {r:PV} {H':Ab} {nx':Nat}
  (h:TM tab rounds Φ f ps H nx=some (r,H',nx')):AB Xa (G q) f ps H nx r H' nx'/\∀b x,Aa H' b=some x->b<nx':=by
 unfold TM at h;split at h
 .rename_i fm hf;split at h
  .rename_i hk;split at h
   .rename_i s hr;split at h
    .rename_i rs hps;split at h
     .rename_i ha;injection h with h;injection h with h1 h2;injection h2 with h2 h3;subst h1;subst h2;subst h3;exact⟨(ht _ (BF hf)).callP hk (Gs ⟨mixed,hΦ⟩ rounds fm.M hr ⟨.inl rfl,s,rs,Sub.refl s,hps,rfl,rfl,rfl⟩),ZH ha⟩
     .cases h
    .cases h
   .rename_i s hr;split at h
    .rename_i rs hps;split at h
     .rename_i ha;injection h with h;injection h with h1 h2;injection h2 with h2 h3;subst h1;subst h2;subst h3;exact⟨(ht _ (BF hf)).callP hk (Gs ⟨mixed,hΦ⟩ rounds fm.M hr ⟨.inr rfl,s,rs,Sub.refl s,hps,rfl,rfl,rfl⟩),ZH ha⟩
     .cases h
    .cases h
   .cases h
  .cases h
 .cases h
noncomputable def M5 (tab:List (Nat×FnM)) (memo:DZ) (rounds:Nat):Nat->AC
 | 0=>⟨memo.get,λ_ _ _ _=>none⟩
 | n+1=>⟨λf args=>match memo.get f args with
  | some r=>some r
  | none=>TL tab rounds (M5 tab memo rounds n) f args,λf ps H nx=>match TJ f ps H nx with
  | some r=>some r
  | none=>match TK memo f ps H nx with
   | some r=>some r
   | none=>TM tab rounds (M5 tab memo rounds n) f ps H nx⟩
theorem EN {tab:List (Nat×FnM)} (ht:Pu Xa (G q) tab) {memo:DZ} (hme:Hg Xa (G q) memo) (rounds:Nat):∀n,(M5 tab memo rounds n).Sound Xa (G q)
 | 0=>⟨λ_ _ _ h=>DZ.get_sound hme h,λ_ _ _ _ _ _ _ h=>(by cases h),λ_ _ _ _ _ _ _ h=>(by cases h)⟩
 | n+1=>by
  have ih:=EN ht hme rounds n
  have hh:∀f ps H nx r H' nx',(M5 tab memo rounds (n+1)).h f ps H nx=some (r,H',nx')->AB Xa (G q) f ps H nx r H' nx'/\((∀b x,Aa H b=some x->b<nx)->∀b x,Aa H' b=some x->b<nx'):=λf ps H nx r H' nx' h=>by
   simp only[M5]at h;split at h
   .rename_i r0 hr;injection h with h;subst h;exact A6q hr
   .split at h
    .rename_i r0 hr;injection h with h;subst h;obtain⟨h1,rfl,rfl⟩:=A6r hme hr;exact⟨h1,λh=>h⟩
    .have:=A6t ht rounds ih h;exact⟨this.1,λ_=>this.2⟩
  refine⟨λf args r h=>?_,λf ps H nx r H' nx' h=>(hh f ps H nx r H' nx' h).1,λf ps H nx r H' nx' h=>(hh f ps H nx r H' nx' h).2⟩;simp only[M5]at h;split at h
  .rename_i r' hr;injection h with h;subst h;exact DZ.get_sound hme hr
  .exact A6s ht rounds ih h
noncomputable def gL:List (Nat×FnM):=[(17,⟨1,52,WH,[(.tmp 2),(.tmp 3)]⟩),(34,⟨2,21,WN,[(.tmp 4)]⟩),(65,⟨2,21,WW,[(.tmp 4)]⟩),(67,⟨2,21,WX,[(.tmp 4)]⟩),(69,⟨2,21,WZ,[(.tmp 4)]⟩),(71,⟨2,21,XB,[(.tmp 4)]⟩),(73,⟨2,21,XD,[(.tmp 4)]⟩),(75,⟨2,21,XE,[(.tmp 4)]⟩),(35,⟨1,69,WO,[(.tmp 2)]⟩),(30,⟨2,49,RB,[(.tmp 4)]⟩),(68,⟨1,50,WY,[(.tmp 2)]⟩),(70,⟨1,34,XA,[(.tmp 2)]⟩),(72,⟨1,23,XC,[(.tmp 2)]⟩),(37,⟨2,174,WQ,[(.tmp 4)]⟩),(79,⟨1,42,XF,[(.tmp 2)]⟩),(81,⟨1,36,XG,[(.tmp 2)]⟩),(110,⟨1,16,VS,[(.tmp 2),(.tmp 3)]⟩),(106,⟨1,5,VI,[(.tmp 2)]⟩),(123,⟨2,44,VJ,[(.tmp 4)]⟩),(137,⟨1,72,VL,[(.tmp 2)]⟩),(138,⟨2,11,VK,[(.tmp 4)]⟩),(125,⟨2,100,VT,[]⟩),(160,⟨2,9,VQ,[(.tmp 4)]⟩),(158,⟨2,9,VO,[(.tmp 4)]⟩),(180,⟨2,19,VP,[(.tmp 4)]⟩),(181,⟨2,19,VR,[(.tmp 4)]⟩)]
theorem Fi:Pu Xa (G q) gL:=by
 intro x hx;simp only[gL,List.mem_cons,List.not_mem_nil,or_false]at hx;rcases hx with rfl | rfl | rfl | rfl | rfl | rfl | rfl | rfl | rfl | rfl | rfl | rfl | rfl | rfl | rfl | rfl | rfl | rfl | rfl | rfl | rfl | rfl | rfl | rfl | rfl | rfl
 .exact pT
 .exact pZ
 .exact qF
 .exact qG
 .exact qI
 .exact qK
 .exact qM
 .exact qN
 .exact q8
 .exact WK
 .exact qH
 .exact qJ
 .exact qL
 .exact q9
 .exact qO
 .exact qP
 .exact pC
 .exact oT
 .exact oU
 .exact oW
 .exact oV
 .exact pE
 .exact pA
 .exact oZ
 .exact p9
 .exact pB
abbrev oN (l:List UInt8):T:=sv (bs l)
def oTy:T:=oN [116,121,112,101]
def oM0:DZ:=[(64,[oN [109]],bv true),(64,[oTy],bv true),(64,[oN [101,110,116,114,121]],bv true),(99,[oN [97]],bv true),(80,[.sl 1 [oN [97]],oN [32]],oN [97])]
theorem Qu:Hg Xa (G q) oM0:=
 .cons (hTn _ _ ((Td (s:=bs [109]) (by decide)).trans rfl)) (.cons (hTn _ _ ((Td (s:=exT) (by decide)).trans rfl)) (.cons (hTn _ _ ((Td (s:=bs [101,110,116,114,121]) (by decide)).trans rfl)) (.cons (hWd _ _ ((Tp (s:=bs [97]) (by decide)).trans rfl)) (.cons (hJo _ _ (A5d (l:=[bs [97]]) (.inr rfl) [32] (by decide) (by decide))) .nil))))
def GO:List T:=[oN [109],Ad,.sl 1 [oTy,Ad,Ad],Ad,.sl 1 (.sl 1 [oN [97]]::[oN [101,110,116,114,121],iv 1,oTy,Ad,Ad,Ad]),Ad,Ad,Ad,Ad,Ad]
def TN:List T:=[.ag [iv 1,oTy,Ad,Ad]]
def TO:T:=iv 0
theorem o1:AA Xa (G q) 106 TN (· = TO):=(EN Fi (memo:=oM0) Qu 60 12).t _ _ _ (by kernel_rfl)
def gN:List T:=[.ag [iv 1,oTy,Ad,Ad]]
def gO:T:=.tu [oTy,iv 0]
theorem o2:AA Xa (G q) 110 gN (· = gO):=(EN Fi (memo:=(106,TN,TO)::oM0) (.cons o1 Qu) 60 12).t _ _ _ (by kernel_rfl)
def gP:List T:=[.ag [oN [101,110,116,114,121],iv 1,oTy,Ad,Ad,Ad]]
def gQ:T:=oN [32,61,32,116,121,112,101]
theorem o3:AA Xa (G q) 81 gP (· = gQ):=(EN Fi (memo:=[(110,gN,gO)]) (.cons o2 .nil) 60 12).t _ _ _ (by kernel_rfl)
def gR:List T:=[.ag [oTy,Ad,Ad]]
def gS:T:=oTy
theorem o4:AA Xa (G q) 79 gR (· = gS):=(EN Fi (memo:=[]) .nil 60 12).t _ _ _ (by kernel_rfl)
def gT:List T:=[.ag GO,iv 2]
def gU:T:=Ad
theorem oc2:AA Xa (G q) 37 gT (· = gU):=(EN Fi (memo:=[]) .nil 60 12).t _ _ _ (by kernel_rfl)
def gV:List T:=[.ag GO,iv 3]
def gW:T:=.sl 1 [oN [116,121,112,101,32,116,121,112,101]]
theorem oc3:AA Xa (G q) 37 gV (· = gW):=(EN Fi (memo:=[(79,gR,gS)]) (.cons o4 .nil) 60 12).t _ _ _ (by kernel_rfl)
def gX:List T:=[.ag GO,iv 4]
def gY:T:=Ad
theorem oc4:AA Xa (G q) 37 gX (· = gY):=(EN Fi (memo:=[]) .nil 60 12).t _ _ _ (by kernel_rfl)
def gZ:List T:=[.ag GO,iv 5]
def hU:T:=.sl 1 [oN [101,110,116,114,121,32,101,110,116,114,121,32,34,97,34,32,61,32,116,121,112,101]]
theorem oc5:AA Xa (G q) 37 gZ (· = hU):=(EN Fi (memo:=(81,gP,gQ)::oM0) (.cons o3 Qu) 60 12).t _ _ _ (by kernel_rfl)
def iA:List T:=[.ag GO,iv 6]
def iB:T:=Ad
theorem oc6:AA Xa (G q) 37 iA (· = iB):=(EN Fi (memo:=[]) .nil 60 12).t _ _ _ (by kernel_rfl)
def iC:List T:=[.ag GO,iv 7]
def iD:T:=Ad
theorem oc7:AA Xa (G q) 37 iC (· = iD):=(EN Fi (memo:=[]) .nil 60 12).t _ _ _ (by kernel_rfl)
def iE:List T:=[.ag GO,iv 8]
def iF:T:=Ad
theorem oc8:AA Xa (G q) 37 iE (· = iF):=(EN Fi (memo:=[]) .nil 60 12).t _ _ _ (by kernel_rfl)
def iG:List T:=[.ag GO,iv 9]
def iH:T:=Ad
theorem oc9:AA Xa (G q) 37 iG (· = iH):=(EN Fi (memo:=[]) .nil 60 12).t _ _ _ (by kernel_rfl)
def iI:List T:=[.ag GO,iv 10]
def iJ:T:=Ad
theorem A6u:AA Xa (G q) 37 iI (· = iJ):=(EN Fi (memo:=[]) .nil 60 12).t _ _ _ (by kernel_rfl)
def iK:List T:=[.ag GO]
def iL:T:=iv 0
theorem o6:AA Xa (G q) 35 iK (· = iL):=(EN Fi (memo:=(106,TN,TO)::oM0) (.cons o1 Qu) 60 12).t _ _ _ (by kernel_rfl)
def M6:List T:=[.sl 1 GO]
def M7:T:=.tu [oN [109,111,100,117,108,101,32,109,59,10,116,121,112,101,32,116,121,112,101,59,10,101,110,116,114,121,32,101,110,116,114,121,32,34,97,34,32,61,32,116,121,112,101,59,10],iv 0]
theorem o7:AA Xa (G q) 17 M6 (· = M7):=(EN Fi (memo:=[(35,iK,iL),(37,gT,gU),(37,gV,gW),(37,gX,gY),(37,gZ,hU),(37,iA,iB),(37,iC,iD),(37,iE,iF),(37,iG,iH),(37,iI,iJ)]) (.cons o6 (.cons oc2 (.cons oc3 (.cons oc4 (.cons oc5 (.cons oc6 (.cons oc7 (.cons oc8 (.cons oc9 (.cons A6u .nil)))))))))) 60 12).t _ _ _ (by kernel_rfl)
def r3 {α:Type} (z:T) (g:α->T) (o:Res α):T:=match o with
 | .ok (x,p)=>.tu [g x,iv (p:Int),iv 0]
 | .error e=>.tu [z,iv 0,iv e]
section
variable {t : T} {l : List Tok} {i : Nat}
theorem A6v (ht:IsS Ap t l) (s:ByteArray):AA Xa (G q) 27 [t,iv (i:Int),sv s] (· = bv (Au (l.map kt) i s.data.toList)):=by
 have hlen:Bd (.t t)=some (.t (iv (l.length:Int))):=ht.len;refine rB.runs c0 rfl ?_;by_cases hi:l.length<=i
 .rw[ND hi]
  have hi1:¬((i:Int)<(l.length:Int)):=by omega
  have hi2:¬i<l.length:=by omega
  (conv in Pf=>cbv);simp -implicitDefEqProofs [hlen,hi1,hi2]
 .obtain⟨x,hx⟩:∃x,l[i]?=some x:=⟨_,Xn (by omega)⟩
  rw[Pw hx];obtain⟨r,hr⟩:=EH ht hx
  have hi1:((i:Int)<(l.length:Int)):=by omega
  have hi2:i<l.length:=by omega
  have hts:(x.t==s.toList)=decide (x.t=s.data.toList):=by rw[Ft];exact Xr.2 (by simp)
  by_cases h5:x.k=5
  .have hb:(x.k==5)=true:=by rw[h5];rfl
   have hd:decide (x.k=5)=true:=by rw[h5];rfl
   (conv in Pf=>cbv);simp -implicitDefEqProofs [BJ,hlen,hi1,hi2,hr,hb,hd,hts]
  .have hb:(x.k==5)=false:=by simpa using h5
   have hd:decide (x.k=5)=false:=by simpa using h5
   (conv in Pf=>cbv);simp -implicitDefEqProofs [BJ,hlen,hi1,hi2,hr,hb,hd]
theorem A6w (ht:IsS Ap t l) (k:Int):AA Xa (G q) 26 [t,iv (i:Int),iv k] (· = bv (Cq (l.map kt) i k)):=by
 have hlen:Bd (.t t)=some (.t (iv (l.length:Int))):=ht.len;refine rA.runs c0 rfl ?_;by_cases hi:l.length<=i
 .rw[PJ hi]
  have hi1:¬((i:Int)<(l.length:Int)):=by omega
  have hi2:¬i<l.length:=by omega
  (conv in RF=>cbv);simp -implicitDefEqProofs [hlen,hi1,hi2]
 .obtain⟨x,hx⟩:∃x,l[i]?=some x:=⟨_,Xn (by omega)⟩
  rw[PI hx];obtain⟨r,hr⟩:=EH ht hx
  have hi1:((i:Int)<(l.length:Int)):=by omega
  have hi2:i<l.length:=by omega
  have hb:(x.k==k)=decide (x.k=k):=rfl
  (conv in RF=>cbv);simp -implicitDefEqProofs [BJ,hlen,hi1,hi2,hr,hb]
theorem A6x (ht:IsS Ap t l):AA Xa (G q) 25 [t,iv (i:Int)] (· = iv (Bi (l.map kt) i)):=by
 have hlen:Bd (.t t)=some (.t (iv (l.length:Int))):=ht.len;refine r9.runs c0 rfl ?_;unfold Bi;rw[Xb];by_cases hi:l.length<=i
 .have hi1:((l.length:Int)<=(i:Int)):=by omega
  (conv in RE=>cbv);simp -implicitDefEqProofs [hlen,hi1,hi]
 .have hi1:¬((l.length:Int)<=(i:Int)):=by omega
  (conv in RE=>cbv);simp -implicitDefEqProofs [hlen,hi1,hi]
theorem A6y (ht:IsS Ap t l):GOK Xa (G q) 27 (Cj l t):=λargs r h=>by
 unfold Cj at h;split at h
 .split at h
  .rename_i hc;obtain⟨rfl,h0⟩:=hc;injection h with h;subst h;obtain⟨n,rfl⟩:=Xo h0;exact A6v ht _
  .cases h
 .cases h
theorem A6z (ht:IsS Ap t l):GOK Xa (G q) 26 (CT l t):=λargs r h=>by
 unfold CT at h;split at h
 .split at h
  .rename_i hc;obtain⟨rfl,h0⟩:=hc;injection h with h;subst h;obtain⟨n,rfl⟩:=Xo h0;exact A6w ht _
  .cases h
 .cases h
theorem A7a (ht:IsS Ap t l):GOK Xa (G q) 25 (Ck l t):=λargs r h=>by
 unfold Ck at h;split at h
 .split at h
  .rename_i hc;obtain⟨rfl,h0⟩:=hc;injection h with h;subst h;obtain⟨n,rfl⟩:=Xo h0;exact A6x ht
  .cases h
 .cases h
noncomputable def AW (l:List Tok) (t:T):Tbl:=[(27,Cj l t),(26,CT l t),(25,Ck l t)]
theorem iM (ht:IsS Ap t l):A5 Xa (G q) (AW l t):=.cons (A6y ht) (.cons (A6z ht) (.cons (A7a ht) .nil))
theorem Qv (ht:IsS Ap t l):Ctx Xa (G q) (orc (AW l t)):=(iM ht).ctx mixed
theorem Fj (ht:IsS Ap t l) (k:Int):(Cq (l.map kt) i k=true/\∃s r,AE (l.map kt) i k = .ok (s,i+1)/\i<l.length/\Bm 3 (.t t) (.t (.v (.int .i64 (i:Int))))=some (.t (.pt (iv k::sv s::r)))) \/
  (Cq (l.map kt) i k=false/\AE (l.map kt) i k = .error (Bi (l.map kt) i)/\Bi (l.map kt) i≠0):=by
 cases hk:Cq (l.map kt) i k with
 | false=>
  refine .inr ⟨rfl,PP hk,?_⟩;unfold Bi;split<;>decide
 | true=>
  left
  cases hx:l[i]? with
  | none=>rw[PJ (by simpa using hx)]at hk;cases hk
  | some x=>
   rw[PI hx]at hk;have hk:=of_decide_eq_true hk;obtain⟨r,hr⟩:=EH ht hx;refine⟨rfl,bs x.t,iv (x.l:Int)::r,?_,(Xl.1 hx).1,by rw[hr,hk]⟩;unfold AE;rw[E5,hx];simp[hk]
end
structure SuC where
 H:Ab
 nx:Nat
 i:Nat
 b:Nat
 out:List ByteArray
 m:Nat
def SSu (t:T) (c:SuC):Ac:=⟨[(7,rowP Aj c.b c.out),(1,.t (iv (c.i:Int))),(0,.t t)],c.H,c.nx,36⟩
section
variable {t : T} {l : List Tok} {i : Nat}
theorem A7b (ht:IsS Ap t l) (hlim:l.length<=1000000) (hi:i<=l.length):AA Xa (G q) 119 [t,iv (i:Int)] (· = r3 Ad (Am Aj) (Fb (l.map kt) i)):=by
 obtain⟨Z,hZ⟩:∃Z,Z=Fb (l.map kt) i:=⟨_,rfl⟩
 rw[<-hZ];refine Hn (args:=[t,iv (i:Int)]) ?_;refine rL.callX rfl ?_;(conv in XY=>cbv);have CW:=Qv (q:=q) ht;refine Ai Af ?_;simp -implicitDefEqProofs;refine Ai Af ?_;simp -implicitDefEqProofs;refine B9 (s':=SSu t ⟨[],1,i,0,[],l.length+1⟩) ((Jq (nx':=1) (by omega)).trans (sub_env (by simp -implicitDefEqProofs [SSu,rowP]))) rfl ?_;refine CQ ?_
 refine FN (SSu t) (λc=>c.m) (λc=>Z=Cb (l.map kt) (λp=>AE (l.map kt) p 1) [44] 256 c.m c.i c.out/\l.length<c.i+c.m/\c.i<=l.length/\c.out.length<=c.i/\Ar Aj KO c.H c.b c.out/\c.b<c.nx) ⟨[],1,i,0,[],l.length+1⟩ (λ_=>rfl)
  ⟨by rw[hZ];unfold Fb;rw[Xb],by show l.length<i+(l.length+1);omega,hi,Xi _,.inl rfl,by show 0<1;omega⟩ ?_ rfl ?_
 .exact Sub.refl _
 rintro⟨Hc,nc,j,b,out,m⟩ ⟨hz,hm,hj,ho,row,b1⟩;simp only at hz hm hj ho row b1
 obtain⟨m,rfl⟩:∃m',m=m'+1:=⟨m-1,by omega⟩
 have gk:CT l t [t,iv (j:Int),iv 1]=_:=E6 (l:=l) (t:=t) (i:=j) 1;rw[Cb]at hz;refine CQ ?_;refine Ai CW ?_;rcases Fj (l:=l) (i:=j) ht 1 with⟨hk,s,r,htk,hjl,hia⟩ | ⟨hk,htk,hw⟩
 rotate_left
 .rw[htk]at hz;have gw:Ck l t [t,iv (j:Int)]=_:=DK (l:=l) (t:=t) (i:=j);simp -implicitDefEqProofs [SSu,AW,gk,hk,gw];exact A6 ⟨.t (.tu [Ad,iv 0,iv (Bi (l.map kt) j)]),Hc,nc⟩ ⟨by rw[hz];rfl⟩ (by simp -implicitDefEqProofs)
 rw[htk]at hz;simp only at hz;simp -implicitDefEqProofs [SSu,AW,gk,hk];obtain⟨H2,ap,row2,k2,f2,c2⟩:=PH (by':=16) (nx:=nc) s 1 rfl [.t (sv s)] rfl row b1 (by omega) (by omega)
 obtain⟨out',hout'⟩:∃out',out'=out++[s]:=⟨_,rfl⟩
 have ol:out'.length=out.length+1:=by rw[hout',Xg];rfl
 rw[<-hout']at ap row2 hz;have e1:Xc.wrap ((j:Int)+1)=(j:Int)+1:=AH (n:=j+1) (by omega) (by omega);have e2:Xc.wrap ((j:Int)+2)=(j:Int)+2:=AH (n:=j+2) (by omega) (by omega);have gi:Cj l t [t,iv ((j:Int)+1),sv ⟨#[44]⟩]=_:=EM (l:=l) (t:=t) (i:=j+1) ⟨#[44]⟩;rw[show(⟨#[44]⟩:ByteArray).data.toList=[44]from rfl]at gi;refine Ai Af ?_;simp -implicitDefEqProofs [hia,BJ,bsS,ap]
 cases hs:Au (l.map kt) (j+1) [44]with
 | false=>
  rw[hs]at gi;rw[hs,zz (by decide)]at hz;refine B9 (s':=⟨[(7,.t (Am Aj out')),(1,.t (iv (j:Int))),(0,.t t)],B8 H2 [nc+1],nc+2,36⟩) (EG [nc+1] (by simp -implicitDefEqProofs [Gh,Hh row2 (Xj.2 rfl)])) rfl ?_;refine Ai CW ?_;simp -implicitDefEqProofs [AW,e1,gi];exact A6 ⟨.t (.tu [Am Aj out',iv ((j:Int)+1),iv 0]),B8 H2 [nc+1],nc+2⟩ ⟨by rw[hz];rfl⟩ (by simp -implicitDefEqProofs)
 | true=>
  rw[hs]at gi;rw[hs,zy rfl]at hz;have lj:=Bo hs;rw[Xb]at lj;refine Ai CW ?_;simp -implicitDefEqProofs [AW,e1,gi];have hlen:Bd (rowP Aj (nc+1) out')=some (.t (iv (out'.length:Int))):=ED _ _ _;by_cases h256:256<=out.length+1
  .rw[zy h256]at hz
   have d1:(256:Int)<=(out'.length:Int):=by omega
   have d2:256<=out'.length:=by omega
   refine Ai Af ?_;simp -implicitDefEqProofs [hlen,d1,d2];exact A6 ⟨.t (.tu [Ad,iv 0,iv 7]),H2,nc+2⟩ ⟨by rw[hz];rfl⟩ (by simp -implicitDefEqProofs)
  .rw[zz h256]at hz
   have d1:¬(256:Int)<=(out'.length:Int):=by omega
   have d2:¬256<=out'.length:=by omega
   refine Ai Af ?_;simp -implicitDefEqProofs [hlen,d1,d2];refine A7 Af ?_;simp -implicitDefEqProofs [e2];exact Aq.mk ⟨H2,nc+2,j+2,nc+1,out',m⟩ ⟨⟨hz,by show l.length<j+2+m;omega,by show j+2<=l.length;omega,by show out'.length<=j+2;omega,row2,by show nc+1<nc+2;omega⟩,Xf m⟩ (sub_env (by simp -implicitDefEqProofs [SSu]))
end
section
variable {t : T} {l : List Tok} {i : Nat}
theorem A7c (ht:IsS Ap t l) (hlim:l.length<=1000000) (hi:i<=l.length):AA Xa (G q) 102 [t,iv (i:Int)] (· = r3 Ad (Am Aj) (En (l.map kt) i)):=by
 obtain⟨Z,hZ⟩:∃Z,Z=En (l.map kt) i:=⟨_,rfl⟩
 rw[<-hZ];refine Hn (args:=[t,iv (i:Int)]) ?_;refine rJ.callX rfl ?_;(conv in XW=>cbv);have CW:=Qv (q:=q) ht;refine Ai Af ?_;simp -implicitDefEqProofs;refine Ai Af ?_;simp -implicitDefEqProofs;refine B9 (s':=SSu t ⟨[],1,i,0,[],l.length+1⟩) ((Jq (nx':=1) (by omega)).trans (sub_env (by simp -implicitDefEqProofs [SSu,rowP]))) rfl ?_;refine CQ ?_
 refine FN (SSu t) (λc=>c.m) (λc=>Z=Cb (l.map kt) (λp=>AE (l.map kt) p 2) [46] 64 c.m c.i c.out/\l.length<c.i+c.m/\c.i<=l.length/\c.out.length<=c.i/\Ar Aj KO c.H c.b c.out/\c.b<c.nx) ⟨[],1,i,0,[],l.length+1⟩ (λ_=>rfl)
  ⟨by rw[hZ];unfold En;rw[Xb],by show l.length<i+(l.length+1);omega,hi,Xi _,.inl rfl,by show 0<1;omega⟩ ?_ rfl ?_
 .exact Sub.refl _
 rintro⟨Hc,nc,j,b,out,m⟩ ⟨hz,hm,hj,ho,row,b1⟩;simp only at hz hm hj ho row b1
 obtain⟨m,rfl⟩:∃m',m=m'+1:=⟨m-1,by omega⟩
 have gk:CT l t [t,iv (j:Int),iv 2]=_:=E6 (l:=l) (t:=t) (i:=j) 2;rw[Cb]at hz;refine CQ ?_;refine Ai CW ?_;rcases Fj (l:=l) (i:=j) ht 2 with⟨hk,s,r,htk,hjl,hia⟩ | ⟨hk,htk,hw⟩
 rotate_left
 .rw[htk]at hz;have gw:Ck l t [t,iv (j:Int)]=_:=DK (l:=l) (t:=t) (i:=j);simp -implicitDefEqProofs [SSu,AW,gk,hk,gw];exact A6 ⟨.t (.tu [Ad,iv 0,iv (Bi (l.map kt) j)]),Hc,nc⟩ ⟨by rw[hz];rfl⟩ (by simp -implicitDefEqProofs)
 rw[htk]at hz;simp only at hz;simp -implicitDefEqProofs [SSu,AW,gk,hk];obtain⟨H2,ap,row2,k2,f2,c2⟩:=PH (by':=16) (nx:=nc) s 1 rfl [.t (sv s)] rfl row b1 (by omega) (by omega)
 obtain⟨out',hout'⟩:∃out',out'=out++[s]:=⟨_,rfl⟩
 have ol:out'.length=out.length+1:=by rw[hout',Xg];rfl
 rw[<-hout']at ap row2 hz;have e1:Xc.wrap ((j:Int)+1)=(j:Int)+1:=AH (n:=j+1) (by omega) (by omega);have e2:Xc.wrap ((j:Int)+2)=(j:Int)+2:=AH (n:=j+2) (by omega) (by omega);have gi:Cj l t [t,iv ((j:Int)+1),sv ⟨#[46]⟩]=_:=EM (l:=l) (t:=t) (i:=j+1) ⟨#[46]⟩;rw[show(⟨#[46]⟩:ByteArray).data.toList=[46]from rfl]at gi;refine Ai Af ?_;simp -implicitDefEqProofs [hia,BJ,bsS,ap]
 cases hs:Au (l.map kt) (j+1) [46]with
 | false=>
  rw[hs]at gi;rw[hs,zz (by decide)]at hz;refine B9 (s':=⟨[(7,.t (Am Aj out')),(1,.t (iv (j:Int))),(0,.t t)],B8 H2 [nc+1],nc+2,36⟩) (EG [nc+1] (by simp -implicitDefEqProofs [Gh,Hh row2 (Xj.2 rfl)])) rfl ?_;refine Ai CW ?_;simp -implicitDefEqProofs [AW,e1,gi];exact A6 ⟨.t (.tu [Am Aj out',iv ((j:Int)+1),iv 0]),B8 H2 [nc+1],nc+2⟩ ⟨by rw[hz];rfl⟩ (by simp -implicitDefEqProofs)
 | true=>
  rw[hs]at gi;rw[hs,zy rfl]at hz;have lj:=Bo hs;rw[Xb]at lj;refine Ai CW ?_;simp -implicitDefEqProofs [AW,e1,gi];have hlen:Bd (rowP Aj (nc+1) out')=some (.t (iv (out'.length:Int))):=ED _ _ _;by_cases h64:64<=out.length+1
  .rw[zy h64]at hz
   have d1:(64:Int)<=(out'.length:Int):=by omega
   have d2:64<=out'.length:=by omega
   refine Ai Af ?_;simp -implicitDefEqProofs [hlen,d1,d2];exact A6 ⟨.t (.tu [Ad,iv 0,iv 7]),H2,nc+2⟩ ⟨by rw[hz];rfl⟩ (by simp -implicitDefEqProofs)
  .rw[zz h64]at hz
   have d1:¬(64:Int)<=(out'.length:Int):=by omega
   have d2:¬64<=out'.length:=by omega
   refine Ai Af ?_;simp -implicitDefEqProofs [hlen,d1,d2];refine A7 Af ?_;simp -implicitDefEqProofs [e2];exact Aq.mk ⟨H2,nc+2,j+2,nc+1,out',m⟩ ⟨⟨hz,by show l.length<j+2+m;omega,by show j+2<=l.length;omega,by show out'.length<=j+2;omega,row2,by show nc+1<nc+2;omega⟩,Xf m⟩ (sub_env (by simp -implicitDefEqProofs [SSu]))
end
structure FeC where
 H:Ab
 nx:Nat
 i:Nat
 b:Nat
 out:List (ByteArray×ByteArray)
 m:Nat
def SFe (t:T) (c:FeC):Ac:=⟨[(7,rowP eFt c.b c.out),(1,.t (iv (c.i:Int))),(0,.t t)],c.H,c.nx,52⟩
theorem tsF (a b:ByteArray):IW Mp 2 [.string ⟨#[]⟩,.string ⟨#[]⟩] 1 [(0,.t (.ag [sv a,sv b]))]=some (.t (.sl 1 [sv a,sv b])):=rfl
theorem bq2 (Φ:AC) (H:Ab) (nx:Nat) (a b:ByteArray):Bb Φ H nx (.build [(0,1),(1,1)] [.string ⟨#[]⟩,.string ⟨#[]⟩] [0,1]) [.t (sv a),.t (sv b)]=some (.t (.ag [sv a,sv b])):=rfl
section
variable {t : T} {l : List Tok} {i : Nat}
theorem A7d (ht:IsS Ap t l) (hlim:l.length<=1000000) (hi:i<=l.length):AA Xa (G q) 120 [t,iv (i:Int)] (· = r3 Ad (Am eFt) (EI (l.map kt) i)):=by
 obtain⟨Z,hZ⟩:∃Z,Z=EI (l.map kt) i:=⟨_,rfl⟩
 rw[<-hZ];refine Hn (args:=[t,iv (i:Int)]) ?_;refine rM.callX rfl ?_;(conv in XZ=>cbv);have CW:=Qv (q:=q) ht;refine Ai Af ?_;simp -implicitDefEqProofs;refine Ai Af ?_;simp -implicitDefEqProofs;refine B9 (s':=SFe t ⟨[],1,i,0,[],l.length+1⟩) ((Jq (nx':=1) (by omega)).trans (sub_env (by simp -implicitDefEqProofs [SFe,rowP]))) rfl ?_;refine CQ ?_
 refine FN (SFe t) (λc=>c.m) (λc=>Z=Cb (l.map kt) (ftS (l.map kt)) [44] 256 c.m c.i c.out/\l.length<c.i+c.m/\c.i<=l.length/\c.out.length<=c.i/\Ar eFt Mp c.H c.b c.out/\c.b<c.nx) ⟨[],1,i,0,[],l.length+1⟩ (λ_=>rfl)
  ⟨by rw[hZ];unfold EI;rw[Xb],by show l.length<i+(l.length+1);omega,hi,Xi _,.inl rfl,by show 0<1;omega⟩ ?_ rfl ?_
 .exact Sub.refl _
 rintro⟨Hc,nc,j,b,out,m⟩ ⟨hz,hm,hj,ho,row,b1⟩;simp only at hz hm hj ho row b1
 obtain⟨m,rfl⟩:∃m',m=m'+1:=⟨m-1,by omega⟩
 have gk:CT l t [t,iv (j:Int),iv 2]=_:=E6 (l:=l) (t:=t) (i:=j) 2;have e1:Xc.wrap ((j:Int)+1)=(j:Int)+1:=AH (n:=j+1) (by omega) (by omega);have e2:Xc.wrap ((j:Int)+2)=(j:Int)+2:=AH (n:=j+2) (by omega) (by omega);have e3:Xc.wrap ((j:Int)+3)=(j:Int)+3:=AH (n:=j+3) (by omega) (by omega);rw[Cb]at hz;refine CQ ?_;refine Ai CW ?_;rcases Fj (l:=l) (i:=j) ht 2 with⟨hk,s,r,htk,hjl,hia⟩ | ⟨hk,htk,hw⟩
 rotate_left
 .have hf:ftS (l.map kt) j = .error (Bi (l.map kt) j):=by unfold ftS;rw[htk]
  rw[hf]at hz;have gw:Ck l t [t,iv (j:Int)]=_:=DK (l:=l) (t:=t) (i:=j);simp -implicitDefEqProofs [SFe,AW,gk,hk,gw];exact A6 ⟨.t (.tu [Ad,iv 0,iv (Bi (l.map kt) j)]),Hc,nc⟩ ⟨by rw[hz];rfl⟩ (by simp -implicitDefEqProofs)
 simp -implicitDefEqProofs [SFe,AW,gk,hk];have gk2:CT l t [t,iv ((j:Int)+1),iv 1]=_:=E6 (l:=l) (t:=t) (i:=j+1) 1;refine Ai CW ?_;rcases Fj (l:=l) (i:=j+1) ht 1 with⟨hk2,v,r2,htk2,hjl2,hia2⟩ | ⟨hk2,htk2,hw⟩
 rotate_left
 .have hf:ftS (l.map kt) j = .error (Bi (l.map kt) (j+1)):=by unfold ftS;rw[htk];simp only;rw[htk2]
  rw[hf]at hz;have gw:Ck l t [t,iv ((j:Int)+1)]=_:=DK (l:=l) (t:=t) (i:=j+1);simp -implicitDefEqProofs [AW,e1,gk2,hk2,gw];exact A6 ⟨.t (.tu [Ad,iv 0,iv (Bi (l.map kt) (j+1))]),Hc,nc⟩ ⟨by rw[hz];rfl⟩ (by simp -implicitDefEqProofs)
 have hf:ftS (l.map kt) j = .ok ((s,v),j+2):=by unfold ftS;rw[htk];simp only;rw[htk2]
 rw[hf]at hz;simp only at hz;simp -implicitDefEqProofs [AW,e1,gk2,hk2];have hia2:Bm 3 (.t t) (.t (.v (.int .i64 ((j:Int)+1))))=some (.t (.pt (iv 1::sv v::r2))):=hia2;obtain⟨H2,ap,row2,k2,f2,c2⟩:=aZ (by':=32) (nx:=nc) (s,v) 2 rfl [sv s,sv v] rfl row b1 (by omega) (by omega)
 obtain⟨out',hout'⟩:∃out',out'=out++[(s,v)]:=⟨_,rfl⟩
 have ol:out'.length=out.length+1:=by rw[hout',Xg];rfl
 rw[<-hout']at ap row2 hz;have gi:Cj l t [t,iv ((j:Int)+2),sv ⟨#[44]⟩]=_:=EM (l:=l) (t:=t) (i:=j+2) ⟨#[44]⟩;rw[show(⟨#[44]⟩:ByteArray).data.toList=[44]from rfl]at gi;refine Ai Af ?_;simp -implicitDefEqProofs [hia,e1,hia2,BJ,bq2,tsF,ap,-AF,-Ja]
 cases hs:Au (l.map kt) (j+2) [44]with
 | false=>
  rw[hs]at gi;rw[hs,zz (by decide)]at hz;refine B9 (s':=⟨[(7,.t (Am eFt out')),(1,.t (iv (j:Int))),(0,.t t)],B8 H2 [nc],nc+1,52⟩) (EG [nc] (by simp -implicitDefEqProofs [Gh,Hh row2 (Xj.2 rfl)])) rfl ?_;refine Ai CW ?_;simp -implicitDefEqProofs [AW,e2,gi];exact A6 ⟨.t (.tu [Am eFt out',iv ((j:Int)+2),iv 0]),B8 H2 [nc],nc+1⟩ ⟨by rw[hz];rfl⟩ (by simp -implicitDefEqProofs)
 | true=>
  rw[hs]at gi;rw[hs,zy rfl]at hz;have lj:=Bo hs;rw[Xb]at lj;refine Ai CW ?_;simp -implicitDefEqProofs [AW,e2,gi];have hlen:Bd (rowP eFt nc out')=some (.t (iv (out'.length:Int))):=ED _ _ _;by_cases h256:256<=out.length+1
  .rw[zy h256]at hz
   have d1:(256:Int)<=(out'.length:Int):=by omega
   have d2:256<=out'.length:=by omega
   refine Ai Af ?_;simp -implicitDefEqProofs [hlen,d1,d2];exact A6 ⟨.t (.tu [Ad,iv 0,iv 7]),H2,nc+1⟩ ⟨by rw[hz];rfl⟩ (by simp -implicitDefEqProofs)
  .rw[zz h256]at hz
   have d1:¬(256:Int)<=(out'.length:Int):=by omega
   have d2:¬256<=out'.length:=by omega
   refine Ai Af ?_;simp -implicitDefEqProofs [hlen,d1,d2];refine A7 Af ?_;simp -implicitDefEqProofs [e3];exact Aq.mk ⟨H2,nc+1,j+3,nc,out',m⟩ ⟨⟨hz,by show l.length<j+3+m;omega,by show j+3<=l.length;omega,by show out'.length<=j+3;omega,row2,by show nc<nc+1;omega⟩,Xf m⟩ (sub_env (by simp -implicitDefEqProofs [SFe]))
end
section
variable {l : List KT} {p : Nat} {e : Int}
theorem iN (h:Fb l p = .error e) (hp:p<=l.length):e≠0:=Mz (Mt 1) (λ_ _ h=>My h) _ _ _ _ _ _ h hp (by omega)
theorem iO (h:EI l p = .error e) (hp:p<=l.length):e≠0:=Mz Tl (dZ λ_=>rfl) _ _ _ _ _ _ h hp (by omega)
theorem A7e (h:En l p = .error e) (hp:p<=l.length):e≠0:=Mz (Mt 2) (λ_ _ h=>My h) _ _ _ _ _ _ h hp (by omega)
theorem A7f (h:Kw l p = .error e) (hp:p<=l.length):e≠0:=Mz (D2 64) (F4 64) _ _ _ _ _ _ h hp (by omega)
def FU (l:List KT) (p:Nat):Res TyD:=match AE l p 1 with
 | .error e=>.error e
 | .ok (n,p1)=>FJ l n p1
end
noncomputable def M8 (ts:List T):Option T:=match ts with
 | [.v (.string s)]=>if s.size<=100000 then some (CX s.data.toList)else none
 | _=>none
theorem A7g:GOK Xa (G q) 134 M8:=λargs r h=>by
 unfold M8 at h;split at h
 .split at h
  .rename_i hl;injection h with h;subst h;exact tI _ hl
  .cases h
 .cases h
theorem A7h:GOK Xa (G q) 135 gWd:=λargs r h=>by
 unfold gWd at h;split at h
 .split at h
  .injection h with h;subst h;exact sK _ (by unfold lim;omega)
  .cases h
 .cases h
noncomputable def Ow:Tbl:=[(134,M8),(135,gWd)]
theorem Qw:Ctx Xa (G q) (orc Ow):=(A5.cons A7g (.cons A7h .nil)).ctx mixed
def wdT (o:Except Int (List ByteArray)):T:=match o with
 | .ok w=>.tu [Am Aj w,iv 0]
 | .error e=>.tu [Ad,iv e]
def SWd (n:Nat) (s:ByteArray) (W:T) (c:Nat):Ac:=⟨[(6,.t (iv (c:Int))),(4,.t W),(0,.t (sv s))],[],0,32⟩
theorem A7i (s:ByteArray) (hss:s.size<=100000):AA Xa (G q) 121 [sv s] (· = wdT (Da s)):=by
 obtain⟨R,hR⟩:∃R,R=wdT (Da s):=⟨_,rfl⟩
 rw[<-hR];have gw:M8 [sv s]=some (CX s.data.toList):=zy hss;refine Hn (args:=[sv s]) ?_;refine rN.callX rfl ?_;(conv in YA=>cbv);refine Ai Af ?_;simp -implicitDefEqProofs
 cases hw:Ek s.data.toList with
 | none=>
  have gw:M8 [sv s]=some (.tu [Ad,iv 8]):=by rw[gw];unfold CX;rw[hw]
  have hwd:Da s = .error 1:=by unfold Da;rw[hw]
  refine Ai Qw ?_;simp -implicitDefEqProofs [Ow,gw];refine Ai Af ?_;simp -implicitDefEqProofs;exact A6 ⟨.t (.tu [Ad,iv 1]),[],0⟩ ⟨by rw[hR,hwd];rfl⟩ (by simp -implicitDefEqProofs)
 | some w=>
  have gw:M8 [sv s]=some (.tu [Am Aj (w.map bs),iv 0]):=by rw[gw];unfold CX;rw[hw]
  obtain⟨L,hL⟩:∃L,L=w.map bs:=⟨_,rfl⟩
  rw[<-hL]at gw;have hIs:=IsS.tree Aj L
  obtain⟨W,hW⟩:∃W,W=Am Aj L:=⟨_,rfl⟩
  rw[<-hW]at gw hIs;have hlen:Bd (.t W)=some (.t (iv (L.length:Int))):=hIs.len
  have hLl:∀x∈L,x.size<=100000:=λx hx=>by
   rw[hL]at hx;obtain⟨y,hy,rfl⟩:=Xp.1 hx;have h1:=eG hw y hy;have h2:s.data.toList.length=s.size:=rfl
   have h3:(bs y).size=y.length:=by simp[X0]
   omega
  refine Ai Qw ?_;simp -implicitDefEqProofs [Ow,gw]
  by_cases hn:L=[]
  .have hwn:w=[]:=by
    rw[hn]at hL;exact(List.map_eq_nil_iff.1 hL.symm)
   have hwd:Da s = .error 1:=by unfold Da;rw[hw,hwn];rfl
   have hl0:Bd (.t W)=some (.t (iv 0)):=by rw[hlen,hn];rfl
   refine Ai Af ?_;simp -implicitDefEqProofs [hl0];exact A6 ⟨.t (.tu [Ad,iv 1]),[],0⟩ ⟨by rw[hR,hwd];rfl⟩ (by simp -implicitDefEqProofs)
  have hwn:w≠[]:=λe=>hn (by rw[hL,e];rfl)
  have hl1:((L.length:Int)==0)=false:=by
   rw[zu];intro e;exact hn (List.eq_nil_of_length_eq_zero (by omega))
  refine Ai Af ?_;simp -implicitDefEqProofs [hlen,hl1];refine D5 (α:=Unit) (λ_=>⟨[(4,.t W),(0,.t (sv s))],[],0,32⟩) (λ_=>Da s = .ok L) (λ_=>rfl) ?_ ?_
  .refine Ai Af ?_;simp -implicitDefEqProofs;refine CQ ?_;refine FN (SWd L.length s W) (λc=>L.length-c) (λc=>c<=L.length/\∀(k:Nat) x,k<c->L[k]?=some x->CG x=true) 0 (λ_=>rfl) ⟨Xi _,λk x h=>by omega⟩ ?_ rfl ?_
   .exact sub_env (by simp -implicitDefEqProofs [SWd])
   rintro c ⟨hc,hall⟩;by_cases hlt:c<L.length
   .obtain⟨x,hxc⟩:∃x,L[c]?=some x:=⟨_,Xn hlt⟩
    have hia:Bm 1 (.t W) (.t (.v (.int .i64 (c:Int))))=some (.t (.pt (sv x::AY Aj L c))):=hIs.iaddr hxc .i64
    have hlti:(c:Int)<(L.length:Int):=by omega
    have gx:=Tp (hLl x (Xs hxc));have hcnt:=eH hw
    have hLw:L.length=w.length:=by rw[hL,Xb]
    have h2:s.data.toList.length=s.size:=rfl;have ej:Xc.wrap ((c:Int)+1)=(c:Int)+1:=AH (n:=c+1) rfl (by omega);refine Ai Af ?_;simp -implicitDefEqProofs [SWd,hlen,hlti,hlt]
    cases hwx:CG x with
    | true=>
     rw[hwx]at gx;refine A7 Qw ?_;simp -implicitDefEqProofs [Ow,hia,BJ,gx,ej];refine Aq.mk (c+1) ⟨⟨by omega,λk y hk hy=>?_⟩,by omega⟩ (sub_env (by simp -implicitDefEqProofs [SWd]));by_cases hkc:k=c
     .subst hkc;rw[hxc]at hy;injection hy with hy;rw[<-hy];exact hwx
     .exact hall k y (by omega) hy
    | false=>
     rw[hwx]at gx
     have hwd:Da s = .error 1:=by
      unfold Da;rw[hw];simp only;rw[zz hwn,zz];intro h;have h1:x∈L:=Xs hxc;rw[hL]at h1;obtain⟨y,hy,hyx⟩:=Xp.1 h1;have h3:=X1.1 h y hy;rw[hyx,hwx]at h3;cases h3
     refine A7 Qw ?_;simp -implicitDefEqProofs [Ow,hia,BJ,gx];exact A6 ⟨.t (.tu [Ad,iv 1]),[],0⟩ ⟨by rw[hR,hwd];rfl⟩ (by simp -implicitDefEqProofs)
   .have hlti:¬(c:Int)<(L.length:Int):=by omega
    refine Ai Af ?_;simp -implicitDefEqProofs [SWd,hlen,hlti,hlt];refine Aq.mk () ?_ (sub_env (by simp -implicitDefEqProofs));unfold Da;rw[hw];simp only;rw[zz hwn,zy,hL];refine X1.2 λy hy=>?_;obtain⟨k,hk⟩:=List.getElem?_of_mem (show bs y∈L by rw[hL];exact Xp.2 ⟨y,hy,rfl⟩);have hkl:=(Xl.1 hk).1;exact hall k _ (by omega) hk
  rintro _ hwd;refine A7 Af ?_;simp -implicitDefEqProofs;exact A6 ⟨.t (.tu [W,iv 0]),[],0⟩ ⟨by rw[hR,hwd,hW];rfl⟩ (by simp -implicitDefEqProofs)
def F6 (L:List KT) (p:Nat) (s:ByteArray):Bool:=match AE L p 1 with
 | .ok (x,_)=>decide (x=s)
 | .error _=>false
section
variable {t : T} {l : List Tok} {i : Nat}
theorem A7j (a b:ByteArray):(a.toList==b.toList)=decide (a=b):=by
 rw[Ft,Ft];apply Xr.2;simp only[beq_iff_eq,decide_eq_true_eq];constructor
 .intro h;cases a;cases b;congr 1;exact Array.toList_inj.1 h
 .rintro rfl;rfl
theorem A7k (ht:IsS Ap t l) (s:ByteArray):AA Xa (G q) 24 [t,iv (i:Int),sv s] (· = bv (F6 (l.map kt) i s)):=by
 have gk:CT l t [t,iv (i:Int),iv 1]=_:=E6 (l:=l) (t:=t) (i:=i) 1;refine r8.runs (Qv ht) rfl ?_;rcases Fj (l:=l) (i:=i) ht 1 with⟨hk,x,r,htk,hjl,hia⟩ | ⟨hk,htk,hw⟩
 .have e:F6 (l.map kt) i s=decide (x=s):=by unfold F6;rw[htk]
  rw[e];have hd:=A7j x s
  (conv in RD=>cbv);simp -implicitDefEqProofs [AW,gk,hk,hia,BJ,hd]
 .have e:F6 (l.map kt) i s=false:=by unfold F6;rw[htk]
  rw[e]
  (conv in RD=>cbv);simp -implicitDefEqProofs [AW,gk,hk]
noncomputable def IL (l:List Tok) (t:T) (ts:List T):Option T:=open Classical in match ts with
 | [x,.v (.int .i64 i),.v (.string s)]=>if x=t/\0<=i then some (bv (F6 (l.map kt) i.toNat s))else none
 | _=>none
theorem Qx (s:ByteArray):IL l t [t,iv (i:Int),sv s]=some (bv (F6 (l.map kt) i s)):=by
 unfold IL;simp
theorem A7l (ht:IsS Ap t l):GOK Xa (G q) 24 (IL l t):=λargs r h=>by
 unfold IL at h;split at h
 .split at h
  .rename_i hc;obtain⟨rfl,h0⟩:=hc;injection h with h;subst h;obtain⟨n,rfl⟩:=Xo h0;exact A7k ht _
  .cases h
 .cases h
noncomputable def AZ (l:List Tok) (t:T):Tbl:=(24,IL l t)::AW l t
theorem JK (ht:IsS Ap t l):A5 Xa (G q) (AZ l t):=.cons (A7l ht) (iM ht)
theorem Ox (ht:IsS Ap t l):Ctx Xa (G q) (orc (AZ l t)):=(JK ht).ctx mixed
end
section
variable {t : T} {l : List Tok} {i : Nat}
theorem tsC (a b:ByteArray):IW JF 2 [.string ⟨#[]⟩,.string ⟨#[]⟩] 1 [(0,.t (.ag [sv a,sv b]))]=some (.t (.sl 1 [sv a,sv b])):=rfl
theorem bdA (Φ:AC) (H:Ab) (nx:Nat) (k:Int):Ah Φ H nx (.build [(0,1),(1,1)] [.int .i64 0,.slice none 0 0] [0]) [.t (iv k)]=some (.t (.ag [iv k,Ad]),H,nx):=rfl
structure WaC where
 H:Ab
 nx:Nat
 i:Nat
 b:Nat
 out:List (ByteArray×ByteArray)
 m:Nat
def SWa (t:T) (c:WaC):Ac:=⟨[(7,.ptr 1 0),(4,.ptr 0 0),(1,.t (iv (c.i:Int))),(0,.t t)],c.H,c.nx,76⟩
structure WaI (kd:Int) (c:WaC):Prop where
 z:Aa c.H 0=some (.cells Bp (zAf.map .t))
 a:Aa c.H 1=some (.cells Bp [.t (iv kd),rowP eFt c.b c.out])
 row:Ar eFt JF c.H c.b c.out
 b:c.b<c.nx
 b1:c.out≠[]->2<=c.b
 n:2<=c.nx
structure KdI (L:List KT) (j k:Nat):Prop where
 a:1<=k
 b:k<=3
 c:2<=k->Cq L (j+1) 3=true
 d:3<=k->Cq L (j+2) 3=true
theorem A7m:Xc.wrap 2=2:=AH (n:=2) rfl (by omega)
theorem A7n:Xc.wrap 3=3:=AH (n:=3) rfl (by omega)
theorem A7o (ht:IsS Ap t l) (hlim:l.length<=1000000) (hi:i<=l.length):AA Xa (G q) 12 [t,iv (i:Int)] (· = JE (Dz (l.map kt) i)):=by
 obtain⟨Z,hZ⟩:∃Z,Z=Dz (l.map kt) i:=⟨_,rfl⟩
 rw[<-hZ];have CW:=Ox (q:=q) ht;have g1:IL l t [t,iv (i:Int),sv ⟨#[110,111,110,101]⟩]=_:=Qx (l:=l) (t:=t) (i:=i) _;have g2:IL l t [t,iv (i:Int),sv ⟨#[115,117,102,102,105,120]⟩]=_:=Qx (l:=l) (t:=t) (i:=i) _;have g3:IL l t [t,iv (i:Int),sv ⟨#[112,114,101,102,105,120]⟩]=_:=Qx (l:=l) (t:=t) (i:=i) _;have gw:Ck l t [t,iv (i:Int)]=_:=DK (l:=l) (t:=t) (i:=i)
 have fin:∀(Hx:Ab) (ds:List T),ds.length=2->Aa Hx 0=some (.cells Bp (zAf.map .t))->∃Hy,A8 2 Hx (.ptr 0 0) (.t (.ag ds))=some Hy/\Ao true 2 Hy (.ptr 0 0)=some (.t (.ag ds)):=λHx ds hd hx=>by
  refine⟨_,Hu hx rfl hd,ldN (ty:=Bp) (ds:=ds) ?_ hd⟩;rw[A9,zy rfl,hx];rfl
 refine Hn (args:=[t,iv (i:Int)]) ?_;refine qV.callX rfl ?_;(conv in XK=>cbv);refine Ai Af ?_;simp -implicitDefEqProofs
 obtain⟨H0,hH0⟩:∃H0:Ab,H0=[(0,.cells Bp (zAf.map .t))]:=⟨_,rfl⟩
 have z0:Aa H0 0=some (.cells Bp (zAf.map .t)):=by rw[hH0];rfl
 refine B9 (s':=⟨[(4,.ptr 0 0),(1,.t (iv (i:Int))),(0,.t t)],H0,1,76⟩) (by rw[hH0];exact sub_env (by simp -implicitDefEqProofs)) rfl ?_;have ei:Xc.wrap ((i:Int)+1)=(i:Int)+1:=AH (n:=i+1) rfl (by omega);unfold Dz at hZ
 cases hn:F6 (l.map kt) i ⟨#[110,111,110,101]⟩with
 | true=>
  rw[hn]at g1
  have hz:Z = .ok (⟨0,[]⟩,i+1):=by
   unfold F6 at hn
   cases htk:AE (l.map kt) i 1 with
   | error e=>rw[htk]at hn;cases hn
   | ok x=>
    obtain⟨x,p1⟩:=x;rw[htk]at hn hZ;simp only at hn hZ;have hx:=of_decide_eq_true hn;rw[hZ,zy hx];unfold AE at htk;split at htk
    .cases htk
    .split at htk
     .injection htk with htk;injection htk with _ htk;rw[htk]
     .cases htk
  obtain⟨Hy,sy,ly⟩:=fin H0 [iv 0,Ad] rfl z0;refine Ai CW ?_;simp -implicitDefEqProofs [AZ,g1,bdA,ei,sy,-AF];exact A6 ⟨.t (.tu [.ag [iv 0,Ad],iv ((i:Int)+1),iv 0]),Hy,1⟩ ⟨by rw[hz];rfl⟩ (by simp -implicitDefEqProofs [ly])
 | false=>
 rw[hn]at g1;refine Ai CW ?_;simp -implicitDefEqProofs [AZ,g1]
 obtain⟨w2,hw2⟩:∃w,w=F6 (l.map kt) i ⟨#[115,117,102,102,105,120]⟩:=⟨_,rfl⟩
 obtain⟨w3,hw3⟩:∃w,w=F6 (l.map kt) i ⟨#[112,114,101,102,105,120]⟩:=⟨_,rfl⟩
 rw[<-hw2]at g2;rw[<-hw3]at g3
 have hcase:(w2=false/\w3=false/\Z = .error (Bi (l.map kt) i))\/(w2=true/\w3=false/\Z=Fc (l.map kt) 1 (i+1)/\i<l.length)\/(w2=false/\w3=true/\Z=Fc (l.map kt) 2 (i+1)/\i<l.length):=by
  unfold F6 at hn hw2 hw3;rcases Fj (l:=l) (i:=i) ht 1 with⟨hk,x,r,htk,hjl,hia⟩ | ⟨hk,htk,hw⟩
  .rw[htk]at hn hw2 hw3 hZ;simp only at hn hw2 hw3 hZ;rw[zz (of_decide_eq_false hn)]at hZ
   by_cases h2:x=⟨#[115,117,102,102,105,120]⟩
   .rw[zy h2]at hZ;exact .inr (.inl ⟨by rw[hw2];exact zw h2,by rw[hw3,h2];rfl,hZ,hjl⟩)
   .rw[zz h2]at hZ
    by_cases h3:x=⟨#[112,114,101,102,105,120]⟩
    .rw[zy h3]at hZ;exact .inr (.inr ⟨by rw[hw2];exact zx h2,by rw[hw3];exact zw h3,hZ,hjl⟩)
    .rw[zz h3]at hZ;refine .inl ⟨by rw[hw2];exact zx h2,by rw[hw3];exact zx h3,?_⟩;rw[hZ];unfold Bi;rw[zz (by rw[Xb];omega)]
  .rw[htk]at hw2 hw3 hZ;exact .inl ⟨hw2,hw3,hZ⟩
 obtain⟨Hk,hHk⟩:∃Hk:Int->Ab,Hk=λk=>(1,.cells Bp ([iv k,Ad].map .t))::H0:=⟨_,rfl⟩
 have s1:A8 2 ((1,.cells Bp [.t (iv 0),.t Ad])::H0) (.ptr 1 0) (.t (.ag [iv 1,Ad]))=some (Hk 1):=by
  rw[hHk];exact Fg (zs:=[.t (iv 0),.t Ad]) (ds:=[iv 1,Ad]) (n:=2) rfl rfl H0
 have s2:A8 1 (Hk 1) (.ptr 1 0) (.t (iv 2))=some (Hk 2):=by
  have h1:=Em (H:=Hk 1) (b:=1) (n:=1) (o:=0) (ns:=[.t (iv 2)]) (t:=.t (iv 2)) (ty:=Bp) (cs:=[iv 1,Ad].map .t) (by rw[hHk];rfl) rfl rfl (by show 0+1<=2;omega);rw[h1,hHk];rfl
 refine D5 (λ_:Bool=>⟨[(4,.ptr 0 0),(1,.t (iv (i:Int))),(0,.t t)],H0,1,76⟩) (λb=>w3=b/\Z=Fc (l.map kt) (if b then 2 else 1) (i+1)/\i<l.length) (λ_=>rfl) ?_ ?_
 .rcases hcase with⟨rfl,rfl,hz⟩ | ⟨rfl,rfl,hz,hl⟩ | ⟨rfl,rfl,hz,hl⟩
  .obtain⟨Hy,sy,ly⟩:=fin H0 zAf rfl z0;refine A7 CW ?_;simp -implicitDefEqProofs [AZ,AW,g2,g3,gw,KU,sy,-AF];exact A6 ⟨.t (.tu [.ag zAf,iv 0,iv (Bi (l.map kt) i)]),Hy,1⟩ ⟨by rw[hz];rfl⟩ (by simp -implicitDefEqProofs [ly])
  .refine A7 CW ?_;simp -implicitDefEqProofs [AZ,g2,g3];exact Aq.mk false ⟨rfl,hz,hl⟩ (sub_env (by simp -implicitDefEqProofs))
  .refine A7 CW ?_;simp -implicitDefEqProofs [AZ,g2,g3];exact Aq.mk true ⟨rfl,hz,hl⟩ (sub_env (by simp -implicitDefEqProofs))
 clear hcase hw2 hw3;rintro b ⟨rfl,hz,hl⟩;refine Ai Af ?_;simp -implicitDefEqProofs [bdA,s1,-AF];refine D5 (λk:Int=>⟨[(7,.ptr 1 0),(4,.ptr 0 0),(1,.t (iv (i:Int))),(0,.t t)],Hk k,2,76⟩) (λk=>Z=Fc (l.map kt) k (i+1)/\i<l.length) (λ_=>rfl) ?_ ?_
 .refine A7 CW ?_
  cases w3 with
  | false=>
   simp -implicitDefEqProofs [AZ,g3];exact Aq.mk (1:Int) ⟨hz,hl⟩ (sub_env (by simp -implicitDefEqProofs))
  | true=>
   simp -implicitDefEqProofs [AZ,g3,s2];exact Aq.mk (2:Int) ⟨hz,hl⟩ (sub_env (by simp -implicitDefEqProofs))
 rintro kd ⟨hZk,hil⟩
 obtain⟨Y,hY⟩:∃Y,Y=Jt (l.map kt) (i+1):=⟨_,rfl⟩
 unfold Fc at hZk;rw[<-hY]at hZk;unfold Jt at hY
 have I0:WaI kd ⟨Hk kd,2,i,0,[],(l.map kt).length+1⟩:=⟨by rw[hHk];exact z0,by rw[hHk];rfl,.inl rfl,by show 0<2;omega,λh=>absurd rfl h,Xh _⟩
 refine B9 (s':=SWa t ⟨Hk kd,2,i,0,[],(l.map kt).length+1⟩) (sub_env (by simp -implicitDefEqProofs [SWa])) rfl ?_;refine CQ ?_
 refine FN (SWa t) (λc=>c.m) (λc=>Y=Cb (l.map kt) (Eo (l.map kt)) [44] 1000000000 c.m (c.i+1) c.out/\l.length<c.i+1+c.m/\c.out.length<=c.i/\c.i<l.length/\WaI kd c) ⟨Hk kd,2,i,0,[],(l.map kt).length+1⟩ (λ_=>rfl)
  ⟨hY,by show l.length<i+1+((l.map kt).length+1);rw[Xb];omega,Xi _,hil,I0⟩ (Sub.refl _) rfl ?_
 clear I0 g1 g2 g3 gw s1 s2 hz hHk hH0 z0 hn hY ei;rintro⟨Hc,nc,j,b,out,m⟩ ⟨hz,hm,ho,hj,I⟩;simp only at hz hm ho hj
 obtain⟨m,rfl⟩:∃m',m=m'+1:=⟨m-1,by omega⟩
 rw[Cb]at hz;obtain⟨i1,i2,i3,i4,i5,i6⟩:=I;simp only at i1 i2 i3 i4 i5 i6;have e1:Xc.wrap ((j:Int)+1)=(j:Int)+1:=AH (n:=j+1) (by omega) (by omega);have e2:Xc.wrap ((j:Int)+2)=(j:Int)+2:=AH (n:=j+2) (by omega) (by omega);have e3:Xc.wrap ((j:Int)+3)=(j:Int)+3:=AH (n:=j+3) (by omega) (by omega);have gk1:CT l t [t,iv ((j:Int)+1),iv 3]=_:=E6 (l:=l) (t:=t) (i:=j+1) 3;have gk2:CT l t [t,iv ((j:Int)+2),iv 3]=_:=E6 (l:=l) (t:=t) (i:=j+2) 3;have gw1:Ck l t [t,iv ((j:Int)+1)]=_:=DK (l:=l) (t:=t) (i:=j+1);have gw2:Ck l t [t,iv ((j:Int)+2)]=_:=DK (l:=l) (t:=t) (i:=j+2);refine CQ ?_;refine D5 (λ_:Unit=>⟨[(7,.ptr 1 0),(4,.ptr 0 0),(1,.t (iv (j:Int))),(0,.t t)],Hc,nc,76⟩) (λ_=>Cq (l.map kt) (j+1) 3=true/\Cq (l.map kt) (j+2) 3=true) (λ_=>rfl) ?_ ?_
 .refine Ai Af ?_;simp -implicitDefEqProofs [SWa];refine CQ ?_
  refine FN (λk:Nat=>⟨[(8,.t (iv (k:Int))),(7,.ptr 1 0),(4,.ptr 0 0),(1,.t (iv (j:Int))),(0,.t t)],Hc,nc,76⟩) (λk=>3-k) (λk=>KdI (l.map kt) j k) 1 (λ_=>rfl)
   ⟨Xh _,by omega,λh=>by omega,λh=>by omega⟩ (sub_env (by simp -implicitDefEqProofs)) rfl ?_
  rintro k ⟨k1,k3,hk1,hk2⟩
  have hk:k=1\/k=2\/k=3:=by omega
  obtain⟨Hy,sy,ly⟩:=fin Hc zAf rfl i1;rcases hk with rfl | rfl | rfl
  .refine Ai Af ?_;simp -implicitDefEqProofs
   cases hq:Cq (l.map kt) (j+1) 3 with
   | true=>
    rw[hq]at gk1;refine A7 CW ?_;simp -implicitDefEqProofs [AZ,AW,e1,gk1,A7m];exact Aq.mk 2 ⟨⟨by omega,by omega,λ_=>hq,λh=>by omega⟩,by omega⟩ (sub_env (by simp -implicitDefEqProofs))
   | false=>
    have hc:Eo (l.map kt) (j+1) = .error (Bi (l.map kt) (j+1)):=by unfold Eo;rw[PP hq]
    rw[hc]at hz;rw[hq]at gk1;refine A7 CW ?_;simp -implicitDefEqProofs [AZ,AW,e1,gk1,gw1,KU,sy,-AF];exact A6 ⟨.t (.tu [.ag zAf,iv 0,iv (Bi (l.map kt) (j+1))]),Hy,nc⟩ ⟨by rw[hZk,hz];rfl⟩ (by simp -implicitDefEqProofs [ly])
  .refine Ai Af ?_;simp -implicitDefEqProofs
   cases hq:Cq (l.map kt) (j+2) 3 with
   | true=>
    rw[hq]at gk2;refine A7 CW ?_;simp -implicitDefEqProofs [AZ,AW,e2,gk2,A7n];exact Aq.mk 3 ⟨⟨by omega,by omega,λ_=>hk1 (by omega),λ_=>hq⟩,by omega⟩ (sub_env (by simp -implicitDefEqProofs))
   | false=>
    have hc:Eo (l.map kt) (j+1) = .error (Bi (l.map kt) (j+2)):=by
     rcases Fj (l:=l) (i:=j+1) ht 3 with⟨_,s,r,htk,_,_⟩ | ⟨hk,_,_⟩
     .unfold Eo;rw[htk];simp only;rw[PP hq]
     .rw[hk1 (by omega)]at hk;cases hk
    rw[hc]at hz;rw[hq]at gk2;refine A7 CW ?_;simp -implicitDefEqProofs [AZ,AW,e2,gk2,gw2,KU,sy,-AF];exact A6 ⟨.t (.tu [.ag zAf,iv 0,iv (Bi (l.map kt) (j+2))]),Hy,nc⟩ ⟨by rw[hZk,hz];rfl⟩ (by simp -implicitDefEqProofs [ly])
  .refine Ai Af ?_;simp -implicitDefEqProofs;exact Aq.mk () ⟨hk1 (by omega),hk2 (by omega)⟩ (sub_env (by simp -implicitDefEqProofs))
 rintro _ ⟨hk1,hk2⟩;rcases Fj (l:=l) (i:=j+1) ht 3 with⟨_,s,r,htk,hjl,hia⟩ | ⟨hk,_,_⟩
 rotate_left
 .rw[hk1]at hk;cases hk
 rcases Fj (l:=l) (i:=j+2) ht 3 with⟨_,v,r2,htk2,hjl2,hia2⟩ | ⟨hk,_,_⟩
 rotate_left
 .rw[hk2]at hk;cases hk
 have hc:Eo (l.map kt) (j+1) = .ok ((s,v),j+3):=by unfold Eo;rw[htk];simp only;rw[htk2]
 rw[hc]at hz;simp only at hz;have hia:Bm 3 (.t t) (.t (.v (.int .i64 ((j:Int)+1))))=some (.t (.pt (iv 3::sv s::r))):=hia;have hia2:Bm 3 (.t t) (.t (.v (.int .i64 ((j:Int)+2))))=some (.t (.pt (iv 3::sv v::r2))):=hia2;obtain⟨H2,ap,row2,k2,f2,c2⟩:=cY (e:=eFt) (ty:=JF) (by':=32) (nx:=nc) (s,v) 2 rfl [sv s,sv v] rfl i3 (λ_=>i4) (by omega) (by omega)
 obtain⟨out',hout'⟩:∃out',out'=out++[(s,v)]:=⟨_,rfl⟩
 have ol:out'.length=out.length+1:=by rw[hout',Xg];rfl
 have on:out'≠[]:=by rw[hout'];simp
 rw[<-hout']at ap row2 hz
 have l1:Ao false 1 Hc (.ptr 1 1)=some (rowP eFt b out):=by simp only[Ao,i2,Xt,if_false];rfl
 have a2:Aa H2 1=some (.cells Bp [.t (iv kd),rowP eFt b out]):=by rw[k2 1 (by omega) (λh=>by have:=i5 h;omega)];exact i2
 have z2:Aa H2 0=some (.cells Bp (zAf.map .t)):=by rw[k2 0 (by omega) (λh=>by have:=i5 h;omega)];exact i1
 have cp:B7 (rowP eFt nc out')=some [rowP eFt nc out']:=by cases out'<;>rfl
 have s3:=Em (n:=1) (o:=1) a2 cp rfl (by show 1+1<=2;omega)
 have a3:Aa (Xe H2 1 (.cells Bp [.t (iv kd),rowP eFt nc out'])) 1=some (.cells Bp [.t (iv kd),rowP eFt nc out']):=by rw[A9,zy rfl,a2];rfl
 have z3:Aa (Xe H2 1 (.cells Bp [.t (iv kd),rowP eFt nc out'])) 0=some (.cells Bp (zAf.map .t)):=by rw[A9,zz (by omega)];exact z2
 have row3:Ar eFt JF (Xe H2 1 (.cells Bp [.t (iv kd),rowP eFt nc out'])) nc out':=row2.imp id λe=>by rw[A9,zz (by omega)];exact e
 rw[show Bj [PV.t (iv kd),rowP eFt b out] 1 [rowP eFt nc out']=[.t (iv kd),rowP eFt nc out']from rfl]at s3
 obtain⟨H3,hH3⟩:∃H3,H3=Xe H2 1 (.cells Bp [.t (iv kd),rowP eFt nc out']):=⟨_,rfl⟩
 rw[<-hH3]at s3 a3 z3 row3;have gi:Cj l t [t,iv ((j:Int)+3),sv ⟨#[44]⟩]=_:=EM (l:=l) (t:=t) (i:=j+3) ⟨#[44]⟩;rw[show(⟨#[44]⟩:ByteArray).data.toList=[44]from rfl]at gi;refine Ai Af ?_;simp -implicitDefEqProofs [l1,e1,e2,hia,hia2,BJ,bq2,tsC,ap,s3,-AF,-Ja];refine Ai Af ?_;simp -implicitDefEqProofs [e3]
 cases hs:Au (l.map kt) (j+3) [44]with
 | false=>
  rw[hs]at gi;rw[hs,zz (by decide)]at hz
  have a4:Aa (B8 H3 [nc]) 1=some (.cells Bp ([iv kd,Am eFt out'].map .t)):=by
   rw[LU (by simp;omega) a3];simp only[Cy,X2,X3];rw[Hh row3 (Xj.2 rfl)];rfl
  have z4:Aa (B8 H3 [nc]) 0=some (.cells Bp (zAf.map .t)):=by
   rw[LU (by simp;omega) z3];rfl
  refine B9 (s':=⟨[(7,.ptr 1 0),(4,.ptr 0 0),(1,.t (iv ((j:Int)+3))),(0,.t t)],B8 H3 [nc],nc+1,76⟩) (EG [nc] (by simp -implicitDefEqProofs [Gh,Il])) rfl ?_
  obtain⟨H4,hH4⟩:∃H4,H4=B8 H3 [nc]:=⟨_,rfl⟩
  rw[<-hH4]at a4 z4 ⊢;have ld:=ldN (n:=2) a4 rfl;obtain⟨Hy,sy,ly⟩:=fin H4 [iv kd,Am eFt out'] rfl z4;refine A7 CW ?_;simp -implicitDefEqProofs [AZ,AW,gi,ld,sy];exact A6 ⟨.t (.tu [.ag [iv kd,Am eFt out'],iv ((j:Int)+3),iv 0]),Hy,nc+1⟩ ⟨by rw[hZk,hz];rfl⟩ (by simp -implicitDefEqProofs [ly])
 | true=>
  have lj:=Bo hs;rw[Xb]at lj;rw[hs,zy rfl,zz (by omega)]at hz;rw[hs]at gi;refine A7 CW ?_;simp -implicitDefEqProofs [AZ,AW,gi];exact Aq.mk ⟨H3,nc+1,j+3,nc,out',m⟩ ⟨⟨hz,by show l.length<j+3+1+m;omega,by show out'.length<=j+3;omega,lj,⟨z3,a3,row3,by show nc<nc+1;omega,λ_=>i6,by show 2<=nc+1;omega⟩⟩,Xf m⟩ (sub_env (by simp -implicitDefEqProofs [SWa]))
end
abbrev DP:Nat:=112
abbrev zT3:List T:=[sv ⟨#[]⟩,Ad,Ad]
theorem TP (Φ:AC) (H:Ab) (nx:Nat):Ah Φ H nx (.build [(0,1),(1,1),(2,1)] [.string ⟨#[]⟩,.slice none 0 0,.slice none 0 0] []) []=some (.t (.ag zT3),H,nx):=rfl
theorem A7p (Φ:AC) (H:Ab) (nx:Nat) (a:ByteArray):Ah Φ H nx (.build [(0,1),(1,1),(2,1)] [.string ⟨#[]⟩,.slice none 0 0,.slice none 0 0] [0]) [.t (sv a)]=some (.t (.ag [sv a,Ad,Ad]),H,nx):=rfl
theorem TQ {α:Type} (z:T) (g:α->T) (x:α) (p:Nat):r3 z g (.ok (x,p)) = .tu [g x,iv (p:Int),iv 0]:=rfl
theorem TR {α:Type} (z:T) (g:α->T) (e:Int):r3 z g (.error e) = .tu [z,iv 0,iv e]:=rfl
theorem IM {n ty:Nat} {zs:List T} {Hx:Ab} {ds:List T} (hz:Aa Hx 0=some (.cells ty (zs.map .t))) (h1:zs.length=n) (h2:ds.length=n):∃Hy,A8 n Hx (.ptr 0 0) (.t (.ag ds))=some Hy/\Ao true n Hy (.ptr 0 0)=some (.t (.ag ds)):=by
 refine⟨_,Hu hz h1 h2,ldN (ty:=ty) (ds:=ds) ?_ h2⟩;rw[A9,zy rfl,hz];rfl
section
variable {t : T} {l : List Tok} {i : Nat}
def Fk (t:T) (H0:Ab) (c:List T×Nat):Ac:=⟨[(7,.ptr 1 0),(4,.ptr 0 0),(1,.t (iv (c.2:Int))),(0,.t t)],(1,.cells DP (c.1.map .t))::H0,2,68⟩
structure DcI (l:List Tok) (Z:Res TyD) (name:ByteArray) (c:List T×Nat):Prop where
 p:c.2<=l.length
 s:∃su,c.1=[sv name,Am Aj su,Ad]/\Z=match Cf (l.map kt) [58] (EI (l.map kt)) c.2 with
  | .error e=>.error e
  | .ok (fe,p2)=>.ok (⟨name,su,fe⟩,p2)
structure DcJ (Z:Res TyD) (c:List T×Nat):Prop where
 s:∃d:TyD,c.1=d.cs/\Z = .ok (d,c.2)
theorem A7q (ht:IsS Ap t l) (hlim:l.length<=1000000) (hi:i<=l.length):AA Xa (G q) 101 [t,iv (i:Int)] (· = r3 (.ag zT3) (λd:TyD=>.ag d.cs) (FU (l.map kt) i)):=by
 obtain⟨Z,hZ⟩:∃Z,Z=FU (l.map kt) i:=⟨_,rfl⟩
 rw[<-hZ];have CW:=Ox (q:=q) ht;have gk:CT l t [t,iv (i:Int),iv 1]=_:=E6 (l:=l) (t:=t) (i:=i) 1;have gw:Ck l t [t,iv (i:Int)]=_:=DK (l:=l) (t:=t) (i:=i);refine Hn (args:=[t,iv (i:Int)]) ?_;refine rI.callX rfl ?_;(conv in XV=>cbv);refine Ai Af ?_;simp -implicitDefEqProofs
 obtain⟨H0,hH0⟩:∃H0:Ab,H0=[(0,.cells DP (zT3.map .t))]:=⟨_,rfl⟩
 have z0:Aa H0 0=some (.cells DP (zT3.map .t)):=by rw[hH0];rfl
 have z1:∀x,Aa ((1,x)::H0) 0=some (.cells DP (zT3.map .t)):=λx=>z0;refine B9 (s':=⟨[(4,.ptr 0 0),(1,.t (iv (i:Int))),(0,.t t)],H0,1,68⟩) (by rw[hH0];exact sub_env (by simp -implicitDefEqProofs)) rfl ?_;clear hH0;unfold FU at hZ;refine Ai CW ?_;rcases Fj (l:=l) (i:=i) ht 1 with⟨hk,name,r,htk,hjl,hia⟩ | ⟨hk,htk,hw⟩
 rotate_left
 .rw[htk]at hZ;rw[hk]at gk;obtain⟨Hy,sy,ly⟩:=IM (n:=3) (ds:=zT3) z0 rfl rfl;simp -implicitDefEqProofs [AZ,AW,gk,gw,TP,sy,-AF];exact A6 ⟨.t (.tu [.ag zT3,iv 0,iv (Bi (l.map kt) i)]),Hy,1⟩ ⟨by rw[hZ];rfl⟩ (by simp -implicitDefEqProofs [ly])
 rw[htk]at hZ;simp only at hZ;unfold FJ at hZ;rw[hk]at gk;simp -implicitDefEqProofs [AZ,AW,gk]
 have st1:A8 3 ((1,.cells DP [.t (sv ⟨#[]⟩),.t Ad,.t Ad])::H0) (.ptr 1 0) (.t (.ag [sv name,Ad,Ad]))=some ((1,.cells DP ([sv name,Ad,Ad].map .t))::H0):=
  Fg (zs:=[.t (sv ⟨#[]⟩),.t Ad,.t Ad]) (ds:=[sv name,Ad,Ad]) (n:=3) rfl rfl H0
 have ei:Xc.wrap ((i:Int)+1)=(i:Int)+1:=AH (n:=i+1) rfl (by omega);refine Ai Af ?_;simp -implicitDefEqProofs [hia,BJ,A7p,st1,-AF];refine Ai Af ?_;simp -implicitDefEqProofs [ei];refine B9 (s':=Fk t H0 ([sv name,Ad,Ad],i+1)) (sub_env (by simp -implicitDefEqProofs [Fk])) rfl ?_;refine D5 (Fk t H0) (DcI l Z name) (λ_=>rfl) ?_ ?_
 .have gi:Cj l t [t,iv ((i:Int)+1),sv ⟨#[60]⟩]=_:=EM (l:=l) (t:=t) (i:=i+1) ⟨#[60]⟩;rw[show(⟨#[60]⟩:ByteArray).data.toList=[60]from rfl]at gi
  cases hs:Au (l.map kt) (i+1) [60]with
  | false=>
   have ho:Cf (l.map kt) [60] (Fb (l.map kt)) (i+1) = .ok ([],i+1):=by unfold Cf;rw[hs];rfl
   rw[ho]at hZ;rw[hs]at gi;refine A7 CW ?_;simp -implicitDefEqProofs [Fk,AZ,AW,gi];exact Aq.mk ([sv name,Ad,Ad],i+1) ⟨by show i+1<=l.length;omega,[],rfl,hZ⟩ (sub_env (by simp -implicitDefEqProofs [Fk]))
  | true=>
   have ho:Cf (l.map kt) [60] (Fb (l.map kt)) (i+1)=Fb (l.map kt) (i+2):=by unfold Cf;rw[hs];rfl
   have lj:=Bo hs;rw[Xb]at lj;rw[ho]at hZ;rw[hs]at gi;have e2:Xc.wrap ((i:Int)+1+1)=(i:Int)+2:=AH (n:=i+2) (by omega) (by omega);have hc:=A7b (q:=q) (i:=i+2) ht hlim (by omega);have gs:=FR [t,iv ((i+2:Nat):Int)] (r3 Ad (Am Aj) (Fb (l.map kt) (i+2)));have CS:Ctx Xa (G q) (orc ((119,D8 [t,iv ((i+2:Nat):Int)] (r3 Ad (Am Aj) (Fb (l.map kt) (i+2))))::AZ l t)):=(A5.cons (FS hc) (JK ht)).ctx mixed;rw[show((i+2:Nat):Int)=(i:Int)+2 from rfl]at CS gs
   cases hn:Fb (l.map kt) (i+2)with
   | error e=>
    have he:=iN hn (by rw[Xb];omega)
    have hb:(e != 0)=true:=by rw[bne_iff_ne];exact he
    rw[hn]at hZ gs CS;rw[TR]at gs CS;obtain⟨Hy,sy,ly⟩:=IM (n:=3) (ds:=zT3) (z1 (.cells DP [.t (sv name),.t Ad,.t Ad])) rfl rfl;refine A7 CS ?_;simp -implicitDefEqProofs [Fk,AZ,AW,gi,e2,gs,hb,TP,sy,-AF];exact A6 ⟨.t (.tu [.ag zT3,iv 0,iv e]),Hy,2⟩ ⟨by rw[hZ];rfl⟩ (by simp -implicitDefEqProofs [ly])
   | ok x=>
    obtain⟨su,p1⟩:=x;rw[hn]at hZ gs CS;rw[TQ]at gs CS;have hp:=dS _ _ _ hn;rw[Xb]at hp
    obtain⟨S,hS⟩:∃S,S=Am Aj su:=⟨_,rfl⟩
    rw[<-hS]at gs CS
    have s5:A8 1 ((1,.cells DP [.t (sv name),.t Ad,.t Ad])::H0) (.ptr 1 1) (.t S)=some ((1,.cells DP [.t (sv name),.t S,.t Ad])::H0):=by rw[hS];cases su<;>rfl
    refine A7 CS ?_;simp -implicitDefEqProofs [Fk,AZ,AW,gi,e2,gs,s5];exact Aq.mk ([sv name,S,Ad],p1) ⟨by show p1<=l.length;omega,su,by rw[hS],hZ⟩ (sub_env (by simp -implicitDefEqProofs [Fk]))
 rintro⟨cs,p⟩ ⟨hp,su,hcs,hz⟩;simp only at hp hcs hz;subst hcs
 obtain⟨S,hS⟩:∃S,S=Am Aj su:=⟨_,rfl⟩
 rw[<-hS];refine D5 (Fk t H0) (DcJ Z) (λ_=>rfl) ?_ ?_
 .have gi:Cj l t [t,iv (p:Int),sv ⟨#[58]⟩]=_:=EM (l:=l) (t:=t) (i:=p) ⟨#[58]⟩;rw[show(⟨#[58]⟩:ByteArray).data.toList=[58]from rfl]at gi
  cases hs:Au (l.map kt) p [58]with
  | false=>
   have ho:Cf (l.map kt) [58] (EI (l.map kt)) p = .ok ([],p):=by unfold Cf;rw[hs];rfl
   rw[ho]at hz;rw[hs]at gi;refine A7 CW ?_;simp -implicitDefEqProofs [Fk,AZ,AW,gi];exact Aq.mk ([sv name,S,Ad],p) ⟨⟨name,su,[]⟩,by rw[hS];rfl,hz⟩ (sub_env (by simp -implicitDefEqProofs [Fk]))
  | true=>
   have ho:Cf (l.map kt) [58] (EI (l.map kt)) p=EI (l.map kt) (p+1):=by unfold Cf;rw[hs];rfl
   have lj:=Bo hs;rw[Xb]at lj;rw[ho]at hz;rw[hs]at gi;have e2:Xc.wrap ((p:Int)+1)=(p:Int)+1:=AH (n:=p+1) rfl (by omega);have hc:=A7d (q:=q) (i:=p+1) ht hlim (by omega);have gs:=FR [t,iv ((p+1:Nat):Int)] (r3 Ad (Am eFt) (EI (l.map kt) (p+1)));have CS:Ctx Xa (G q) (orc ((120,D8 [t,iv ((p+1:Nat):Int)] (r3 Ad (Am eFt) (EI (l.map kt) (p+1))))::AZ l t)):=(A5.cons (FS hc) (JK ht)).ctx mixed;rw[show((p+1:Nat):Int)=(p:Int)+1 from rfl]at CS gs
   cases hn:EI (l.map kt) (p+1)with
   | error e=>
    have he:=iO hn (by rw[Xb];omega)
    have hb:(e != 0)=true:=by rw[bne_iff_ne];exact he
    rw[hn]at hz gs CS;rw[TR]at gs CS;obtain⟨Hy,sy,ly⟩:=IM (n:=3) (ds:=zT3) (z1 (.cells DP [.t (sv name),.t S,.t Ad])) rfl rfl;refine A7 CS ?_;simp -implicitDefEqProofs [Fk,AZ,AW,gi,e2,gs,hb,TP,sy,-AF];exact A6 ⟨.t (.tu [.ag zT3,iv 0,iv e]),Hy,2⟩ ⟨by rw[hz];rfl⟩ (by simp -implicitDefEqProofs [ly])
   | ok x=>
    obtain⟨fe,p1⟩:=x;rw[hn]at hz gs CS;rw[TQ]at gs CS
    obtain⟨E,hE⟩:∃E,E=Am eFt fe:=⟨_,rfl⟩
    rw[<-hE]at gs CS
    have s5:A8 1 ((1,.cells DP [.t (sv name),.t S,.t Ad])::H0) (.ptr 1 2) (.t E)=some ((1,.cells DP [.t (sv name),.t S,.t E])::H0):=by rw[hE];cases fe<;>rfl
    refine A7 CS ?_;simp -implicitDefEqProofs [Fk,AZ,AW,gi,e2,gs,s5];exact Aq.mk ([sv name,S,E],p1) ⟨⟨name,su,fe⟩,by rw[hS,hE];rfl,hz⟩ (sub_env (by simp -implicitDefEqProofs [Fk]))
 rintro⟨cs,p1⟩ ⟨d,hcs,hz⟩;simp only at hcs hz
 have hl:cs.length=3:=by rw[hcs];rfl
 obtain⟨Hy,sy,ly⟩:=IM (n:=3) (ds:=cs) (z1 (.cells DP (cs.map .t))) rfl hl;have lD:Ao true 3 ((1,.cells DP (cs.map .t))::H0) (.ptr 1 0)=some (.t (.ag cs)):=ldN (by rw[A1,zy rfl]) hl
 obtain⟨X,hX⟩:∃X,X=Row.cells DP (cs.map .t):=⟨_,rfl⟩
 rw[<-hX]at sy lD;unfold Fk;simp only;rw[<-hX];refine A7 Af ?_;simp -implicitDefEqProofs [lD,sy];exact A6 ⟨.t (.tu [.ag cs,iv (p1:Int),iv 0]),Hy,2⟩ ⟨by rw[hz,hcs];rfl⟩ (by simp -implicitDefEqProofs [ly])
end
def HG (L:List KT) (m p:Nat) (out:List Ds):Res (List Ds):=if Au L p [47]then(if 256<=out.length then .error 7 else Cb L (As L 64) [47] 256 m (p+1) out)else .ok (out,p)
theorem A7r (L:List KT) (p:Nat):Cf L [47] (Kw L) p=HG L (L.length+1) p []:=by
 unfold Cf HG Kw;cases Au L p [47]<;>rfl
theorem A7s {L:List KT} {m p:Nat} {out:List Ds} (h:Au L p [47]=true) (h2:¬256<=out.length):HG L (m+1) p out=match As L 64 (p+1)with
  | .error e=>.error e
  | .ok (s,p1)=>HG L m p1 (out++[s]):=by
 unfold HG;rw[zy h,zz h2,Cb]
 cases As L 64 (p+1)with
 | error e=>rfl
 | ok x=>
  obtain⟨s,p1⟩:=x;simp only[Xg,X4]
theorem Qy (Φ:AC) (H:Ab) (nx:Nat):Ah Φ H nx (.build [(0,1),(1,4),(5,1)] [.string ⟨#[]⟩,.int .i64 0,.string ⟨#[]⟩,.slice none 0 0,.slice none 0 0,.slice none 0 0] []) []=some (.t (.ag zDf),H,nx):=rfl
theorem A7t (Φ:AC) (H:Ab) (nx:Nat) (a:ByteArray) (a1 a2 a3 a4:T):Ah Φ H nx (.build [(0,1),(1,4),(5,1)] [.string ⟨#[]⟩,.int .i64 0,.string ⟨#[]⟩,.slice none 0 0,.slice none 0 0,.slice none 0 0] [0,1]) [.t (sv a),.t (.ag [a1,a2,a3,a4])]=some (.t (.ag [sv a,a1,a2,a3,a4,Ad]),H,nx):=rfl
theorem A7u (n:Nat) {ds:List T} (h:ds.length=4):De 57 4 [.int .i64 0,.string ⟨#[]⟩,.slice none 0 0,.slice none 0 0] 1 [(0,.t (.ag ds))] n=some (.row n 0 1 4,.cells 57 (ds.map .t)):=by
 match ds,h with
 | [_,_,_,_],_=>rfl
section
variable {t : T} {l : List Tok} {i : Nat}
structure WdC where
 H:Ab
 nx:Nat
 i:Nat
 b:Nat
 out:List Ds
 m:Nat
def IP (t:T) (c:WdC):Ac:=⟨[(11,.ptr 2 0),(6,.ptr 0 0),(1,.t (iv (c.i:Int))),(0,.t t)],c.H,c.nx,67⟩
structure WdI (ds:List T) (c:WdC):Prop where
 z:Aa c.H 0=some (.cells BK (zDf.map .t))
 a:Aa c.H 2=some (.cells BK (ds.map .t++[rowP eD c.b c.out]))
 row:Ar eD Bu c.H c.b c.out
 b:c.b<c.nx
 b1:c.out≠[]->3<=c.b
 n:3<=c.nx
structure WdE (l:List Tok) (Z:Res Dfn) (name:ByteArray) (d:Ds) (c:WdC):Prop where
 z:Z=match HG (l.map kt) c.m c.i c.out with
  | .error e=>.error e
  | .ok (df,p3)=>.ok (⟨name,d,df⟩,p3)
 m:l.length<c.i+1+c.m
 i:c.i<=l.length
 o:c.out.length<=256
structure WdX (Z:Res Dfn) (name:ByteArray) (d:Ds) (c:WdC):Prop where
 z:Z = .ok (⟨name,d,c.out⟩,c.i)
theorem A7v (ht:IsS Ap t l) (hlim:l.length<=1000000) (hi:i<=l.length) (name:ByteArray):AA Xa (G q) 122 [t,iv (i:Int),sv name] (· = r3 (.ag zDf) (λd:Dfn=>.ag d.cs) (C4 (l.map kt) name i)):=by
 obtain⟨Z,hZ⟩:∃Z,Z=C4 (l.map kt) name i:=⟨_,rfl⟩
 rw[<-hZ];have CR:Ctx Xa (G q) (orc ((136,FQ)::AZ l t)):=(A5.cons A0l (JK ht)).ctx mixed;have gi:Cj l t [t,iv (i:Int),sv ⟨#[61]⟩]=_:=EM (l:=l) (t:=t) (i:=i) ⟨#[61]⟩;rw[show(⟨#[61]⟩:ByteArray).data.toList=[61]from rfl]at gi;have gw:Ck l t [t,iv (i:Int)]=_:=DK (l:=l) (t:=t) (i:=i);refine Hn (args:=[t,iv (i:Int),sv name]) ?_;refine rO.callX rfl ?_;(conv in YB=>cbv);refine Ai Af ?_;simp -implicitDefEqProofs
 obtain⟨H0,hH0⟩:∃H0:Ab,H0=[(0,.cells BK (zDf.map .t))]:=⟨_,rfl⟩
 have z0:Aa H0 0=some (.cells BK (zDf.map .t)):=by rw[hH0];rfl
 refine B9 (s':=⟨[(6,.ptr 0 0),(2,.t (sv name)),(1,.t (iv (i:Int))),(0,.t t)],H0,1,67⟩) (by rw[hH0];exact sub_env (by simp -implicitDefEqProofs)) rfl ?_;clear hH0;unfold C4 at hZ;obtain⟨Hy,sy,ly⟩:=IM (n:=6) (ds:=zDf) z0 rfl rfl
 cases hs:Au (l.map kt) i [61]with
 | false=>
  have hsk:Bk (l.map kt) i [61] = .error (Bi (l.map kt) i):=by
   unfold Bk Bi;by_cases h:(l.map kt).length<=i
   .rw[zy h,zy h]
   .rw[zz h,zz h,hs];rfl
  rw[hsk]at hZ;rw[hs]at gi;refine Ai CR ?_;simp -implicitDefEqProofs [AZ,AW,gi,gw,Qy,sy,-AF];exact A6 ⟨.t (.tu [.ag zDf,iv 0,iv (Bi (l.map kt) i)]),Hy,1⟩ ⟨by rw[hZ];rfl⟩ (by simp -implicitDefEqProofs [ly])
 | true=>
 have lj:=Bo hs
 have hsk:Bk (l.map kt) i [61] = .ok (i+1):=by unfold Bk;rw[zz (by omega),hs];rfl
 rw[Xb]at lj;rw[hsk]at hZ;simp only at hZ;rw[hs]at gi;have ei:Xc.wrap ((i:Int)+1)=(i:Int)+1:=AH (n:=i+1) rfl (by omega);have gr:FQ [t,iv ((i:Int)+1)]=some (BV (As (l.map kt) 64 (i+1))):=SU ht hlim (i:=i+1) (by omega);refine Ai CR ?_;simp -implicitDefEqProofs [AZ,AW,gi];have z1:∀x,Aa ((1,x)::H0) 0=some (.cells BK (zDf.map .t)):=λx=>z0;have nD:∀(n:Nat) (R:Ab) (d:Ds),A8 4 ((n,.cells Bu [.t (iv 0),.t (sv ⟨#[]⟩),.t Ad,.t Ad])::R) (.ptr n 0) (.t (.ag (A4 d)))=some ((n,.cells Bu ((A4 d).map .t))::R):=λn R d=>Fg (zs:=[.t (iv 0),.t (sv ⟨#[]⟩),.t Ad,.t Ad]) rfl (Gf d) R
 cases hd:As (l.map kt) 64 (i+1)with
 | error e=>
  rw[hd]at hZ gr;have he:=F4 64 _ _ hd
  have hb:(e != 0)=true:=by rw[bne_iff_ne];exact he
  have nz:=nD 1 H0 zDs
  obtain⟨D,hD⟩:∃D,D=A4 zDs:=⟨_,rfl⟩
  have gr:FQ [t,iv ((i:Int)+1)]=some (.tu [.ag (A4 zDs),iv 0,iv e]):=gr;rw[<-hD]at gr nz;obtain⟨Hy,sy,ly⟩:=IM (n:=6) (ds:=zDf) (z1 (.cells Bu (D.map .t))) rfl rfl;refine Ai CR ?_;simp -implicitDefEqProofs [AZ,AW,ei,gr,nz];refine Ai Af ?_;simp -implicitDefEqProofs [hb,Qy,sy,-AF];exact A6 ⟨.t (.tu [.ag zDf,iv 0,iv e]),Hy,2⟩ ⟨by rw[hZ];rfl⟩ (by simp -implicitDefEqProofs [ly])
 | ok x=>
 obtain⟨d,p1⟩:=x;rw[hd]at hZ gr;simp only at hZ;rw[A7r]at hZ;have hp1:=D2 64 _ _ _ hd;rw[Xb]at hp1;have gr:FQ [t,iv ((i:Int)+1)]=some (.tu [.ag (A4 d),iv (p1:Int),iv 0]):=gr;have nz:=nD 1 H0 d
 obtain⟨a1,a2,a3,a4,hen⟩:∃a1 a2 a3 a4,A4 d=[a1,a2,a3,a4]:=by
  cases d;rw[A4];exact⟨_,_,_,_,rfl⟩
 have hcs:∀out,Dfn.cs ⟨name,d,out⟩=[sv name,a1,a2,a3,a4,Am eD out]:=λout=>by
  unfold Dfn.cs;simp only[hen];rfl
 rw[hen]at gr nz;have nz:A8 4 ((1,.cells Bu [.t (iv 0),.t (sv ⟨#[]⟩),.t Ad,.t Ad])::H0) (.ptr 1 0) (.t (.ag [a1,a2,a3,a4]))=some ((1,.cells Bu [.t a1,.t a2,.t a3,.t a4])::H0):=nz;have l2:Ao true 4 ((1,.cells Bu [.t a1,.t a2,.t a3,.t a4])::H0) (.ptr 1 0)=some (.t (.ag [a1,a2,a3,a4])):=ldN (ds:=[a1,a2,a3,a4]) rfl rfl
 have s2:∀R:Ab,A8 6 ((2,.cells BK [.t (sv ⟨#[]⟩),.t (iv 0),.t (sv ⟨#[]⟩),.t Ad,.t Ad,.t Ad])::R) (.ptr 2 0) (.t (.ag [sv name,a1,a2,a3,a4,Ad]))=some ((2,.cells BK [.t (sv name),.t a1,.t a2,.t a3,.t a4,.t Ad])::R):=λR=>
  Fg (zs:=[.t (sv ⟨#[]⟩),.t (iv 0),.t (sv ⟨#[]⟩),.t Ad,.t Ad,.t Ad]) (ds:=[sv name,a1,a2,a3,a4,Ad]) (n:=6) rfl rfl R
 refine Ai CR ?_;simp -implicitDefEqProofs [AZ,AW,ei,gr,nz];refine Ai Af ?_;simp -implicitDefEqProofs;refine Ai Af ?_;simp -implicitDefEqProofs [l2,A7t,s2,-AF]
 obtain⟨H2,hH2⟩:∃H2:Ab,H2=(2,.cells BK [.t (sv name),.t a1,.t a2,.t a3,.t a4,.t Ad])::(1,.cells Bu [.t a1,.t a2,.t a3,.t a4])::H0:=⟨_,rfl⟩
 have I0:WdI [sv name,a1,a2,a3,a4] ⟨H2,3,p1,0,[],(l.map kt).length+1⟩:=⟨by rw[hH2];exact z0,by rw[hH2];rfl,.inl rfl,by show 0<3;omega,λh=>absurd rfl h,Xh _⟩
 have E0:WdE l Z name d ⟨H2,3,p1,0,[],(l.map kt).length+1⟩:=⟨hZ,by show l.length<p1+1+((l.map kt).length+1);rw[Xb];omega,hp1.2,Xi _⟩
 refine B9 (s':=IP t ⟨H2,3,p1,0,[],(l.map kt).length+1⟩) (by rw[hH2];exact sub_env (by simp -implicitDefEqProofs [IP])) rfl ?_;clear hH2 nz l2 s2 z1;refine D5 (IP t) (λc=>WdI [sv name,a1,a2,a3,a4] c/\WdX Z name d c) (λ_=>rfl) ?_ ?_
 .refine CQ ?_;refine FN (IP t) (λc=>c.m) (λc=>WdE l Z name d c/\WdI [sv name,a1,a2,a3,a4] c) ⟨H2,3,p1,0,[],(l.map kt).length+1⟩ (λ_=>rfl) ⟨E0,I0⟩ (Sub.refl _) rfl ?_;rintro⟨Hc,nc,j,b,out,m⟩ ⟨⟨hz,hm,hj,ho⟩,⟨i1,i2,i3,i4,i5,i6⟩⟩;simp only at hz hm hj ho i1 i2 i3 i4 i5 i6;have gi:Cj l t [t,iv (j:Int),sv ⟨#[47]⟩]=_:=EM (l:=l) (t:=t) (i:=j) ⟨#[47]⟩;rw[show(⟨#[47]⟩:ByteArray).data.toList=[47]from rfl]at gi
  cases hs:Au (l.map kt) j [47]with
  | false=>
   have hdf:HG (l.map kt) m j out = .ok (out,j):=by unfold HG;rw[hs];rfl
   rw[hdf]at hz;simp only at hz;rw[hs]at gi;refine Ai CR ?_;simp -implicitDefEqProofs [IP,AZ,AW,gi];exact Aq.mk ⟨Hc,nc,j,b,out,m⟩ ⟨⟨i1,i2,i3,i4,i5,i6⟩,⟨hz⟩⟩ (sub_env (by simp -implicitDefEqProofs [IP]))
  | true=>
   have lj:=Bo hs;rw[Xb]at lj
   obtain⟨m,rfl⟩:∃m',m=m'+1:=⟨m-1,by omega⟩
   rw[hs]at gi;refine Ai CR ?_;simp -implicitDefEqProofs [IP,AZ,AW,gi];refine CQ ?_
   have l5:Ao false 1 Hc (.ptr 2 5)=some (rowP eD b out):=by simp only[Ao,i2,Xt,if_false];rfl
   have hlen:Bd (rowP eD b out)=some (.t (iv (out.length:Int))):=ED _ _ _;by_cases h256:256<=out.length
   .have hdf:HG (l.map kt) (m+1) j out = .error 7:=by unfold HG;rw[hs,zy rfl,zy h256]
    rw[hdf]at hz;simp only at hz;obtain⟨Hy,sy,ly⟩:=IM (n:=6) (ds:=zDf) i1 rfl rfl
    have d1:(256:Int)<=(out.length:Int):=by omega
    refine Ai Af ?_;simp -implicitDefEqProofs [l5,hlen,d1,h256,Qy,sy,-AF];exact A6 ⟨.t (.tu [.ag zDf,iv 0,iv 7]),Hy,nc⟩ ⟨by rw[hz];rfl⟩ (by simp -implicitDefEqProofs [ly])
   rw[A7s hs h256]at hz
   have d1:¬(256:Int)<=(out.length:Int):=by omega
   refine Ai Af ?_;simp -implicitDefEqProofs [l5,hlen,d1,h256];have ej:Xc.wrap ((j:Int)+1)=(j:Int)+1:=AH (n:=j+1) rfl (by omega);have gr:FQ [t,iv ((j:Int)+1)]=some (BV (As (l.map kt) 64 (j+1))):=SU ht hlim (i:=j+1) (by omega)
   have kk:∀x c,c<nc->Aa ((nc,x)::Hc) c=Aa Hc c:=λx c hc=>by rw[A1,zz (by omega)]
   cases hd:As (l.map kt) 64 (j+1)with
   | error e=>
    rw[hd]at hz gr;simp only at hz;have he:=F4 64 _ _ hd
    have hb:(e != 0)=true:=by rw[bne_iff_ne];exact he
    have nz:=nD nc Hc zDs
    obtain⟨D,hD⟩:∃D,D=A4 zDs:=⟨_,rfl⟩
    have gr:FQ [t,iv ((j:Int)+1)]=some (.tu [.ag (A4 zDs),iv 0,iv e]):=gr;rw[<-hD]at gr nz;obtain⟨Hy,sy,ly⟩:=IM (n:=6) (ds:=zDf) ((kk (.cells Bu (D.map .t)) 0 (by omega)).trans i1) rfl rfl;refine Ai CR ?_;simp -implicitDefEqProofs [AZ,AW,ej,gr,nz];refine Ai Af ?_;simp -implicitDefEqProofs [hb,Qy,sy,-AF];exact A6 ⟨.t (.tu [.ag zDf,iv 0,iv e]),Hy,nc+1⟩ ⟨by rw[hz];rfl⟩ (by simp -implicitDefEqProofs [ly])
   | ok x=>
   obtain⟨d2,p2⟩:=x;rw[hd]at hz gr;simp only at hz;have hp2:=D2 64 _ _ _ hd;rw[Xb]at hp2;have gr:FQ [t,iv ((j:Int)+1)]=some (.tu [.ag (A4 d2),iv (p2:Int),iv 0]):=gr;have nz:=nD nc Hc d2;have hdl:=Gf d2
   obtain⟨D,hD⟩:∃D,D=A4 d2:=⟨_,rfl⟩
   rw[<-hD]at gr nz hdl
   obtain⟨H3,hH3⟩:∃H3:Ab,H3=(nc,.cells Bu (D.map .t))::Hc:=⟨_,rfl⟩
   have k3:∀c,c<nc->Aa H3 c=Aa Hc c:=λc hc=>by rw[hH3];exact kk _ c hc
   have lD:Ao true 4 H3 (.ptr nc 0)=some (.t (.ag D)):=ldN (by rw[hH3,A1,zy rfl]) hdl;rw[<-hH3]at nz;clear hH3
   have row3:Ar eD Bu H3 b out:=i3.imp id λe=>by rw[k3 b i4];exact e
   obtain⟨H4,ap,row4,k4,f4,c4⟩:=Qd (e:=eD) (ty:=Bu) (H:=H3) (b:=b) (l:=out) (by':=72) (nx:=nc+1) d2 4 rfl (D.map .t) (by rw[hD];rfl) row3 (λ_=>by omega) (by omega) (by omega)
   obtain⟨out',hout'⟩:∃out',out'=out++[d2]:=⟨_,rfl⟩
   have ol:out'.length=out.length+1:=by rw[hout',Xg];rfl
   rw[<-hout']at ap row4 hz
   have l53:Ao false 1 H3 (.ptr 2 5)=some (rowP eD b out):=by
    have:Aa H3 2=_:=(k3 2 (by omega)).trans i2;simp only[Ao,this,Xt,if_false];rfl
   have a4':Aa H4 2=some (.cells BK ([sv name,a1,a2,a3,a4].map .t++[rowP eD b out])):=by rw[k4 2 (by omega) (λh=>by have:=i5 h;omega),k3 2 (by omega)];exact i2
   have z4:Aa H4 0=some (.cells BK (zDf.map .t)):=by rw[k4 0 (by omega) (λh=>by have:=i5 h;omega),k3 0 (by omega)];exact i1
   have cp:B7 (rowP eD (nc+2) out')=some [rowP eD (nc+2) out']:=by cases out'<;>rfl
   have s5:=Em (n:=1) (o:=5) a4' cp rfl (by show 5+1<=6;omega);rw[show Bj ([sv name,a1,a2,a3,a4].map PV.t++[rowP eD b out]) 5 [rowP eD (nc+2) out']=[sv name,a1,a2,a3,a4].map .t++[rowP eD (nc+2) out']from rfl]at s5
   obtain⟨R5,hR5⟩:∃R5:Row,R5 = .cells BK ([sv name,a1,a2,a3,a4].map .t++[rowP eD (nc+2) out']):=⟨_,rfl⟩
   rw[<-hR5]at s5
   have a5:Aa (Xe H4 2 R5) 2=some R5:=by rw[A9,zy rfl,a4'];rfl
   have z5:Aa (Xe H4 2 R5) 0=some (.cells BK (zDf.map .t)):=by rw[A9,zz (by omega)];exact z4
   have row5:Ar eD Bu (Xe H4 2 R5) (nc+2) out':=row4.imp id λe=>by rw[A9,zz (by omega)];exact e
   obtain⟨H5,hH5⟩:∃H5,H5=Xe H4 2 R5:=⟨_,rfl⟩
   rw[<-hH5]at s5 a5 z5 row5;have bs:=A7u (nc+1) hdl;refine Ai CR ?_;simp -implicitDefEqProofs [AZ,AW,ej,gr,nz];refine Ai Af ?_;simp -implicitDefEqProofs;refine Ai Af ?_;simp -implicitDefEqProofs [l53,lD,bs,ap,s5];refine A7 Af ?_;simp -implicitDefEqProofs;exact Aq.mk ⟨H5,nc+3,p2,nc+2,out',m⟩ ⟨⟨⟨hz,by show l.length<p2+1+m;omega,hp2.2,by show out'.length<=256;omega⟩,⟨z5,by rw[a5,hR5],row5,by show nc+2<nc+3;omega,λ_=>by show 3<=nc+2;omega,by show 3<=nc+3;omega⟩⟩,Xf m⟩ (sub_env (by simp -implicitDefEqProofs [IP]))
 rintro⟨Hc,nc,j,b,out,m⟩ ⟨⟨i1,i2,i3,i4,i5,i6⟩,⟨hz⟩⟩;simp only at hz i1 i2 i3 i4 i5 i6
 obtain⟨F,hF⟩:∃F:List Nat,F=if out=[]then []else [b]:=⟨_,rfl⟩
 have hF3:∀x∈F,3<=x:=λx hx=>by
  rw[hF]at hx;split at hx
  .cases hx
  .rename_i h;rw[Xj]at hx;subst hx;exact i5 h
 have fzr:B5 Hc F (rowP eD b out) = .t (Am eD out):=by
  by_cases h:out=[]
  .rw[h];rfl
  .rw[hF,zz h];exact Hh i3 (Xj.2 rfl)
 have a6:Aa (B8 Hc F) 2=some (.cells BK ((Dfn.cs ⟨name,d,out⟩).map .t)):=by
  rw[LU (λh=>by have:=hF3 _ h;omega) i2,hcs];simp only[Cy,X2,X3,List.cons_append,Xu];rw[fzr];rfl
 have z6:Aa (B8 Hc F) 0=some (.cells BK (zDf.map .t)):=by
  rw[LU (λh=>by have:=hF3 _ h;omega) i1];rfl
 refine B9 (s':=⟨[(11,.ptr 2 0),(6,.ptr 0 0),(1,.t (iv (j:Int))),(0,.t t)],B8 Hc F,nc,67⟩) (EG F (by simp -implicitDefEqProofs [IP,Gh,Il])) rfl ?_
 obtain⟨H6,hH6⟩:∃H6,H6=B8 Hc F:=⟨_,rfl⟩
 obtain⟨D,hD⟩:∃D,D=Dfn.cs ⟨name,d,out⟩:=⟨_,rfl⟩
 have hDl:D.length=6:=by rw[hD];exact Dfn.len _
 rw[<-hH6]at a6 z6 ⊢;rw[<-hD]at a6;have ld:=ldN a6 hDl;obtain⟨Hy,sy,ly⟩:=IM (n:=6) (ds:=D) z6 rfl hDl;refine A7 Af ?_;simp -implicitDefEqProofs [ld,sy];exact A6 ⟨.t (.tu [.ag D,iv (j:Int),iv 0]),Hy,nc⟩ ⟨by rw[hz,hD];rfl⟩ (by simp -implicitDefEqProofs [ly])
end
theorem M9 {L:List UInt8} {k:Nat} (h:Db L=k):(k=1/\L=[109,111,100,117,108,101])\/(k=2/\L=[105,109,112,111,114,116])\/(k=3/\L=[116,121,112,101])\/(k=4/\L=[116,101,109,112,108,97,116,101])\/(k=5/\L=[101,110,116,114,121])\/(k=6/\L=[108,101,120,114,117,108,101])\/(k=7/\L=[114,117,108,101])\/(k=8/\L=[114,111,111,116])\/(k=9/\L=[99,104,101,99,107])\/(k=10/\L=[100,114,111,112]) \/
  (k=0/\L≠[109,111,100,117,108,101]/\L≠[105,109,112,111,114,116]/\L≠[116,121,112,101]/\L≠[116,101,109,112,108,97,116,101]/\L≠[101,110,116,114,121]/\L≠[108,101,120,114,117,108,101]/\L≠[114,117,108,101]/\L≠[114,111,111,116]/\L≠[99,104,101,99,107]/\L≠[100,114,111,112]):=by
 unfold Db at h
 repeat' split at h
 all_goals simp_all
theorem A7w (s:ByteArray) {cs:List T} (hcs:cs.length=10) {k:Nat} (hk:Db s.data.toList=k) (h1:2<=k) {a:T} (ha:cs[k-1]?=some a) {n:Nat} (hn:Bd (.t a)=some (.t (iv (n:Int)))):AA Xa (G q) 62 [sv s,.ag cs] (· = iv (n:Int)):=by
 match cs,hcs with
 | [x0,x1,x2,x3,x4,x5,x6,x7,x8,x9],_=>
  have ld:∀j,Ao false 1 [(0,.cells 51 [.t x0,.t x1,.t x2,.t x3,.t x4,.t x5,.t x6,.t x7,.t x8,.t x9])] (.ptr 0 j)=([.t x0,.t x1,.t x2,.t x3,.t x4,.t x5,.t x6,.t x7,.t x8,.t x9]:List PV)[j]?:=λj=>rfl;have hc:B7 (.t (.ag [x0,x1,x2,x3,x4,x5,x6,x7,x8,x9]))=some [.t x0,.t x1,.t x2,.t x3,.t x4,.t x5,.t x6,.t x7,.t x8,.t x9]:=rfl;refine XT.runs c0 rfl ?_
  obtain⟨L,hL⟩:∃L,s.toList=L:=⟨_,rfl⟩
  have hL2:s.data.toList=L:=by rw[<-Ft];exact hL
  rw[hL2]at hk;rcases M9 hk with⟨rfl,rfl⟩ | ⟨rfl,rfl⟩ | ⟨rfl,rfl⟩ | ⟨rfl,rfl⟩ | ⟨rfl,rfl⟩ | ⟨rfl,rfl⟩ | ⟨rfl,rfl⟩ | ⟨rfl,rfl⟩ | ⟨rfl,rfl⟩ | ⟨rfl,rfl⟩ | ⟨rfl,_⟩
  .omega
  all_goals first | omega | skip
  all_goals
   simp only[Nat.reduceSub,List.getElem?_cons_succ,List.getElem?_cons_zero,Xk.injEq]at ha;subst ha
   (conv in RG=>cbv);simp -implicitDefEqProofs [hc,ld,hn,hL]
theorem A7x (s:ByteArray) {cs:List T} (hcs:cs.length=10) (hk:Db s.data.toList=0):AA Xa (G q) 62 [sv s,.ag cs] (· = iv (-1)):=by
 match cs,hcs with
 | [x0,x1,x2,x3,x4,x5,x6,x7,x8,x9],_=>
  have hc:B7 (.t (.ag [x0,x1,x2,x3,x4,x5,x6,x7,x8,x9]))=some [.t x0,.t x1,.t x2,.t x3,.t x4,.t x5,.t x6,.t x7,.t x8,.t x9]:=rfl;refine XT.runs c0 rfl ?_
  obtain⟨L,hL⟩:∃L,s.toList=L:=⟨_,rfl⟩
  have hL2:s.data.toList=L:=by rw[<-Ft];exact hL
  rw[hL2]at hk
  have nb:∀{w:List UInt8},L≠w->(L==w)=false:=λh=>by rw[zu];exact h
  rcases M9 hk with⟨h,rfl⟩ | ⟨h,rfl⟩ | ⟨h,rfl⟩ | ⟨h,rfl⟩ | ⟨h,rfl⟩ | ⟨h,rfl⟩ | ⟨h,rfl⟩ | ⟨h,rfl⟩ | ⟨h,rfl⟩ | ⟨h,rfl⟩ | ⟨_,h1,h2,h3,h4,h5,h6,h7,h8,h9,h10⟩
  all_goals first | (exfalso;omega) | skip
  (conv in RG=>cbv);simp -implicitDefEqProofs [hc,hL,nb h2,nb h3,nb h4,nb h5,nb h6,nb h7,nb h8,nb h9,nb h10]
def Bh (p:PV) (i:Nat) (e:Int):PV:=CF [p,.t (iv (i:Int)),.t (iv e)]
theorem Qz (p:PV) (i:Nat) (e:Int):Bv (Bh p i e) 0=some p/\Bv (Bh p i e) 1=some (.t (iv (i:Int)))/\Bv (Bh p i e) 2=some (.t (iv e)):=by
 cases p<;>exact⟨rfl,rfl,rfl⟩
structure StD (name:ByteArray) (ks:Nat->Nat) (els:List El) (H:Ab) (nx:Nat) (o:Res El) (f:Fin):Prop where
 ex:∃ps i' e,f.r=Bh (AN ps) i' e/\ps.length=10/\(Cl H nx->ClR f.nx (.cells AD ps))/\((o = .error e/\e≠0)\/(∃y,o = .ok (y,i')/\e=0/\∃ks',ps=AM name ks' (els++[y])/\BZ (els++[y]) ks' f.H f.nx/\(∀c,c<nx->BC els ks c->BC (els++[y]) ks' c)))
 k:∀c,c<nx->BC els ks c->Aa f.H c=Aa H c
 n:nx<=f.nx
 fr:Frs H nx->Frs f.H f.nx
 cl:Cl H nx->Cl f.H f.nx
section
variable {nx : Nat} {H : Ab} {els : List El} {ks : Nat -> Nat} {name : ByteArray}
theorem iP {fn:FuncId} {xs:List PV} {o:Res El} (h:∃f:Fin,StD name ks els H nx o f/\AB Xa (G q) fn xs H nx f.r f.H f.nx) :
  ∃ps i' e H' nx' tb,ps.length=10/\(Cl H nx->ClR nx' (.cells AD ps))/\((o = .error e/\e≠0)\/(∃y,o = .ok (y,i')/\e=0/\∃ks',ps=AM name ks' (els++[y])/\BZ (els++[y]) ks' H' nx'/\(∀c,c<nx->BC els ks c->BC (els++[y]) ks' c))) /\
   (∀c,c<nx->BC els ks c->Aa H' c=Aa H c)/\nx<=nx'/\(Frs H nx->Frs H' nx')/\(Cl H nx->Cl H' nx')/\tb xs H nx=some (Bh (AN ps) i' e,H',nx')/\HOK Xa (G q) fn tb:=by
 obtain⟨⟨fr,fH,fn'⟩,hS,hc⟩:=h;obtain⟨ps,i',e,hr,hl,h1,h2⟩:=hS.ex;have k:=hS.k;have n:=hS.n;have fr':=hS.fr;have cl:=hS.cl;simp only at hr hc h1 h2 k n fr' cl;subst hr;obtain⟨tb,t1,t2⟩:=hAt hc fr';exact⟨ps,i',e,fH,fn',tb,hl,h1,h2,k,n,fr',cl,t1,t2⟩
structure MdD (name:ByteArray) (ks:Nat->Nat) (els:List El) (H:Ab) (nx:Nat) (Hx:Ab) (n:Nat):Prop where
 bx:Aa Hx nx=some (.cells AD (AM name ks els))
 rs:Aa Hx (nx+1)=some (.cells AD (zMd.map .t))
 M:BZ els ks Hx n
 k:∀c,c<nx->BC els ks c->Aa Hx c=Aa H c
 hn:nx+2<=n
 fr:Frs H nx->Frs Hx n
 cl:Cl H nx->Cl Hx n
 n1:BC els ks nx
 n2:BC els ks (nx+1)
theorem MdD.mk0 (M:BZ els ks H nx):MdD name ks els H nx ((nx+1,.cells AD (zMd.map .t))::(nx,.cells AD (AM name ks els))::H) (nx+2):=by
 refine⟨by rw[A1,zz (by omega),A1,zy rfl],by rw[A1,zy rfl],M.keep (λj hj=>by have:=M.lt j hj;rw[A1,zz (by omega),A1,zz (by omega)]) (Nat.le_add_right _ 2),
  λc h1 _=>by rw[A1,zz (by omega),A1,zz (by omega)],Xh _,λh=>(h.cons (Xf _) (Xd _)).cons (Xf _) (Xd _),
  λh=>(h.cons ((IG M).mono (Xd _)) (Xd _)).cons (ClR.trees _ _ _) (Xd _),λj hj=>by have:=M.lt j hj;omega,λj hj=>by have:=M.lt j hj;omega⟩
theorem MdD.cons {Hx:Ab} {n:Nat} (B:MdD name ks els H nx Hx n) {r:Row} (hr:ClR (n+1) r):MdD name ks els H nx ((n,r)::Hx) (n+1):=by
 have h1:=B.hn
 exact⟨by rw[A1,zz (by omega)];exact B.bx,by rw[A1,zz (by omega)];exact B.rs,B.M.keep (λj hj=>by have:=B.M.lt j hj;rw[A1,zz (by omega)]) (Xd _),
  λc c1 c3=>by rw[A1,zz (by omega)];exact B.k c c1 c3,by omega,λh=>(B.fr h).cons (Xf _) (Xd _),λh=>(B.cl h).cons hr (Xd _),B.n1,B.n2⟩
theorem MdD.end_err {Hx:Ab} {n:Nat} {e:Int} {o:Res El} (i':Nat) (B:MdD name ks els H nx Hx n) (he:o = .error e/\e≠0):∃Hy,A8 10 Hx (.ptr (nx+1) 0) (AN (AM name ks els))=some Hy/\Ao true 10 Hy (.ptr (nx+1) 0)=some (AN (AM name ks els)) /\
  StD name ks els H nx o ⟨Bh (AN (AM name ks els)) i' e,Hy,n⟩:=by
 obtain⟨s1,l1⟩:=KZ (ps:=AM name ks els) B.rs rfl rfl;have h1:=B.hn;refine⟨_,s1,l1,⟨⟨_,i',e,rfl,rfl,λ_=>IG (name:=name) B.M,.inl he⟩,λc c1 c3=>by show Aa (Xe _ _ _) _=_;rw[A9,zz (by omega)];exact B.k c c1 c3,by show nx<=n;omega,λh=>(B.fr h).upd,λh=>(B.cl h).upd (IG (name:=name) B.M)⟩⟩
theorem MdD.end_push {Hx H2:Ab} {n n2 i' j:Nat} {x:List T} {e:Int} {o:Res El} (B:MdD name ks els H nx Hx n) (pu:PuM els ks name nx j x Hx n H2 n2) (he:(o = .error e/\e≠0)\/(∃y:El,y.j=j/\y.cs=x/\o = .ok (y,i')/\e=0)) :
  ∃P Hy,Ao true 10 H2 (.ptr nx 0)=some P/\A8 10 H2 (.ptr (nx+1) 0) P=some Hy/\Ao true 10 Hy (.ptr (nx+1) 0)=some P/\StD name ks els H nx o ⟨Bh P i' e,Hy,n2⟩:=by
 obtain⟨ps,hl,hb,hy⟩:=pu.bx;have h1:=B.hn;have h3:=pu.n
 have rs2:Aa H2 (nx+1)=some (.cells AD (zMd.map .t)):=by rw[pu.k (nx+1) (by omega) (by omega) B.n2];exact B.rs
 obtain⟨s1,l1⟩:=KZ (ps:=ps) rs2 rfl hl;refine⟨AN ps,_,GJ hb hl,s1,l1,⟨⟨ps,i',e,rfl,hl,λh=>(pu.cl (B.cl h)) _ _ hb,?_⟩,λc c1 c3=>by show Aa (Xe _ _ _) _=_;rw[A9,zz (by omega),pu.k c (by omega) (by omega) c3];exact B.k c c1 c3,by show nx<=n2;omega,λh=>(pu.fr (B.fr h)).upd,λh=>?_⟩⟩
 .rcases he with he | ⟨y,e1,e2,e3,e4⟩
  .exact .inl he
  .obtain⟨ks',hp,hM,hN⟩:=hy y e1 e2;exact .inr ⟨y,e3,e4,ks',hp,hM.keep (λj hj=>by show Aa (Xe _ _ _) _=_;rw[A9,zz (λe=>hN (nx+1) (by omega) B.n2 j hj e.symm)]) (Xh _),λc c1 c2=>hN c (by omega) c2⟩
 .have h4:=pu.cl (B.cl h);exact h4.upd (h4 _ _ hb)
theorem MdD.push {Hx:Ab} {n:Nat} (B:MdD name ks els H nx Hx n) (hels:els.length<=1000000) {j o z ty by':Nat} (hj:j<9) (ho:o=j+1) (hz:z=zE j) (hty:ty=tyE j) (x:List T) (hx:x.length=z) {xs:List PV} (hxs:xs=x.map .t) (hby:by'<=1000) :
  ∃p p' H1 H2,Ao false 1 Hx (.ptr nx o)=some p/\B1 ty z by' ((n,.cells ty xs)::Hx) (n+1) p (.row n 0 1 z)=some (p',H1,n+2)/\A8 1 H1 (.ptr nx o) p'=some H2/\PuM els ks name nx j x Hx n H2 (n+2):=
 dB B.M B.bx (by have:=B.hn;omega) B.n1 hj ho hz hty x hx xs hxs hby (Nat.le_trans (Tr j els) hels)
theorem MdD.pushT {Hx:Ab} {n:Nat} (B:MdD name ks els H nx Hx n) (hels:els.length<=1000000) {j o z ty by':Nat} (hj:j<9) (ho:o=j+1) (hz:z=zE j) (hty:ty=tyE j) (x:List T) (hx:x.length=z) (hby:by'<=1000) :
  ∃p p' H1 H2,Ao false 1 Hx (.ptr nx o)=some p/\B1 ty z by' Hx n p (.t (.sl 1 x))=some (p',H1,n+1)/\A8 1 H1 (.ptr nx o) p'=some H2/\PuM els ks name nx j x Hx n H2 (n+1):=
 A0w B.M B.bx (by have:=B.hn;omega) B.n1 hj ho hz hty x hx hby (Nat.le_trans (Tr j els) hels)
end
structure Mk (k:Nat) (W:T) (A:List T) (f:Dfn->El):Prop where
 x:(k=4/\f = .tmp)\/(k=5/\∃w,W=Am Aj w/\f = .ent w)\/(k=6/\∃a:Afx,A=a.cs/\f = .lex a)\/(k=7/\f = .rul)\/(k=8/\f = .roo)
structure NmC where
 W:T
 A:List T
 p:Nat
 e:Int
structure NmI (l:List Tok) (k:Nat) (O:Res El) (nm:ByteArray) (c:NmC):Prop where
 a:c.A.length=2
 p:c.p<=l.length
 x:(c.e≠0/\O = .error c.e)\/(c.e=0/\∃f,Mk k c.W c.A f/\O=elD f (C4 (l.map kt) nm c.p))
structure NmE (name:ByteArray) (ks:Nat->Nat) (els:List El) (H:Ab) (nx p2:Nat) (O:Res El) (c:Ab×Nat×PV):Prop where
 x:∃Hy,Ao true 10 c.1 (.ptr nx 0)=some c.2.2/\A8 10 c.1 (.ptr (nx+1) 0) c.2.2=some Hy/\Ao true 10 Hy (.ptr (nx+1) 0)=some c.2.2/\StD name ks els H nx O ⟨Bh c.2.2 p2 0,Hy,c.2.1⟩
def SNm (nx:Nat) (t:T) (nm s:ByteArray) (H1:Ab) (c:NmC):Ac:=⟨[(13,.t (iv c.e)),(12,.ptr (nx+2) 0),(11,.t c.W),(10,.t (sv nm)),(9,.t (sv s)),(6,.ptr (nx+1) 0),(5,.ptr nx 0),(1,.t (iv (c.p:Int))),(0,.t t)],(nx+2,.cells Bp (c.A.map .t))::H1,nx+3,130⟩
theorem A7y {s:ByteArray} {e:Int} (h:Da s = .error e):e≠0:=by
 unfold Da at h;split at h
 .injection h with h;subst h;decide
 .split at h
  .injection h with h;subst h;decide
  .split at h
   .cases h
   .injection h with h;subst h;decide
theorem A7z {L:List KT} {nm:ByteArray} {p:Nat} {e:Int} (h:C4 L nm p = .error e) (hp:p<=L.length):e≠0:=by
 unfold C4 at h;split at h
 .rename_i h1;injection h with h;subst h;exact A2s h1
 .rename_i p1 h1;split at h
  .rename_i h2;injection h with h;subst h;exact F4 64 _ _ h2
  .rename_i d p2 h2;split at h
   .rename_i h3;injection h with h;subst h;unfold Cf at h3;split at h3
    .rename_i hs;have:=Bo hs;exact A7f h3 (by omega)
    .cases h3
   .cases h
theorem A8a {l:List Tok} {N p p':Nat} {k:Int} {s:ByteArray} (hsm:∀x∈l,x.t.length<=N) (h:AE (l.map kt) p k = .ok (s,p')):s.size<=N:=by
 unfold AE at h;rw[E5]at h;split at h
 .cases h
 .rename_i y hy;split at h
  .injection h with h;injection h with h _;subst h
   cases hx:l[p]? with
   | none=>rw[hx]at hy;cases hy
   | some z=>
    rw[hx]at hy;injection hy with hy;subst hy;have:=hsm z (Xs hx)
    have h3:(bs z.t).size=z.t.length:=by simp[X0]
    show(bs z.t).size<=N;omega
  .cases h
section
variable {t : T} {i nx : Nat} {H : Ab} {l : List Tok} {els : List El} {ks : Nat -> Nat} {name : ByteArray}
theorem A8b (ht:IsS Ap t l) (hlim:l.length<=1000000) (hsm:∀x∈l,x.t.length<=100000) {x:Tok} (hx:l[i]?=some x) {k:Nat} (hk:Db x.t=k) (hk4:4<=k) (hk8:k<=8) (M:BZ els ks H nx) (hels:els.length<=1000000) :
  ∃fi:Fin,StD name ks els H nx (elS (l.map kt) k (i+1)) fi/\AB Xa (G q) 103 [.t t,.t (iv (i:Int)),AN (AM name ks els)] H nx fi.r fi.H fi.nx:=by
 obtain⟨O,hO⟩:∃O,O=elS (l.map kt) k (i+1):=⟨_,rfl⟩
 rw[<-hO];have hil:=(Xl.1 hx).1;obtain⟨r0,hr0⟩:=EH ht hx;have CW:=Ox (q:=q) ht;have hcp:=GH (AM name ks els);have B0:=MdD.mk0 (name:=name) M
 obtain⟨H1,hH1⟩:∃H1:Ab,H1=(nx+1,.cells AD (zMd.map .t))::(nx,.cells AD (AM name ks els))::H:=⟨_,rfl⟩
 rw[<-hH1]at B0
 obtain⟨ps,hps⟩:∃ps,ps=AM name ks els:=⟨_,rfl⟩
 obtain⟨P,hP⟩:∃P,P=AN (AM name ks els):=⟨_,rfl⟩
 rw[<-hP,<-hps]at hcp;rw[<-hP]
 have all:∀{Hx:Ab} {n:Nat},MdD name ks els H nx Hx n->Ao true 10 Hx (.ptr nx 0)=some P:=λB=>by rw[hP];exact GJ B.bx rfl
 refine rK.callX rfl ?_;(conv in XX=>cbv);refine Ai Af ?_;simp -implicitDefEqProofs [hcp];refine B9 (s':=⟨[(6,.ptr (nx+1) 0),(5,.ptr nx 0),(1,.t (iv (i:Int))),(0,.t t)],H1,nx+2,130⟩) (by rw[hH1,<-hps];exact sub_env (by simp -implicitDefEqProofs)) rfl ?_;refine Ai Af ?_;simp -implicitDefEqProofs [hr0,BJ];have e1:Xc.wrap ((i:Int)+1)=(i:Int)+1:=AH (n:=i+1) rfl (by omega);have gk:CT l t [t,iv ((i:Int)+1),iv 1]=_:=E6 (l:=l) (t:=t) (i:=i+1) 1;have gw:Ck l t [t,iv ((i:Int)+1)]=_:=DK (l:=l) (t:=t) (i:=i+1);unfold elS at hO;rw[zz (by omega),zz (by omega)]at hO;refine Ai CW ?_;rcases Fj (l:=l) (i:=i+1) ht 1 with⟨hkk,nm,r,htk,hjl,hia⟩ | ⟨hkk,htk,hw⟩
 rotate_left
 .rw[htk]at hO;rw[hkk]at gk;obtain⟨Hy,sy,ly,S⟩:=B0.end_err 0 (⟨hO,hw⟩:O = .error (Bi (l.map kt) (i+1))/\_);rw[<-hP]at sy ly S;have lP:=all B0;simp -implicitDefEqProofs [AZ,AW,e1,gk,gw,lP,sy];exact A6 ⟨Bh P 0 (Bi (l.map kt) (i+1)),Hy,nx+2⟩ S (by simp -implicitDefEqProofs [ly,Bh])
 rw[htk]at hO;simp only at hO;rw[hkk]at gk;have hia:Bm 3 (.t t) (.t (.v (.int .i64 ((i:Int)+1))))=some (.t (.pt (iv 1::sv nm::r))):=hia;simp -implicitDefEqProofs [AZ,AW,e1,gk];have e2:Xc.wrap ((i:Int)+2)=(i:Int)+2:=AH (n:=i+2) rfl (by omega);refine Ai Af ?_;simp -implicitDefEqProofs [e1,hia,BJ];refine Ai Af ?_;simp -implicitDefEqProofs [e2];refine Ai Af ?_;simp -implicitDefEqProofs;refine Ai Af ?_;simp -implicitDefEqProofs;refine Ai Af ?_;simp -implicitDefEqProofs
 have L1:∀A:List T,Aa ((nx+2,Row.cells Bp (A.map .t))::H1) (nx+2)=some (.cells Bp (A.map .t)):=λA=>by rw[A1,zy rfl]
 have BA:∀A:List T,MdD name ks els H nx ((nx+2,.cells Bp (A.map .t))::H1) (nx+3):=λA=>B0.cons (ClR.trees _ _ _)
 obtain⟨L,hL⟩:∃L,(bs x.t).toList=L:=⟨_,rfl⟩
 have hL2:x.t=L:=by rw[<-hL,Ft]
 rw[hL2]at hk
 have nb:∀{w:List UInt8},¬L=w->(L==w)=false:=λh=>by rw[zu];exact h
 refine B9 (s':=SNm nx t nm (bs x.t) H1 ⟨Ad,zAf,i+2,0⟩) (sub_env (by simp -implicitDefEqProofs [SNm])) rfl ?_;refine D5 (SNm nx t nm (bs x.t) H1) (NmI l k O nm) (λ_=>rfl) ?_ ?_
 .refine Ai Af ?_;simp -implicitDefEqProofs [SNm];refine CQ ?_;rcases M9 hk with⟨h,_⟩ | ⟨h,_⟩ | ⟨h,_⟩ | ⟨rfl,rfl⟩ | ⟨rfl,rfl⟩ | ⟨rfl,rfl⟩ | ⟨rfl,rfl⟩ | ⟨rfl,rfl⟩ | ⟨h,_⟩ | ⟨h,_⟩ | ⟨h,_⟩
  all_goals first | (exfalso;omega) | skip
  .refine A7 Af ?_;simp -implicitDefEqProofs [hL];exact Aq.mk ⟨Ad,zAf,i+2,0⟩ ⟨rfl,by show i+2<=l.length;omega,.inr ⟨rfl,.tmp,⟨.inl ⟨rfl,rfl⟩⟩,hO⟩⟩ (sub_env (by simp -implicitDefEqProofs [SNm]))
  .
   have hO:O=E4 (l.map kt) nm (i+2):=hO;unfold E4 at hO;have gk3:CT l t [t,iv ((i:Int)+2),iv 3]=_:=E6 (l:=l) (t:=t) (i:=i+2) 3;have gw3:Ck l t [t,iv ((i:Int)+2)]=_:=DK (l:=l) (t:=t) (i:=i+2);rcases Fj (l:=l) (i:=i+2) ht 3 with⟨hk3,s,r3,htk3,hjl3,hia3⟩ | ⟨hk3,htk3,hw3⟩
   rotate_left
   .rw[htk3]at hO;rw[hk3]at gk3;obtain⟨Hy,sy,ly,S⟩:=(BA zAf).end_err 0 (⟨hO,hw3⟩:O = .error (Bi (l.map kt) (i+2))/\_);rw[<-hP]at sy ly S;have lP:=all (BA zAf)
    obtain⟨Hz,hHz⟩:∃Hz:Ab,Hz=(nx+2,.cells Bp [.t (iv 0),.t Ad])::H1:=⟨_,rfl⟩
    have lP:Ao true 10 Hz (.ptr nx 0)=some P:=by rw[hHz];exact lP
    have sy:A8 10 Hz (.ptr (nx+1) 0) P=some Hy:=by rw[hHz];exact sy
    rw[<-hHz];refine A7 CW ?_;simp -implicitDefEqProofs [hL,AZ,AW,gk3,gw3,lP,sy];exact A6 ⟨Bh P 0 (Bi (l.map kt) (i+2)),Hy,nx+3⟩ S (by simp -implicitDefEqProofs [ly,Bh])
   rw[htk3]at hO;simp only at hO;rw[hk3]at gk3;have hia3:Bm 3 (.t t) (.t (.v (.int .i64 ((i:Int)+2))))=some (.t (.pt (iv 3::sv s::r3))):=hia3;have e3:Xc.wrap ((i:Int)+2+1)=(i:Int)+3:=AH (n:=i+3) (by omega) (by omega);have hc:=A7i (q:=q) s (A8a hsm htk3);have gs:=FR [sv s] (wdT (Da s));have CS:Ctx Xa (G q) (orc ((121,D8 [sv s] (wdT (Da s)))::AZ l t)):=(A5.cons (FS hc) (JK ht)).ctx mixed
   cases hwd:Da s with
   | error e=>
    rw[hwd]at gs CS hO;have hwt:wdT (.error e) = .tu [Ad,iv e]:=rfl;rw[hwt]at gs CS;refine A7 CS ?_;simp -implicitDefEqProofs [hL,AZ,AW,gk3,hia3,BJ,gs,e3];exact Aq.mk ⟨Ad,zAf,i+3,e⟩ ⟨rfl,by show i+3<=l.length;omega,.inl ⟨A7y hwd,hO⟩⟩ (sub_env (by simp -implicitDefEqProofs [SNm]))
   | ok w=>
    rw[hwd]at gs CS hO;have hwt:wdT (.ok w) = .tu [Am Aj w,iv 0]:=rfl;rw[hwt]at gs CS;simp only at hO
    obtain⟨W,hW⟩:∃W,W=Am Aj w:=⟨_,rfl⟩
    rw[<-hW]at gs CS;refine A7 CS ?_;simp -implicitDefEqProofs [hL,AZ,AW,gk3,hia3,BJ,gs,e3];exact Aq.mk ⟨W,zAf,i+3,0⟩ ⟨rfl,by show i+3<=l.length;omega,.inr ⟨rfl,.ent w,⟨.inr (.inl ⟨rfl,w,hW,rfl⟩)⟩,hO⟩⟩ (sub_env (by simp -implicitDefEqProofs [SNm]))
  .
   have hO:O=Fz (l.map kt) nm (i+2):=hO;unfold Fz at hO;have hc:=A7o (q:=q) (i:=i+2) ht hlim (by omega);have gs:=FR [t,iv ((i+2:Nat):Int)] (JE (Dz (l.map kt) (i+2)));have CS:Ctx Xa (G q) (orc ((12,D8 [t,iv ((i+2:Nat):Int)] (JE (Dz (l.map kt) (i+2))))::AZ l t)):=(A5.cons (FS hc) (JK ht)).ctx mixed;rw[show((i+2:Nat):Int)=(i:Int)+2 from rfl]at CS gs;have sA:∀ds:List T,ds.length=2->A8 2 ((nx+2,.cells Bp [.t (iv 0),.t Ad])::H1) (.ptr (nx+2) 0) (.t (.ag ds))=some ((nx+2,.cells Bp (ds.map .t))::H1):=λds hd=>Fg (zs:=[.t (iv 0),.t Ad]) (n:=2) rfl hd H1
   cases haf:Dz (l.map kt) (i+2)with
   | error e=>
    rw[haf]at gs CS hO;have hwt:JE (.error e) = .tu [.ag [iv 0,Ad],iv 0,iv e]:=rfl;rw[hwt]at gs CS;have sz:A8 2 ((nx+2,.cells Bp [.t (iv 0),.t Ad])::H1) (.ptr (nx+2) 0) (.t (.ag [iv 0,Ad]))=some ((nx+2,.cells Bp [.t (iv 0),.t Ad])::H1):=sA _ rfl;refine A7 CS ?_;simp -implicitDefEqProofs [hL,AZ,AW,gs,sz];exact Aq.mk ⟨Ad,zAf,0,e⟩ ⟨rfl,Xi _,.inl ⟨e9 haf,hO⟩⟩ (sub_env (by simp -implicitDefEqProofs [SNm]))
   | ok y=>
    obtain⟨a,p1⟩:=y;rw[haf]at gs CS hO;have hwt:JE (.ok (a,p1)) = .tu [.ag a.cs,iv (p1:Int),iv 0]:=rfl;rw[hwt]at gs CS;simp only at hO;have hfw:=Tn _ _ _ haf;rw[Xb]at hfw;have hal:a.cs.length=2:=rfl
    obtain⟨A,hA⟩:∃A,A=a.cs:=⟨_,rfl⟩
    rw[<-hA]at gs CS hal;have sz:=sA A hal
    obtain⟨R,hR⟩:∃R,R=Row.cells Bp (A.map .t):=⟨_,rfl⟩
    rw[<-hR]at sz;refine A7 CS ?_;simp -implicitDefEqProofs [hL,AZ,AW,gs,sz];exact Aq.mk ⟨Ad,A,p1,0⟩ ⟨hal,hfw.2,.inr ⟨rfl,.lex a,⟨.inr (.inr (.inl ⟨rfl,a,hA,rfl⟩))⟩,hO⟩⟩ (by unfold SNm;rw[<-hR];exact sub_env (by simp -implicitDefEqProofs))
  .refine A7 Af ?_;simp -implicitDefEqProofs [hL];exact Aq.mk ⟨Ad,zAf,i+2,0⟩ ⟨rfl,by show i+2<=l.length;omega,.inr ⟨rfl,.rul,⟨.inr (.inr (.inr (.inl ⟨rfl,rfl⟩)))⟩,hO⟩⟩ (sub_env (by simp -implicitDefEqProofs [SNm]))
  .refine A7 Af ?_;simp -implicitDefEqProofs [hL];exact Aq.mk ⟨Ad,zAf,i+2,0⟩ ⟨rfl,by show i+2<=l.length;omega,.inr ⟨rfl,.roo,⟨.inr (.inr (.inr (.inr ⟨rfl,rfl⟩)))⟩,hO⟩⟩ (sub_env (by simp -implicitDefEqProofs [SNm]))
 clear hO gk gw;rintro⟨W,A,p,e⟩ ⟨ha,hp,hx2⟩;simp only at ha hp hx2;have B3:=BA A;have L3:=L1 A
 obtain⟨H3,hH3⟩:∃H3:Ab,H3=(nx+2,.cells Bp (A.map .t))::H1:=⟨_,rfl⟩
 rw[<-hH3]at B3 L3;have lA:=ldN L3 ha;unfold SNm;simp only;rw[<-hH3];rcases hx2 with⟨he,hOe⟩ | ⟨rfl,f,⟨hmk⟩,hOe⟩
 .have hb:(e != 0)=true:=by rw[bne_iff_ne];exact he
  obtain⟨Hy,sy,ly,S⟩:=B3.end_err 0 (⟨hOe,he⟩:O = .error e/\_);rw[<-hP]at sy ly S;have lP:=all B3;refine Ai Af ?_;simp -implicitDefEqProofs [hb,lP,sy];exact A6 ⟨Bh P 0 e,Hy,nx+3⟩ S (by simp -implicitDefEqProofs [ly,Bh])
 have hc:=A7v (q:=q) ht hlim hp nm;have gs:=FR [t,iv (p:Int),sv nm] (r3 (.ag zDf) (λd:Dfn=>.ag d.cs) (C4 (l.map kt) nm p));have CS:Ctx Xa (G q) (orc [(122,D8 [t,iv (p:Int),sv nm] (r3 (.ag zDf) (λd:Dfn=>.ag d.cs) (C4 (l.map kt) nm p)))]):=(A5.cons (FS hc) .nil).ctx mixed;have sD:∀ds:List T,ds.length=6->A8 6 ((nx+3,.cells BK [.t (sv ⟨#[]⟩),.t (iv 0),.t (sv ⟨#[]⟩),.t Ad,.t Ad,.t Ad])::H3) (.ptr (nx+3) 0) (.t (.ag ds))=some ((nx+3,.cells BK (ds.map .t))::H3):=λds hd=>Fg (zs:=[.t (sv ⟨#[]⟩),.t (iv 0),.t (sv ⟨#[]⟩),.t Ad,.t Ad,.t Ad]) (n:=6) rfl hd H3;refine Ai Af ?_;simp -implicitDefEqProofs
 cases hd:C4 (l.map kt) nm p with
 | error e=>
  rw[hd]at gs CS hOe;rw[TR]at gs CS;have he:=A7z hd (by rw[Xb];exact hp)
  have hb:(e != 0)=true:=by rw[bne_iff_ne];exact he
  obtain⟨ds,hds⟩:∃ds,ds=zDf:=⟨_,rfl⟩
  rw[<-hds]at gs CS;have sz:=sD ds (by rw[hds];rfl);have B4:=B3.cons (r:=.cells BK (ds.map .t)) (ClR.trees _ _ _)
  obtain⟨H4,hH4⟩:∃H4:Ab,H4=(nx+3,.cells BK (ds.map .t))::H3:=⟨_,rfl⟩
  rw[<-hH4]at sz B4;obtain⟨Hy,sy,ly,S⟩:=B4.end_err 0 (⟨hOe,he⟩:O = .error e/\_);rw[<-hP]at sy ly S;have lP:=all B4;refine Ai CS ?_;simp -implicitDefEqProofs [gs,sz];refine Ai Af ?_;simp -implicitDefEqProofs [hb,lP,sy];exact A6 ⟨Bh P 0 e,Hy,nx+4⟩ S (by simp -implicitDefEqProofs [ly,Bh])
 | ok y=>
 obtain⟨d,p2⟩:=y;rw[hd]at gs CS hOe;rw[TQ]at gs CS;have hOe:O = .ok (f d,p2):=hOe;have hdl:=d.len
 obtain⟨D,hD⟩:∃D,D=d.cs:=⟨_,rfl⟩
 rw[<-hD]at gs CS hdl;have sz:=sD D hdl;have B4:=B3.cons (r:=.cells BK (D.map .t)) (ClR.trees _ _ _)
 have L4:Aa ((nx+3,Row.cells BK (D.map .t))::H3) (nx+3)=some (.cells BK (D.map .t)):=by rw[A1,zy rfl]
 have L4a:Aa ((nx+3,Row.cells BK (D.map .t))::H3) (nx+2)=some (.cells Bp (A.map .t)):=by rw[A1,zz (by omega)];exact L3
 obtain⟨H4,hH4⟩:∃H4:Ab,H4=(nx+3,.cells BK (D.map .t))::H3:=⟨_,rfl⟩
 rw[<-hH4]at sz B4 L4 L4a;have lD:=ldN L4 hdl;have lA:=ldN L4a ha;refine Ai CS ?_;simp -implicitDefEqProofs [gs,sz];refine Ai Af ?_;simp -implicitDefEqProofs;have bs6:=Ql (nx+4) hdl;refine D5 (λc:Ab×Nat×PV=>⟨[(6,.ptr (nx+1) 0),(5,.ptr nx 0),(1,.t (iv (p2:Int))),(0,.t t)],c.1,c.2.1,130⟩) (NmE name ks els H nx p2 O) (λ_=>rfl) ?_ ?_
 rotate_left
 .rintro⟨H6,n6,P6⟩ ⟨⟨Hy,lP,sy,ly,S⟩⟩;simp only at lP sy ly S;refine A7 Af ?_;simp -implicitDefEqProofs [lP,sy];exact A6 ⟨Bh P6 p2 0,Hy,n6⟩ S (by simp -implicitDefEqProofs [ly,Bh])
 refine Ai Af ?_;simp -implicitDefEqProofs;refine CQ ?_;rcases M9 hk with⟨h,_⟩ | ⟨h,_⟩ | ⟨h,_⟩ | ⟨rfl,rfl⟩ | ⟨rfl,rfl⟩ | ⟨rfl,rfl⟩ | ⟨rfl,rfl⟩ | ⟨rfl,rfl⟩ | ⟨h,_⟩ | ⟨h,_⟩ | ⟨h,_⟩
 all_goals first | (exfalso;omega) | skip
 .obtain rfl:f = .tmp:=by
   rcases hmk with⟨_,h⟩ | ⟨h,_⟩ | ⟨h,_⟩ | ⟨h,_⟩ | ⟨h,_⟩
   .exact h
   all_goals cases h
  obtain⟨p1,p',H5,H6,l1,ap,s5,pu⟩:=B4.push hels (j:=2) (o:=3) (z:=6) (ty:=59) (by':=112) (by omega) rfl rfl rfl D hdl rfl (by omega);obtain⟨P',Hy,lP,sy,ly,S⟩:=B4.end_push (e:=0) (o:=O) pu (.inr ⟨.tmp d,rfl,by rw[hD];rfl,hOe,rfl⟩);refine A7 Af ?_;simp -implicitDefEqProofs [hL,l1,lD,bs6,ap,s5];exact Aq.mk (H6,nx+6,P') ⟨⟨Hy,lP,sy,ly,S⟩⟩ (sub_env (by simp -implicitDefEqProofs))
 .obtain⟨w,hW,rfl⟩:∃w,W=Am Aj w/\f = .ent w:=by
   rcases hmk with⟨h,_⟩ | ⟨_,h⟩ | ⟨h,_⟩ | ⟨h,_⟩ | ⟨h,_⟩
   rotate_left
   .exact h
   all_goals cases h
  have hl7:(W::D).length=7:=by rw[List.length_cons,hdl]
  have bd:∀Φ Hx n,Ah Φ Hx n (.build [(0,1),(1,6)] [.slice none 0 0,.string ⟨#[]⟩,.int .i64 0,.string ⟨#[]⟩,.slice none 0 0,.slice none 0 0,.slice none 0 0] [0,1]) [.t W,.t (.ag D)]=some (.t (.ag (W::D)),Hx,n):=λΦ Hx n=>by rw[hW];exact eE Φ Hx n hdl
  have bs:=eM (nx+4) hl7;obtain⟨p1,p',H5,H6,l1,ap,s5,pu⟩:=B4.push hels (j:=3) (o:=4) (z:=7) (ty:=61) (by':=136) (by omega) rfl rfl rfl (W::D) hl7 (xs:=(W::D).map .t) rfl (by omega);obtain⟨P',Hy,lP,sy,ly,S⟩:=B4.end_push (e:=0) (o:=O) pu (.inr ⟨.ent w d,rfl,by rw[hD,hW];rfl,hOe,rfl⟩);refine A7 Af ?_
  obtain⟨X,hX⟩:∃X,X=W::D:=⟨_,rfl⟩
  rw[<-hX]at bd bs ap;simp -implicitDefEqProofs [hL,l1,lD,bd,bs,ap,s5,-AF];exact Aq.mk (H6,nx+6,P') ⟨⟨Hy,lP,sy,ly,S⟩⟩ (sub_env (by simp -implicitDefEqProofs))
 .obtain⟨a,hA,rfl⟩:∃a:Afx,A=a.cs/\f = .lex a:=by
   rcases hmk with⟨h,_⟩ | ⟨h,_⟩ | ⟨_,h⟩ | ⟨h,_⟩ | ⟨h,_⟩
   rotate_left 2
   .exact h
   all_goals cases h
  have hl8:(A++D).length=8:=by rw[Xg,hdl,ha]
  have bd:∀Φ Hx n,Ah Φ Hx n (.build [(0,2),(2,6)] [.int .i64 0,.slice none 0 0,.string ⟨#[]⟩,.int .i64 0,.string ⟨#[]⟩,.slice none 0 0,.slice none 0 0,.slice none 0 0] [0,1]) [.t (.ag A),.t (.ag D)]=some (.t (.ag (A++D)),Hx,n):=λΦ Hx n=>eC Φ Hx n ha hdl;have bs:=eN (nx+4) hl8;obtain⟨p1,p',H5,H6,l1,ap,s5,pu⟩:=B4.push hels (j:=4) (o:=5) (z:=8) (ty:=118) (by':=144) (by omega) rfl rfl rfl (A++D) hl8 (xs:=(A++D).map .t) rfl (by omega);obtain⟨P',Hy,lP,sy,ly,S⟩:=B4.end_push (e:=0) (o:=O) pu (.inr ⟨.lex a d,rfl,by rw[hD,hA];rfl,hOe,rfl⟩);refine A7 Af ?_
  obtain⟨X,hX⟩:∃X,X=A++D:=⟨_,rfl⟩
  rw[<-hX]at bd bs ap;simp -implicitDefEqProofs [hL,l1,lA,lD,bd,bs,ap,s5,-AF];exact Aq.mk (H6,nx+6,P') ⟨⟨Hy,lP,sy,ly,S⟩⟩ (sub_env (by simp -implicitDefEqProofs))
 .obtain rfl:f = .rul:=by
   rcases hmk with⟨h,_⟩ | ⟨h,_⟩ | ⟨h,_⟩ | ⟨_,h⟩ | ⟨h,_⟩
   rotate_left 3
   .exact h
   all_goals cases h
  obtain⟨p1,p',H5,H6,l1,ap,s5,pu⟩:=B4.push hels (j:=5) (o:=6) (z:=6) (ty:=59) (by':=112) (by omega) rfl rfl rfl D hdl rfl (by omega);obtain⟨P',Hy,lP,sy,ly,S⟩:=B4.end_push (e:=0) (o:=O) pu (.inr ⟨.rul d,rfl,by rw[hD];rfl,hOe,rfl⟩);refine A7 Af ?_;simp -implicitDefEqProofs [hL,l1,lD,bs6,ap,s5];exact Aq.mk (H6,nx+6,P') ⟨⟨Hy,lP,sy,ly,S⟩⟩ (sub_env (by simp -implicitDefEqProofs))
 .obtain rfl:f = .roo:=by
   rcases hmk with⟨h,_⟩ | ⟨h,_⟩ | ⟨h,_⟩ | ⟨h,_⟩ | ⟨_,h⟩
   rotate_left 4
   .exact h
   all_goals cases h
  obtain⟨p1,p',H5,H6,l1,ap,s5,pu⟩:=B4.push hels (j:=6) (o:=7) (z:=6) (ty:=59) (by':=112) (by omega) rfl rfl rfl D hdl rfl (by omega);obtain⟨P',Hy,lP,sy,ly,S⟩:=B4.end_push (e:=0) (o:=O) pu (.inr ⟨.roo d,rfl,by rw[hD];rfl,hOe,rfl⟩);refine A7 Af ?_;simp -implicitDefEqProofs [hL,l1,lD,bs6,ap,s5];exact Aq.mk (H6,nx+6,P') ⟨⟨Hy,lP,sy,ly,S⟩⟩ (sub_env (by simp -implicitDefEqProofs))
end
section
variable {L : List KT} {p p1 : Nat} {e : Int}
theorem A8c (h:AE L p 1 = .error e):elS L 2 p = .error e:=by simp[elS,h]
theorem A8d {x:ByteArray} (h:AE L p 1 = .ok (x,p1)):elS L 2 p = .ok (.imp x,p1):=by simp[elS,EJ,h]
theorem A8e (h:FU L p = .error e):elS L 3 p = .error e:=by
 unfold FU at h;unfold elS;rw[zz (by omega),zz (by omega)];split at h
 .rename_i h1;rw[h1];injection h with h;rw[h]
 .rename_i n p2 h1;rw[h1];simp[EJ,h]
theorem A8f {d:TyD} (h:FU L p = .ok (d,p1)):elS L 3 p = .ok (.typ d,p1):=by
 unfold FU at h;unfold elS;rw[zz (by omega),zz (by omega)];split at h
 .cases h
 .rename_i n p2 h1;rw[h1];simp[EJ,h]
theorem A8g (h:En L p = .error e):elS L 9 p = .error e:=by simp[elS,h]
theorem A8h {x:List ByteArray} (h:En L p = .ok (x,p1)):elS L 9 p = .ok (.chk x,p1):=by simp[elS,h]
theorem A8i (h:AE L p 2 = .error e):elS L 10 p = .error e:=by simp[elS,h]
theorem A8j {x:ByteArray} (h:AE L p 2 = .ok (x,p1)):elS L 10 p = .ok (.drp x,p1):=by simp[elS,h]
theorem A8k (h:FU L p = .error e):e≠0:=by
 unfold FU at h;split at h
 .rename_i h1;injection h with h;subst h;exact My h1
 .rename_i n p2 h1;have hp:=D1 h1;unfold FJ at h;split at h
  .rename_i h2;injection h with h;subst h;unfold Cf at h2;split at h2
   .rename_i hs;have:=Bo hs;exact iN h2 (by omega)
   .cases h2
  .rename_i su p3 h2;split at h
   .rename_i h3;injection h with h;subst h;unfold Cf at h3;split at h3
    .rename_i hs;have:=Bo hs;exact iO h3 (by omega)
    .cases h3
   .cases h
end
structure Mid (k:Nat):Prop where
 a:4<=k
 b:k<=8
section
variable {t : T} {i nx : Nat} {H : Ab} {l : List Tok} {els : List El} {ks : Nat -> Nat} {name : ByteArray}
theorem A8l (ht:IsS Ap t l) (hlim:l.length<=1000000) (hsm:∀x∈l,x.t.length<=100000) {x:Tok} (hx:l[i]?=some x) {k:Nat} (hk:Db x.t=k) (hk2:2<=k) (M:BZ els ks H nx) (hels:els.length<=1000000) :
  ∃fi:Fin,StD name ks els H nx (elS (l.map kt) k (i+1)) fi/\AB Xa (G q) 63 [.t t,.t (iv (i:Int)),AN (AM name ks els)] H nx fi.r fi.H fi.nx:=by
 obtain⟨O,hO⟩:∃O,O=elS (l.map kt) k (i+1):=⟨_,rfl⟩
 rw[<-hO];have hil:=(Xl.1 hx).1;obtain⟨r0,hr0⟩:=EH ht hx;have CW:=Ox (q:=q) ht;have hcp:=GH (AM name ks els);have B0:=MdD.mk0 (name:=name) M
 obtain⟨H1,hH1⟩:∃H1:Ab,H1=(nx+1,.cells AD (zMd.map .t))::(nx,.cells AD (AM name ks els))::H:=⟨_,rfl⟩
 rw[<-hH1]at B0
 obtain⟨ps,hps⟩:∃ps,ps=AM name ks els:=⟨_,rfl⟩
 obtain⟨P,hP⟩:∃P,P=AN (AM name ks els):=⟨_,rfl⟩
 rw[<-hP,<-hps]at hcp;rw[<-hP]
 have lP:Ao true 10 H1 (.ptr nx 0)=some P:=by rw[hP];exact GJ B0.bx rfl
 refine rH.callX rfl ?_;(conv in XU=>cbv);refine Ai Af ?_;simp -implicitDefEqProofs [hcp];refine B9 (s':=⟨[(6,.ptr (nx+1) 0),(5,.ptr nx 0),(1,.t (iv (i:Int))),(0,.t t)],H1,nx+2,117⟩) (by rw[hH1,<-hps];exact sub_env (by simp -implicitDefEqProofs)) rfl ?_;have e1:Xc.wrap ((i:Int)+1)=(i:Int)+1:=AH (n:=i+1) rfl (by omega);have e2:Xc.wrap ((i:Int)+2)=(i:Int)+2:=AH (n:=i+2) rfl (by omega)
 obtain⟨L,hL⟩:∃L,(bs x.t).toList=L:=⟨_,rfl⟩
 have hL2:x.t=L:=by rw[<-hL,Ft]
 have hkL:Db L=k:=by rw[<-hL2];exact hk
 refine D5 (λ_:Unit=>⟨[(6,.ptr (nx+1) 0),(5,.ptr nx 0),(1,.t (iv (i:Int))),(0,.t t)],H1,nx+2,117⟩) (λ_=>Mid k) (λ_=>rfl) ?_ ?_
 .refine Ai Af ?_;simp -implicitDefEqProofs [hr0,BJ];refine CQ ?_;rcases M9 hkL with⟨h,_⟩ | ⟨rfl,rfl⟩ | ⟨rfl,rfl⟩ | ⟨rfl,rfl⟩ | ⟨rfl,rfl⟩ | ⟨rfl,rfl⟩ | ⟨rfl,rfl⟩ | ⟨rfl,rfl⟩ | ⟨rfl,rfl⟩ | ⟨rfl,rfl⟩ | ⟨h,_⟩
  all_goals first | (exfalso;omega) | skip
  .
   have gk:CT l t [t,iv ((i:Int)+1),iv 1]=_:=E6 (l:=l) (t:=t) (i:=i+1) 1;have gw:Ck l t [t,iv ((i:Int)+1)]=_:=DK (l:=l) (t:=t) (i:=i+1);rcases Fj (l:=l) (i:=i+1) ht 1 with⟨hkk,s,r,htk,hjl,hia⟩ | ⟨hkk,htk,hw⟩
   .rw[hkk]at gk;have hia:Bm 3 (.t t) (.t (.v (.int .i64 ((i:Int)+1))))=some (.t (.pt (iv 1::sv s::r))):=hia;obtain⟨p,p',H4,H5,l1,ap,s5,pu⟩:=B0.pushT hels (j:=0) (o:=1) (z:=1) (ty:=9) (by':=16) (by omega) rfl rfl rfl [sv s] rfl (by omega);obtain⟨P',Hy,lP',sy,ly,S⟩:=B0.end_push (i':=i+2) (e:=0) (o:=O) pu (.inr ⟨.imp s,rfl,rfl,by rw[hO];exact A8d htk,rfl⟩);refine A7 CW ?_;simp -implicitDefEqProofs [hL,AZ,AW,e1,gk,hia,BJ,l1,tsS,ap,s5,lP',e2,sy];exact A6 ⟨Bh P' (i+2) 0,Hy,nx+3⟩ S (by simp -implicitDefEqProofs [ly,Bh])
   .rw[hkk]at gk;obtain⟨Hy,sy,ly,S⟩:=B0.end_err 0 (⟨by rw[hO];exact A8c htk,hw⟩:O = .error (Bi (l.map kt) (i+1))/\_);rw[<-hP]at sy ly S;refine A7 CW ?_;simp -implicitDefEqProofs [hL,AZ,AW,e1,gk,gw,lP,sy];exact A6 ⟨Bh P 0 (Bi (l.map kt) (i+1)),Hy,nx+2⟩ S (by simp -implicitDefEqProofs [ly,Bh])
  .
   have hc:=A7q (q:=q) (i:=i+1) ht hlim (by omega);have gs:=FR [t,iv ((i+1:Nat):Int)] (r3 (.ag zT3) (λd:TyD=>.ag d.cs) (FU (l.map kt) (i+1)));have CS:Ctx Xa (G q) (orc [(101,D8 [t,iv ((i+1:Nat):Int)] (r3 (.ag zT3) (λd:TyD=>.ag d.cs) (FU (l.map kt) (i+1))))]):=(A5.cons (FS hc) .nil).ctx mixed;rw[show((i+1:Nat):Int)=(i:Int)+1 from rfl]at CS gs
   have key:∃(D:List T) (p:Nat) (e:Int),D.length=3/\r3 (.ag zT3) (λd:TyD=>.ag d.cs) (FU (l.map kt) (i+1)) = .tu [.ag D,iv (p:Int),iv e]/\((O = .error e/\e≠0)\/(∃y:El,y.j=1/\y.cs=D/\O = .ok (y,p)/\e=0)):=by
    cases hd:FU (l.map kt) (i+1)with
    | error e=>exact⟨zT3,0,e,rfl,rfl,.inl ⟨by rw[hO];exact A8e hd,A8k hd⟩⟩
    | ok y=>exact⟨y.1.cs,y.2,0,rfl,rfl,.inr ⟨.typ y.1,rfl,rfl,by rw[hO];exact A8f hd,rfl⟩⟩
   obtain⟨D,p,e,hdl,hr,hx3⟩:=key;rw[hr]at gs CS;have sz:A8 3 ((nx+2,.cells DP [.t (sv ⟨#[]⟩),.t Ad,.t Ad])::H1) (.ptr (nx+2) 0) (.t (.ag D))=some ((nx+2,.cells DP (D.map .t))::H1):=Fg (zs:=[.t (sv ⟨#[]⟩),.t Ad,.t Ad]) (n:=3) rfl hdl H1;have B4:=B0.cons (r:=.cells DP (D.map .t)) (ClR.trees _ _ _)
   have L4:Aa ((nx+2,Row.cells DP (D.map .t))::H1) (nx+2)=some (.cells DP (D.map .t)):=by rw[A1,zy rfl]
   obtain⟨H4,hH4⟩:∃H4:Ab,H4=(nx+2,.cells DP (D.map .t))::H1:=⟨_,rfl⟩
   rw[<-hH4]at sz B4 L4;have lD:=ldN L4 hdl;have bs3:=eL (nx+3) hdl;obtain⟨p1,p',H5,H6,l1,ap,s5,pu⟩:=B4.push hels (j:=1) (o:=2) (z:=3) (ty:=112) (by':=64) (by omega) rfl rfl rfl D hdl rfl (by omega);obtain⟨P',Hy,lP',sy,ly,S⟩:=B4.end_push (i':=p) (e:=e) (o:=O) pu hx3;refine A7 CS ?_;simp -implicitDefEqProofs [hL,e1,gs,sz,l1,lD,bs3,ap,s5,lP',sy];exact A6 ⟨Bh P' p e,Hy,nx+5⟩ S (by simp -implicitDefEqProofs [ly,Bh])
  .refine A7 Af ?_;simp -implicitDefEqProofs [hL];exact Aq.mk () ⟨by omega,by omega⟩ (sub_env (by simp -implicitDefEqProofs))
  .refine A7 Af ?_;simp -implicitDefEqProofs [hL];exact Aq.mk () ⟨by omega,by omega⟩ (sub_env (by simp -implicitDefEqProofs))
  .refine A7 Af ?_;simp -implicitDefEqProofs [hL];exact Aq.mk () ⟨by omega,by omega⟩ (sub_env (by simp -implicitDefEqProofs))
  .refine A7 Af ?_;simp -implicitDefEqProofs [hL];exact Aq.mk () ⟨by omega,by omega⟩ (sub_env (by simp -implicitDefEqProofs))
  .refine A7 Af ?_;simp -implicitDefEqProofs [hL];exact Aq.mk () ⟨by omega,by omega⟩ (sub_env (by simp -implicitDefEqProofs))
  .
   have hc:=A7c (q:=q) (i:=i+1) ht hlim (by omega);have gs:=FR [t,iv ((i+1:Nat):Int)] (r3 Ad (Am Aj) (En (l.map kt) (i+1)));have CS:Ctx Xa (G q) (orc [(102,D8 [t,iv ((i+1:Nat):Int)] (r3 Ad (Am Aj) (En (l.map kt) (i+1))))]):=(A5.cons (FS hc) .nil).ctx mixed;rw[show((i+1:Nat):Int)=(i:Int)+1 from rfl]at CS gs
   have key:∃(out:List ByteArray) (p:Nat) (e:Int),r3 Ad (Am Aj) (En (l.map kt) (i+1)) = .tu [Am Aj out,iv (p:Int),iv e]/\((O = .error e/\e≠0)\/(∃y:El,y.j=7/\y.cs=[Am Aj out]/\O = .ok (y,p)/\e=0)):=by
    cases hd:En (l.map kt) (i+1)with
    | error e=>exact⟨[],0,e,rfl,.inl ⟨by rw[hO];exact A8g hd,A7e hd (by rw[Xb];omega)⟩⟩
    | ok y=>exact⟨y.1,y.2,0,rfl,.inr ⟨.chk y.1,rfl,rfl,by rw[hO];exact A8h hd,rfl⟩⟩
   obtain⟨out,p,e,hr,hx3⟩:=key;rw[hr]at gs CS;obtain⟨p1,p',H5,H6,l1,ap,s5,pu⟩:=B0.push hels (j:=7) (o:=8) (z:=1) (ty:=44) (by':=24) (by omega) rfl rfl rfl [Am Aj out] rfl (xs:=[.t (Am Aj out)]) rfl (by omega);obtain⟨P',Hy,lP',sy,ly,S⟩:=B0.end_push (i':=p) (e:=e) (o:=O) pu hx3;have bsl:=bsL (nx+2) out
   obtain⟨W,hW⟩:∃W,W=Am Aj out:=⟨_,rfl⟩
   rw[<-hW]at gs CS bsl ap;refine A7 CS ?_;simp -implicitDefEqProofs [hL,e1,gs,l1,bsl,ap,s5,lP',sy];exact A6 ⟨Bh P' p e,Hy,nx+4⟩ S (by simp -implicitDefEqProofs [ly,Bh])
  .
   have gk:CT l t [t,iv ((i:Int)+1),iv 2]=_:=E6 (l:=l) (t:=t) (i:=i+1) 2;have gw:Ck l t [t,iv ((i:Int)+1)]=_:=DK (l:=l) (t:=t) (i:=i+1);rcases Fj (l:=l) (i:=i+1) ht 2 with⟨hkk,s,r,htk,hjl,hia⟩ | ⟨hkk,htk,hw⟩
   .rw[hkk]at gk;have hia:Bm 3 (.t t) (.t (.v (.int .i64 ((i:Int)+1))))=some (.t (.pt (iv 2::sv s::r))):=hia;obtain⟨p,p',H4,H5,l1,ap,s5,pu⟩:=B0.pushT hels (j:=8) (o:=9) (z:=1) (ty:=9) (by':=16) (by omega) rfl rfl rfl [sv s] rfl (by omega);obtain⟨P',Hy,lP',sy,ly,S⟩:=B0.end_push (i':=i+2) (e:=0) (o:=O) pu (.inr ⟨.drp s,rfl,rfl,by rw[hO];exact A8j htk,rfl⟩);refine A7 CW ?_;simp -implicitDefEqProofs [hL,AZ,AW,e1,gk,hia,BJ,l1,tsS,ap,s5,lP',e2,sy];exact A6 ⟨Bh P' (i+2) 0,Hy,nx+3⟩ S (by simp -implicitDefEqProofs [ly,Bh])
   .rw[hkk]at gk;obtain⟨Hy,sy,ly,S⟩:=B0.end_err 0 (⟨by rw[hO];exact A8i htk,hw⟩:O = .error (Bi (l.map kt) (i+1))/\_);rw[<-hP]at sy ly S;refine A7 CW ?_;simp -implicitDefEqProofs [hL,AZ,AW,e1,gk,gw,lP,sy];exact A6 ⟨Bh P 0 (Bi (l.map kt) (i+1)),Hy,nx+2⟩ S (by simp -implicitDefEqProofs [ly,Bh])
 rintro _ ⟨k4,k8⟩;obtain⟨ps3,i',e,H3,n3,tb,hl3,hclr,hdis,k3,n3',fr3,cl3,t1,t2⟩:=iP (A8b (q:=q) (name:=name) ht hlim hsm hx hk k4 k8 B0.M hels);rw[<-hO]at hdis;rw[<-hP]at t1;have CB:Ctx Xa (G q) _:=A5.nil.ctxH (B6.cons t2 .nil) mixed
 have rs3:Aa H3 (nx+1)=some (.cells AD (zMd.map .t)):=by rw[k3 (nx+1) (by omega) B0.n2];exact B0.rs
 obtain⟨sy,ly⟩:=KZ (ps:=ps3) rs3 rfl hl3
 obtain⟨Hy,hHy⟩:∃Hy,Hy=Xe H3 (nx+1) (.cells AD ps3):=⟨_,rfl⟩
 obtain⟨P3,hP3⟩:∃P3,P3=AN ps3:=⟨_,rfl⟩
 rw[<-hP3,<-hHy]at sy ly;rw[<-hP3]at t1;obtain⟨x1,x2,x3⟩:=Qz P3 i' e
 have hky:∀c,c≠nx+1->Aa Hy c=Aa H3 c:=λc hc=>by rw[hHy,A9,zz hc]
 have SF:StD name ks els H nx O ⟨Bh P3 i' e,Hy,n3⟩:=by
  refine⟨⟨ps3,i',e,by rw[hP3],hl3,λh=>hclr (B0.cl h),?_⟩,λc c1 c3=>?_,by show nx<=n3;omega,λh=>?_,λh=>?_⟩
  .rcases hdis with h | ⟨y,h1,h2,ks',h3,h4,h5⟩
   .exact .inl h
   .exact .inr ⟨y,h1,h2,ks',h3,h4.keep (λj hj=>hky _ (λe=>h5 (nx+1) (by omega) B0.n2 j hj e.symm)) (Xh _),λc hc hN=>h5 c (by omega) hN⟩
  .show Aa Hy c=_;rw[hky c (by omega),k3 c (by omega) c3];exact B0.k c c1 c3
  .show Frs Hy n3;rw[hHy];exact(fr3 (B0.fr h)).upd
  .show Cl Hy n3;rw[hHy];exact(cl3 (B0.cl h)).upd (hclr (B0.cl h))
 refine A7 CB ?_;simp -implicitDefEqProofs [lP,t1,x1,x2,x3,sy,-Bv];exact A6 ⟨Bh P3 i' e,Hy,n3⟩ SF (by simp -implicitDefEqProofs [ly,Bh])
end
end Go.Proofs.YtobnacghaamfoaaGreatDoor
namespace Go.Abs
open Go
theorem A8m {e z by' nx b n m:Nat} {H:Ab} {cs ps:List PV} {x:PV} (h:Aa H b=some (.cells e cs)) (hs:DB H z x=some (m,ps)) (hl:cs.length=n*z) (h1:(n+m)*by'<=140737488355328) (h2:n+m<=1000000000) :
  B1 e z by' H nx (.row b 0 n z) x=some (.row nx 0 (n+m) z,(nx,.cells e (cs++ps))::Abs.rem H b,nx+1):=by
 unfold B1;rw[hs];simp only[h];rw[zy ⟨trivial,trivial,trivial,hl,h1,by omega⟩]
theorem Q0 {H:Ab} {b n z ty:Nat} {cs:List PV} (h:Aa H b=some (.cells ty cs)) (hl:n*z<=cs.length):DB H z (.row b 0 n z)=some (n,cs.take (n*z)):=by
 unfold DB;simp only[h];rw[zy ⟨trivial,by omega⟩,List.drop_zero]
theorem Q2 {e z by' nx b n m:Nat} {H:Ab} {cs ps:List PV} {x:PV} (h:Aa H b=some (.cells e cs)) (hs:DB H z x=some (m,ps)) (hl:cs.length=n*z) (h1:(n+m)*by'<=140737488355328) (h2:n+m<=1000000000) (hb:b<nx) :
  ∃H',B1 e z by' H nx (.row b 0 n z) x=some (.row nx 0 (n+m) z,H',nx+1)/\Aa H' nx=some (.cells e (cs++ps))/\(∀c,c<nx->c≠b->Aa H' c=Aa H c)/\(Frs H nx->Frs H' (nx+1)):=
 ⟨_,A8m h hs hl h1 h2,by rw[A1,zy rfl],λc c1 c2=>by rw[A1,zz (by omega),Cr,zz c2],λh=>h.rem.cons (Xf _) (Xd _)⟩
end Go.Abs
namespace Go.Proofs.YtobnacghaamfoaaGreatDoor
open Go Go.Abs
variable {q : Gl}
structure Q3 (F:List Md) (cu:Cur) (ko:Nat) (H:Ab) (nx:Nat):Prop where
 out:Aa H ko=some (.cells AD (E8 F cu))
 M:BZ cu.els cu.ks H nx
 nk:BC cu.els cu.ks ko
 lt:ko<nx
structure ClD (F:List Md) (cur:Option Cur) (H:Ab) (nx:Nat) (o:Res EL) (f:Fin):Prop where
 ex:(∃e,f.r=Bh (.t Ad) 0 e/\e≠0/\o = .error e)\/(∃a p F' cu' ko',f.r=Bh (.row ko' 0 (F'.length+1) 10) p 0/\o = .ok (a,p)/\(DO F cur).add a=DO F' (some cu')/\Q3 F' cu' ko' f.H f.nx/\F'.length<=F.length+1/\∀N,(∀cu,cur=some cu->cu.els.length<=N)->cu'.els.length<=N+1)
 n:nx<=f.nx
 fr:Frs H nx->Frs f.H f.nx
def TS (cur:Option Cur):List PV:=match cur with
 | none=>zMd.map .t
 | some cu=>AM cu.name cu.ks cu.els
theorem A8n (cur:Option Cur):(TS cur).length=10:=by cases cur<;>rfl
theorem bsE (n:Nat):De AD 10 [.string ⟨#[]⟩,.slice none 0 0,.slice none 0 0,.slice none 0 0,.slice none 0 0,.slice none 0 0,.slice none 0 0,.slice none 0 0,.slice none 0 0,.slice none 0 0] 0 [] n=some (.row n 0 0 10,.cells AD []):=rfl
theorem bsP (n:Nat) {ps:List PV} (h:ps.length=10):De AD 10 [.string ⟨#[]⟩,.slice none 0 0,.slice none 0 0,.slice none 0 0,.slice none 0 0,.slice none 0 0,.slice none 0 0,.slice none 0 0,.slice none 0 0,.slice none 0 0] 1 [(0,AN ps)] n=some (.row n 0 1 10,.cells AD ps):=by
 unfold De;rw[zy (by omega)];simp only[DA,GH,h,Nat.zero_mul];have hz:(FW [Value.string ⟨#[]⟩,.slice none 0 0,.slice none 0 0,.slice none 0 0,.slice none 0 0,.slice none 0 0,.slice none 0 0,.slice none 0 0,.slice none 0 0,.slice none 0 0] 1).length=10:=rfl;rw[zy ⟨trivial,by omega⟩,KP _ _ (by omega)];rfl
abbrev nmM (a:ByteArray):List T:=[sv a,Ad,Ad,Ad,Ad,Ad,Ad,Ad,Ad,Ad]
theorem A8o (Φ:AC) (H:Ab) (nx:Nat) (a:ByteArray):Ah Φ H nx (.build [(0,1),(1,1),(2,1),(3,1),(4,1),(5,1),(6,1),(7,1),(8,1),(9,1)] [.string ⟨#[]⟩,.slice none 0 0,.slice none 0 0,.slice none 0 0,.slice none 0 0,.slice none 0 0,.slice none 0 0,.slice none 0 0,.slice none 0 0,.slice none 0 0] [0]) [.t (sv a)]=some (.t (.ag (nmM a)),H,nx):=rfl
theorem A8p (Φ:AC) (H:Ab) (nx:Nat) (a:ByteArray):Bb Φ H nx (.build [(0,1),(1,1),(2,1),(3,1),(4,1),(5,1),(6,1),(7,1),(8,1),(9,1)] [.string ⟨#[]⟩,.slice none 0 0,.slice none 0 0,.slice none 0 0,.slice none 0 0,.slice none 0 0,.slice none 0 0,.slice none 0 0,.slice none 0 0,.slice none 0 0] [0]) [.t (sv a)]=some (.t (.ag (nmM a))):=rfl
theorem A8q (n:Nat) (a:ByteArray):De AD 10 [.string ⟨#[]⟩,.slice none 0 0,.slice none 0 0,.slice none 0 0,.slice none 0 0,.slice none 0 0,.slice none 0 0,.slice none 0 0,.slice none 0 0,.slice none 0 0] 1 [(0,.t (.ag (nmM a)))] n=some (.row n 0 1 10,.cells AD ((nmM a).map .t)):=rfl
theorem A8r (ko n:Nat):FY 10 (.row ko 0 (n+1) 10) none (some (.t (iv (n:Int))))=some (.row ko 0 n 10):=by
 have h1:(n:Int)<=((n+1:Nat):Int):=by omega
 simp[FY,CD];intro h;simp[h]
theorem iQ {L:List KT} {p:Nat} {s:List UInt8} (h:Au L p s=false):Bk L p s = .error (Bi L p):=by
 unfold Bk Bi;by_cases h2:L.length<=p
 .rw[zy h2,zy h2]
 .rw[zz h2,zz h2,h];rfl
theorem iR {L:List KT} {p:Nat} {s:List UInt8} (h:Au L p s=true):Bk L p s = .ok (p+1):=by
 have:=Bo h;unfold Bk;rw[zz (by omega),h];rfl
theorem iS (L:List KT) (p:Nat):Bi L p≠0:=by
 unfold Bi;split<;>decide
section
variable {t : T} {i nx : Nat} {H : Ab} {l : List Tok} {F : List Md} {cur : Option Cur} {ko : Nat}
theorem A8s {x:Tok} (hx:l[i]?=some x):F6 (l.map kt) i ⟨#[109,111,100,117,108,101]⟩=decide (D0 (kt x)=1):=by
 unfold F6 AE;rw[E5,hx];simp only[Option.map_some]
 have hk:D0 (kt x)=if x.k=1 then Db x.t else 0:=rfl
 rw[hk];by_cases h:x.k=1
 .rw[zy (show(kt x).1=1 from h),zy h];simp only;apply Xr.2;simp only[decide_eq_true_eq];constructor
  .intro h2
   have h3:x.t=[109,111,100,117,108,101]:=by
    have:=congrArg (λb:ByteArray=>b.data.toList) h2;simpa using this
   rw[h3];rfl
  .intro h2;rcases M9 h2 with⟨_,h3⟩ | h3
   .show bs x.t=_;rw[h3]
   .omega
 .rw[zz (show ¬(kt x).1=1 from h),zz h];rfl
theorem A8t (ht:IsS Ap t l) (hlim:l.length<=1000000) (hsm:∀x∈l,x.t.length<=100000) {x:Tok} (hx:l[i]?=some x) (hemp:cur=none->F=[]) (hout:∀cu,cur=some cu->Q3 F cu ko H nx/\cu.els.length<=1000000) (hF:F.length<=1000000) :
  ∃fi:Fin,ClD F cur H nx (K0 (l.map kt) (DO F cur) (kt x) i) fi/\AB Xa (G q) 33 [.t t,.t (iv (i:Int)),CU F cur ko] H nx fi.r fi.H fi.nx:=by
 obtain⟨O,hO⟩:∃O,O=K0 (l.map kt) (DO F cur) (kt x) i:=⟨_,rfl⟩
 rw[<-hO];rw[Mw]at hO
 obtain⟨K,hK⟩:∃K,K=D0 (kt x):=⟨_,rfl⟩
 rw[<-hK]at hO;have hil:=(Xl.1 hx).1;obtain⟨r0,hr0⟩:=EH ht hx;have CW:=Ox (q:=q) ht
 obtain⟨n,hn⟩:∃n,n=(DO F cur).all.length:=⟨_,rfl⟩
 have hlen:Bd (CU F cur ko)=some (.t (iv (n:Int))):=by rw[hn];exact fY hemp
 have hn1:n<=F.length+1:=by
  rw[hn]
  cases cur with
  | none=>show(F++[]).length<=_;rw[List.append_nil];omega
  | some cu=>show(F++[_]).length<=_;rw[Xg];exact Xh _
 have hn0:cur=none->n=0:=λh=>by rw[hn,h,hemp h];rfl
 have hns:∀cu,cur=some cu->n=F.length+1:=λcu h=>by
  rw[hn,h];show(F++[_]).length=_;rw[Xg];rfl
 obtain⟨P9,hP9⟩:∃P9,P9=AN (TS cur):=⟨_,rfl⟩
 obtain⟨H1,hH1⟩:∃H1:Ab,H1=(nx,.cells AD (TS cur))::H:=⟨_,rfl⟩
 have l9:Ao true 10 H1 (.ptr nx 0)=some P9:=by rw[hP9];exact GJ (by rw[hH1,A1,zy rfl]) (A8n cur)
 have k1:∀c,c<nx->Aa H1 c=Aa H c:=λc hc=>by rw[hH1,A1,zz (by omega)]
 have fr1:Frs H nx->Frs H1 (nx+1):=λh=>by rw[hH1];exact h.cons (Xf _) (Xd _)
 obtain⟨LV,hLV⟩:∃LV,LV=CU F cur ko:=⟨_,rfl⟩
 rw[<-hLV]at hlen ⊢;refine rD.callX rfl ?_;unfold XP;refine Ai Af ?_;simp -implicitDefEqProofs;refine Ai Af ?_;simp -implicitDefEqProofs;refine D5 (λ_:Unit=>⟨[(9,.ptr nx 0),(2,LV),(1,.t (iv (i:Int))),(0,.t t)],H1,nx+1,130⟩) (λ_=>True) (λ_=>rfl) ?_ ?_
 .cases hc:cur with
  | none=>
   have hz:=hn0 hc;subst hz;refine A7 Af ?_;simp -implicitDefEqProofs [hlen];exact Aq.mk () trivial (by rw[hH1,hc];exact sub_env (by simp -implicitDefEqProofs))
  | some cu=>
   obtain⟨D,_⟩:=hout cu hc;have hs:=hns cu hc
   have hd:(0:Int)<(n:Int):=by omega
   have hd2:0<n:=by omega
   have hLr:LV = .row ko 0 (F.length+1) 10:=by rw[hLV,hc];rfl
   have w1:Xc.wrap ((n:Int)-1)=(F.length:Int):=AH (n:=F.length) (by omega) (by omega);have ia:=TB F ko;rw[<-hLr]at ia;have lO:=TA (c:=cu) (H:=(nx,Row.cells AD [.t (sv ⟨#[]⟩),.t Ad,.t Ad,.t Ad,.t Ad,.t Ad,.t Ad,.t Ad,.t Ad,.t Ad])::H) (ko:=ko) (F:=F) (by have:=D.lt;rw[A1,zz (by omega)];exact D.out);have st:=eI (AM cu.name cu.ks cu.els) rfl nx AD [.t (sv ⟨#[]⟩),.t Ad,.t Ad,.t Ad,.t Ad,.t Ad,.t Ad,.t Ad,.t Ad,.t Ad] rfl H
   obtain⟨P,hP⟩:∃P,P=AN (AM cu.name cu.ks cu.els):=⟨_,rfl⟩
   rw[<-hP]at lO st
   obtain⟨R,hR⟩:∃R,R=Row.cells AD (AM cu.name cu.ks cu.els):=⟨_,rfl⟩
   rw[<-hR]at st;refine A7 Af ?_;simp -implicitDefEqProofs [hlen,hd,hd2,w1,ia,lO,st];exact Aq.mk () trivial (by rw[hH1,hc];show Sub _ _ _ _ ⟨_,(nx,Row.cells AD (AM cu.name cu.ks cu.els))::H,_,_⟩;rw[<-hR];exact sub_env (by simp -implicitDefEqProofs))
 rintro _ _;have gwd:IL l t [t,iv (i:Int),sv ⟨#[109,111,100,117,108,101]⟩]=_:=Qx (l:=l) (t:=t) (i:=i) _;rw[A8s hx,<-hK]at gwd;refine Ai CW ?_;simp -implicitDefEqProofs [AZ,gwd]
 obtain⟨wb,hwb⟩:∃wb,wb=decide (K=1):=⟨_,rfl⟩
 rw[<-hwb];refine B9 (s':=⟨[(10,.t (bv wb)),(9,.ptr nx 0),(2,LV),(1,.t (iv (i:Int))),(0,.t t)],H1,nx+1,130⟩) (sub_env (by simp -implicitDefEqProofs)) rfl ?_;have gk:CT l t [t,iv (i:Int),iv 1]=_:=E6 (l:=l) (t:=t) (i:=i) 1;rw[PI hx]at gk
 have hKk:x.k≠1->K=0:=λh=>by rw[hK];exact zz h
 have hKW:x.k=1->K=Db x.t:=λh=>by rw[hK];exact zy h
 have hK10:K<=10:=by rw[hK];exact kindT_le _
 have hsz:∀cu,cur=some cu->K≠1->x.k=1->∃(MC:List T) (G2:List Nat) (v:Int),toT H1 P9=some (.ag MC,G2)/\AA Xa (G q) 62 [sv (bs x.t),.ag MC] (· = iv v)/\((K=0/\v = -1)\/(2<=K/\v=(Cp (K-2) cu.els:Int))):=λcu hc hk1 hxk=>by
  obtain⟨D,_⟩:=hout cu hc;have M1:BZ cu.els cu.ks H1 (nx+1):=D.M.keep (λj hj=>k1 _ (D.M.lt j hj)) (Xd _);obtain⟨G2,hG⟩:=fW (name:=cu.name) M1;have hWK:=(hKW hxk).symm;refine⟨_,G2,if K=0 then -1 else(Cp (K-2) cu.els:Int),by rw[hP9,hc];exact hG,?_,?_⟩
  .by_cases h0:K=0
   .rw[zy h0];exact A7x _ rfl (by rw[h0]at hWK;exact hWK)
   .rw[zz h0];obtain⟨a,ha1,ha2⟩:=fX (name:=cu.name) (els:=cu.els) (kind:=K) (by omega) hK10;exact A7w _ rfl hWK (by omega) ha1 ha2
  .by_cases h0:K=0
   .exact .inl ⟨h0,zy h0⟩
   .exact .inr ⟨by omega,zz h0⟩
 have hErr:∀e:Int,e≠0->CP (DO F cur) K=e->O = .error e:=λe he hm=>by rw[hO,hm,zy he]
 have endE:∀e:Int,e≠0->O = .error e->ClD F cur H nx O ⟨Bh (.t Ad) 0 e,H1,nx+1⟩:=λe he h=>⟨.inl ⟨e,rfl,he,h⟩,Xd _,fr1⟩
 refine D5 (λ_:Unit=>⟨[(10,.t (bv wb)),(9,.ptr nx 0),(2,LV),(1,.t (iv (i:Int))),(0,.t t)],H1,nx+1,130⟩) (λ_=>OkA K cur/\x.k=1) (λ_=>rfl) ?_ ?_
 .by_cases hxk:x.k=1
  rotate_left
  .have hd:decide (x.k=1)=false:=zx hxk;rw[hd]at gk;have hK0:=hKk hxk;have hO8:=hErr 8 (by decide) (by rw[hK0];rfl);refine A7 CW ?_;simp -implicitDefEqProofs [AZ,AW,gk];exact A6 ⟨Bh (.t Ad) 0 8,H1,nx+1⟩ (endE 8 (by decide) hO8) (by simp -implicitDefEqProofs [Bh])
  have hd:decide (x.k=1)=true:=zw hxk;rw[hd]at gk;by_cases hk1:K=1
  .have hb:wb=true:=by rw[hwb];exact zw hk1
   rw[hb];refine A7 CW ?_;simp -implicitDefEqProofs [AZ,AW,gk];exact Aq.mk () ⟨⟨by omega,λh=>absurd hk1 h⟩,hxk⟩ (sub_env (by simp -implicitDefEqProofs))
  have hb:wb=false:=by rw[hwb];exact zx hk1
  rw[hb]
  cases hc:cur with
  | none=>
   have hz:=hn0 hc;subst hz
   have hO8:=hErr 8 (by decide) (by
    rw[hc];unfold CP;by_cases h0:K=0
    .rw[zy h0]
    .rw[zz h0,zz hk1];rfl)
   refine A7 CW ?_;simp -implicitDefEqProofs [AZ,AW,gk,hlen];rw[hc]at endE;exact A6 ⟨Bh (.t Ad) 0 8,H1,nx+1⟩ (endE 8 (by decide) hO8) (by simp -implicitDefEqProofs [Bh])
  | some cu=>
   obtain⟨MC,G2,v,hG,hcs,hv⟩:=hsz cu hc hk1 hxk;have hs:=hns cu hc
   have hn0':((n:Int)==0)=false:=by rw[zu];omega
   have gs:=FR [sv (bs x.t),.ag MC] (iv v);have CL:Ctx Xa (G q) (orc ((62,D8 [sv (bs x.t),.ag MC] (iv v))::AZ l t)):=(A5.cons (FS hcs) (JK ht)).ctx mixed;rcases hv with⟨h0,rfl⟩ | ⟨h2,rfl⟩
   .have hO8:=hErr 8 (by decide) (by rw[h0];rfl);refine A7 CL ?_;simp -implicitDefEqProofs [AZ,AW,gk,hlen,hn0',hr0,BJ,l9,hG,gs];rw[hc]at endE;exact A6 ⟨Bh (.t Ad) 0 8,H1,nx+1⟩ (endE 8 (by decide) hO8) (by simp -implicitDefEqProofs [Bh])
   .have hlt:¬((Cp (K-2) cu.els:Int)<0):=by omega
    obtain⟨v,hv⟩:∃v,v=Cp (K-2) cu.els:=⟨_,rfl⟩
    rw[<-hv]at gs CL hlt;refine A7 CL ?_;simp -implicitDefEqProofs [AZ,AW,gk,hlen,hn0',hr0,BJ,l9,hG,gs,hlt];exact Aq.mk () ⟨⟨by omega,λ_ h=>by cases h⟩,hxk⟩ (sub_env (by simp -implicitDefEqProofs))
 rintro _ ⟨⟨hK0,hcur⟩,hxk⟩;have hWK:=hKW hxk;refine D5 (λ_:Unit=>⟨[(10,.t (bv wb)),(9,.ptr nx 0),(2,LV),(1,.t (iv (i:Int))),(0,.t t)],H1,nx+1,130⟩) (λ_=>CP (DO F cur) K=0) (λ_=>rfl) ?_ ?_
 .by_cases hk1:K=1
  .have hb:wb=true:=by rw[hwb];exact zw hk1
   rw[hb]
   have hm:CP (DO F cur) K=if 256<=n then 7 else 0:=by
    unfold CP;rw[zz hK0,zy hk1,<-hn]
   by_cases h256:256<=n
   .rw[zy h256]at hm;have hO7:=hErr 7 (by decide) hm
    have d1:(256:Int)<=(n:Int):=by omega
    refine A7 CW ?_;simp -implicitDefEqProofs [AZ,AW,hlen,d1,h256];exact A6 ⟨Bh (.t Ad) 0 7,H1,nx+1⟩ (endE 7 (by decide) hO7) (by simp -implicitDefEqProofs [Bh])
   .rw[zz h256]at hm
    have d1:¬(256:Int)<=(n:Int):=by omega
    refine A7 CW ?_;simp -implicitDefEqProofs [AZ,AW,hlen,d1,h256];exact Aq.mk () hm (sub_env (by simp -implicitDefEqProofs))
  have hb:wb=false:=by rw[hwb];exact zx hk1
  rw[hb]
  cases hc:cur with
  | none=>exact absurd hc (hcur hk1)
  | some cu=>
   obtain⟨MC,G2,v,hG,hcs,hv⟩:=hsz cu hc hk1 hxk
   obtain⟨h2,rfl⟩:2<=K/\v=(Cp (K-2) cu.els:Int):=by
    rcases hv with⟨h0,_⟩ | h
    .exact absurd h0 hK0
    .exact h
   obtain⟨v,hv⟩:∃v,v=Cp (K-2) cu.els:=⟨_,rfl⟩
   rw[<-hv]at hcs;have gs:=FR [sv (bs x.t),.ag MC] (iv (v:Int));have CL:Ctx Xa (G q) (orc ((62,D8 [sv (bs x.t),.ag MC] (iv (v:Int)))::AZ l t)):=(A5.cons (FS hcs) (JK ht)).ctx mixed
   have hm:CP (DO F cur) K=if 256<=v then 7 else 0:=by
    unfold CP;rw[zz hK0,zz hk1,hc,hv];rfl
   by_cases h256:256<=v
   .rw[zy h256]at hm;have hO7:=hErr 7 (by decide) hm
    have d1:(256:Int)<=(v:Int):=by omega
    refine A7 CL ?_;simp -implicitDefEqProofs [AZ,AW,hlen,hr0,BJ,l9,hG,gs,d1,h256];rw[hc]at endE;exact A6 ⟨Bh (.t Ad) 0 7,H1,nx+1⟩ (endE 7 (by decide) hO7) (by simp -implicitDefEqProofs [Bh])
   .rw[zz h256]at hm
    have d1:¬(256:Int)<=(v:Int):=by omega
    refine A7 CL ?_;simp -implicitDefEqProofs [AZ,AW,hlen,hr0,BJ,l9,hG,gs,d1,h256];rw[hc]at hm;exact Aq.mk () hm (sub_env (by simp -implicitDefEqProofs))
 rintro _ hmay
 have hOc:O=clA (l.map kt) (kt x) i:=by rw[hO,hmay];rfl
 clear hO hErr hsz;unfold clA at hOc;rw[<-hK]at hOc;have e1:Xc.wrap ((i:Int)+1)=(i:Int)+1:=AH (n:=i+1) rfl (by omega);have e2:Xc.wrap ((i:Int)+2)=(i:Int)+2:=AH (n:=i+2) rfl (by omega);have e3:Xc.wrap ((i:Int)+3)=(i:Int)+3:=AH (n:=i+3) rfl (by omega);by_cases hk1:K=1
 .
  have hb:wb=true:=by rw[hwb];exact zw hk1
  rw[hb]
  obtain⟨F1,hF1⟩:∃F1,F1=(DO F cur).all:=⟨_,rfl⟩
  rw[<-hF1]at hn
  obtain⟨H2,hsub,hsrc,fr2⟩:∃H2:Ab,Sub Xa (G q) nx ⟨[(10,.t (bv true)),(9,.ptr nx 0),(2,LV),(1,.t (iv (i:Int))),(0,.t t)],H1,nx+1,130⟩ ⟨[(10,.t (bv true)),(9,.ptr nx 0),(2,LV),(1,.t (iv (i:Int))),(0,.t t)],H2,nx+1,130⟩ /\
    (∀r,DB ((nx+1,r)::H2) 10 LV=some (n,(F1.flatMap Md.cs).map .t))/\(Frs H1 (nx+1)->Frs H2 (nx+1)):=by
   cases hc:cur with
   | none=>
    have hF0:=hemp hc;refine⟨H1,Sub.refl _,λr=>?_,λh=>h⟩;rw[hLV,hc,hn,hF1,hc,hF0];rfl
   | some cu=>
    obtain⟨D,_⟩:=hout cu hc;have M1:BZ cu.els cu.ks H1 (nx+1):=D.M.keep (λj hj=>k1 _ (D.M.lt j hj)) (Xd _)
    have hLr:LV = .row ko 0 (F.length+1) 10:=by rw[hLV,hc];rfl
    have lk:=Qr (F:=F) (c:=cu) ((k1 ko D.lt).trans D.out) M1 D.nk
    have hfz:B5 H1 (Ed cu.els cu.ks) LV=LV:=by rw[hLr];exact TC (Lg D.nk)
    refine⟨B8 H1 (Ed cu.els cu.ks),EG _ (by simp -implicitDefEqProofs [hfz,Il,Gh]),λr=>?_,λh=>h.frzH _⟩;have hlt:=D.lt
    have lk2:Aa ((nx+1,r)::B8 H1 (Ed cu.els cu.ks)) ko=some (.cells AD ((F1.flatMap Md.cs).map .t)):=by
     rw[A1,zz (by omega),lk,hF1,hc];unfold rowOf;rw[List.flatMap_map];rfl
    rw[hLr,<-hns cu hc]
    have hl2:((F1.flatMap Md.cs).map PV.t).length=n*10:=by rw[Xb,HD,hn]
    rw[Q0 lk2 (by rw[hl2];exact Xh _),X5 (by rw[hl2];exact Xh _)]
  refine B9 hsub rfl ?_
  have endB:∀e:Int,e≠0->O = .error e->ClD F cur H nx O ⟨Bh (.t Ad) 0 e,H2,nx+1⟩:=λe he h=>⟨.inl ⟨e,rfl,he,h⟩,Xd _,λh=>fr2 (fr1 h)⟩
  have gk1:CT l t [t,iv ((i:Int)+1),iv 1]=_:=E6 (l:=l) (t:=t) (i:=i+1) 1;have gw1:Ck l t [t,iv ((i:Int)+1)]=_:=DK (l:=l) (t:=t) (i:=i+1);have gi2:Cj l t [t,iv ((i:Int)+2),sv ⟨#[59]⟩]=_:=EM (l:=l) (t:=t) (i:=i+2) ⟨#[59]⟩;rw[show(⟨#[59]⟩:ByteArray).data.toList=[59]from rfl]at gi2;have gw2:Ck l t [t,iv ((i:Int)+2)]=_:=DK (l:=l) (t:=t) (i:=i+2);rw[hk1]at hOc;rcases Fj (l:=l) (i:=i+1) ht 1 with⟨hkk,nm,r,htk,hjl,hia⟩ | ⟨hkk,htk,hw⟩
  rotate_left
  .rw[hkk]at gk1
   have hOe:O = .error (Bi (l.map kt) (i+1)):=by rw[hOc,eJ htk (by omega) (by omega)]
   refine Ai CW ?_;simp -implicitDefEqProofs [AZ,AW,e1,gk1,gw1];exact A6 ⟨Bh (.t Ad) 0 (Bi (l.map kt) (i+1)),H2,nx+1⟩ (endB _ hw hOe) (by simp -implicitDefEqProofs [Bh])
  rw[hkk]at gk1;have hia:Bm 3 (.t t) (.t (.v (.int .i64 ((i:Int)+1))))=some (.t (.pt (iv 1::sv nm::r))):=hia;rw[eK htk]at hOc;simp only at hOc
  cases hs:Au (l.map kt) (i+2) [59]with
  | false=>
   rw[hs]at gi2;rw[iQ hs]at hOc;refine Ai CW ?_;simp -implicitDefEqProofs [AZ,AW,e1,e2,gk1,gi2,gw2];exact A6 ⟨Bh (.t Ad) 0 (Bi (l.map kt) (i+2)),H2,nx+1⟩ (endB _ (iS _ _) hOc) (by simp -implicitDefEqProofs [Bh])
  | true=>
   rw[hs]at gi2;rw[iR hs]at hOc;simp only at hOc;obtain⟨H3,ap1,p3,k3,f3⟩:=Q2 (e:=AD) (z:=10) (by':=232) (nx:=nx+2) (b:=nx+1) (n:=0) (H:=(nx+1,.cells AD [])::H2) (cs:=[]) (by rw[A1,zy rfl]) (hsrc _) rfl (by omega) (by omega) (by omega);rw[Nat.zero_add,Xu]at *
   obtain⟨H5,ap2,p5,k5,f5⟩:=Q2 (e:=AD) (z:=10) (by':=232) (nx:=nx+4) (b:=nx+2) (n:=n) (m:=1) (H:=(nx+3,.cells AD ((nmM nm).map .t))::H3) (cs:=(F1.flatMap Md.cs).map .t) (ps:=(nmM nm).map .t) (x:=.row (nx+3) 0 1 10) (by rw[A1,zz (by omega)];exact p3) (by
    rw[Q0 (ty:=AD) (cs:=(nmM nm).map .t) (by rw[A1,zy rfl]) (by simp)]
    rfl) (by rw[Xb,HD,hn]) (by omega) (by omega) (by omega)
   obtain⟨zn,hzn⟩:∃zn,zn=nmM nm:=⟨_,rfl⟩
   have bd:=λΦ H nx=>A8o Φ H nx nm;have bq:=λΦ H nx=>A8p Φ H nx nm;have bs:=λn=>A8q n nm;rw[<-hzn]at ap2 p5;simp only[<-hzn]at bd bq bs;have ap1:B1 AD 10 232 ((nx+1,.cells AD [])::H2) (nx+1+1) (.row (nx+1) 0 0 10) LV=some (.row (nx+2) 0 n 10,H3,nx+3):=ap1;have ap2:B1 AD 10 232 ((nx+3,.cells AD (zn.map .t))::H3) (nx+3+1) (.row (nx+2) 0 n 10) (.row (nx+3) 0 1 10)=some (.row (nx+4) 0 (n+1) 10,H5,nx+5):=ap2;refine Ai CW ?_;simp -implicitDefEqProofs [AZ,AW,e1,e2,e3,gk1,gi2,hia,BJ,bd,bq,bsE,bs,ap1,ap2,-AF,-Ja];refine A6 ⟨Bh (.row (nx+4) 0 (n+1) 10) (i+3) 0,H5,nx+5⟩ ⟨.inr ⟨.md nm,i+3,F1,⟨nm,[],λ_=>0⟩,nx+4,by rw[hn],hOc,by rw[hF1];rfl,⟨?_,BZ.nil _ _ _,BC.nil _ _,by show nx+4<nx+5;omega⟩,by omega,λN _=>Xi _⟩,by show nx<=nx+5;omega,λh=>?_⟩ (by simp -implicitDefEqProofs [Bh])
   .show Aa H5 (nx+4)=_;rw[p5,hzn];rfl
   .have h1:=f3 ((fr2 (fr1 h)).cons (Xf _) (Xd _));exact f5 (h1.cons (Xf _) (Xd _))
 have hb:wb=false:=by rw[hwb];exact zx hk1
 rw[hb];obtain⟨cu,hc⟩:∃cu,cur=some cu:=Option.ne_none_iff_exists'.1 (hcur hk1);obtain⟨D,hels⟩:=hout cu hc;have hDlt:=D.lt;have M1:BZ cu.els cu.ks H1 (nx+1):=D.M.keep (λj hj=>k1 _ (D.M.lt j hj)) (Xd _)
 have nN:BC cu.els cu.ks nx:=λj hj=>by have:=D.M.lt j hj;omega
 have hLr:LV = .row ko 0 (F.length+1) 10:=by rw[hLV,hc];rfl
 have hP9':P9=AN (AM cu.name cu.ks cu.els):=by rw[hP9,hc];rfl
 obtain⟨ps,i',e,H3,n3,tb,hl,_,hdis,k3,n3',f3,_,t1,t2⟩:=iP (A8l (q:=q) (name:=cu.name) ht hlim hsm hx hWK.symm (by omega) M1 hels);rw[<-hP9']at t1;have CB:Ctx Xa (G q) _:=A5.nil.ctxH (B6.cons t2 .nil) mixed
 have r3:Aa H3 nx=some (.cells AD (AM cu.name cu.ks cu.els)):=by rw[k3 nx (by omega) nN,hH1,A1,zy rfl,hc];rfl
 have st4:=Em (n:=10) (o:=0) (t:=AN ps) (ns:=ps) r3 (GH ps) hl (by show 0+10<=10;omega);rw[KP _ _ (by rw[hl];rfl)]at st4
 have r4:Aa (Xe H3 nx (.cells AD ps)) nx=some (.cells AD ps):=by rw[A9,zy rfl,r3];rfl
 have k4:∀c,c≠nx->Aa (Xe H3 nx (.cells AD ps)) c=Aa H3 c:=λc hc=>by rw[A9,zz hc]
 have fr4:Frs H nx->Frs (Xe H3 nx (.cells AD ps)) n3:=λh=>(f3 (fr1 h)).upd
 obtain⟨H4,hH4⟩:∃H4,H4=Xe H3 nx (.cells AD ps):=⟨_,rfl⟩
 rw[<-hH4]at st4 r4 k4 fr4
 obtain⟨P4,hP4⟩:∃P4,P4=AN ps:=⟨_,rfl⟩
 rw[<-hP4]at st4 t1;obtain⟨x1,x2,x3⟩:=Qz P4 i' e;refine Ai Af ?_;simp -implicitDefEqProofs;refine Ai CB ?_;simp -implicitDefEqProofs [l9,t1,x1,x2,x3,st4,-Bv];refine B9 (s':=⟨[(11,.t (iv e)),(9,.ptr nx 0),(2,LV),(1,.t (iv (i':Int))),(0,.t t)],H4,n3,130⟩) (sub_env (by simp -implicitDefEqProofs)) rfl ?_
 have endC:∀e:Int,e≠0->O = .error e->ClD F cur H nx O ⟨Bh (.t Ad) 0 e,H4,n3⟩:=λe he h=>⟨.inl ⟨e,rfl,he,h⟩,by show nx<=n3;omega,fr4⟩
 have hact:C6 (l.map kt) K (i+1)=Og (elS (l.map kt) K (i+1)):=by
  unfold C6;rw[zz hk1];rfl
 rw[hact]at hOc;rcases hdis with⟨ho,he⟩ | ⟨y,ho,rfl,ks',hps,hM,hN⟩
 .have hb2:(e != 0)=true:=by rw[bne_iff_ne];exact he
  rw[ho]at hOc;refine Ai Af ?_;simp -implicitDefEqProofs [hb2];exact A6 ⟨Bh (.t Ad) 0 e,H4,n3⟩ (endC e he hOc) (by simp -implicitDefEqProofs [Bh])
 rw[ho]at hOc;have hfw:=dV K _ _ _ ho;rw[Xb]at hfw
 have hOc:O=match Bk (l.map kt) i' [59]with
   | .error e=>.error e
   | .ok p2=>.ok (.el y,p2):=hOc
 refine Ai Af ?_;simp -implicitDefEqProofs;have gi2:Cj l t [t,iv (i':Int),sv ⟨#[59]⟩]=_:=EM (l:=l) (t:=t) (i:=i') ⟨#[59]⟩;rw[show(⟨#[59]⟩:ByteArray).data.toList=[59]from rfl]at gi2;have gw2:Ck l t [t,iv (i':Int)]=_:=DK (l:=l) (t:=t) (i:=i')
 cases hs:Au (l.map kt) i' [59]with
 | false=>
  rw[hs]at gi2;rw[iQ hs]at hOc;refine Ai CW ?_;simp -implicitDefEqProofs [AZ,AW,gi2,gw2];exact A6 ⟨Bh (.t Ad) 0 (Bi (l.map kt) i'),H4,n3⟩ (endC _ (iS _ _) hOc) (by simp -implicitDefEqProofs [Bh])
 | true=>
 have lj:=Bo hs;rw[Xb]at lj;rw[hs]at gi2;rw[iR hs]at hOc;simp only at hOc;refine Ai CW ?_;simp -implicitDefEqProofs [AZ,AW,gi2];have e4:Xc.wrap ((i':Int)+1)=(i':Int)+1:=AH (n:=i'+1) rfl (by omega);have w1:Xc.wrap ((n:Int)-1)=(F.length:Int):=AH (n:=F.length) (by have:=hns cu hc;omega) (by omega);have sl:=A8r ko F.length;rw[<-hLr]at sl
 have o4:Aa H4 ko=some (.cells AD (E8 F cu)):=by rw[k4 ko (by omega),k3 ko (by omega) D.nk,k1 ko hDlt];exact D.out
 have hol:=T9 F cu
 have htk:(E8 F cu).take (F.length*10)=(F.flatMap Md.cs).map .t:=by
  unfold E8;rw[List.take_left' (by rw[Xb,HD])]
 obtain⟨H5,ap1,p5,k5,f5⟩:=Q2 (e:=AD) (z:=10) (by':=232) (nx:=n3+1) (b:=n3) (n:=0) (m:=F.length) (H:=(n3,.cells AD [])::H4) (cs:=[]) (ps:=(F.flatMap Md.cs).map .t) (x:=.row ko 0 F.length 10) (by rw[A1,zy rfl])
  (by rw[Q0 (by rw[A1,zz (by omega)];exact o4) (by rw[hol];omega),htk]) rfl (by omega) (by omega) (by omega)
 rw[Nat.zero_add,Xu]at *
 obtain⟨H6,ap2,p6,k6,f6⟩:=Q2 (e:=AD) (z:=10) (by':=232) (nx:=n3+3) (b:=n3+1) (n:=F.length) (m:=1) (H:=(n3+2,.cells AD ps)::H5) (cs:=(F.flatMap Md.cs).map .t) (ps:=ps) (x:=.row (n3+2) 0 1 10) (by rw[A1,zz (by omega)];exact p5) (by
  rw[Q0 (ty:=AD) (cs:=ps) (by rw[A1,zy rfl]) (by rw[hl];omega),Nat.one_mul,X5 (by rw[hl];exact Xh _)]) (by rw[Xb,HD]) (by omega) (by omega) (by omega)
 have bs:=λn=>bsP n hl;rw[<-hP4]at bs
 have r5:Aa H5 nx=some (.cells AD ps):=by rw[k5 nx (by omega) (by omega),A1,zz (by omega)];exact r4
 have l4:=GJ r4 hl;have l5:=GJ r5 hl;rw[<-hP4]at l4 l5;have ap1:B1 AD 10 232 ((n3,.cells AD [])::H4) (n3+1) (.row n3 0 0 10) (.row ko 0 F.length 10)=some (.row (n3+1) 0 F.length 10,H5,n3+2):=ap1;have ap2:B1 AD 10 232 ((n3+2,.cells AD ps)::H5) (n3+2+1) (.row (n3+1) 0 F.length 10) (.row (n3+2) 0 1 10)=some (.row (n3+3) 0 (F.length+1) 10,H6,n3+4):=ap2;refine A7 Af ?_;simp -implicitDefEqProofs [hlen,w1,sl,l4,l5,e4,bsE,bs,ap1,ap2]
 have k36:∀c,c<n3->c≠nx->Aa H6 c=Aa H3 c:=λc c1 c2=>by
  rw[k6 c (by omega) (by omega),A1,zz (by omega),k5 c (by omega) (by omega),A1,zz (by omega),k4 c c2]
 refine A6 ⟨Bh (.row (n3+3) 0 (F.length+1) 10) (i'+1) 0,H6,n3+4⟩ ⟨.inr ⟨.el y,i'+1,F,⟨cu.name,cu.els++[y],ks'⟩,n3+3,rfl,hOc,by rw[hc];rfl,⟨?_,hM.keep (λj hj=>?_) (by show n3<=n3+4;omega),λj hj=>?_,by show n3+3<n3+4;omega⟩,by omega,λN hN2=>?_⟩,by show nx<=n3+4;omega,λh=>?_⟩ (by simp -implicitDefEqProofs [Bh])
 .show Aa H6 (n3+3)=_;rw[p6,hps];rfl
 .have h1:=hM.lt j hj;exact k36 _ h1 (λe=>hN nx (by omega) nN j hj e.symm)
 .have h1:=hM.lt j hj;show n3+3≠ks' j;omega
 .have h1:=hN2 cu hc;show(cu.els++[y]).length<=N+1;rw[Xg,X4];omega
 .have h1:=f5 ((fr4 h).cons (Xf _) (Xd _));exact f6 (h1.cons (Xf _) (Xd _))
end
noncomputable def Q4:Tbl:=[(10,J7)]
theorem TT:Ctx Xa (G q) (orc Q4):=(A5.cons A0n .nil).ctx mixed
structure PdC where
 H:Ab
 nx:Nat
 i:Nat
 F:List Md
 cur:Option Cur
 ko:Nat
 m:Nat
def SPd (t:T) (c:PdC):Ac:=⟨[(9,.t (iv (c.i:Int))),(8,CU c.F c.cur c.ko),(5,.t t)],c.H,c.nx,46⟩
structure PdI (ts:List Tok) (Z:Except (Nat×Int) Sta) (c:PdC):Prop where
 z:Z=Gi (ts.map kt) c.m c.i (DO c.F c.cur)
 i:c.i<=ts.length
 m:ts.length<c.i+c.m
 emp:c.cur=none->c.F=[]
 out:∀cu,c.cur=some cu->Q3 c.F cu c.ko c.H c.nx/\cu.els.length<=c.i
 fl:c.F.length<=c.i
structure PdE (Z:Except (Nat×Int) Sta) (c:PdC):Prop where
 z:Z = .ok (DO c.F c.cur)
 emp:c.cur=none->c.F=[]
 out:∀cu,c.cur=some cu->Q3 c.F cu c.ko c.H c.nx
theorem A8u (s:ByteArray) (hs:s.size<=100000):AA Xa (G q) 15 [sv s] (· = FK (Er s.data.toList)):=by
 obtain⟨R,hR⟩:∃R,R=FK (Er s.data.toList):=⟨_,rfl⟩
 rw[<-hR];have gs:J7 [sv s]=some (Ff s.data.toList):=zy (by omega)
 obtain⟨D,hD⟩:∃D,D=s.data.toList:=⟨_,rfl⟩
 rw[<-hD]at gs hR;refine Hn (args:=[sv s]) ?_;refine qX.callX rfl ?_;(conv in XM=>cbv);refine Ai Af ?_;simp -implicitDefEqProofs;unfold Er at hR;unfold Ff at gs;by_cases hlen:65536<D.length
 .rw[zy hlen]at gs hR;refine Ai TT ?_;simp -implicitDefEqProofs [Q4,gs];refine Ai Af ?_;simp -implicitDefEqProofs;exact A6 ⟨.t (.tu [Ad,iv 0,iv 7]),[],0⟩ ⟨by rw[hR];rfl⟩ (by simp -implicitDefEqProofs)
 rw[zz hlen]at gs hR
 cases hsc:EY D 1 with
 | error x=>
  rw[hsc]at gs hR;simp only at gs hR;have he:=(cQ hsc).2
  have hb:(x.2 != 0)=true:=by rw[bne_iff_ne];exact he
  refine Ai TT ?_;simp -implicitDefEqProofs [Q4,gs];refine Ai Af ?_;simp -implicitDefEqProofs [hb];exact A6 ⟨.t (.tu [Ad,iv (x.1:Int),iv x.2]),[],0⟩ ⟨by rw[hR];rfl⟩ (by simp -implicitDefEqProofs)
 | ok ts=>
 rw[hsc]at gs hR;simp only at gs hR
 have hlim:ts.length<=1000000:=by have:=SR hsc;omega
 have hsm:∀x∈ts,x.t.length<=100000:=λx hx=>by have:=gF hsc x hx;omega
 have ht:=IsS.tree Ap ts
 obtain⟨t,htt⟩:∃t,t=Am Ap ts:=⟨_,rfl⟩
 rw[<-htt]at ht gs;have hln:Bd (.t t)=some (.t (iv (ts.length:Int))):=ht.len;refine Ai TT ?_;simp -implicitDefEqProofs [Q4,gs];refine Ai Af ?_;simp -implicitDefEqProofs;refine Ai Af ?_;simp -implicitDefEqProofs
 obtain⟨Z,hZ⟩:∃Z,Z=Gi (ts.map kt) (ts.length+1) 0 ⟨[],none⟩:=⟨_,rfl⟩
 rw[<-hZ]at hR;refine D5 (SPd t) (PdE Z) (λ_=>rfl) ?_ ?_
 rotate_left
 .rintro⟨H,nx,i,F,cur,ko,m⟩ ⟨hz,hemp,hout⟩;simp only at hz hemp hout;rw[hz]at hR;simp only at hR
  cases cur with
  | none=>
   have hF:=hemp rfl;subst hF;refine A7 Af ?_;simp -implicitDefEqProofs [SPd,CU];exact A6 ⟨.t (.tu [Ad,iv 0,iv 0]),H,nx⟩ ⟨by rw[hR];rfl⟩ (by simp -implicitDefEqProofs)
  | some cu=>
   have O:=hout cu rfl;have lk:=Qr O.out O.M O.nk
   obtain⟨H2,hH2⟩:∃H2,H2=B8 H (Ed cu.els cu.ks):=⟨_,rfl⟩
   rw[<-hH2]at lk
   obtain⟨l,hl⟩:∃l,l=(F++[(⟨cu.name,cu.els⟩:Md)]).map Md.rw:=⟨_,rfl⟩
   rw[<-hl]at lk
   have hlen2:l.length=F.length+1:=by rw[hl,Xb,Xg];rfl
   have hne:l≠[]:=λe=>by rw[e]at hlen2;simp at hlen2
   have hrow:Ar eMd AD H2 ko l:=.inr lk
   have hrp:rowP eMd ko l = .row ko 0 (F.length+1) 10:=by rw[Kv _ _ _ hne,hlen2];rfl
   have fz1:B5 H (Ed cu.els cu.ks) (.row ko 0 (F.length+1) 10) = .row ko 0 (F.length+1) 10:=TC (Lg O.nk)
   have fz2:B5 H2 [ko] (.row ko 0 (F.length+1) 10) = .t (Am eMd l):=by rw[<-hrp];exact Hh hrow (Xj.2 rfl)
   refine B9 (s':=⟨[(8,.row ko 0 (F.length+1) 10),(5,.t t)],H2,nx,46⟩) (by rw[hH2];exact EG _ (by simp -implicitDefEqProofs [SPd,CU,fz1,Gh])) rfl ?_;refine B9 (s':=⟨[(8,.t (Am eMd l)),(5,.t t)],B8 H2 [ko],nx,46⟩) (EG [ko] (by simp -implicitDefEqProofs [fz2,Gh])) rfl ?_;refine A7 Af ?_;simp -implicitDefEqProofs;exact A6 ⟨.t (.tu [Am eMd l,iv 0,iv 0]),B8 H2 [ko],nx⟩ ⟨by rw[hR,hl];rfl⟩ (by simp -implicitDefEqProofs)
 .refine Ai Af ?_;simp -implicitDefEqProofs;refine CQ ?_
  refine FN (SPd t) (λc=>c.m) (PdI ts Z) ⟨[],0,0,[],none,0,ts.length+1⟩ (λ_=>rfl)
   ⟨hZ,Xi _,by show ts.length<0+(ts.length+1);omega,λ_=>rfl,λ_ h=>(by cases h),Xh _⟩ (sub_env (by simp -implicitDefEqProofs [SPd,CU])) rfl ?_
  rintro⟨H,nx,i,F,cur,ko,m⟩ ⟨hz,hi,hm,hemp,hout,hfl⟩;simp only at hz hi hm hemp hout hfl
  obtain⟨m,rfl⟩:∃m',m=m'+1:=⟨m-1,by omega⟩
  by_cases hil:i<ts.length
  rotate_left
  .have hlt:¬(i:Int)<(ts.length:Int):=by omega
   have hx:(ts.map kt)[i]?=none:=List.getElem?_eq_none (by rw[Xb];omega);rw[Gi,hx]at hz;simp only at hz;refine Ai Af ?_;simp -implicitDefEqProofs [SPd,hln,hlt,hil];exact Aq.mk ⟨H,nx,i,F,cur,ko,m⟩ ⟨hz,hemp,λcu h=>(hout cu h).1⟩ (sub_env (by simp -implicitDefEqProofs [SPd]))
  have hlt:(i:Int)<(ts.length:Int):=by omega
  obtain⟨x,hx⟩:∃x,ts[i]?=some x:=⟨_,Xn hil⟩
  have hxk:(ts.map kt)[i]?=some (kt x):=by rw[List.getElem?_map,hx];rfl
  rw[Gi,hxk]at hz;simp only at hz;refine Ai Af ?_;simp -implicitDefEqProofs [SPd,hln,hlt,hil];refine CQ ?_;obtain⟨⟨fr,fH,fn'⟩,⟨hex,hnn,hfr⟩,hc⟩:=A8t (q:=q) (ko:=ko) ht hlim hsm hx hemp (λcu h=>⟨(hout cu h).1,by have:=(hout cu h).2;omega⟩) (by omega);simp only at hex hnn hfr hc;obtain⟨tb,t1,t2⟩:=hAt hc hfr;have CB:Ctx Xa (G q) _:=A5.nil.ctxH (B6.cons t2 .nil) mixed;obtain⟨r0,hr0⟩:=EH ht hx;rcases hex with⟨e,rfl,he,ho⟩ | ⟨a,p,F',cu',ko',rfl,ho,hadd,O,hF',hE'⟩
  .have hb:(e != 0)=true:=by rw[bne_iff_ne];exact he
   rw[ho]at hz;simp only at hz;have l2:Ao false 1 fH (.t (.pt (iv (x.l:Int)::r0)))=some (.t (iv (x.l:Int))):=rfl;obtain⟨x1,x2,x3⟩:=Qz (.t Ad) 0 e;refine Ai CB ?_;simp -implicitDefEqProofs [t1,x1,x2,x3,-Bv];refine Ai Af ?_;simp -implicitDefEqProofs [hb,hr0,l2];exact A6 ⟨.t (.tu [Ad,iv (x.l:Int),iv e]),fH,fn'⟩ ⟨by rw[hR,hz];simp only[hx];rfl⟩ (by simp -implicitDefEqProofs)
  .rw[ho]at hz;simp only at hz;obtain⟨x1,x2,x3⟩:=Qz (.row ko' 0 (F'.length+1) 10) p 0
   have hfw:i<p/\p<=ts.length:=by
    have h1:CP (DO F cur) (D0 (kt x))=0:=by
     rw[Mw]at ho;by_cases h:CP (DO F cur) (D0 (kt x))=0
     .exact h
     .rw[zy h]at ho;cases ho
    rw[Mw,zz (by rw[h1];decide)]at ho;have:=dX _ _ _ _ ho;rw[Xb]at this;exact this
   refine Ai CB ?_;simp -implicitDefEqProofs [t1,x1,x2,x3,-Bv];refine Ai Af ?_;simp -implicitDefEqProofs;refine A7 Af ?_;simp -implicitDefEqProofs;rw[hadd]at hz;exact Aq.mk ⟨fH,fn',p,F',some cu',ko',m⟩ ⟨⟨hz,hfw.2,by show ts.length<p+m;omega,λh=>(by cases h),λcu h=>(by injection h with h;subst h;exact⟨O,by have:=hE' i (λcu h=>(hout cu h).2);show cu'.els.length<=p;omega⟩),by show F'.length<=p;omega⟩,Xf m⟩ (sub_env (by simp -implicitDefEqProofs [SPd,CU]))
theorem A8v (c:List T):Bd (.t (.sl 1 c))=some (.t (iv 1)):=rfl
theorem A8w (a0 a1 a2 a3 a4 a5 a6 a7 a8 a9:T):Bm 10 (.t (.sl 1 [a0,a1,a2,a3,a4,a5,a6,a7,a8,a9])) (.t (iv 0))=some (.t (.pt [a0,a1,a2,a3,a4,a5,a6,a7,a8,a9])):=rfl
theorem A8x (a0 a1 a2 a3 a4 a5 a6:T):Bm 7 (.t (.sl 1 [a0,a1,a2,a3,a4,a5,a6])) (.t (iv 0))=some (.t (.pt [a0,a1,a2,a3,a4,a5,a6])):=rfl
theorem A8y:AA Xa (G q) 9 [] (· = bv true):=by
 have C:Ctx Xa (G q) (orc [(14,gPs),(17,D8 M6 M7),(20,Jy)]):=(A5.cons hPs (.cons (FS o7) (.cons NN .nil))).ctx mixed;have p1:=(Ot (s:=bs ex1) (by decide)).trans (congrArg some (congrArg FK A6e));have p2:=(Ot (s:=bs ex2) (by decide)).trans (congrArg some (congrArg FK A6f));have p3:=(Ot (s:=bs ex3) (by decide)).trans (congrArg some (congrArg FK A6g));have p4:=(Ot (s:=bs ex4) (by decide)).trans (congrArg some (congrArg FK A6h));have p5:D8 M6 M7 [Hi [exM]]=some (.tu [sv (bs exP),iv 0]):=FR M6 M7
 obtain⟨a0,a1,a2,a3,a4,a5,a6,a7,b1,b2,b3,b4,b5,b6,hm⟩:∃a0 a1 a2 a3 a4 a5 a6 a7 b1 b2 b3 b4 b5 b6,Hi [exM] = .sl 1 [a0,a1,.sl 1 a2,a3,.sl 1 [.sl 1 [sv (bs [97])],b1,b2,b3,b4,b5,b6],a4,a5,a6,a7,Ad]:=⟨_,_,_,_,_,_,_,_,_,_,_,_,_,_,rfl⟩
 have p6:Jy [.sl 1 [sv (bs [97])],.sl 1 [sv (bs [97])]]=some (bv true):=KA (l:=[bs [97]]) (.inr rfl) (.inr rfl) (by decide);have p1:gPs [sv ⟨#[109,111,100,117,108,101,32,109,59,32,116,121,112,101,32,116,121,112,101,59,32,101,110,116,114,121,32,101,110,116,114,121,32,34,97,34,32,61,32,116,121,112,101,59]⟩]=some (.tu [Hi [exM],iv 0,iv 0]):=p1;have p2:gPs [sv ⟨#[109,111,100,117,108,101,32,109,59,10,116,121,112,101,32,97,32,60,32,98]⟩]=some (.tu [Ad,iv 2,iv 9]):=p2;have p3:gPs [sv ⟨#[116,121,112,101,32,97,59]⟩]=some (.tu [Ad,iv 1,iv 8]):=p3;have p4:gPs [sv ⟨#[109,111,100,117,108,101,32,109,59,32,101,110,116,114,121,32,97,32,34,84,104,101,34,32,61,32,116,59]⟩]=some (.tu [Ad,iv 1,iv 1]):=p4;have p5:D8 M6 M7 [Hi [exM]]=some (.tu [sv ⟨#[109,111,100,117,108,101,32,109,59,10,116,121,112,101,32,116,121,112,101,59,10,101,110,116,114,121,32,101,110,116,114,121,32,34,97,34,32,61,32,116,121,112,101,59,10]⟩,iv 0]):=p5;have p6:Jy [.sl 1 [sv ⟨#[97]⟩],.sl 1 [sv ⟨#[97]⟩]]=some (bv true):=p6;rw[hm]at p1 p5;have p1:gPs [sv ⟨#[109,111,100,117,108,101,32,109,59,32,116,121,112,101,32,116,121,112,101,59,32,101,110,116,114,121,32,101,110,116,114,121,32,34,97,34,32,61,32,116,121,112,101,59]⟩]=some (.tu [.sl 1 [a0,a1,.sl 1 a2,a3,.sl 1 [.sl 1 [sv ⟨#[97]⟩],b1,b2,b3,b4,b5,b6],a4,a5,a6,a7,Ad],iv 0,iv 0]):=p1;have p5:D8 M6 M7 [.sl 1 [a0,a1,.sl 1 a2,a3,.sl 1 [.sl 1 [sv ⟨#[97]⟩],b1,b2,b3,b4,b5,b6],a4,a5,a6,a7,Ad]]=some (.tu [sv ⟨#[109,111,100,117,108,101,32,109,59,10,116,121,112,101,32,116,121,112,101,59,10,101,110,116,114,121,32,101,110,116,114,121,32,34,97,34,32,61,32,116,121,112,101,59,10]⟩,iv 0]):=p5;refine rQ.call rfl ?_;refine Aw C ?_
 (conv in YC=>cbv);simp -implicitDefEqProofs [p1,p2,p3,p4,p5,p6,A8v,A8w,A8x,ldS,bsS]
theorem A8z:GOK Xa (G q) 9 (D8 [] (bv true)):=FS A8y
theorem geO:D8 [] (bv true) []=some (bv true):=FR _ _
def Q5 (ts:List T):Option T:=match ts with
 | [.v (.string s)]=>if s.size<=100000 then some (FK (Er s.data.toList))else none
 | _=>none
theorem A9a:GOK Xa (G q) 15 Q5:=λargs r h=>by
 unfold Q5 at h;split at h
 .split at h
  .rename_i hs;injection h with h;subst h;exact A8u _ hs
  .cases h
 .cases h
theorem A9b {s:ByteArray} (hs:s.size<=100000):Q5 [sv s]=some (FK (Er s.data.toList)):=zy hs
theorem A9c {L:List Md} {B:Nat} (h:∀m∈L,FT B m) (hB:B<=65536) (hl:L.length<=256):KD [Hi L,Hi L]=some (bv true):=
 aV (Hl.mds L) (Hl.mds L) (by rw[Xb];omega) λm hm=>by
  obtain⟨x,hx,rfl⟩:=Xp.1 hm;exact(h x hx).ok hB
theorem A9d {s:List UInt8} (hs:s.length<=65536):∃(t:T) (a:Nat) (e:Int),FK (Er s) = .tu [t,iv (a:Int),iv e]/\KD [t,t]=some (bv true):=by
 cases h:Er s with
 | error x=>exact⟨Ad,x.1,x.2,rfl,aV IsL.nil IsL.nil (by simp) λm hm=>by cases hm⟩
 | ok L=>
  have hg:=A4l h hs;exact⟨Hi L,0,0,rfl,A9c (λm hm=>(hg.1 m hm).1) (by omega) hg.2⟩
theorem A9e (s:ByteArray):AA Xa (G q) 4 [sv s] (· = bv true):=by
 refine rP.call rfl ?_;have C:Ctx Xa (G q) (orc [(9,D8 [] (bv true)),(14,gPs),(15,Q5),(16,KD)]):=(A5.cons A8z (.cons hPs (.cons A9a (.cons wX .nil)))).ctx mixed;have hl:s.data.toList.length=s.size:=rfl;by_cases hs:4000<s.size
 .have hs':(4000:Int)<(s.size:Int):=by omega
  refine Aw C ?_
  (conv in RH=>cbv);simp -implicitDefEqProofs [hs,hs',geO]
 have hs':¬(4000:Int)<(s.size:Int):=by omega
 obtain⟨t,a,e,ht,hg⟩:=A9d (s:=s.data.toList) (by omega);have g1:=Ot (s:=s) (by omega);have g2:=A9b (s:=s) (by omega);rw[ht]at g1 g2;refine Aw C ?_
 (conv in RH=>cbv);simp -implicitDefEqProofs [hs,hs',g1,g2,hg,geO]
end Go.Proofs.YtobnacghaamfoaaGreatDoor
