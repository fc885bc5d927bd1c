/- Auxiliary facts. -/
import Derived.Test.YtmplckgbeaifkaaGreatDoorVCQ43
import Derived.Test.YtmplckgbeaifkaaGreatDoorCards
import Derived.Test.YtmplckgbeaifkaaGreatDoorTie
import Derived.Deep.DeepHandedRow
import Derived.Stop.LaidErr
set_option linter.unusedSimpArgs false
set_option maxRecDepth 100000
set_option maxHeartbeats 0
set_option linter.unusedVariables false
namespace Go.Proofs.YtmplckgbeaifkaaGreatDoor
open Go Go.Abs Go.ChangeShapes Go.WideShapes Go.ChangeAt Go.RowKit
theorem own:ownKnob Tryz.prog.godebug=none:=by kernel_rfl
theorem A5i:laidOutB Tryz.prog=true:=by kernel_rfl
abbrev G0y:List (String×DataW Unit):=[("math/bits.deBruijn32tab", Rows.laid_math_bits_deBruijn32tab),("math/bits.deBruijn64tab", Rows.laid_math_bits_deBruijn64tab),("internal/strconv.uint64pow10", Rows.laid_internal_strconv_uint64pow10),("unicode/utf8.acceptRanges", Rows.laid_unicode_utf8_acceptRanges),("strconv.ErrRange", Rows.laid_strconv_ErrRange),("strconv.ErrSyntax", Rows.laid_strconv_ErrSyntax),("unicode/utf8.first", Rows.laid_unicode_utf8_first)]
theorem E5k {W:World} (h:W.ShapedOpen Tryz.prog):∃m,W.var? Tryz.prog "internal/bytealg.MaxLen" = some #[.int .i64 m]:=by
 obtain⟨h1,hr1⟩:=h;clear hr1;obtain⟨cs,hw,hsz,hok⟩:=h1 0 #[.int .i64 0] 3 (of_decide_eq_true (by kernel_rfl)) (by kernel_rfl);obtain⟨ts,hts,hnn,hc⟩:=hok (by kernel_rfl);have e1:cs.size=1:=hsz
 obtain⟨v,hv⟩:∃v,cs = #[v]:=by
  obtain⟨l⟩:=cs
  cases l with
  | nil=>cases e1
  | cons v r=>cases r with
   | nil=>exact⟨v,rfl⟩
   | cons _ _=>simp at e1
 subst hv;obtain⟨u,hu,hcell⟩:=hc 0 v rfl;have hts':ts=[3]:=Option.some.inj (hts.symm.trans (show Tryz.prog.cellTypes Tryz.prog.depth 3=some [3]by kernel_rfl));subst hts'
 have hu3:u=3:=by simpa using hu.symm
 subst hu3;unfold Cell.ok at hcell;have hun:=Tryz.underlying3;generalize Tryz.prog.underlying 3=d at hcell hun;subst hun;cases v<;>simp only at hcell
 case int kd nv=>
  obtain⟨rfl,hh⟩:=hcell;refine⟨nv,?_⟩;unfold World.var?
  rw[show Tryz.prog.globalNamed "internal/bytealg.MaxLen" = some 0 by kernel_rfl]
  simp only[Option.bind_some,hw]
theorem star : "*errors.errorString" = "*" ++ "errors.errorString":=by decide
theorem F7y (u:TypeId) (h:Tryz.prog.typeName? 3 u=some "*errors.errorString"):u=278:=
 typeName_ptr_named (nm:= "errors.errorString") (by rw[<-star];kernel_rfl) (by kernel_rfl) (by decide) u (by rw[<-star];exact h)
theorem D4f {W:World} (h:laidMetH Tryz.prog G0y W) (hsh:W.ShapedOpen Tryz.prog):∃q:Gl,∀(g:Nat) (cs:List T),Abs.look (G q) g=some cs->Old W g/\RepG (Old W) W cs g:=by
 have h0:laidMet Tryz.prog G0y W:=h
 have t:Lib.TabIs Tryz.prog W "internal/strconv.uint64pow10" .u64 E7w:=Lib.tabIs_of_head (by kernel_rfl) (show(Tryz.prog.globals[1]?).map (·.type)=some 245 by kernel_rfl) Tryz.underlying245 Tryz.underlying185 (by kernel_rfl) (by kernel_rfl) h0.tail.tail
 obtain⟨m,hm⟩:=E5k hsh;obtain⟨a1,s1,v1,_⟩:=laid_sentinel (g:=7) (ti:=103) (tp:=278) (te:=280) (ts:=9) h0.tail.tail.tail.tail (by kernel_rfl) (by kernel_rfl) Tryz.underlying103 F7y Tryz.underlying278 Tryz.underlying280 rfl rfl Tryz.underlying9 (by kernel_rfl) (by kernel_rfl);obtain⟨a0,s0,v0,_⟩:=laid_sentinel (g:=6) (ti:=103) (tp:=278) (te:=280) (ts:=9) h0.tail.tail.tail.tail.tail (by kernel_rfl) (by kernel_rfl) Tryz.underlying103 F7y Tryz.underlying278 Tryz.underlying280 rfl rfl Tryz.underlying9 (by kernel_rfl) (by kernel_rfl);refine⟨⟨m,278,.pointer (some a0),278,.pointer (some a1)⟩,fun g cs hl=>?_⟩;simp only[G,Abs.look]at hl;split at hl
 ·rename_i e;subst e;injection hl with hl;subst hl;exact C0p (vs:=[.iface 278 (.pointer (some a0))]) v0 (by kernel_rfl) (by intro x hx;simp at hx;subst hx;rfl)
 ·split at hl
  ·rename_i e;subst e;injection hl with hl;subst hl;exact C0p (vs:=[.iface 278 (.pointer (some a1))]) v1 (by kernel_rfl) (by intro x hx;simp at hx;subst hx;rfl)
  ·split at hl
   ·rename_i e;subst e;injection hl with hl;subst hl;exact F3s t (by kernel_rfl)
   ·split at hl
    ·rename_i e;subst e;injection hl with hl;subst hl;exact C0p (vs:=[.int .i64 m]) hm (by kernel_rfl) (by intro x hx;simp at hx;subst hx;rfl)
    ·cases hl
def litV:Lit->Value
 | .int k n=>.int k n
 | _=>undef
def G4g:DataW Unit->List Value
 | .lit x=>[litV x]
 | .agg l=>l.flatMap fun | .lit x=>[litV x] | _=>[]
 | _=>[]
def D4g:DataW Unit->List Value
 | .agg l=>l.flatMap G4g
 | _=>[]
noncomputable def low:Nat:=(World.holding Tryz.prog default ⟨#[],#[],[]⟩).heap.size
def D7r (h:Array Obj) (g:Nat) (cs:Array Value):Array Obj:=h.modify g fun
 | .cells _ t frozen=>.cells cs t frozen
 | o=>o
noncomputable def A2n (os:Os):World:=
 let w0:=World.holding Tryz.prog os ⟨#[.cells #[.string ⟨#[105,110,118,97,108,105,100,32,115,121,110,116,97,120]⟩] 280,.cells #[.string ⟨#[118,97,108,117,101,32,111,117,116,32,111,102,32,114,97,110,103,101]⟩] 280],#[],[]⟩
 { w0 with heap:=D7r (D7r (D7r (D7r (D7r (D7r (D7r w0.heap 6 #[.iface 278 (.pointer (some ⟨low,0,none⟩))]) 7 #[.iface 278 (.pointer (some ⟨low+1,0,none⟩))]) 2 (D4g Rows.laid_unicode_utf8_first).toArray) 3 (D4g Rows.laid_unicode_utf8_acceptRanges).toArray)
   1 (D4g Rows.laid_internal_strconv_uint64pow10).toArray) 4 (D4g Rows.laid_math_bits_deBruijn32tab).toArray) 5 (D4g Rows.laid_math_bits_deBruijn64tab).toArray }
theorem A9m (os:Os) (args:Array Value):laidMet Tryz.prog G0y ((A2n os).forCall (fun _ _=>0) ⟨#[],args,[]⟩).memory:=
 laidMet_of_run' 8 (by kernel_rfl) (by kernel_rfl)
end Go.Proofs.YtmplckgbeaifkaaGreatDoor
namespace Go.Abs
open Go
theorem G4h:∀l m:List UInt8,Lib.compareBytes l m=if l<m then -1 else if m<l then 1 else 0
 | [],[]=>by simp[Lib.compareBytes]
 | [],b::m=>by simp[Lib.compareBytes]
 | a::l,[]=>by simp[Lib.compareBytes]
 | a::l,b::m=>by
  rw[Lib.compareBytes,G4h l m];simp only[List.cons_lt_cons_iff];by_cases h:a<b
  ·simp[h]
  ·by_cases h2:b<a
   ·have hne:b≠a:=fun e=>by subst e;exact h h2
    simp[h,h2,Ne.symm hne]
   ·have e:a=b:=UInt8.le_antisymm (UInt8.not_lt.1 h2) (UInt8.not_lt.1 h);subst e;simp[h]
theorem G0z (a b:ByteArray):Lib.compareBytes a.data.toList b.data.toList=cmpS a b:=G4h _ _
end Go.Abs
namespace Go.Proofs.YtmplckgbeaifkaaGreatDoor
open Go Go.Abs Go.RowKit
variable {q : Gl}
def gSCp:List T->Option T:=fun args=>match args with
 | [.v (.string a),.v (.string b)]=>some (iv (cmpS a b))
 | _=>none
theorem hSCp:GOK Tryz.prog (G q) 125 gSCp:=fun args r hr=>by
 unfold gSCp at hr;split at hr
 ·rename_i a b;injection hr with hr;subst hr
  exact A0v.lib (vs:=[.string a,.string b]) ⟨_,(Tryz.f125.body).get!,Tryz.func125,by kernel_rfl,by kernel_rfl⟩ fun I w _=>(Tryz.strings_Compare a b w).mono fun e w' h=>⟨by rw[h.1,G0z],B1e h.2⟩
 ·cases hr
noncomputable def gF1:List T->Option T:=g2 tIt tStr fun c id=>some (iv (cmpS c.x.id id))
theorem hF1:GOK Tryz.prog (G q) 124 gF1:=A6w fun a b c id r ha hb hr=>by
 injection hr with hr;subst hr;obtain rfl:a = .ag c.cs:=ha;obtain rfl:b=sv id:=hb;obtain⟨tw,td,k,nm,f,t,tk,ks,ecs,_⟩:=A1g c.ok;rw[ecs];have cd:=B1m c.x.id tw c.x.state td k nm f t tk;have z:=ldI c.x.id tw c.x.state td k nm f t tk (H:=[(0,iRow c.x.id tw c.x.state td k nm f t tk)]) (b:=0) rfl;have z0:=z.l0;simp only[iRow]at z0;have e:gSCp [.v (.string c.x.id),.v (.string id)]=some (iv (cmpS c.x.id id)):=rfl;refine B9a.runs ((A0x.cons (hSCp (q:=q)) .nil).ctx mixed) rfl ?_
 (conv in B0n=>cbv);simp -implicitDefEqProofs [cd,z0,e]
theorem G4i (c:IC) (id:ByteArray):gF1 [.ag c.cs,sv id]=some (iv (cmpS c.x.id id)):=by
 show g2 _ _ _ _=_;rw[A7u (τ:=tIt) (σ:=tStr) (x:=c) (y:=id) rfl rfl]
def SB2 (id:ByteArray) (t:T) (F n:Nat) (a:Nat×Nat):A0b:=⟨[(10,.t (iv (a.2:Int))),(9,.t (iv (a.1:Int))),(8,.t (iv (n:Int))),(2,.t (fv F)),(1,.t (sv id)),(0,.t t)],[],0,49⟩
abbrev cmC (id:ByteArray):IC->Int:=fun c=>cmpS c.x.id id
theorem F5y {t:T} {l:List IC} (id:ByteArray) (ht:IsS eIC t l) (hA:D3t (cmC id) l) (hl:l.length<=1000000) :
  A0v Tryz.prog (G q) 123 [t,sv id,fv 124] (· = .tu [iv (cntL (cmC id) l:Nat),bv (hitL (cmC id) l)]):=by
 have C:Ctx Tryz.prog (G q) _:=A0x.nil.ctxH (A2a.cons (hF1 (q:=q)).hok .nil) mixed;have hlen:=ht.len;have eo:∀(c:IC) H nx,hOfT gF1 [.t (.ag c.cs),.t (sv id)] H nx=some (.t (iv (cmC id c)),H,nx):=fun c H nx=>F7j (G4i c id) H nx;have hcle:=G0o (c:=cmC id) l;have hat:=E0v hA;refine A8j.call rfl ?_;(conv in A4f=>cbv)
 obtain⟨N,hN⟩:∃N,N=cntL (cmC id) l:=⟨_,rfl⟩
 have hhit:hitL (cmC id) l=(match l[N]? with | some x=>decide (cmC id x=0) | none=>false):=by rw[hN,hitL];cases l[cntL (cmC id) l]?<;>rfl
 rw[<-hN]at hcle hat ⊢;refine A0a C ?_;simp -implicitDefEqProofs;refine A0a C ?_;simp -implicitDefEqProofs [hlen];refine A0a C ?_;simp -implicitDefEqProofs;refine A0s (fun a:Nat×Nat=>SB2 id t 124 l.length (N,N)) (fun _=>True) (fun _=>rfl) ?_ ?_
 ·refine A0g ?_;refine A0t (SB2 id t 124 l.length) (fun a=>a.2-a.1) (fun a=>a.1<=N/\N<=a.2/\a.2<=l.length) (0,l.length) (fun _=>rfl) ⟨Nat.zero_le _,hcle,Nat.le_refl _⟩ ?_ rfl ?_
  ·refine A0d ?_;simp -implicitDefEqProofs [SB2]
  rintro⟨i,j⟩ ⟨hi,hj,hjl⟩;simp only at hi hj hjl;by_cases hlt:i<j
  ·obtain⟨m,hm⟩:∃m,m=(i+j) / 2:=⟨_,rfl⟩
   have hw:=half i j (by omega);rw[<-hm]at hw;have hw:IntKind.i64.wrap ((IntKind.u64.wrap (IntKind.i64.wrap ((i:Int)+(j:Int)))).fdiv 2)=(m:Int):=hw
   obtain⟨x,hx⟩:∃x,l[m]?=some x:=⟨_,List.getElem?_eq_getElem (by omega)⟩
   obtain⟨pp,i1,ld,_⟩:=B3h ht hx;have eo:=eo x;have e1:IntKind.i64.wrap ((m:Int)+1)=((m+1:Nat):Int):=A0j (by omega) (by omega);have hcx:=hat m x hx;generalize cmC id x=cz at *;refine A0c C ?_;by_cases hc:cz<0
   ·have h1:=hcx.1 hc;simp -implicitDefEqProofs [SB2,hlt,hw,i1,ld,eo,hc,e1];exact Abs.Next.mk (m+1,j) ⟨⟨by show m+1<=N;omega,hj,hjl⟩,by show j-(m+1)<j-i;omega⟩ (A0d (by simp -implicitDefEqProofs [SB2]))
   ·have h1:¬m<N:=fun h=>hc (hcx.2 h);simp -implicitDefEqProofs [SB2,hlt,hw,i1,ld,eo,hc];exact Abs.Next.mk (i,m) ⟨⟨hi,by show N<=m;omega,by show m<=_;omega⟩,by show m-i<j-i;omega⟩ (A0d (by simp -implicitDefEqProofs [SB2]))
  ·have e1:i=N:=by omega
   have e2:j=N:=by omega
   subst e1;subst e2;refine A0c C ?_;simp -implicitDefEqProofs [SB2];exact Abs.Next.mk (0,0) trivial (A0d (by simp -implicitDefEqProofs [SB2]))
 ·rintro _ -;rw[hhit];by_cases hlt:N<l.length
  ·obtain⟨x,hx⟩:∃x,l[N]?=some x:=⟨_,List.getElem?_eq_getElem hlt⟩
   obtain⟨pp,i1,ld,_⟩:=B3h ht hx;have eo:=eo x;rw[hx];refine A0c C ?_;simp -implicitDefEqProofs [SB2,hlt,i1,ld,eo];rfl
  ·rw[List.getElem?_eq_none (by omega)];refine A0c C ?_;simp -implicitDefEqProofs [SB2,hlt]
noncomputable def gB2:List T->Option T
 | [a,b,.v (.func (.func F) ⟨[]⟩ ⟨[]⟩)]=>open Classical in if F=124 then g2 (tSl eIC) tStr (fun l id=>if D3t (cmC id) l/\l.length<=1000000 then some (.tu [iv (cntL (cmC id) l:Nat),bv (hitL (cmC id) l)])else none) [a,b]else none
 | _=>none
theorem hB2:GOK Tryz.prog (G q) 123 gB2:=fun args r h=>by
 unfold gB2 at h;split at h
 ·rename_i a b F;split at h
  ·rename_i hF;subst hF;unfold g2 at h;obtain⟨l,h1,h⟩:=Option.bind_eq_some_iff.1 h;obtain⟨id,h2,h⟩:=Option.bind_eq_some_iff.1 h;simp only at h;split at h
   ·rename_i hA;injection h with h;subst h;obtain rfl:b=sv id:=Ty.is_dec h2;exact F5y id (Ty.is_dec h1) hA.1 hA.2
   ·cases h
  ·cases h
 ·cases h
theorem G4j {t:T} {l:List IC} (id:ByteArray) (ht:IsS eIC t l) (hA:D3t (cmC id) l) (hl:l.length<=1000000):gB2 [t,sv id,fv 124]=some (.tu [iv (cntL (cmC id) l:Nat),bv (hitL (cmC id) l)]):=by
 have e:gB2 [t,sv id,fv 124]=g2 (tSl eIC) tStr (fun l id=>open Classical in if D3t (cmC id) l/\l.length<=1000000 then some (.tu [iv (cntL (cmC id) l:Nat),bv (hitL (cmC id) l)])else none) [t,sv id]:=by
  unfold gB2;simp
 rw[e,A7u (τ:=tSl eIC) (σ:=tStr) ht rfl,if_pos ⟨hA,hl⟩]
def A8c (l:List IC):Prop:=A7g (l.map IC.x)
theorem B6h {l:List IC} (h:A8c l) (id:ByteArray):D3t (cmC id) l:=by
 have h:l.Pairwise fun a b=>cmpS a.x.id b.x.id<0:=List.pairwise_map.1 h;exact h.imp fun {a b} hab hb=>A5d.trans _ _ _ hab hb
noncomputable def gFnd:List T->Option T:=g2 tTb tStr fun b id=>open Classical in if D3t (cmC id) b.items/\b.items.length<=1000000 then some (.tu [iv (cntL (cmC id) b.items:Nat),bv (hitL (cmC id) b.items)])else none
theorem hFnd:GOK Tryz.prog (G q) 71 gFnd:=A6w fun a b tb id r ha hb hr=>by
 obtain rfl:b=sv id:=hb;split at hr
 ·rename_i h;injection hr with hr;subst hr;obtain⟨u,rfl,hu⟩:=ha;have e:=G4j id hu h.1 h.2;have cd:A0q (.t (.ag [sv tb.ver,u]))=some [.t (sv tb.ver),.t u]:=rfl;have z:A0e false 1 [(0,.cells 39 [.t (sv tb.ver),.t u])] (.ptr 0 1)=some (.t u):=rfl;have eo:∀H nx,hOfT gB2 [.t u,.t (sv id),.t (fv 124)] H nx=some (.t (.tu [iv (cntL (cmC id) tb.items:Nat),bv (hitL (cmC id) tb.items)]),H,nx):=fun H nx=>F7k e H nx;refine C3q.runs (A0x.nil.ctxH (A2a.cons (hB2 (q:=q)).hok .nil) mixed) rfl ?_
  (conv in B3d=>cbv);simp -implicitDefEqProofs [cd,z,eo]
 ·cases hr
theorem D7s {ver:ByteArray} {u:T} {l:List IC} (id:ByteArray) (hu:IsS eIC u l) (hA:D3t (cmC id) l) (hl:l.length<=1000000):gFnd [.ag [sv ver,u],sv id]=some (.tu [iv (cntL (cmC id) l:Nat),bv (hitL (cmC id) l)]):=by
 show g2 _ _ _ _=_;rw[A7u (τ:=tTb) (σ:=tStr) (x:=⟨ver,l⟩) ⟨u,rfl,hu⟩ rfl,if_pos ⟨hA,hl⟩]
open Go Go.Abs
noncomputable def B3i:A0i:=cm Tryz.f73 95
theorem C3z {q:Gl}:FnOK Tryz.prog (G q) 73 3 95 B3i [(.tmp 6)]:=fk Tryz.func73 (by kernel_rfl) (by kernel_rfl)
end Go.Proofs.YtmplckgbeaifkaaGreatDoor
