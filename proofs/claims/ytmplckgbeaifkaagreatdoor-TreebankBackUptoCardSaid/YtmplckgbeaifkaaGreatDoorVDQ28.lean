/- Auxiliary facts. -/
import Derived.Test.YtmplckgbeaifkaaGreatDoorVDQ27
set_option linter.unusedSimpArgs false
set_option maxRecDepth 100000
set_option maxHeartbeats 0
set_option linter.unusedVariables false
namespace Go.Proofs.YtmplckgbeaifkaaGreatDoor
open Go Go.Abs Go.ChangeShapes Go.WideShapes Go.ChangeAt Go.RowKit
section
variable {H : Type} {enc : TypeId × Value -> H} {W : World} {spare : Nat -> Bool} {held : Bool}
theorem E8a {v:Value} {d:DataW H} {p:List MemPlace} (h:DataW.Trod enc Tryz.prog W 0 spare held 9 v d p) {s:ByteArray} (hv:v = .string s) (hb:Rows.uptoBulk d<=1048576):s.size<=1000000000:=by
 obtain⟨fuel,hf⟩:=h;subst hv;obtain⟨ts,hr,s',rfl,hB⟩:=C2w (N:=fuel+1) Tryz.underlying9 fuel (by omega) _ (d,p) hf;have:=F2r hr;simp only[RepT]at this;injection this with this;subst this;have hB:Rows.uptoBulk d=s.size+1:=hB;omega
end
end Go.Proofs.YtmplckgbeaifkaaGreatDoor
namespace Go.Abs
open Go
theorem F5r:∀l m:List UInt8,Lib.compareBytes l m=if l<m then -1 else if m<l then 1 else 0
 | [],[]=>by simp[Lib.compareBytes]
 | [],b::m=>by simp[Lib.compareBytes]
 | a::l,[]=>by simp[Lib.compareBytes]
 | a::l,b::m=>by
  rw[Lib.compareBytes,F5r l m];simp only[List.cons_lt_cons_iff];by_cases h:a<b
  ·simp[h]
  ·by_cases h2:b<a
   ·have hne:b≠a:=fun e=>by subst e;exact h h2
    simp[h,h2,Ne.symm hne]
   ·have e:a=b:=UInt8.le_antisymm (UInt8.not_lt.1 h2) (UInt8.not_lt.1 h);subst e;simp[h]
theorem F2u (a b:ByteArray):Lib.compareBytes a.data.toList b.data.toList=cmpS a b:=F5r _ _
end Go.Abs
namespace Go.Proofs.YtmplckgbeaifkaaGreatDoor
open Go Go.Abs Go.RowKit
variable {q : Gl}
def gSCp:List T->Option T:=fun args=>match args with
 | [.v (.string a),.v (.string b)]=>some (iv (cmpS a b))
 | _=>none
theorem hSCp:GOK Tryz.prog (G q) 125 gSCp:=fun args r hr=>by
 unfold gSCp at hr;split at hr
 ·rename_i a b;injection hr with hr;subst hr
  exact A0z.lib (vs:=[.string a,.string b]) ⟨_,(Tryz.f125.body).get!,Tryz.func125,by kernel_rfl,by kernel_rfl⟩ fun I w _=>(Tryz.strings_Compare a b w).mono fun e w' h=>⟨by rw[h.1,F2u],A9i h.2⟩
 ·cases hr
noncomputable def gF1:List T->Option T:=g2 tIt tStr fun c id=>some (iv (cmpS c.x.id id))
theorem hF1:GOK Tryz.prog (G q) 124 gF1:=A7t fun a b c id r ha hb hr=>by
 injection hr with hr;subst hr;obtain rfl:a = .ag c.cs:=ha;obtain rfl:b=sv id:=hb;obtain⟨tw,td,k,nm,f,t,tk,ks,ecs,_⟩:=A3f c.ok;rw[ecs];have cd:=C5t c.x.id tw c.x.state td k nm f t tk;have z:=ldI c.x.id tw c.x.state td k nm f t tk (H:=[(0,iRow c.x.id tw c.x.state td k nm f t tk)]) (b:=0) rfl;have z0:=z.l0;simp only[iRow]at z0;have e:gSCp [.v (.string c.x.id),.v (.string id)]=some (iv (cmpS c.x.id id)):=rfl;refine B6m.runs ((A0x.cons (hSCp (q:=q)) .nil).ctx mixed) rfl ?_
 (conv in A8r=>cbv);simp -implicitDefEqProofs [cd,z0,e]
theorem F5s (c:IC) (id:ByteArray):gF1 [.ag c.cs,sv id]=some (iv (cmpS c.x.id id)):=by
 show g2 _ _ _ _=_;rw[A7c (τ:=tIt) (σ:=tStr) (x:=c) (y:=id) rfl rfl]
def SB2 (id:ByteArray) (t:T) (F n:Nat) (a:Nat×Nat):A0b:=⟨[(10,.t (iv (a.2:Int))),(9,.t (iv (a.1:Int))),(8,.t (iv (n:Int))),(2,.t (fv F)),(1,.t (sv id)),(0,.t t)],[],0,49⟩
abbrev cmC (id:ByteArray):IC->Int:=fun c=>cmpS c.x.id id
theorem E8b {t:T} {l:List IC} (id:ByteArray) (ht:IsS eIC t l) (hA:C9d (cmC id) l) (hl:l.length<=1000000) :
  A0z Tryz.prog (G q) 123 [t,sv id,fv 124] (· = .tu [iv (cntL (cmC id) l:Nat),bv (hitL (cmC id) l)]):=by
 have C:Ctx Tryz.prog (G q) _:=A0x.nil.ctxH (A1s.cons (hF1 (q:=q)).hok .nil) mixed;have hlen:=ht.len;have eo:∀(c:IC) H nx,hOfT gF1 [.t (.ag c.cs),.t (sv id)] H nx=some (.t (iv (cmC id c)),H,nx):=fun c H nx=>E9p (F5s c id) H nx;have hcle:=F2h (c:=cmC id) l;have hat:=D5d hA;refine A6r.call rfl ?_;(conv in A3o=>cbv)
 obtain⟨N,hN⟩:∃N,N=cntL (cmC id) l:=⟨_,rfl⟩
 have hhit:hitL (cmC id) l=(match l[N]? with | some x=>decide (cmC id x=0) | none=>false):=by rw[hN,hitL];cases l[cntL (cmC id) l]?<;>rfl
 rw[<-hN]at hcle hat ⊢;refine A0a C ?_;simp -implicitDefEqProofs;refine A0a C ?_;simp -implicitDefEqProofs [hlen];refine A0a C ?_;simp -implicitDefEqProofs;refine A1f (fun a:Nat×Nat=>SB2 id t 124 l.length (N,N)) (fun _=>True) (fun _=>rfl) ?_ ?_
 ·refine A0n ?_;refine A1a (SB2 id t 124 l.length) (fun a=>a.2-a.1) (fun a=>a.1<=N/\N<=a.2/\a.2<=l.length) (0,l.length) (fun _=>rfl) ⟨Nat.zero_le _,hcle,Nat.le_refl _⟩ ?_ rfl ?_
  ·refine A0e ?_;simp -implicitDefEqProofs [SB2]
  rintro⟨i,j⟩ ⟨hi,hj,hjl⟩;simp only at hi hj hjl;by_cases hlt:i<j
  ·obtain⟨m,hm⟩:∃m,m=(i+j) / 2:=⟨_,rfl⟩
   have hw:=half i j (by omega);rw[<-hm]at hw;have hw:IntKind.i64.wrap ((IntKind.u64.wrap (IntKind.i64.wrap ((i:Int)+(j:Int)))).fdiv 2)=(m:Int):=hw
   obtain⟨x,hx⟩:∃x,l[m]?=some x:=⟨_,List.getElem?_eq_getElem (by omega)⟩
   obtain⟨pp,i1,ld,_⟩:=C9f ht hx;have eo:=eo x;have e1:IntKind.i64.wrap ((m:Int)+1)=((m+1:Nat):Int):=A0p (by omega) (by omega);have hcx:=hat m x hx;generalize cmC id x=cz at *;refine A0c C ?_;by_cases hc:cz<0
   ·have h1:=hcx.1 hc;simp -implicitDefEqProofs [SB2,hlt,hw,i1,ld,eo,hc,e1];exact Abs.Next.mk (m+1,j) ⟨⟨by show m+1<=N;omega,hj,hjl⟩,by show j-(m+1)<j-i;omega⟩ (A0e (by simp -implicitDefEqProofs [SB2]))
   ·have h1:¬m<N:=fun h=>hc (hcx.2 h);simp -implicitDefEqProofs [SB2,hlt,hw,i1,ld,eo,hc];exact Abs.Next.mk (i,m) ⟨⟨hi,by show N<=m;omega,by show m<=_;omega⟩,by show m-i<j-i;omega⟩ (A0e (by simp -implicitDefEqProofs [SB2]))
  ·have e1:i=N:=by omega
   have e2:j=N:=by omega
   subst e1;subst e2;refine A0c C ?_;simp -implicitDefEqProofs [SB2];exact Abs.Next.mk (0,0) trivial (A0e (by simp -implicitDefEqProofs [SB2]))
 ·rintro _ -;rw[hhit];by_cases hlt:N<l.length
  ·obtain⟨x,hx⟩:∃x,l[N]?=some x:=⟨_,List.getElem?_eq_getElem hlt⟩
   obtain⟨pp,i1,ld,_⟩:=C9f ht hx;have eo:=eo x;rw[hx];refine A0c C ?_;simp -implicitDefEqProofs [SB2,hlt,i1,ld,eo];rfl
  ·rw[List.getElem?_eq_none (by omega)];refine A0c C ?_;simp -implicitDefEqProofs [SB2,hlt]
noncomputable def gB2:List T->Option T
 | [a,b,.v (.func (.func F) ⟨[]⟩ ⟨[]⟩)]=>open Classical in if F=124 then g2 (tSl eIC) tStr (fun l id=>if C9d (cmC id) l/\l.length<=1000000 then some (.tu [iv (cntL (cmC id) l:Nat),bv (hitL (cmC id) l)])else none) [a,b]else none
 | _=>none
theorem hB2:GOK Tryz.prog (G q) 123 gB2:=fun args r h=>by
 unfold gB2 at h;split at h
 ·rename_i a b F;split at h
  ·rename_i hF;subst hF;unfold g2 at h;obtain⟨l,h1,h⟩:=Option.bind_eq_some_iff.1 h;obtain⟨id,h2,h⟩:=Option.bind_eq_some_iff.1 h;simp only at h;split at h
   ·rename_i hA;injection h with h;subst h;obtain rfl:b=sv id:=Ty.is_dec h2;exact E8b id (Ty.is_dec h1) hA.1 hA.2
   ·cases h
  ·cases h
 ·cases h
theorem F5t {t:T} {l:List IC} (id:ByteArray) (ht:IsS eIC t l) (hA:C9d (cmC id) l) (hl:l.length<=1000000):gB2 [t,sv id,fv 124]=some (.tu [iv (cntL (cmC id) l:Nat),bv (hitL (cmC id) l)]):=by
 have e:gB2 [t,sv id,fv 124]=g2 (tSl eIC) tStr (fun l id=>open Classical in if C9d (cmC id) l/\l.length<=1000000 then some (.tu [iv (cntL (cmC id) l:Nat),bv (hitL (cmC id) l)])else none) [t,sv id]:=by
  unfold gB2;simp
 rw[e,A7c (τ:=tSl eIC) (σ:=tStr) ht rfl,if_pos ⟨hA,hl⟩]
def C0o (l:List IC):Prop:=C8i (l.map IC.x)
theorem B3t {l:List IC} (h:C0o l) (id:ByteArray):C9d (cmC id) l:=by
 have h:l.Pairwise fun a b=>cmpS a.x.id b.x.id<0:=List.pairwise_map.1 h;exact h.imp fun {a b} hab hb=>A9h.trans _ _ _ hab hb
noncomputable def gFnd:List T->Option T:=g2 tTb tStr fun b id=>open Classical in if C9d (cmC id) b.items/\b.items.length<=1000000 then some (.tu [iv (cntL (cmC id) b.items:Nat),bv (hitL (cmC id) b.items)])else none
theorem hFnd:GOK Tryz.prog (G q) 71 gFnd:=A7t fun a b tb id r ha hb hr=>by
 obtain rfl:b=sv id:=hb;split at hr
 ·rename_i h;injection hr with hr;subst hr;obtain⟨u,rfl,hu⟩:=ha;have e:=F5t id hu h.1 h.2;have cd:A0y (.t (.ag [sv tb.ver,u]))=some [.t (sv tb.ver),.t u]:=rfl;have z:A0f false 1 [(0,.cells 39 [.t (sv tb.ver),.t u])] (.ptr 0 1)=some (.t u):=rfl;have eo:∀H nx,hOfT gB2 [.t u,.t (sv id),.t (fv 124)] H nx=some (.t (.tu [iv (cntL (cmC id) tb.items:Nat),bv (hitL (cmC id) tb.items)]),H,nx):=fun H nx=>E9q e H nx;refine C0i.runs (A0x.nil.ctxH (A1s.cons (hB2 (q:=q)).hok .nil) mixed) rfl ?_
  (conv in B0z=>cbv);simp -implicitDefEqProofs [cd,z,eo]
 ·cases hr
theorem D2c {ver:ByteArray} {u:T} {l:List IC} (id:ByteArray) (hu:IsS eIC u l) (hA:C9d (cmC id) l) (hl:l.length<=1000000):gFnd [.ag [sv ver,u],sv id]=some (.tu [iv (cntL (cmC id) l:Nat),bv (hitL (cmC id) l)]):=by
 show g2 _ _ _ _=_;rw[A7c (τ:=tTb) (σ:=tStr) (x:=⟨ver,l⟩) ⟨u,rfl,hu⟩ rfl,if_pos ⟨hA,hl⟩]
open Go Go.Abs
noncomputable def B1b:A0j:=cm Tryz.f73 95
theorem C0p {q:Gl}:FnOK Tryz.prog (G q) 73 3 95 B1b [(.tmp 6)]:=fk Tryz.func73 (by kernel_rfl) (by kernel_rfl)
end Go.Proofs.YtmplckgbeaifkaaGreatDoor
