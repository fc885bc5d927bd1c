/- Auxiliary facts. -/
import Derived.Test.YtmplckgbeaifkaaGreatDoorVCQ56
import Derived.Test.YtmplckgbeaifkaaGreatDoorVCQ45
import Derived.Test.YtmplckgbeaifkaaGreatDoorVCQ65
import Derived.Test.YtmplckgbeaifkaaGreatDoorVCQ68
import Derived.Test.YtmplckgbeaifkaaGreatDoorVCQ69
import Derived.Test.YtmplckgbeaifkaaGreatDoorVCQ70
set_option linter.unusedSimpArgs false
set_option linter.unusedVariables false
namespace Go.Proofs.YtmplckgbeaifkaaGreatDoor
open Go Go.Abs
variable {q : Gl}
theorem E1s {l:List IC} {c:IC} (hs:A8c l):(putC c l).length=if(getC c.x.id l).isSome=true then l.length else l.length+1:=by
 obtain⟨_,f2,f3,f4,_⟩:=C4b c.x.id hs
 cases h:(getC c.x.id l).isSome with
 | true=>
  have:=f3 c;rw[if_pos ⟨h,rfl⟩,if_pos ⟨h,rfl⟩]at this;rw[if_pos rfl,<-this,List.length_set]
 | false=>
  rw[if_neg (by decide),f4 c rfl h];exact D0b c List.countP_le_length
noncomputable def gPt:List T->Option T
 | [.ag [.v (.string v),u],x]=>((tSl eIC).dec u).bind fun l=>(tIt.dec x).bind fun c=>open Classical in if A8c l/\l.length<=256/\SmI c.x then some (putO v u l c)else none
 | _=>none
theorem F8g {F:Nat} (H:∀{ver:ByteArray} {u:T} {l:List IC},IsS eIC u l->A8c l->l.length<=256->∀c:IC,SmI c.x->A0v Tryz.prog (G q) F [.ag [sv ver,u],.ag c.cs] (· = putO ver u l c)):GOK Tryz.prog (G q) F gPt:=fun args r h=>by
 unfold gPt at h;split at h
 ·obtain⟨l,h2,h⟩:=Option.bind_eq_some_iff.1 h;obtain⟨c,h3,h⟩:=Option.bind_eq_some_iff.1 h;split at h
  ·rename_i hn;injection h with h;subst h;have hx:=Ty.is_dec h3;obtain rfl:=hx;exact H (Ty.is_dec h2) hn.1 hn.2.1 c hn.2.2
  ·cases h
 ·cases h
theorem hPt2:GOK Tryz.prog (G q) 39 gPt:=F8g fun hu hs hl c hc=>D0e hu hs (by omega) c hc
theorem G4u {ver:ByteArray} {u:T} {l:List IC} (hu:IsS eIC u l) (hs:A8c l) (hl:l.length<=256) (c:IC) (hc:SmI c.x):gPt [.ag [sv ver,u],.ag c.cs]=some (putO ver u l c):=by
 have h2:(tSl eIC).dec u=some l:=Ty.dec_is (τ:=tSl eIC) hu;have h3:tIt.dec (.ag c.cs)=some c:=Ty.dec_is (τ:=tIt) rfl;show((tSl eIC).dec u).bind _=_;rw[h2,Option.bind_some,h3,Option.bind_some,if_pos ⟨hs,hl,hc⟩]
theorem TBI.put {cs:List T} (b:TBI cs) (h:chkT b.tb=0) (c:IC) (hc:SmI c.x):∃(cs':List T) (e:Int) (b':TBI cs'),gPt [.ag cs,.ag c.cs]=some (.tu [.ag cs',iv e]) /\
  ((e≠0/\cs'=cs/\putT b.tb c.x = .error e)\/(e=0/\putT b.tb c.x = .ok b'.tb/\b'.l=putC c b.l/\b'.ver=b.ver)):=by
 obtain⟨hs,hl⟩:=b.sort h;have eP:=G4u (ver:=b.ver) b.hu hs hl c hc;rw[<-b.e]at eP;have hx:putI c.x b.tb.items=(putC c b.l).map IC.x:=(F1j c b.l).symm;unfold putO at eP;unfold putT;rw[hx,List.length_map,E1s hs];by_cases h1:A0y false c.x.id=false
 ·rw[if_pos h1]at eP;rw[if_pos h1];exact⟨cs,1,b,by rw[eP,<-b.e],.inl ⟨by decide,rfl,rfl⟩⟩
 rw[if_neg h1]at eP;rw[if_neg h1];by_cases h2:chkR c.x=0
 rotate_left
 ·rw[if_pos h2]at eP;rw[if_pos h2];exact⟨cs,_,b,by rw[eP,<-b.e],.inl ⟨h2,rfl,rfl⟩⟩
 rw[if_neg (fun e=>e h2)]at eP;rw[if_neg (fun e=>e h2)];by_cases h3:(getC c.x.id b.l).isSome=true\/b.l.length<256
 ·rw[if_pos h3]at eP;have hpl:=F1k c b.l;refine⟨_,0,⟨b.ver,A1a eIC (putC c b.l),putC c b.l,rfl,IsS.tree _ _,b.sm.ver,by omega,fun y hy=>(E1a hy).elim (fun e=>by rw[e];exact hc) fun hy=>b.sm.items y hy⟩,eP,.inr ⟨rfl,?_,rfl,rfl⟩⟩;rw[if_neg]
  ·rfl
  ·split
   ·omega
   ·rcases h3 with h3 | h3
    ·contradiction
    ·omega
 ·rw[if_neg h3]at eP;refine⟨cs,7,b,by rw[eP,<-b.e],.inl ⟨by decide,rfl,?_⟩⟩;rw[if_pos];rw[if_neg (fun e=>h3 (.inl e))];have:¬b.l.length<256:=fun e=>h3 (.inr e);omega
end Go.Proofs.YtmplckgbeaifkaaGreatDoor
