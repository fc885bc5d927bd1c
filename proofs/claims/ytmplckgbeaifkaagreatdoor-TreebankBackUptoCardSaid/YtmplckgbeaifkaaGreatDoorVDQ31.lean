/- Auxiliary facts. -/
import Derived.Test.YtmplckgbeaifkaaGreatDoorVDQ29
import Derived.Test.YtmplckgbeaifkaaGreatDoorVDQ30
set_option linter.unusedSimpArgs false
set_option maxRecDepth 100000
set_option maxHeartbeats 0
set_option linter.unusedVariables false
namespace Go.Proofs.YtmplckgbeaifkaaGreatDoor
open Go Go.Abs
variable {q : Gl}
theorem E5d {l:List It} (h:l≠[]):l=l.dropLast++[B7v l]:=by
 unfold B7v;rw[List.getLast?_eq_some_getLast h];exact(List.dropLast_concat_getLast h).symm
def sRow (v:ByteArray) (u:T) (n:Int):Row:=.cells 124 [.t (sv v),.t u,.t (iv n)]
structure LdS (v:ByteArray) (u:T) (n:Int) (H:Heap) (b:Nat):Prop where
 l0:A0f false 1 H (.ptr b 0)=some (.t (sv v))
 l1:A0f false 1 H (.ptr b 1)=some (.t u)
 l2:A0f false 1 H (.ptr b 2)=some (.t (iv n))
 bb:A0f true 2 H (.ptr b 0)=some (.t (.ag [sv v,u]))
 a:A0f true 3 H (.ptr b 0)=some (.t (.ag [sv v,u,iv n]))
theorem ldS {v:ByteArray} {u:T} {n:Int} {H:Heap} {b:Nat} (h:Abs.look H b=some (sRow v u n)):LdS v u n H b:=by
 constructor<;>simp[A0f,h,sRow,agOf,allT]
structure InvR (k:Nat) (s:RSt):Prop where
 n3:s.next<=3
 ne:2<=s.next->s.items≠[]
 len:s.items.length<=k
 dl:∀x∈s.items,x.decs.length<=k
 sm:∀x∈s.items,SmI x
 vs:s.ver.size<=lim
theorem F6f:InvR 0 ⟨⟨#[]⟩,[],0⟩:=⟨by show 0<=3;omega,fun h=>(by have h:2<=0:=h;omega),Nat.le_refl _,fun x hx=>(by cases hx),fun x hx=>(by cases hx),by show 0<=lim;unfold lim;omega⟩
theorem C1c {l:List It} (h:l≠[]):B7v l∈l:=by
 have e:=E5d h;rw[e];rw[A3u];simp
theorem D5p {l:List It} {x y:It} (h:y∈B6s l x):y=x\/y∈l:=by
 unfold B6s at h;rcases List.mem_append.1 h with h | h
 ·exact .inr (List.dropLast_subset _ h)
 ·exact .inl (List.mem_singleton.1 h)
theorem E9g {l:List It} (x:It) (h:l≠[]):(B6s l x).length=l.length:=by
 have:=List.length_pos_iff.2 h;unfold B6s;simp;omega
theorem C6d {k:Nat} {s:RSt} (hi:InvR k s) {x:It} {n:Nat} (h2:2<=s.next) (hn:n<=3) (hx:SmI x) (hd:x.decs.length<=k+1):InvR (k+1) ⟨s.ver,B6s s.items x,n⟩:=
 ⟨hn,fun _=>by show B6s _ _≠[];unfold B6s;simp,by show(B6s _ _).length<=_;rw[E9g x (hi.ne h2)];have:=hi.len;omega,
 fun y hy=>(D5p hy).elim (fun e=>by rw[e];exact hd) fun h=>Nat.le_succ_of_le (hi.dl y h),fun y hy=>(D5p hy).elim (fun e=>by rw[e];exact hx) fun h=>hi.sm y h,hi.vs⟩
theorem E5e {k:Nat} {s s':RSt} {w:List (List UInt8)} (hi:InvR k s) (hw:∀x∈w,x.length<=1000000) (h:begR s w = .ok s'):InvR (k+1) s':=by
 unfold begR at h;split at h
 ·rename_i i id st;split at h
  ·split at h
   ·rename_i kk _;injection h with h;subst h;refine⟨by show 2<=3;omega,fun _=>by simp,by simp;exact hi.len,fun x hx=>?_,fun x hx=>?_,hi.vs⟩
    ·rcases List.mem_append.1 hx with hx | hx
     ·exact Nat.le_succ_of_le (hi.dl x hx)
     ·rw[List.mem_singleton.1 hx];show 0<=_;omega
    ·rcases List.mem_append.1 hx with hx | hx
     ·exact hi.sm x hx
     ·rw[List.mem_singleton.1 hx];refine⟨⟨by show 0<=_;omega,fun w hw=>(by cases hw)⟩,by show 0<=_;omega,fun d hd=>(by cases hd),wdZ,?_⟩;show(bs id).size<=_;rw[A0l];have:=hw id (by simp);unfold lim;omega
   ·cases h
  ·cases h
 ·cases h
theorem E9h {k:Nat} {s s':RSt} {l:List UInt8} (hi:InvR k s) (hl:l.length<=1000000) (hk:k<=900000) (h:A9s s l = .ok s'):InvR (k+1) s':=by
 unfold A9s at h;split at h
 ·rename_i hg
  have h3:s.next=3:=by
   have:=hg.1;unfold B6r at this;rw[Bool.and_eq_true,decide_eq_true_iff]at this;exact this.1
  split at h
  ·cases h
  ·rename_i d hp;injection h with h;subst h;have hm:=C1c (hi.ne (by omega));have sm:=hi.sm _ hm;exact C6d hi (by omega) (by omega) ⟨sm.words,sm.len,sm.decs,E4x hp,sm.id⟩ (Nat.le_succ_of_le (hi.dl (B7v s.items) hm))
 ·split at h
  ·cases h
  ·cases h
  ·rename_i x w hw;obtain⟨hw1,hw2⟩:=B3u hw;have hw3:∀y∈x::w,y.length<=1000000:=fun y hy=>Nat.le_trans (hw2 y hy) hl;split at h
   ·split at h
    ·split at h
     ·rename_i vv;injection h with h;subst h;refine⟨by show 1<=3;omega,fun h=>(by have h:2<=1:=h;omega),by show 0<=_;omega,fun x hx=>(by cases hx),fun x hx=>(by cases hx),?_⟩;show(bs vv).size<=_;rw[A0l];have:=hw3 vv (by simp);unfold lim;omega
     ·cases h
    ·cases h
   ·split at h
    ·rename_i h2;split at h
     ·injection h with h;subst h;have hm:=C1c (hi.ne (by omega));have sm:=hi.sm _ hm;refine C6d hi (by omega) (by omega) ⟨⟨?_,fun y hy=>?_⟩,sm.len,sm.decs,sm.gold,sm.id⟩ (Nat.le_succ_of_le (hi.dl (B7v s.items) hm))
      ·show(w.map bs).length<=_;rw[List.length_map];simp only[List.length_cons]at hw1;omega
      ·obtain⟨z,hz,rfl⟩:=List.mem_map.1 hy;rw[A0l];have:=hw3 z (by simp[hz]);unfold lim;omega
     ·cases h
    ·split at h
     ·rename_i h3;split at h
      ·rename_i d hd;injection h with h;subst h;have hm:=C1c (hi.ne (by omega));have sm:=hi.sm _ hm;have hdl:=hi.dl _ hm
       have hdp:decP (x::w)=some d:=by
        unfold decQ at hd;split at hd
        ·exact hd
        ·cases hd
       have hdn:=C9v hdp hw3;refine C6d hi (by omega) (by omega) ⟨sm.words,?_,fun y hy=>?_,sm.gold,sm.id⟩ ?_
       ·show(_++[d]).length<=_;rw[List.length_append];simp;omega
       ·rcases List.mem_append.1 hy with hy | hy
        ·exact sm.decs y hy
        ·rw[List.mem_singleton.1 hy];unfold lim;omega
       ·show(_++[d]).length<=_;rw[List.length_append];simp;omega
      ·split at h
       ·cases h
       ·exact E5e hi hw3 h
     ·exact E5e hi hw3 h
theorem F3l {s:RSt} {l:List UInt8} {e:Int} (h:A9s s l = .error e):e≠0:=by
 have beg:∀{w},begR s w = .error e->e≠0:=fun {w} h=>by
  unfold begR at h;split at h
  ·split at h
   ·split at h
    ·cases h
    ·cases h;decide
   ·cases h;decide
  ·cases h;decide
 unfold A9s at h;split at h
 ·split at h
  ·rename_i e' hp;cases h;exact D1x hp
  ·cases h
 ·split at h
  ·cases h;decide
  ·cases h;decide
  ·split at h
   ·split at h
    ·split at h
     ·cases h
     ·cases h;decide
    ·cases h;decide
   ·split at h
    ·split at h
     ·cases h
     ·cases h;decide
    ·split at h
     ·split at h
      ·cases h
      ·split at h
       ·cases h;decide
       ·exact beg h
     ·exact beg h
def F6g:ByteArray:=⟨#[118,101,114,115,105,111,110,32,118,49,10,105,116,101,109,32,115,49,32,111,112,101,110,10,119,111,114,100,115,32,116,104,101,32,100,111,103,10,110,111,32,114,117,108,101,32,110,112,32,48,32,50,10]⟩
def sEx1:ByteArray:=⟨#[118,101,114,115,105,111,110,32,118]⟩
def sEx2:ByteArray:=⟨#[118,101,114,115,105,111,110,32,118,49,10,105,116,101,109,32,115,49,32,111,112,101,110,10,119,111,114,100,115,10]⟩
def sEx3:ByteArray:=⟨#[118,101,114,115,105,111,110,32,118,49,10,105,116,101,109,32,115,49,32,109,97,121,98,101,10]⟩
def xs1:It:=⟨⟨#[115,49]⟩,[⟨#[116,104,101]⟩,⟨#[100,111,103]⟩],0,[⟨⟨2,⟨#[110,112]⟩,0,2⟩,false⟩],A1y⟩
def dDog:Dv:=.mk 2 ⟨#[110,112]⟩ 0 1 [.mk 0 ⟨#[100,111,103]⟩ 0 1 []]
def xs2:It:=⟨⟨#[115,49]⟩,[⟨#[116,104,101]⟩,⟨#[100,111,103]⟩],1,[⟨⟨2,⟨#[110,112]⟩,0,2⟩,false⟩],dDog⟩
def cs1:IC:=IC.of xs1
def cs2:IC:=IC.of xs2
def vV:ByteArray:=⟨#[118,49]⟩
theorem F6h:Wd dDog:=⟨by simp[dDog,A8k,A6f];decide,by simp[dDog,IntD,IntK],by decide⟩
theorem smi1:SmI xs1:=⟨⟨by decide,by decide⟩,by decide,by decide,wdZ,by decide⟩
theorem smi2:SmI xs2:=⟨⟨by decide,by decide⟩,by decide,by decide,F6h,by decide⟩
theorem smb1:SmB vV [cs1]:=⟨by decide,by decide,fun c hc=>by rw[List.mem_singleton.1 hc];exact smi1⟩
theorem sortN:C0o []:=List.Pairwise.nil
theorem F3m:C0o [cs1]:=List.pairwise_singleton _ _
def E5f:Memo:=[
 (47,[.ag [sv vV,slT eIC [cs1]]],encR ⟨vV,[xs1]⟩),
 (49,[sv F6g],decO (lbs F6g)),(49,[sv sEx1],decO (lbs sEx1)),(49,[sv sEx2],decO (lbs sEx2)),(49,[sv sEx3],decO (lbs sEx3)),
 (39,[.ag [sv vV,nilS],.ag cs1.cs],putO vV nilS [] cs1),(39,[.ag [sv vV,slT eIC [cs1]],.ag cs2.cs],putO vV (slT eIC [cs1]) [cs1] cs2),
 (42,[.ag [sv vV,slT eIC [cs1]],sv ⟨#[115,49]⟩],getT ⟨#[115,49]⟩ [cs1]),
 (44,[.ag [sv vV,slT eIC [cs1]],sv ⟨#[115,50]⟩],E8i vV (slT eIC [cs1]) ⟨#[115,50]⟩ [cs1]),
 (41,[.ag [sv vV,slT eIC [icW xs1]],.ag [sv vV,slT eIC [cs1]]],bv true)]
theorem E5g:B5d Tryz.prog (G q) E5f:=by
 refine .cons (C0t (IsS.mk [cs1]) smb1) (.cons (A7b _ (by decide)) (.cons (A7b _ (by decide)) (.cons (A7b _ (by decide)) (.cons (A7b _ (by decide)) (.cons (D5j (.inl ⟨rfl,rfl⟩) sortN (by decide) cs1 smi1) (.cons (D5j (IsS.mk _) F3m (by decide) cs2 smi2) (.cons (E8h (IsS.mk _) F3m (by decide)) (.cons (D2e (IsS.mk _) F3m (by decide)) (.cons ?_ .nil)))))))))
 exact B5l (IsS.mk [icW xs1]) (IsS.mk [cs1]) rfl (by decide) fun c hc=>by rw[List.mem_singleton.1 hc];exact smi1.e
def D8x (Φ:A0o) (k:Nat):Nat->A0j->A0b->Option (Exit×A0b)
 | n+1,.seq a b,s=>match runF Φ k a s with
  | some (.normal,s1)=>D8x Φ k n b (frzR 4 s1)
  | r=>r
 | _,M,s=>runF Φ k M s
theorem F0f:∀(k:Nat) (s:A0b),(frzR k s).n=s.n
 | 0,_=>rfl
 | k+1,s=>by
  unfold frzR;split
  ·rfl
  ·rw[F0f k];rfl
theorem D5q {P:Program} {G:A0q} {B N:Nat} {Φ:A0o} (hΦ:Ctx P G Φ) (k:Nat):∀(n:Nat) (M:A0j) {Q:Exit->A0b->Prop} {s:A0b} {e:Exit} {s':A0b},D8x Φ k n M s=some (e,s')->Q e s'->MC P G B N M Q s
 | 0,M,Q,s,e,s',h,hq=>A3p hΦ k M (by simpa only[D8x]using h) hq
 | n+1,M,Q,s,e,s',h,hq=>by
  cases M
  case seq a b=>
   intro c hc hn;refine A3m ?_ c hc hn;simp only[D8x]at h;split at h
   ·rename_i s1 h1;refine A3p hΦ k a h1 ⟨(A7k k a h1).trans hn,?_⟩;exact MC.sub (B8h 4 s1) (F0f 4 s1) (D5q hΦ k n b h hq)
   ·rename_i hne;refine A3p hΦ k a h ?_;cases e
    case normal=>exact absurd h (hne s')
    all_goals exact hq
  all_goals exact A3p hΦ k _ (by simpa only[D8x]using h) hq
noncomputable def go47:Option T:=match D8x (C3r [] E5f 50 0) 50 30 A5e (startM 128 [])with
 | some (.ret,s)=>resT [(.tmp 0)] (frzR 4 s)
 | _=>none
theorem E9i:go47=some (bv true):=by kernel_rfl
theorem E5h:A0z Tryz.prog (G q) 36 [] (· = bv true):=by
 have h:=E9i;unfold go47 at h;split at h
 ·rename_i s hr;unfold resT at h;split at h
  ·rename_i ps hps;split at h
   ·rename_i r' F hT;injection h with h
    have hΦ:Ctx Tryz.prog (G q) (C3r [] E5f 50 0):=⟨mixed,A7o (G:=G q) mixed (fun z hz=>by cases hz) E5g 50 0⟩
    refine B5k.call rfl fun c hc hn=>?_
    exact(D5q (Q:=fun e s1=>e = .ret/\s1=s) hΦ 50 30 A5e hr ⟨rfl,rfl⟩ c hc hn).post fun e s1 hq=>⟨frzR 4 s1,B8h 4 s1,by
     obtain⟨rfl,rfl⟩:=hq
     exact⟨.inr rfl,ps,r',F,hps,hT,h⟩⟩
   ·cases h
  ·cases h
 ·cases h
theorem hEx47:GOK Tryz.prog (G q) 36 gEx:=fun args r h=>by
 unfold gEx at h;split at h
 ·injection h with h;subst h;exact E5h
 ·cases h
end Go.Proofs.YtmplckgbeaifkaaGreatDoor
namespace Go.Abs
open Go
theorem ldT {H:Heap} {b ty n:Nat} {cs:List T} (h:look H b=some (.cells ty (cs.map .t))) (hn:cs.length=n):A0f true n H (.ptr b 0)=some (.t (.ag cs)):=by
 subst hn;simp only[A0f,h,if_true];rw[if_pos (by simp),List.drop_zero,List.take_of_length_le (by simp)];simp[agOf]
theorem sNew {ty n:Nat} {z:List PV} {cs:List T} (hz:z.length=n) (hc:cs.length=n) (h1:n≠1) (H:Heap) (k:Nat):A0r n ((k,.cells ty z)::H) (.ptr k 0) (.t (.ag cs))=some ((k,.cells ty (cs.map .t))::H):=by
 have e:A0y (.t (.ag cs))=some (cs.map .t):=rfl
 have hs:A3h z 0 (cs.map PV.t)=cs.map .t:=by
  have hl:(cs.map PV.t).length=n:=by simpa using hc
  unfold A3h;split
  ·rename_i p hp;rw[hp]at hl;simp at hl;omega
  ·rw[List.take_zero,List.nil_append,List.drop_of_length_le (by omega),List.append_nil]
 simp only[A0r,e];simp[hz,hc,hs]
end Go.Abs
namespace Go.Proofs.YtmplckgbeaifkaaGreatDoor
open Go Go.Abs
variable {q : Gl}
noncomputable def gSB:List T->Option T:=g2 tTb tTb fun a b=>open Classical in if a.tb=b.tb/\a.items.length<=1000000/\∀c∈a.items,SmE c.x then some (bv true)else none
theorem hSB:GOK Tryz.prog (G q) 41 gSB:=A7t fun a b x y r ha hb hr=>by
 split at hr
 ·rename_i h;injection hr with hr;subst hr;obtain⟨u,rfl,hu⟩:=ha;obtain⟨u',rfl,hu'⟩:=hb;have hv:x.ver=y.ver:=congrArg Tb.ver h.1;have hi:x.items.map IC.x=y.items.map IC.x:=congrArg Tb.items h.1;rw[<-hv];exact B5l hu hu' hi h.2.1 h.2.2
 ·cases hr
theorem F6i {ver:ByteArray} {u u':T} {l l':List IC} (hu:IsS eIC u l) (hu':IsS eIC u' l') (h:l.map IC.x=l'.map IC.x) (hl:l.length<=1000000) (hs:∀c∈l,SmE c.x):gSB [.ag [sv ver,u],.ag [sv ver,u']]=some (bv true):=by
 show g2 _ _ _ _=_;rw[A7c (τ:=tTb) (σ:=tTb) (x:=⟨ver,l⟩) (y:=⟨ver,l'⟩) ⟨u,rfl,hu⟩ ⟨u',rfl,hu'⟩,if_pos ⟨by unfold TC.tb;rw[h],hl,hs⟩]
structure TBI (tb:List T) where
 ver:ByteArray
 u:T
 l:List IC
 e:tb=[sv ver,u]
 hu:IsS eIC u l
 sm:SmB ver l
def TBI.tb {cs:List T} (b:TBI cs):Tb:=⟨b.ver,b.l.map IC.x⟩
theorem TBI.len {cs:List T} (b:TBI cs):cs.length=2:=by rw[b.e];rfl
theorem TBI.row {cs:List T} (b:TBI cs):Row.cells 39 (cs.map .t)=bRow b.ver b.u:=congrArg (fun c:List T=>Row.cells 39 (c.map .t)) b.e
theorem TBI.lt {cs:List T} (b:TBI cs):gLB [.ag cs]=some (bv (ltB b.tb)):=by
 have:=F6b b.hu b.sm;rw[<-b.e]at this;exact this
theorem TBI.ck {cs:List T} (b:TBI cs):gChk [.ag cs]=some (iv (chkT b.tb)):=by
 have:=D1z (ver:=b.ver) b.hu b.sm;rw[<-b.e]at this;exact this
theorem TBI.sme {cs:List T} (b:TBI cs):∀c∈b.l,SmE c.x:=fun c hc=>(b.sm.items c hc).e
theorem TBI.same {cs cs':List T} (b:TBI cs) (b':TBI cs') (h:b.tb=b'.tb):gSB [.ag cs,.ag cs']=some (bv true):=by
 have hv:b.ver=b'.ver:=congrArg Tb.ver h;have hi:b.l.map IC.x=b'.l.map IC.x:=congrArg Tb.items h;have:=F6i (ver:=b.ver) b.hu b'.hu hi b.sm.len b.sme;rw[<-b.e]at this;rw[hv,<-b'.e]at this;exact this
theorem TBI.enc {cs:List T} (b:TBI cs):gEnc [.ag cs]=some (encR b.tb):=by
 have:=F3c (ver:=b.ver) b.hu b.sm;rw[<-b.e]at this;exact this
theorem F3n (l:List It):(l.map icW).map IC.x=l:=by rw[List.map_map,show(IC.x∘icW)=id from rfl,List.map_id]
theorem E5i:∀(ls:List (List UInt8)) (k:Nat) (s s':RSt),InvR k s->(∀l∈ls,l.length<=1000000)->k+ls.length<=900000->runR s ls = .ok s'->InvR (k+ls.length) s'
 | [],k,s,s',hi,_,_,h=>by cases h;exact hi
 | l::r,k,s,s',hi,hl,hk,h=>by
  rw[runR]at h
  cases hs:A9s s l with
  | error e=>rw[hs]at h;cases h
  | ok s1=>
   rw[hs]at h;simp only[List.length_cons]at hk ⊢;have:=E5i r (k+1) s1 s' (E9h hi (hl l (by simp)) (by omega) hs) (fun x hx=>hl x (by simp[hx])) (by omega) h;rwa[show k+1+r.length=k+(r.length+1)by omega]at this
theorem F0g:∀(ls:List (List UInt8)) (s:RSt) (e:Int),runR s ls = .error e->e≠0
 | [],s,e,h=>by cases h
 | l::r,s,e,h=>by
  rw[runR]at h
  cases hs:A9s s l with
  | error e'=>rw[hs]at h;cases h;exact F3l hs
  | ok s1=>rw[hs]at h;exact F0g r s1 e h
theorem F3o {s:RSt} {ls:List (List UInt8)} {tl:List UInt8} {e:Int} (h:allR s ls tl = .error e):e≠0:=by
 unfold allR at h
 cases hr:runR s ls with
 | error e'=>rw[hr]at h;cases h;exact F0g _ _ _ hr
 | ok s'=>
  rw[hr]at h;simp only at h;split at h
  ·cases h;decide
  ·split at h
   ·cases h;decide
   ·cases h
theorem F3p {s:List UInt8} {e:Int} (h:decT s = .error e):e≠0:=by
 rw[<-E5c]at h;unfold decR at h;split at h
 ·cases h;decide
 ·split at h
  ·rename_i hh;cases h;exact F3o hh
  ·split at h
   ·rename_i hc;cases h;exact hc
   ·cases h
theorem F3q {s:List UInt8} {b:Tb} (hs:s.length<=65536) (h:decT s = .ok b):b.ver.size<=lim/\b.items.length<=1000000/\∀x∈b.items,SmI x:=by
 rw[<-E5c]at h;unfold decR at h;rw[if_neg (by omega)]at h
 cases ha:allR ⟨⟨#[]⟩,[],0⟩ (cutL [] s).1 (cutL [] s).2 with
 | error e=>rw[ha]at h;cases h
 | ok b'=>
  rw[ha]at h;simp only at h;split at h
  ·cases h
  ·cases h;unfold allR at ha;have hc:=B9m s [];have hlen:=congrArg List.length hc;rw[List.length_append,List.nil_append]at hlen;obtain⟨u1,u2⟩:=D2j (cutL [] s).1
   cases hr:runR ⟨⟨#[]⟩,[],0⟩ (cutL [] s).1 with
   | error e=>rw[hr]at ha;cases ha
   | ok s'=>
    rw[hr]at ha;have hi:=E5i _ 0 _ s' F6f (fun l hl=>by have:=u2 l hl;omega) (by omega) hr;simp only at ha;split at ha
    ·cases ha
    ·split at ha
     ·cases ha
     ·cases ha;exact⟨hi.vs,by have:=hi.len;show s'.items.length<=_;omega,hi.sm⟩
theorem E5j (s:ByteArray) (h:s.size<=1000000000):∃(cs:List T) (e:Int) (b:TBI cs),gDec [sv s]=some (.tu [.ag cs,iv e]) /\
  ((e≠0/\b.ver=⟨#[]⟩/\b.l=[])\/(e=0/\decT (lbs s) = .ok b.tb)):=by
 have hD:=E5b h;unfold decO at hD
 have bad:∀e:Int,e≠0->gDec [sv s]=some (.tu [.ag [sv ⟨#[]⟩,nilS],iv e])->∃(cs:List T) (e:Int) (b:TBI cs),gDec [sv s]=some (.tu [.ag cs,iv e]) /\
  ((e≠0/\b.ver=⟨#[]⟩/\b.l=[])\/(e=0/\decT (lbs s) = .ok b.tb)):=fun e he hd=>
  ⟨_,e,⟨⟨#[]⟩,nilS,[],rfl,.inl ⟨rfl,rfl⟩,by show 0<=lim;unfold lim;omega,by show 0<=_;omega,fun c hc=>(by cases hc)⟩,hd,.inl ⟨he,rfl,rfl⟩⟩
 by_cases hb:65536<(lbs s).length
 ·have:decT (lbs s) = .error 7:=by unfold decT;rw[if_pos hb]
  rw[this]at hD;exact bad 7 (by decide) hD
 have hx:(∃e,decT (lbs s) = .error e)\/∃b,decT (lbs s) = .ok b:=by
  cases decT (lbs s)with
  | error e=>exact .inl ⟨e,rfl⟩
  | ok b=>exact .inr ⟨b,rfl⟩
 rcases hx with⟨e,hd⟩ | ⟨b,hd⟩
 ·rw[hd]at hD;exact bad e (F3p hd) hD
 ·rw[hd]at hD;obtain⟨h1,h2,h3⟩:=F3q (by omega) hd;exact⟨_,0,⟨b.ver,A2e eIC (b.items.map icW),b.items.map icW,rfl,IsS.tree _ _,h1,by rw[List.length_map];exact h2,fun c hc=>by obtain⟨x,hx,rfl⟩:=List.mem_map.1 hc;exact h3 x hx⟩,hD,.inr ⟨rfl,by rw[hd];show _=Except.ok (Tb.mk b.ver ((b.items.map icW).map IC.x));rw[F3n]⟩⟩
theorem E5k {tb:List T} (b:TBI tb) (s:ByteArray) (hs:s.size<=1000000000):A0z Tryz.prog (G q) 13 [.ag tb,sv s] (· = bv true):=by
 have eL:=b.lt;have eC:=b.ck;have eE:=b.enc;have eX:gEx []=some (bv true):=rfl;have cd:A0y (.t (.ag tb))=some (tb.map .t):=rfl
 obtain⟨X,hX⟩:∃X,X=Row.cells 39 (tb.map .t):=⟨_,rfl⟩
 have lX:∀H b,Abs.look H b=some X->A0f true 2 H (.ptr b 0)=some (.t (.ag tb)):=fun H k h=>ldT (h.trans (by rw[hX])) b.len;have C:Ctx Tryz.prog (G q) _:=(A0x.cons (hLB (q:=q)) (.cons (hEnc (q:=q)) (.cons (hDec (q:=q)) (.cons (hChk (q:=q)) (.cons (hSB (q:=q)) (.cons (hEx47 (q:=q)) .nil)))))).ctx mixed;have sN:∀{cs:List T} (h:cs.length=2) (H:Heap) (k:Nat),A0r 2 ((k,.cells 39 [.t (.v (.string ⟨#[]⟩)),.t (.v (.slice none 0 0))])::H) (.ptr k 0) (.t (.ag cs))=some ((k,Row.cells 39 (cs.map .t))::H):=fun h H k=>sNew rfl h (by decide) H k;refine B5j.call rfl ?_;(conv in A7n=>cbv);refine A0a C ?_;simp -implicitDefEqProofs [cd];rw[<-hX]
 cases hl:ltB b.tb with
 | false=>
  rw[hl]at eL;refine A0a C ?_;simp -implicitDefEqProofs [lX,eL,eX]
 | true=>
 rw[hl]at eL;by_cases h6:6000<s.size
 ·have b1:(6000:Int)<(s.size:Int):=by omega
  refine A0a C ?_;simp -implicitDefEqProofs [lX,eL,b1,eX]
 have b1:¬(6000:Int)<(s.size:Int):=by omega
 refine A0a C ?_;simp -implicitDefEqProofs [lX,eL,b1]
 obtain⟨w,e,he,hwe⟩:∃w e,encR b.tb = .tu [sv w,iv e]/\((e≠0)\/(e=0/\w.size<=1000000000/\decT (lbs w) = .ok b.tb/\chkT b.tb=0)):=by
  unfold encR
  cases hen:encT b.tb with
  | error e=>
   refine⟨_,_,rfl,.inl ?_⟩;unfold encT at hen;split at hen
   ·rename_i hh;cases hen;exact hh
   ·split at hen
    ·cases hen;decide
    ·cases hen
  | ok t=>
   refine⟨_,_,rfl,.inr ⟨rfl,?_,?_,?_⟩⟩
   ·rw[A0l];unfold encT at hen;split at hen
    ·cases hen
    ·split at hen
     ·cases hen
     ·cases hen;omega
   ·rw[A3j];exact F1h hen
   ·unfold encT at hen;split at hen
    ·cases hen
    ·rename_i hh;simpa using hh
 rw[he]at eE;refine A0a C ?_;simp -implicitDefEqProofs [lX,eE];refine A1f (α:=Unit) (fun _=>⟨[(1,.t (sv s)),(2,.ptr 0 0)],[(0,X)],1,81⟩) (fun _=>True) (fun _=>rfl) ?_ ?_
 ·rcases hwe with hne | ⟨rfl,hws,hdec,hck⟩
  ·have hb:(e==0)=false:=by simpa using hne
   refine A0c C ?_;simp -implicitDefEqProofs [hb];exact Abs.Next.mk () trivial (A0e (by simp -implicitDefEqProofs))
  ·obtain⟨cs,e2,b2,eD,h2⟩:=E5j w hws;rcases h2 with⟨h2,_,_⟩ | ⟨rfl,h2⟩
   ·exfalso;have hD:=E5b hws;unfold decO at hD;rw[hdec,eD]at hD;injection hD with hD;injection hD with hD;injection hD with _ hD;injection hD with hD _;injection hD with hD;injection hD with _ hD;exact h2 hD
   ·rw[hdec]at h2;injection h2 with h2;have eS:=b.same b2 h2;rw[hck]at eC;have sR:=sN b2.len
    obtain⟨R,hR⟩:∃R,R=Row.cells 39 (cs.map .t):=⟨_,rfl⟩
    have lR:∀H b,Abs.look H b=some R->A0f true 2 H (.ptr b 0)=some (.t (.ag cs)):=fun H k h=>ldT (h.trans (by rw[hR])) b2.len;rw[<-hR]at sR;refine A0c C ?_;simp -implicitDefEqProofs [eD,sR,lX,lR,eS,eC];refine Abs.Next.mk () trivial (B6c (by omega) (fun z hz=>?_) (by simp -implicitDefEqProofs [under]));simp only[List.mem_singleton]at hz;subst hz;exact⟨rfl,by show 0<1;omega,by rw[hX];exact A2b _ _⟩
 rintro _ -;obtain⟨cs,e2,b2,eD,h2⟩:=E5j s hs;have sR:=sN b2.len;have eE2:=b2.enc
 obtain⟨R,hR⟩:∃R,R=Row.cells 39 (cs.map .t):=⟨_,rfl⟩
 have lR:∀H b,Abs.look H b=some R->A0f true 2 H (.ptr b 0)=some (.t (.ag cs)):=fun H k h=>ldT (h.trans (by rw[hR])) b2.len;have lR0:∀H b,Abs.look H b=some R->A0f false 1 H (.ptr b 0)=some (.t (sv b2.ver)):=fun H k h=>(ldB (ver:=b2.ver) (u:=b2.u) (h.trans (by rw[hR,b2.row]))).l0;have lR1:∀H b,Abs.look H b=some R->A0f false 1 H (.ptr b 1)=some (.t b2.u):=fun H k h=>(ldB (ver:=b2.ver) (u:=b2.u) (h.trans (by rw[hR,b2.row]))).l1;have lu:=b2.hu.len;rw[<-hR]at sR;refine A0a C ?_;simp -implicitDefEqProofs [eD,sR];rcases h2 with⟨hne,hv,hl0⟩ | ⟨rfl,h2⟩
 ·have hb:(e2 != 0)=true:=by simpa using hne
  rw[hl0]at lu;rw[hv]at lR0;have lu:A6o (.t b2.u)=some (.t (.v (.int .i64 0))):=lu;refine A0a C ?_;simp -implicitDefEqProofs [hb,lR0,lR1,lu,eX]
 ·have hen:=(F1e h2).1
  have heR:encR b2.tb = .tu [sv s,iv 0]:=by
   unfold encR
   (rw[hen])<;>exact congrArg (fun x=>T.tu [sv x,iv 0]) (B7i s)
  rw[heR]at eE2;have hss:=F2w s s;rw[decide_eq_true rfl]at hss;refine A0a C ?_;simp -implicitDefEqProofs;refine A0a C ?_;simp -implicitDefEqProofs [lR,eE2];refine A0c C ?_;simp -implicitDefEqProofs [hss,eX]
end Go.Proofs.YtmplckgbeaifkaaGreatDoor
