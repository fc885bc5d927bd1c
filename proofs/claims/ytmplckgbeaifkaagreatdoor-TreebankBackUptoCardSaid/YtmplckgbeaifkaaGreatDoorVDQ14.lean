/- Auxiliary facts. -/
import Derived.Test.YtmplckgbeaifkaaGreatDoorVDQ13
import Derived.Lib.CountLaws
import Derived.Lib.CutLaws
set_option linter.unusedSimpArgs false
set_option maxRecDepth 100000
set_option maxHeartbeats 0
set_option linter.unusedVariables false
namespace Go.Proofs.YtmplckgbeaifkaaGreatDoor
open Go Go.Abs
def A1j:List UInt8->List UInt8->List (List UInt8)
 | acc,[]=>[acc]
 | acc,c::r=>if c=32 then acc::A1j [] r else A1j (acc++[c]) r
theorem A9l:∀(l acc:List UInt8),32∉l->A1j acc l=[acc++l]
 | [],acc,_=>by simp[A1j]
 | c::r,acc,h=>by
  have hc:¬c=32:=fun e=>h (by simp[e]);rw[A1j,if_neg hc,A9l r _ (fun e=>h (by simp[e]))];simp
theorem A9m:∀(w acc r:List UInt8),32∉w->A1j acc (w++32::r)=(acc++w)::A1j [] r
 | [],acc,r,_=>by simp[A1j]
 | c::w,acc,r,h=>by
  have hc:¬c=32:=fun e=>h (by simp[e]);rw[List.cons_append,A1j,if_neg hc,A9m w _ r (fun e=>h (by simp[e]))];simp
theorem B1p:∀(l:List UInt8) (c:UInt8),Lib.indexByte l c = -1->c∉l
 | [],c,_=>by simp
 | b::l,c,h=>by
  have hge:=Lib.indexByte_ge l c;rw[Lib.indexByte]at h;split at h
  ·cases h
  ·rename_i hb;split at h
   ·rename_i h1;have:=B1p l c (by simpa using h1);simp only[List.mem_cons,not_or];exact⟨fun e=>hb (by simp[e]),this⟩
   ·rename_i h1
    have:¬Lib.indexByte l c = -1:=by simpa using h1
    omega
theorem B1q:∀(l:List UInt8) (c:UInt8) (i:Nat),Lib.indexByte l c=i->∃w r,l=w++c::r/\w.length=i/\c∉w
 | [],c,i,h=>by rw[Lib.indexByte]at h;omega
 | b::l,c,i,h=>by
  have hge:=Lib.indexByte_ge l c;rw[Lib.indexByte]at h;split at h
  ·rename_i hb
   have e:b=c:=by simpa using hb
   subst e;exact⟨[],l,rfl,by simp;omega,by simp⟩
  ·rename_i hb;split at h
   ·omega
   ·rename_i h1
    have h2:¬Lib.indexByte l c = -1:=by simpa using h1
    obtain⟨w,r,e,hl,hn⟩:=B1q l c (i-1) (by omega);refine⟨b::w,r,by rw[e];rfl,by simp;omega,?_⟩;simp only[List.mem_cons,not_or];exact⟨fun e=>hb (by simp[e]),hn⟩
abbrev spB:ByteArray:=⟨#[32]⟩
theorem C4u:∀(n:Nat) (s:ByteArray),s.size<=n->Lib.splitB spB 0 (Lib.countB s spB) s=(A1j [] s.data.toList).map bs
 | n,s,hn=>by
  have hix:Lib.indexB s spB=Lib.indexByte s.data.toList 32:=Lib.index_one _ _;rcases Lib.indexB_cases s spB with h | ⟨i,h,hi⟩
  ·rw[Lib.splitB_miss _ _ _ _ h,A9l _ _ (B1p _ _ (by rw[<-hix];exact h))];simp only[List.nil_append,List.map_cons,List.map_nil,A6q]
  ·have hc:=Lib.countB_hit s spB i (by decide) h;obtain⟨w,r,e,hl,hw⟩:=B1q _ _ i (by rw[<-hix];exact h);rw[hc,Nat.add_comm,Lib.splitB_hit _ _ _ _ i h];have hlen:s.data.toList.length=s.size:=rfl
   have e1:(s.extract (i+spB.size) s.size).data.toList=r:=by
    rw[Lib.extract_data,e];rw[e]at hlen;simp only[List.length_append,List.length_cons]at hlen;show List.take (s.size-(i+1)) (List.drop (i+1) (w++32::r))=r
    have h4:List.drop (i+1) (w++32::r)=r:=by
     rw[<-hl,show w++32::r=(w++[32])++r by simp];exact List.drop_left' (by simp)
    rw[h4];exact List.take_of_length_le (by omega)
   have e2:s.extract 0 (i+0)=bs w:=by
    rw[<-A6q (s.extract 0 (i+0)),Lib.extract_data,e];congr 1;simp[<-hl]
   cases n with
   | zero=>rw[show s.size=0 by omega]at hlen;rw[e]at hlen;simp at hlen
   | succ n=>
    rw[C4u n _ (by
     have:(s.extract (i+spB.size) s.size).data.toList.length=r.length:=by rw[e1]
     have h3:(s.extract (i+spB.size) s.size).size=r.length:=this;rw[h3];rw[e]at hlen;simp at hlen
     omega),e1,e2,e,A9m w [] r hw]
    rfl
variable {q : Gl}
def prt (c:UInt8):Bool:=decide (32<=c.toNat)&&decide (c.toNat<=126)
def A2y (l:List UInt8):Option (List (List UInt8)):=
 if l.all prt then(if l.isEmpty then some []else if(A1j [] l).any List.isEmpty then none else some (A1j [] l))else none
def A8h (l:List UInt8):T:=match A2y l with
 | none=>.tu [nilS,iv 8]
 | some ws=>.tu [A2e eStr (ws.map bs),iv 0]
theorem F1b (c:UInt8):prt c = !(decide ((c.toNat:Int)<32)||decide (126<(c.toNat:Int))):=by
 have e1:decide ((c.toNat:Int)<32) = !decide (32<=c.toNat):=by
  by_cases h:32<=c.toNat
  ·rw[decide_eq_true h,decide_eq_false (by omega)];rfl
  ·rw[decide_eq_false h,decide_eq_true (by omega)];rfl
 have e2:decide (126<(c.toNat:Int)) = !decide (c.toNat<=126):=by
  by_cases h:c.toNat<=126
  ·rw[decide_eq_true h,decide_eq_false (by omega)];rfl
  ·rw[decide_eq_false h,decide_eq_true (by omega)];rfl
 rw[e1,e2,prt];cases decide (32<=c.toNat)<;>cases decide (c.toNat<=126)<;>rfl
noncomputable def tbWs:Tbl:=[(90,C7r)]
theorem C7y:Ctx Tryz.prog (G q) (orc tbWs):=(A0x.cons E9l .nil).ctx mixed
def SWs0 (s:ByteArray):A0b:=⟨[(0,.t (sv s))],[],0,38⟩
def SWs1 (s:ByteArray) (j:Nat):A0b:=⟨[(4,.t (iv (j:Int))),(0,.t (sv s))],[],0,38⟩
def SWs2 (ws:List ByteArray) (j:Nat):A0b:=⟨[(30,.t (iv (j:Int))),(29,.t (iv (ws.length:Int))),(28,.t (slT eStr ws)),(5,.t (slT eStr ws))],[],0,38⟩
def OkP (s:ByteArray) (j:Nat):Prop:=j<=s.size/\∀(i:Nat) c,i<j->s.data.toList[i]?=some c->prt c=true
def OkE (ws:List ByteArray) (j:Nat):Prop:=j<=ws.length/\∀(i:Nat) w,i<j->ws[i]?=some w->w.data.toList.isEmpty=false
def AllP (l:List UInt8):Prop:=l.all prt=true
def AllE (ws:List ByteArray):Prop:=OkE ws ws.length
theorem D7h (s:ByteArray) (hs:s.size<=4294967280):A0z Tryz.prog (G q) 137 [sv s] (· = A8h s.data.toList):=by
 refine C7n.call rfl ?_;(conv in B7b=>cbv)
 obtain⟨l,hl⟩:∃l,l=s.data.toList:=⟨_,rfl⟩
 have hlen:l.length=s.size:=by rw[hl];rfl
 rw[<-hl]
 have es:(s.toList==[])=l.isEmpty:=by rw[stl,<-hl,A5a]
 refine A0a C7y ?_;simp -implicitDefEqProofs;refine A0a C7y ?_
 cases he:l.isEmpty with
 | true=>
  have hl0:l=[]:=by simpa using he
  simp -implicitDefEqProofs [A4d,es,he];simp -implicitDefEqProofs [hl0,A8h,A2y,A2e]
 | false=>
 simp -implicitDefEqProofs [A4d,es,he]
 have bad:(l.all prt)=false->A8h l = .tu [nilS,iv 8]:=by
  intro h;simp[A8h,A2y,h]
 refine A1f (α:=Unit) (fun _=>SWs0 s) (fun _=>AllP l) (fun _=>rfl) ?_ ?_
 ·refine A0a C7y ?_;simp -implicitDefEqProofs;refine A0n ?_;refine A1a (SWs1 s) (fun j=>s.size-j) (OkP s) 0 (fun _=>rfl) ⟨Nat.zero_le _,fun i c h=>by omega⟩ ?_ rfl ?_
  ·refine A0s rfl rfl ?_ ?_<;>simp -implicitDefEqProofs [SWs1]
  ·rintro j ⟨hj,hok⟩;refine A0c C7y ?_;by_cases hlt:j<s.size
   ·obtain⟨x,hx⟩:∃x,s.data.toList[j]?=some x:=⟨_,List.getElem?_eq_getElem hlt⟩
    have ixj:=A4c s j x hx;have e1:IntKind.i64.wrap ((j:Int)+1)=((j+1:Nat):Int):=A0p (by omega) (by omega);have hk:=F1b x
    have hb:prt x=false->A8h l = .tu [nilS,iv 8]:=by
     intro h;refine bad ?_;rw[List.all_eq_false];exact⟨x,by rw[hl];exact List.mem_of_getElem? hx,by rw[h];simp⟩
    cases t1:decide ((x.toNat:Int)<32)with
    | true=>rw[t1]at hk;simp -implicitDefEqProofs [SWs1,hlt,ixj,t1,hb hk]
    | false=>
     cases t2:decide (126<(x.toNat:Int))with
     | true=>rw[t1,t2]at hk;simp -implicitDefEqProofs [SWs1,hlt,ixj,t1,t2,hb hk]
     | false=>
      rw[t1,t2]at hk;simp -implicitDefEqProofs [SWs1,hlt,ixj,t1,t2,e1];refine Abs.Next.mk (j+1) ⟨⟨hlt,fun i y hi hy=>?_⟩,by omega⟩ (A0s rfl rfl (by simp -implicitDefEqProofs [SWs1]) (by simp -implicitDefEqProofs [SWs1]));by_cases e:i=j
      ·subst e;rw[hx]at hy;injection hy with hy;subst hy;exact hk
      ·exact hok i y (by omega) hy
   ·have e:j=s.size:=by omega
    subst e;simp -implicitDefEqProofs [SWs1];refine Abs.Next.mk () ?_ (A0s rfl rfl (by simp -implicitDefEqProofs [SWs0]) (by simp -implicitDefEqProofs [SWs0]));show l.all prt=true;rw[List.all_eq_true,hl];intro x hx;obtain⟨i,hi,e⟩:=List.getElem_of_mem hx;exact hok i x hi (by rw[List.getElem?_eq_getElem hi,e])
 rintro _ hall;have hall:l.all prt=true:=hall
 obtain⟨ws,hws⟩:∃ws,ws=(A1j [] l).map bs:=⟨_,rfl⟩
 have q1:C7r [.v (.string s),.v (.string ⟨#[32]⟩)]=some (slT eStr ws):=by
  rw[C7r,A7c (τ:=tStr) (σ:=tStr) (x:=s) (y:=⟨#[32]⟩) rfl rfl,if_pos ⟨by omega,by decide⟩,C4u s.size s (Nat.le_refl _),hws,hl]
 have hlw:A6o (.t (slT eStr ws))=some (.t (iv (ws.length:Int))):=(IsS.mk (e:=eStr) ws).len
 have hwl:ws.length<=4294967281:=by
  have h1:=Lib.splitB_all spB (by decide) 0 _ s rfl;rw[C4u s.size s (Nat.le_refl _),<-hl,<-hws]at h1;have h2:=Lib.countB_le spB (by decide) s.size s (Nat.le_refl _);omega
 refine A0a C7y ?_;simp -implicitDefEqProofs [SWs0,tbWs,q1];refine A1f (α:=Unit) (fun _=>SWs2 ws ws.length) (fun _=>AllE ws) (fun _=>rfl) ?_ ?_
 ·refine A0a C7y ?_;simp -implicitDefEqProofs [hlw];refine A0n ?_;refine A1a (SWs2 ws) (fun j=>ws.length-j) (OkE ws) 0 (fun _=>rfl) ⟨Nat.zero_le _,fun i c h=>by omega⟩ ?_ rfl ?_
  ·refine A0s rfl rfl ?_ ?_<;>simp -implicitDefEqProofs [SWs2]
  ·rintro j ⟨hj,hok⟩;refine A0c C7y ?_;by_cases hlt:j<ws.length
   ·obtain⟨x,hx⟩:∃x,ws[j]?=some x:=⟨_,List.getElem?_eq_getElem hlt⟩
    have ia:=(IsS.mk (e:=eStr) ws).iaddr hx .i64;have e1:IntKind.i64.wrap ((j:Int)+1)=((j+1:Nat):Int):=A0p (by omega) (by omega);have ld:A0f false 1 [] (.t (.pt (eStr.enc x++rest eStr ws j)))=some (.t (sv x)):=rfl;have ia':A1c 1 (.t (slT eStr ws)) (.t (iv (j:Int)))=some (.t (.pt (eStr.enc x++rest eStr ws j))):=ia
    have ex:(x.toList==[])=x.data.toList.isEmpty:=by rw[stl,A5a]
    cases hxe:x.data.toList.isEmpty with
    | true=>
     have hw:A8h l = .tu [nilS,iv 8]:=by
      have:(A1j [] l).any List.isEmpty=true:=by
       rw[List.any_eq_true];have hx':=hx;rw[hws,List.getElem?_map]at hx';obtain⟨y,hy,e⟩:=Option.map_eq_some_iff.1 hx';refine⟨y,List.mem_of_getElem? hy,?_⟩
       have:x.data.toList=y:=by rw[<-e]
       rw[<-this];exact hxe
      simp[A8h,A2y,hall,he,this]
     rw[hxe]at ex;simp -implicitDefEqProofs [SWs2,hlt,ia',ld,A4d,ex,hw]
    | false=>
     rw[hxe]at ex;simp -implicitDefEqProofs [SWs2,hlt,ia',ld,A4d,ex,e1];refine Abs.Next.mk (j+1) ⟨⟨hlt,fun i y hi hy=>?_⟩,by omega⟩ (A0s rfl rfl (by simp -implicitDefEqProofs [SWs2]) (by simp -implicitDefEqProofs [SWs2]));by_cases e:i=j
     ·subst e;rw[hx]at hy;injection hy with hy;subst hy;exact hxe
     ·exact hok i y (by omega) hy
   ·have e:j=ws.length:=by omega
    subst e;simp -implicitDefEqProofs [SWs2];exact Abs.Next.mk () ⟨hj,hok⟩ (A0s rfl rfl (by simp -implicitDefEqProofs [SWs2]) (by simp -implicitDefEqProofs [SWs2]))
 rintro _ hne;refine A0c C7y ?_
 have hw:A8h l = .tu [slT eStr ws,iv 0]:=by
  have h1:(A1j [] l).any List.isEmpty=false:=by
   rw[List.any_eq_false];intro y hy;obtain⟨i,hi,e⟩:=List.getElem_of_mem hy
   have h2:ws[i]?=some (bs y):=by rw[hws,List.getElem?_map,List.getElem?_eq_getElem hi,e];rfl
   have h3:=hne.2 i (bs y) ((List.getElem?_eq_some_iff.1 h2).1) h2
   have h4:y.isEmpty=false:=by simpa using h3
   simp[h4]
  have h2:A2e eStr ws=slT eStr ws:=by
   cases hw:ws with
   | nil=>
    rw[hws]at hw
    have:A1j [] l=[]:=by simpa using hw
    cases l with
    | nil=>cases this
    | cons c r=>
     have nn:∀(r acc:List UInt8),A1j acc r≠[]:=by
      intro r
      induction r with
      | nil=>intro acc h;cases h
      | cons c r ih=>
       intro acc h;rw[A1j]at h;split at h
       ·cases h
       ·exact ih _ h
     exact absurd this (nn _ _)
   | cons _ _=>rfl
  simp[A8h,A2y,hall,he,h1,<-hws,h2]
 simp -implicitDefEqProofs [SWs2,hw]
theorem E1b (s:ByteArray) (i j:Nat) (h1:i<=j) (h2:j<=s.size):A3k (.t (sv s)) (some (.t (iv (i:Int)))) (some (.t (iv (j:Int))))=some (.t (sv (s.extract i j))):=by
 have a1:¬(i:Int)<0:=by omega
 have a2:¬(j:Int)<0:=by omega
 simp[A3k,boundV,h1,h2]
theorem D7i (s:ByteArray) (i:Nat) (h1:i<=s.size):A3k (.t (sv s)) (some (.t (iv (i:Int)))) none=some (.t (sv (s.extract i s.size))):=by
 have a1:¬(i:Int)<0:=by omega
 simp[A3k,boundV,h1]
theorem E6m (s:ByteArray) (j:Nat) (h2:j<=s.size):A3k (.t (sv s)) none (some (.t (iv (j:Int))))=some (.t (sv (s.extract 0 j))):=by
 have a2:¬(j:Int)<0:=by omega
 simp[A3k,boundV,h2]
theorem C7z (d:List UInt8) (c:UInt8):decV 0 (d++[c])=decV 0 d*10+(c.toNat-48):=by
 simp[decV,List.foldl_append]
theorem E6n (u:Nat):A0w (UInt8.ofNat (48+u%10))=true/\(UInt8.ofNat (48+u%10)).toNat-48=u%10:=by
 have h:(UInt8.ofNat (48+u%10)).toNat=48+u%10:=by
  rw[UInt8.toNat_ofNat'];omega
 refine⟨?_,by omega⟩;simp only[A0w,h,Bool.and_eq_true,decide_eq_true_eq];omega
theorem F1c (u:Nat):(∀c∈dd u,A0w c=true)/\decV 0 (dd u)=u/\(dd u).head?≠some 48/\(0<u->dd u≠[]):=by
 induction u using Nat.strongRecOn with
 | _ u ih=>
  by_cases h:0<u
  ·rw[E1a u h];obtain⟨i1,i2,i3,i4⟩:=ih (u / 10) (by omega);obtain⟨g1,g2⟩:=E6n u;refine⟨?_,?_,?_,fun _=>by simp⟩
   ·intro c hc;rcases List.mem_append.1 hc with hc | hc
    ·exact i1 c hc
    ·rw[List.mem_singleton.1 hc];exact g1
   ·rw[C7z,i2,g2];omega
   ·by_cases h0:u / 10=0
    ·have:dd (u / 10)=[]:=by rw[h0];rfl
     rw[this];intro he
     have he':UInt8.ofNat (48+u%10)=48:=by simpa using he
     rw[he']at g2
     have:(48:UInt8).toNat-48=0:=by decide
     omega
    ·have hne:=i4 (by omega)
     cases hd:dd (u / 10)with
     | nil=>exact absurd hd hne
     | cons x r=>rw[hd]at i3;simpa using i3
  ·have:u=0:=by omega
   subst this;exact⟨fun c hc=>by simp[dd]at hc,by simp[dd,decV],by simp[dd],fun h=>by omega⟩
theorem E9m:∀(n:Nat) (d:List UInt8),d.length=n->(∀c∈d,A0w c=true)->d.head?≠some 48->dd (decV 0 d)=d
 | 0,d,hn,_,_=>by
  have:d=[]:=List.eq_nil_of_length_eq_zero hn;subst this;rfl
 | n+1,d,hn,hd,hh=>by
  obtain⟨d',c,rfl⟩:∃d' c,d=d'++[c]:=by
   rcases List.eq_nil_or_concat d with h | ⟨d',c,h⟩
   ·rw[h]at hn;simp at hn
   ·exact⟨d',c,by simpa using h⟩
  have hc:=hd c (by simp);simp only[A0w,Bool.and_eq_true,decide_eq_true_eq]at hc
  have hl:d'.length=n:=by simpa using hn
  have hh':d'.head?≠some 48:=by
   cases d' with
   | nil=>simp
   | cons x r=>simpa using hh
  have ih:=E9m n d' hl (fun x hx=>hd x (by simp[hx])) hh';rw[C7z]
  obtain⟨v,hv⟩:∃v,v=decV 0 d':=⟨_,rfl⟩
  rw[<-hv]at ih ⊢
  have hpos:0<v*10+(c.toNat-48):=by
   cases d' with
   | nil=>
    have:c.toNat≠48:=by
     intro e;apply hh;have:c=48:=UInt8.toNat_inj.1 e;rw[this];rfl
    omega
   | cons x r=>
    by_cases h0:v=0
    ·rw[h0]at ih;cases ih
    ·omega
  rw[E1a _ hpos,show(v*10+(c.toNat-48)) / 10=v by omega,ih,show 48+(v*10+(c.toNat-48))%10=c.toNat by omega];congr 2;exact UInt8.toNat_inj.1 (by rw[UInt8.toNat_ofNat'];have:=c.toNat_lt;omega)
theorem C4v (n:Int):Lib.itoa n=if n=0 then [48]else if n<0 then 45::dd n.natAbs else dd n.natAbs:=by
 by_cases h0:n=0
 ·subst h0;unfold Lib.itoa;rw[if_neg (by omega),if_pos rfl,show(0:Int).toNat=0 from rfl,Lib.decDigits_one (by omega)];rfl
 ·rw[if_neg h0];unfold Lib.itoa dd;rw[if_neg (by omega:¬n.natAbs=0)];split
  ·rfl
  ·congr 1;omega
theorem D3r {c:UInt8} (h:A0w c=true):c≠45:=by
 intro e;subst e;revert h;decide
theorem B3g (n:Int) (h:-9223372036854775808<=n/\n<=9223372036854775807):numS (Lib.itoa n)=(n,0):=by
 rw[C4v];by_cases h0:n=0
 ·subst h0;rfl
 rw[if_neg h0]
 obtain⟨u,hu⟩:∃u,u=n.natAbs:=⟨_,rfl⟩
 rw[<-hu];obtain⟨d1,d2,d3,d4⟩:=F1c u;have hne:=d4 (by omega)
 cases hd:dd u with
 | nil=>exact absurd hd hne
 | cons c r=>
  rw[hd]at d1 d2 d3;have hall:(c::r).all A0w=true:=List.all_eq_true.2 d1
  have h48:((c::r).head?==some 48)=false:=by rw[beq_eq_false_iff_ne];exact d3
  by_cases hneg:n<0
  ·rw[if_pos hneg,A7v];have e1:dOf (45::c::r)=c::r:=rfl;have e2:((45::c::r).head?==some (45:UInt8))=true:=rfl;rw[e1,e2,hall,h48];simp only[List.isEmpty_cons,Bool.not_true,Bool.or_self,Bool.false_and,Bool.false_eq_true,if_false,if_true,d2];rw[if_pos (by omega)];congr 1;omega
  ·rw[if_neg hneg,A7v]
   have e2:((c::r).head?==some (45:UInt8))=false:=by
    have:=D3r (d1 c (by simp));simpa using this
   have e1:dOf (c::r)=c::r:=by unfold dOf;rw[e2];rfl
   rw[e1,e2,hall,h48];simp only[List.isEmpty_cons,Bool.not_true,Bool.or_self,Bool.false_and,Bool.false_eq_true,if_false,d2];rw[if_pos (by omega)];congr 1;omega
theorem B3h (l:List UInt8) (m:Int) (h:numS l=(m,0)):Lib.itoa m=l:=by
 rw[A7v]at h;split at h
 ·cases h
 ·rename_i hc;simp only[Bool.or_eq_true,not_or,Bool.not_eq_true,Bool.not_eq_eq_eq_not,Bool.not_true,Bool.not_false]at hc;obtain⟨⟨c1,c2⟩,c3⟩:=hc;have hall:∀c∈dOf l,A0w c=true:=List.all_eq_true.1 (by simpa using c2);by_cases h48:(dOf l).head?=some 48
  ·have hl:l=[48]:=by
    rw[h48]at c3;simpa using c3
   subst hl;have:numS [48]=(0,0):=rfl;rw[A7v]at this
   have e:m=0:=by
    split at h
    ·split at h
     ·rename_i h1 _;cases h1
     ·cases h
    ·split at h
     ·injection h with h _;exact h.symm
     ·cases h
   subst e;rw[C4v];rfl
  ·have hdd:=E9m _ (dOf l) rfl hall h48
   have hne:dOf l≠[]:=by intro e;rw[e]at c1;cases c1
   obtain⟨v,hv⟩:∃v,v=decV 0 (dOf l):=⟨_,rfl⟩
   rw[<-hv]at hdd h
   have hpos:v≠0:=by intro e;rw[e]at hdd;exact hne hdd.symm
   split at h
   ·rename_i h45;split at h
    ·injection h with h _;subst h;rw[C4v,if_neg (by omega),if_pos (by omega),show(-(v:Int)).natAbs=v by omega,hdd]
     cases l with
     | nil=>cases h45
     | cons x r=>
      have hx:x=45:=by simpa using h45
      subst hx;rfl
    ·cases h
   ·rename_i h45;split at h
    ·injection h with h _;subst h;rw[C4v,if_neg (by omega),if_neg (by omega),show(v:Int).natAbs=v by omega,hdd];unfold dOf;rw[if_neg h45]
    ·cases h
theorem E1c (l:List UInt8):-9223372036854775808<=(numS l).1/\(numS l).1<=9223372036854775807:=by
 rw[A7v];split
 ·simp
 ·split
  ·split
   ·simp only;omega
   ·simp
  ·split
   ·simp only;omega
   ·simp
def eosE:List UInt8->Int
 | []=>9
 | _=>8
def A4s:Nat->List UInt8->Nat
 | _,[]=>0
 | i,c::r=>if decide (i<32)&&okAt false i c then A4s (i+1) r+1 else 0
def takB (c:UInt8):List UInt8->Except Int (List UInt8)
 | []=>.error 9
 | x::r=>if x=c then .ok r else .error 8
def A7g (s:List UInt8):Except Int (List UInt8×List UInt8):=
 if A4s 0 s=0 then .error (eosE s)else .ok (s.take (A4s 0 s),s.drop (A4s 0 s))
def sgn:List UInt8->List UInt8×List UInt8
 | 45::r=>([45],r)
 | s=>([],s)
def A6k (s:List UInt8):Except Int (Int×List UInt8):=
 let d:=(sgn s).2.takeWhile A0w
 let r:=(sgn s).2.dropWhile A0w
 if d=[]then .error (eosE r)
 else if(numS ((sgn s).1++d)).2=0 then .ok ((numS ((sgn s).1++d)).1,r)else .error 8
def plus:List UInt8->Bool×List UInt8
 | 43::r=>(true,r)
 | s=>(false,s)
structure Hd where
 lex:Bool
 name:List UInt8
 frm:Int
 to:Int
def B2i (s:List UInt8):Except Int (Hd×List UInt8):=do
 let (n,s1) <-A7g (plus s).2
 let s2 <-takB 32 s1
 let (f,s3) <-A6k s2
 let s4 <-takB 32 s3
 let (t,s5) <-A6k s4
 return (⟨(plus s).1,n,f,t⟩,s5)
def A2d (rd:List UInt8->Except Int (Dv×List UInt8)):Nat->Bool->List Dv->List UInt8->Except Int (List Dv×List UInt8)
 | n+1,lex,acc,32::r=>if lex && !acc.isEmpty then .ok (acc,32::r)else
  match rd r with
  | .error e=>.error e
  | .ok (d,r')=>A2d rd n lex (acc++[d]) r'
 | _,_,acc,s=>.ok (acc,s)
def A2h (lex:Bool) (kids:List Dv):Int:=if lex then 1 else if kids.isEmpty then 0 else 2
def A2i:Nat->List UInt8->Except Int (Dv×List UInt8)
 | _,[]=>.error 9
 | 0,c::_=>if c=40 then .error 7 else .error 8
 | k+1,c::s=>if c=40 then do
   let (h,s1) <-B2i s
   let (ks,s2) <-A2d (A2i k) s1.length h.lex [] s1
   if h.lex&&ks.isEmpty then .error (eosE s2)else
    let s3 <-takB 41 s2
    return (.mk (A2h h.lex ks) (bs h.name) h.frm h.to ks,s3)
  else .error 8
def parD (s:List UInt8):Except Int Dv:=
 if 65536<s.length then .error 7 else
 match A2i 64 s with
 | .error e=>.error e
 | .ok (d,[])=>.ok d
 | .ok (_,_)=>.error 8
mutual
def prtD:Dv->List UInt8
 | .mk k n f t ks=>40::((if k=1 then [43]else [])++lbs n++32::Lib.itoa f++32::Lib.itoa t++(prtK ks++[41]))
def prtK:List Dv->List UInt8
 | []=>[]
 | d::r=>32::(prtD d++prtK r)
end
theorem B9k:∀a b:List Dv,prtK (a++b)=prtK a++prtK b
 | [],b=>by simp[prtK]
 | d::a,b=>by simp[prtK,B9k a b]
theorem B6a {c:UInt8} {s r:List UInt8} (h:takB c s = .ok r):s=c::r:=by
 cases s with
 | nil=>cases h
 | cons x t=>
  simp only[takB]at h;split at h
  ·rename_i e;cases h;rw[e]
  ·cases h
theorem C8a {s n r:List UInt8} (h:A7g s = .ok (n,r)):s=n++r/\n≠[]/\A4s 0 s=n.length:=by
 unfold A7g at h;split at h
 ·cases h
 ·rename_i h0;injection h with h;injection h with h1 h2
  have hl:A4s 0 s<=s.length:=by
   have:∀(s:List UInt8) i,A4s i s<=s.length:=by
    intro s
    induction s with
    | nil=>intro i;exact Nat.le_refl _
    | cons c r ih=>intro i;rw[A4s];split<;>simp[ih]
   exact this s 0
  refine⟨?_,?_,?_⟩
  ·rw[<-h1,<-h2,List.take_append_drop]
  ·rw[<-h1];intro e;have:=congrArg List.length e;rw[List.length_take,List.length_nil,Nat.min_eq_left hl]at this;exact h0 this
  ·rw[<-h1,List.length_take];omega
theorem B9l (s:List UInt8):(sgn s).1++(sgn s).2=s:=by
 unfold sgn;split<;>rfl
theorem B8c {s r:List UInt8} {n:Int} (h:A6k s = .ok (n,r)):s=Lib.itoa n++r:=by
 unfold A6k at h;simp only at h;split at h
 ·cases h
 ·split at h
  ·rename_i h0;injection h with h;injection h with h1 h2;have:=B3h ((sgn s).1++(sgn s).2.takeWhile A0w) n (by rw[<-h1,<-h0]);rw[this,<-h2,List.append_assoc,List.takeWhile_append_dropWhile,B9l]
  ·cases h
theorem E1d (s:List UInt8):(if(plus s).1 then [43]else [])++(plus s).2=s:=by
 unfold plus;split<;>rfl
theorem A2l {α β:Type} {x:Except Int α} {f:α->Except Int β} {b:β} (h:(x >>= f) = .ok b):∃a,x = .ok a/\f a = .ok b:=by
 cases x with
 | error e=>cases h
 | ok a=>exact⟨a,rfl,h⟩
theorem E1e {s r:List UInt8} {h:Hd} (e:B2i s = .ok (h,r)):s=(if h.lex then [43]else [])++h.name++32::Lib.itoa h.frm++32::Lib.itoa h.to++r:=by
 obtain⟨⟨n,s1⟩,e1,e⟩:=A2l e;obtain⟨s2,e2,e⟩:=A2l e;obtain⟨⟨f,s3⟩,e3,e⟩:=A2l e;obtain⟨s4,e4,e⟩:=A2l e;obtain⟨⟨t,s5⟩,e5,e⟩:=A2l e;injection e with e;injection e with e6 e7;subst e6;subst e7;have k1:=(C8a e1).1;have k2:=B6a e2;have k3:=B8c e3;have k4:=B6a e4;have k5:=B8c e5;have k0:=E1d s;rw[k1,k2,k3,k4,k5]at k0;refine k0.symm.trans ?_;simp
theorem C8b {rd:List UInt8->Except Int (Dv×List UInt8)} (hrd:∀s d r,rd s = .ok (d,r)->s=prtD d++r):∀(n:Nat) (lex:Bool) (acc:List Dv) (s:List UInt8) (ks:List Dv) (r:List UInt8),A2d rd n lex acc s = .ok (ks,r)->∃m,ks=acc++m/\s=prtK m++r
 | 0,lex,acc,s,ks,r,h=>by
  rw[A2d]at h
  ·injection h with h;injection h with h1 h2;exact⟨[],by simp[h1],by simp[prtK,h2]⟩
  ·intros;omega
 | n+1,lex,acc,s,ks,r,h=>by
  by_cases hs:∃t,s=32::t
  ·obtain⟨t,rfl⟩:=hs;rw[A2d]at h;split at h
   ·injection h with h;injection h with h1 h2;exact⟨[],by simp[h1],by simp[prtK,h2]⟩
   ·split at h
    ·cases h
    ·rename_i d r' e;obtain⟨m,h1,h2⟩:=C8b hrd n lex _ _ _ _ h;refine⟨d::m,by rw[h1];simp,?_⟩;rw[hrd _ _ _ e,h2,prtK];simp
  ·rw[A2d]at h
   ·injection h with h;injection h with h1 h2;exact⟨[],by simp[h1],by simp[prtK,h2]⟩
   ·intro n' t _ e;exact hs ⟨t,e⟩
theorem B4s:∀(k:Nat) (s:List UInt8) (d:Dv) (r:List UInt8),A2i k s = .ok (d,r)->s=prtD d++r
 | _,[],d,r,h=>by cases ‹Nat› <;> cases h
 | 0,c::s,d,r,h=>by
  rw[A2i]at h;split at h<;>cases h
 | k+1,c::s,d,r,h=>by
  rw[A2i]at h;split at h
  ·rename_i hc;obtain⟨⟨hh,s1⟩,e1,h⟩:=A2l h;obtain⟨⟨ks,s2⟩,e2,h⟩:=A2l h;simp only at h;split at h
   ·cases h
   ·rename_i hl;obtain⟨s3,e3,h⟩:=A2l h;injection h with h;injection h with h1 h2;subst h1;subst h2;have k1:=E1e e1;obtain⟨m,k2,k3⟩:=C8b (fun s d r=>B4s k s d r) _ _ _ _ _ _ e2;have k4:=B6a e3;rw[List.nil_append]at k2;subst k2;rw[hc,k1,k3,k4,prtD]
    have:(if A2h hh.lex ks=1 then [43]else [])=(if hh.lex then [(43:UInt8)]else []):=by
     unfold A2h;cases hh.lex<;>simp;split<;>simp
    rw[this];simp[lbs,bs]
  ·cases h
theorem D0z {s:List UInt8} {d:Dv} (h:parD s = .ok d):prtD d=s:=by
 unfold parD at h;split at h
 ·cases h
 ·split at h
  ·cases h
  ·rename_i d' e;injection h with h;subst h;rw[B4s _ _ _ _ e,List.append_nil]
  ·cases h
structure Tb where
 ver:ByteArray
 items:List It
def chkW (ws:List ByteArray):Int:=if ws=[]then 1 else if 32<ws.length then 7 else if ws.all A4q then 0 else 1
def chkP (p:Pr) (n:Int):Int:=
 if p.kind<0\/3<p.kind then 14 else
 if(p.kind=3/\p.name≠⟨#[]⟩)\/(p.kind≠3/\A0v false p.name=false)then 1 else
 if p.frm<0\/p.to<=p.frm\/n<p.to then 2 else 0
def B4t (n:Int):List Dc->List Dc->Int
 | _,[]=>0
 | seen,d::r=>if chkP d.p n≠0 then chkP d.p n else if(seen.any fun y=>decide (y.p=d.p))then 4 else B4t n (seen++[d]) r
def C4w (d:Dv):Bool:=match parD (prtD d)with
 | .ok x=>decide (cmpD x d=0)
 | .error _=>false
def chkG (x:It):Int:=
 if x.state=1 then(if x.gold.frm≠0\/x.gold.to≠x.words.length then 2 else if C4w x.gold then 0 else 13)
 else if cmpD x.gold A1y=0 then 0 else 13
def chkR (x:It):Int:=
 if chkW x.words≠0 then chkW x.words else
 if x.state<0\/2<x.state then 14 else
 if 256<x.decs.length then 7 else
 if B4t x.words.length [] x.decs≠0 then B4t x.words.length [] x.decs else chkG x
def C4x (prev:Option ByteArray) (id:ByteArray):Bool:=match prev with
 | none=>false
 | some p=>decide (cmpS id p<=0)
def chkL:Option ByteArray->List It->Int
 | _,[]=>0
 | prev,x::r=>
  if A0v false x.id=false then 1 else
  if C4x prev x.id then 3 else
  if chkR x≠0 then chkR x else chkL (some x.id) r
def chkT (b:Tb):Int:=if A0v false b.ver=false then 1 else if 256<b.items.length then 7 else chkL none b.items
def A1h:List UInt8:=[118,101,114,115,105,111,110]
def A5m:List UInt8:=[105,116,101,109]
def A3i:List UInt8:=[119,111,114,100,115]
def A8i:List UInt8:=[103,111,108,100]
def wYes:List UInt8:=[121,101,115]
def wNo:List UInt8:=[110,111]
def stN:List (List UInt8):=[[111,112,101,110],[97,99,99,101,112,116,101,100],[114,101,106,101,99,116,101,100]]
def kdN:List (List UInt8):=[[101,110,116,114,121],[108,101,120],[114,117,108,101],[115,112,97,110]]
def jn:List (List UInt8)->List UInt8
 | []=>[]
 | [w]=>w
 | w::r=>w++32::jn r
theorem A9n (w x:List UInt8) (r:List (List UInt8)):jn (w::x::r)=w++32::jn (x::r):=rfl
def idxW (w:List UInt8):Nat->List (List UInt8)->Option Nat
 | _,[]=>none
 | i,x::r=>if x=w then some i else idxW w (i+1) r
theorem D1a {w:List UInt8}:∀{l:List (List UInt8)} {i n:Nat},idxW w i l=some n->i<=n/\l[n-i]?=some w
 | [],i,n,h=>by cases h
 | x::r,i,n,h=>by
  rw[idxW]at h;split at h
  ·rename_i e;cases h;exact⟨Nat.le_refl _,by simp[e]⟩
  ·obtain⟨h1,h2⟩:=D1a h;refine⟨by omega,?_⟩;rw[show n-i=(n-(i+1))+1 by omega,List.getElem?_cons_succ];exact h2
def lnD (d:Dc):List UInt8:=jn [if d.yes then wYes else wNo,kdN.getD d.p.kind.toNat [],if d.p.kind=3 then [45]else lbs d.p.name,Lib.itoa d.p.frm,Lib.itoa d.p.to]
def lnsI (x:It):List (List UInt8):=
 jn [A5m,lbs x.id,stN.getD x.state.toNat []]::(A3i++32::jn (x.words.map lbs))::(x.decs.map lnD++if x.state=1 then [A8i++32::prtD x.gold]else [])
def lnsB (b:Tb):List (List UInt8):=jn [A1h,lbs b.ver]::b.items.flatMap lnsI
def unl (ls:List (List UInt8)):List UInt8:=ls.flatMap fun l=>l++[10]
def encT (b:Tb):Except Int (List UInt8):=
 if chkT b≠0 then .error (chkT b)else if 65536<(unl (lnsB b)).length then .error 7 else .ok (unl (lnsB b))
def cutL:List UInt8->List UInt8->List (List UInt8)×List UInt8
 | acc,[]=>([],acc)
 | acc,c::r=>if c=10 then(acc::(cutL [] r).1,(cutL [] r).2)else cutL (acc++[c]) r
def parts (first l:List UInt8):Option (List (List UInt8)):=match A2y l with
 | some (w::r)=>if w=first then some r else none
 | _=>none
def hdW (l:List UInt8):List UInt8:=l.takeWhile fun c=>c≠32
def decP:List (List UInt8)->Option Dc
 | [y,k,n,f,t]=>match idxW k 0 kdN with
  | none=>none
  | some i=>if(numS f).2≠0\/(numS t).2≠0\/(i=3/\n≠[45])then none else some ⟨⟨i,if i=3 then⟨#[]⟩else bs n,(numS f).1,(numS t).1⟩,decide (y=wYes)⟩
 | _=>none
def A5u:List (List UInt8)->Except Int (List Dc×List (List UInt8))
 | []=>.ok ([],[])
 | l::r=>if hdW l=wYes\/hdW l=wNo then
   match A2y l with
   | none=>.error 8
   | some w=>match decP w with
    | none=>.error 8
    | some d=>match A5u r with
     | .error e=>.error e
     | .ok (ds,r')=>.ok (d::ds,r')
  else .ok ([],l::r)
def A7h:List (List UInt8)->Except Int (Dv×List (List UInt8))
 | []=>.error 9
 | l::r=>if l.take 5=[103,111,108,100,32]then
   match parD (l.drop 5)with
   | .error e=>.error e
   | .ok d=>.ok (d,r)
  else .error 8
def B0m:List (List UInt8)->Except Int (It×List (List UInt8))
 | []=>.error 9
 | l::r=>match parts A5m l with
  | some [id,st]=>match idxW st 0 stN with
   | none=>.error 8
   | some i=>match r with
    | []=>.error 9
    | l2::r2=>match parts A3i l2 with
     | none=>.error 8
     | some ws=>match A5u r2 with
      | .error e=>.error e
      | .ok (ds,r3)=>if i=1 then
        match A7h r3 with
        | .error e=>.error e
        | .ok (g,r4)=>.ok (⟨bs id,ws.map bs,i,ds,g⟩,r4)
       else .ok (⟨bs id,ws.map bs,i,ds,A1y⟩,r3)
  | _=>.error 8
def A2m:Nat->List (List UInt8)->List UInt8->Except Int (List It)
 | 0,_,_=>.error 9
 | _+1,[],tl=>if tl=[]then .ok []else .error 9
 | n+1,l::r,tl=>match B0m (l::r)with
  | .error e=>.error e
  | .ok (x,r')=>match A2m n r' tl with
   | .error e=>.error e
   | .ok xs=>.ok (x::xs)
def decT (s:List UInt8):Except Int Tb:=
 if 65536<s.length then .error 7 else
 match cutL [] s with
 | ([],_)=>.error 9
 | (v::ls,tl)=>match parts A1h v with
  | some [n]=>match A2m (ls.length+1) ls tl with
   | .error e=>.error e
   | .ok xs=>if chkT ⟨bs n,xs⟩≠0 then .error (chkT ⟨bs n,xs⟩)else .ok ⟨bs n,xs⟩
  | _=>.error 8
theorem B9m:∀(s acc:List UInt8),unl (cutL acc s).1++(cutL acc s).2=acc++s
 | [],acc=>by simp[cutL,unl]
 | c::r,acc=>by
  rw[cutL];split
  ·rename_i h;have:=B9m r [];simp only[unl,List.flatMap_cons]at this ⊢;rw[List.append_assoc,this,h];simp
  ·rw[B9m r _];simp
theorem B3i:∀(s acc:List UInt8),jn (A1j acc s)=acc++s/\A1j acc s≠[]
 | [],acc=>by simp[A1j,jn]
 | c::r,acc=>by
  rw[A1j];split
  ·rename_i h;obtain⟨h1,h2⟩:=B3i r []
   cases e:A1j [] r with
   | nil=>exact absurd e h2
   | cons x t=>
    rw[A9n,<-e,h1,h];simp
  ·obtain⟨h1,h2⟩:=B3i r (acc++[c]);exact⟨by rw[h1];simp,h2⟩
theorem B4u {l:List UInt8} {ws:List (List UInt8)} (h:A2y l=some ws):jn ws=l:=by
 unfold A2y at h;split at h
 ·split at h
  ·rename_i h0;cases h
   cases l with
   | nil=>rfl
   | cons _ _=>cases h0
  ·split at h
   ·cases h
   ·cases h;have:=(B3i l []).1;simpa using this
 ·cases h
theorem C4y {f l:List UInt8} {ws:List (List UInt8)} (h:parts f l=some ws):l=jn (f::ws):=by
 unfold parts at h;split at h
 ·rename_i w r e;split at h
  ·rename_i hw;cases h;rw[<-B4u e,hw]
  ·cases h
 ·cases h
theorem A3j (l:List UInt8):lbs (bs l)=l:=by simp[lbs,bs]
theorem E1f (l:List (List UInt8)):(l.map bs).map lbs=l:=by
 rw[List.map_map];have:lbs∘bs=id:=funext fun x=>A3j x;rw[this,List.map_id]
theorem C8c {l:List UInt8} {w:List UInt8} {ws:List (List UInt8)} (h:A2y l=some (w::ws)):hdW l=w:=by
 unfold A2y at h;split at h
 ·split at h
  ·cases h
  ·split at h
   ·cases h
   ·injection h with h
    have key:∀(s acc:List UInt8) (w:List UInt8) (ws:List (List UInt8)),A1j acc s=w::ws->acc++s.takeWhile (fun c=>c≠32)=w:=by
     intro s
     induction s with
     | nil=>intro acc w ws h;simp[A1j]at h;simp[h]
     | cons c r ih=>
      intro acc w ws h;rw[A1j]at h;split at h
      ·rename_i hc;injection h with h _;simp[hc,h]
      ·rename_i hc;have:=ih _ _ _ h;rw[List.takeWhile_cons,if_pos (by simpa using hc),<-this];simp
    exact key l [] w ws h
 ·cases h
theorem F1d {w:List (List UInt8)} {d:Dc} (h:decP w=some d) (hy:w.head?=some wYes\/w.head?=some wNo):lnD d=jn w:=by
 unfold decP at h;split at h
 ·rename_i y k n f t;split at h
  ·cases h
  ·rename_i i hi;split at h
   ·cases h
   ·rename_i hc;simp only[not_or,Decidable.not_not,not_and]at hc;obtain⟨c1,c2,c3⟩:=hc;cases h;obtain⟨_,hk⟩:=D1a hi;have hk3:i<kdN.length:=(List.getElem?_eq_some_iff.1 hk).1
    have e1:kdN.getD ((i:Int)).toNat []=k:=by
     rw[Int.toNat_natCast,List.getD_eq_getElem?_getD];rw[Nat.sub_zero]at hk;rw[hk];rfl
    have e2:(if decide (y=wYes)=true then wYes else wNo)=y:=by
     rcases hy with e | e
     ·injection e with e;simp[e]
     ·injection e with e;subst e;simp[wYes,wNo]
    have e3:Lib.itoa (numS f).1=f:=B3h f _ (by rw[<-c1]);have e4:Lib.itoa (numS t).1=t:=B3h t _ (by rw[<-c2])
    have e5:(if((i:Nat):Int)=3 then [45]else lbs (if i=3 then⟨#[]⟩else bs n))=n:=by
     by_cases h3:i=3
     ·rw[if_pos (by omega)];exact(c3 h3).symm
     ·rw[if_neg (by omega),if_neg h3,A3j]
    simp only[lnD];rw[e1,e2,e3,e4,e5]
 ·cases h
theorem B9n:∀{ls:List (List UInt8)} {ds:List Dc} {r:List (List UInt8)},A5u ls = .ok (ds,r)->ls=ds.map lnD++r
 | [],ds,r,h=>by cases h;rfl
 | l::ls,ds,r,h=>by
  rw[A5u]at h;split at h
  ·rename_i hh;split at h
   ·cases h
   ·rename_i w hw;split at h
    ·cases h
    ·rename_i d hd;split at h
     ·cases h
     ·rename_i ds' r' hr;cases h
      have hy:w.head?=some wYes\/w.head?=some wNo:=by
       cases w with
       | nil=>simp[decP]at hd
       | cons x t=>
        have:=C8c hw;rw[this]at hh;simpa using hh
      rw[List.map_cons,F1d hd hy,B4u hw,List.cons_append,<-B9n hr]
  ·cases h;rfl
theorem E1g {ls:List (List UInt8)} {d:Dv} {r:List (List UInt8)} (h:A7h ls = .ok (d,r)):ls=(A8i++32::prtD d)::r:=by
 cases ls with
 | nil=>cases h
 | cons l t=>
  rw[A7h]at h;split at h
  ·rename_i h5;split at h
   ·cases h
   ·rename_i x e;cases h;have:=D0z e;rw[this];congr 1;have h6:=List.take_append_drop 5 l;rw[h5]at h6;exact h6.symm
  ·cases h
theorem E1h {ls:List (List UInt8)} {x:It} {r:List (List UInt8)} (h:B0m ls = .ok (x,r)) (hw:x.words≠[]):ls=lnsI x++r:=by
 cases ls with
 | nil=>cases h
 | cons l t=>
  rw[B0m]at h;split at h
  ·rename_i id st hp;split at h
   ·cases h
   ·rename_i i hi;split at h
    ·cases h
    ·rename_i l2 r2;split at h
     ·cases h
     ·rename_i ws hws;split at h
      ·cases h
      ·rename_i ds r3 hd;obtain⟨_,hk⟩:=D1a hi;rw[Nat.sub_zero]at hk
       have e1:stN.getD ((i:Int)).toNat []=st:=by
        rw[Int.toNat_natCast,List.getD_eq_getElem?_getD,hk];rfl
       have e0:=C4y hp;have e2:=C4y hws;have e3:=B9n hd;split at h
       ·rename_i h1;split at h
        ·cases h
        ·rename_i g r4 hg;cases h;have e4:=E1g hg
         cases ws with
         | nil=>exact absurd rfl hw
         | cons w ws=>
          simp only[lnsI];rw[E1f,A3j,e1,e0,e2,e3,e4,A9n A3i w ws,if_pos (by omega)];simp
       ·rename_i h1;cases h
        cases ws with
        | nil=>exact absurd rfl hw
        | cons w ws=>
         simp only[lnsI];rw[E1f,A3j,e1,e0,e2,e3,A9n A3i w ws,if_neg (by omega)];simp
  ·cases h
theorem C2u:∀{n:Nat} {ls:List (List UInt8)} {tl:List UInt8} {xs:List It},A2m n ls tl = .ok xs->(∀x∈xs,x.words≠[])->ls=xs.flatMap lnsI/\tl=[]
 | 0,ls,tl,xs,h,_=>by cases h
 | n+1,[],tl,xs,h,_=>by
  rw[A2m]at h;split at h
  ·rename_i e;cases h;exact⟨rfl,e⟩
  ·cases h
 | n+1,l::r,tl,xs,h,hw=>by
  rw[A2m]at h;split at h
  ·cases h
  ·rename_i x r' hx;split at h
   ·cases h
   ·rename_i xs' hxs;cases h;obtain⟨h1,h2⟩:=C2u hxs fun y hy=>hw y (by simp[hy]);refine⟨?_,h2⟩;rw[E1h hx (hw x (by simp)),h1,List.flatMap_cons]
theorem D7j {x:It} (h:chkR x=0):x.words≠[]:=by
 intro e;unfold chkR at h;rw[e]at h;simp[chkW]at h
theorem D3s:∀{l:List It} {p:Option ByteArray},chkL p l=0->∀x∈l,chkR x=0/\A0v false x.id=true
 | [],_,_,x,hx=>by cases hx
 | y::r,p,h,x,hx=>by
  rw[chkL]at h;split at h
  ·cases h
  ·rename_i hn;split at h
   ·cases h
   ·split at h
    ·rename_i h1 h2;exact absurd h h2
    ·rename_i h1 h2;rcases List.mem_cons.1 hx with rfl | hx
     ·exact⟨by simpa using h2,by simpa using hn⟩
     ·exact D3s h x hx
theorem C2v {b:Tb} (h:chkT b=0):A0v false b.ver=true/\∀x∈b.items,chkR x=0/\A0v false x.id=true:=by
 unfold chkT at h;split at h
 ·cases h
 ·rename_i hn;split at h
  ·cases h
  ·exact⟨by simpa using hn,D3s h⟩
theorem F1e {s:List UInt8} {b:Tb} (h:decT s = .ok b):encT b = .ok s/\chkT b=0:=by
 unfold decT at h;split at h
 ·cases h
 ·rename_i hs;split at h
  ·cases h
  ·rename_i v ls tl hc;split at h
   ·rename_i n hp;split at h
    ·cases h
    ·rename_i xs hx;split at h
     ·cases h
     ·rename_i hk
      have hk:chkT ⟨bs n,xs⟩=0:=by simpa using hk
      cases h;obtain⟨h1,h2⟩:=C2u hx fun x hxm=>D7j ((C2v hk).2 x hxm).1;have h3:=B9m s [];rw[hc,h2,List.append_nil,List.nil_append]at h3
      have h4:lnsB ⟨bs n,xs⟩=v::ls:=by
       simp only[lnsB];rw[A3j,h1,C4y hp]
      refine⟨?_,hk⟩;unfold encT;rw[h4,h3,if_neg (by simp[hk]),if_neg hs]
   ·cases h
def A7w (w:List UInt8):Prop:=w≠[]/\∀c∈w,33<=c.toNat/\c.toNat<=126
theorem A7w.sp {w:List UInt8} (h:A7w w):32∉w:=fun hm=>by have:=(h.2 _ hm).1;revert this;decide
theorem B2j:∀{ws:List (List UInt8)},ws≠[]->(∀w∈ws,32∉w)->A1j [] (jn ws)=ws
 | [],h,_=>absurd rfl h
 | [w],_,h=>by rw[jn,A9l _ _ (h w (by simp))];simp
 | w::x::r,_,h=>by
  rw[A9n,A9m _ _ _ (h w (by simp)),B2j (by simp) fun y hy=>h y (by simp[hy])];simp
theorem E9n {c:UInt8}:∀{ws:List (List UInt8)},c∈jn ws->c=32\/∃w∈ws,c∈w
 | [],h=>by cases h
 | [w],h=>.inr ⟨w,by simp,h⟩
 | w::x::r,h=>by
  rw[A9n]at h;rcases List.mem_append.1 h with h | h
  ·exact .inr ⟨w,by simp,h⟩
  ·rcases List.mem_cons.1 h with h | h
   ·exact .inl h
   ·rcases E9n h with h | ⟨y,hy,hc⟩
    ·exact .inl h
    ·exact .inr ⟨y,by simp[hy],hc⟩
theorem E9o {ws:List (List UInt8)} (h:∀w∈ws,A7w w) {c:UInt8} (hc:c∈jn ws):32<=c.toNat/\c.toNat<=126:=by
 rcases E9n hc with rfl | ⟨w,hw,hc⟩
 ·decide
 ·have:=(h w hw).2 c hc;omega
theorem jn_ne {ws:List (List UInt8)} (h0:ws≠[]) (h:∀w∈ws,A7w w):jn ws≠[]:=by
 cases ws with
 | nil=>exact absurd rfl h0
 | cons w r=>
  have:=(h w (by simp)).1
  cases w with
  | nil=>exact absurd rfl this
  | cons c t=>cases r<;>simp[jn]
theorem B7h {ws:List (List UInt8)} (h0:ws≠[]) (h:∀w∈ws,A7w w):A2y (jn ws)=some ws:=by
 unfold A2y
 rw[if_pos (List.all_eq_true.2 fun c hc=>by
  have:=E9o h hc;simp only[prt,Bool.and_eq_true,decide_eq_true_eq]
  exact this),if_neg (by simpa using jn_ne h0 h),B2j h0 fun w hw=>(h w hw).sp,if_neg]
 intro k;rw[List.any_eq_true]at k;obtain⟨w,hw,e⟩:=k;exact(h w hw).1 (by simpa using e)
theorem B3j {f:List UInt8} {ws:List (List UInt8)} (hf:A7w f) (h:∀w∈ws,A7w w):parts f (jn (f::ws))=some ws:=by
 unfold parts
 rw[B7h (by simp) (fun w hw=>by
  rcases List.mem_cons.1 hw with rfl | hw
  ·exact hf
  ·exact h w hw)]
 simp
theorem C4z {ws:List (List UInt8)} (h:∀w∈ws,A7w w):10∉jn ws:=fun hc=>by have:=(E9o h hc).1;revert this;decide
theorem C8d {i:Nat} {c:UInt8} (h:okAt false i c=true):33<=c.toNat/\c.toNat<=126:=by
 simp only[okAt,A9k,A0w,Bool.false_eq_true,if_false,Bool.or_eq_true,Bool.and_eq_true,decide_eq_true_eq]at h;omega
theorem A8j {s:ByteArray} (h:A0v false s=true):A7w (lbs s):=by
 obtain⟨h1,_,h3⟩:=(A8g false s).1 h;refine⟨?_,fun c hc=>?_⟩
 ·intro e;have:=congrArg List.length e;have h4:(lbs s).length=s.size:=rfl;rw[h4,List.length_nil]at this;omega
 ·obtain⟨i,hi⟩:=List.getElem?_of_mem hc;exact C8d (h3 i c hi)
theorem C8e {s:ByteArray} (h:A4q s=true):A7w (lbs s):=by
 simp only[A4q,Bool.and_eq_true,decide_eq_true_eq]at h;obtain⟨⟨h1,_⟩,h3⟩:=h;refine⟨?_,fun c hc=>?_⟩
 ·intro e;have:=congrArg List.length e;have h4:(lbs s).length=s.size:=rfl;rw[h4,List.length_nil]at this;omega
 ·have:=List.all_eq_true.1 h3 c hc;simp only[okW,Bool.and_eq_true,decide_eq_true_eq]at this;exact this.1.1.1
theorem E6o {l:List UInt8} {m:Int} (h:numS l=(m,0)):A7w l:=by
 rw[A7v]at h;by_cases hc:((dOf l).isEmpty || !((dOf l).all A0w)||((dOf l).head?==some 48&&l != [48]))=true
 ·rw[if_pos hc]at h;injection h with _ h;cases h
 ·simp only[Bool.or_eq_true,not_or,Bool.not_eq_true]at hc;obtain⟨⟨c1,c2⟩,_⟩:=hc
  have hd:∀c∈dOf l,33<=c.toNat/\c.toNat<=126:=fun c hc=>by
   have:=List.all_eq_true.1 (by simpa using c2) c hc;simp only[A0w,Bool.and_eq_true,decide_eq_true_eq]at this;omega
  by_cases h45:(l.head?==some 45)=true
  ·have e:dOf l=l.tail:=if_pos h45
   cases l with
   | nil=>simp at h45
   | cons x r=>
    have hx:x=45:=by simpa using h45
    refine⟨by simp,fun c hc=>?_⟩;rcases List.mem_cons.1 hc with rfl | hc
    ·rw[hx];decide
    ·exact hd c (by rw[e];exact hc)
  ·have e:dOf l=l:=if_neg h45;rw[e]at c1 hd;exact⟨fun k=>(by rw[k]at c1;cases c1),hd⟩
theorem B4v {n:Int} (h:-9223372036854775808<=n/\n<=9223372036854775807):A7w (Lib.itoa n):=E6o (B3g n h)
theorem E1i:∀(s:List UInt8) (i:Nat),∀c∈s.take (A4s i s),33<=c.toNat
 | [],i,c,h=>by simp at h
 | x::r,i,c,h=>by
  rw[A4s]at h;split at h
  ·rename_i hk;rw[List.take_succ_cons]at h;rcases List.mem_cons.1 h with rfl | h
   ·rw[Bool.and_eq_true]at hk;exact(C8d hk.2).1
   ·exact E1i r (i+1) c h
  ·simp at h
theorem B9o {s r:List UInt8} {n:Int} (h:A6k s = .ok (n,r)):-9223372036854775808<=n/\n<=9223372036854775807:=by
 unfold A6k at h;simp only at h;split at h
 ·cases h
 ·split at h
  ·cases h;exact E1c _
  ·cases h
theorem D1b {s r:List UInt8} {h:Hd} (e:B2i s = .ok (h,r)):(∀c∈h.name,33<=c.toNat)/\(-9223372036854775808<=h.frm/\h.frm<=9223372036854775807)/\(-9223372036854775808<=h.to/\h.to<=9223372036854775807):=by
 obtain⟨⟨n,s1⟩,e1,e⟩:=A2l e;obtain⟨s2,e2,e⟩:=A2l e;obtain⟨⟨f,s3⟩,e3,e⟩:=A2l e;obtain⟨s4,e4,e⟩:=A2l e;obtain⟨⟨t,s5⟩,e5,e⟩:=A2l e;injection e with e;injection e with e6 e7;subst e6;subst e7;refine⟨?_,B9o e3,B9o e5⟩;unfold A7g at e1;split at e1
 ·cases e1
 ·injection e1 with e1;injection e1 with e1 _;intro c hc;exact E1i _ 0 c (e1▸hc)
theorem no10 {c:UInt8} (h:33<=c.toNat):c≠10:=by rintro rfl;revert h;decide
theorem B9p {rd:List UInt8->Except Int (Dv×List UInt8)} (hrd:∀s d r,rd s = .ok (d,r)->10∉prtD d):∀(n:Nat) (lex:Bool) (acc:List Dv) (s:List UInt8) (ks:List Dv) (r:List UInt8),10∉prtK acc->A2d rd n lex acc s = .ok (ks,r)->10∉prtK ks
 | 0,lex,acc,s,ks,r,ha,h=>by
  rw[A2d]at h
  ·cases h;exact ha
  ·intros;omega
 | n+1,lex,acc,s,ks,r,ha,h=>by
  by_cases hs:∃t,s=32::t
  ·obtain⟨t,rfl⟩:=hs;rw[A2d]at h;split at h
   ·cases h;exact ha
   ·split at h
    ·cases h
    ·rename_i d r' e;refine B9p hrd n lex _ _ _ _ ?_ h;rw[B9k,prtK,prtK];have:=hrd _ _ _ e;intro hm;rcases List.mem_append.1 hm with hm | hm
     ·exact ha hm
     ·rcases List.mem_cons.1 hm with hm | hm
      ·revert hm;decide
      ·simp at hm;exact this hm
  ·rw[A2d]at h
   ·cases h;exact ha
   ·intro n' t _ e;exact hs ⟨t,e⟩
theorem B9q:∀(k:Nat) (s:List UInt8) (d:Dv) (r:List UInt8),A2i k s = .ok (d,r)->10∉prtD d
 | _,[],d,r,h=>by cases ‹Nat› <;> cases h
 | 0,c::s,d,r,h=>by
  rw[A2i]at h;split at h<;>cases h
 | k+1,c::s,d,r,h=>by
  rw[A2i]at h;split at h
  ·obtain⟨⟨hh,s1⟩,e1,h⟩:=A2l h;obtain⟨⟨ks,s2⟩,e2,h⟩:=A2l h;simp only at h;split at h
   ·cases h
   ·obtain⟨s3,e3,h⟩:=A2l h;injection h with h;injection h with h1 h2;subst h1;subst h2;obtain⟨q1,q2,q3⟩:=D1b e1;have q4:=B9p (fun s d r=>B9q k s d r) _ _ _ _ _ _ (by simp[prtK]) e2;rw[prtD];intro hm;rcases List.mem_cons.1 hm with hm | hm
    ·revert hm;decide
    rcases List.mem_append.1 hm with hm | hm
    ·rcases List.mem_append.1 hm with hm | hm
     ·rcases List.mem_append.1 hm with hm | hm
      ·rcases List.mem_append.1 hm with hm | hm
       ·split at hm
        ·revert hm;decide
        ·cases hm
       ·rw[A3j]at hm;exact no10 (q1 _ hm) rfl
      ·rcases List.mem_cons.1 hm with hm | hm
       ·revert hm;decide
       ·exact no10 ((B4v q2).2 _ hm).1 rfl
     ·rcases List.mem_cons.1 hm with hm | hm
      ·revert hm;decide
      ·exact no10 ((B4v q3).2 _ hm).1 rfl
    ·rcases List.mem_append.1 hm with hm | hm
     ·exact q4 hm
     ·revert hm;decide
  ·cases h
theorem E1j {s:List UInt8} {d:Dv} (h:parD s = .ok d):10∉prtD d:=by
 unfold parD at h;split at h
 ·cases h
 ·split at h
  ·cases h
  ·rename_i e;cases h;exact B9q _ _ _ _ e
  ·cases h
theorem E1k {d:Dv} (h:C4w d=true):parD (prtD d) = .ok d:=by
 unfold C4w at h;split at h
 ·rename_i x e
  have h1:cmpD x d=0:=by simpa using h
  rw[e,B4r.1 h1]
 ·cases h
theorem B0n:A7w A1h/\A7w A5m/\A7w A3i/\A7w wYes/\A7w wNo:=by
 refine⟨⟨by decide,?_⟩,⟨by decide,?_⟩,⟨by decide,?_⟩,⟨by decide,?_⟩,⟨by decide,?_⟩⟩<;>decide
theorem E1l {n:Int} (h:¬(n<0\/2<n)):A7w (stN.getD n.toNat [])/\idxW (stN.getD n.toNat []) 0 stN=some n.toNat:=by
 obtain⟨k,rfl⟩:∃k:Nat,n=k:=⟨n.toNat,by omega⟩
 rw[Int.toNat_natCast]
 have:k=0\/k=1\/k=2:=by omega
 rcases this with rfl | rfl | rfl<;>exact⟨⟨by decide,by decide⟩,by decide⟩
theorem F1f {n:Int} (h:¬(n<0\/3<n)):A7w (kdN.getD n.toNat [])/\idxW (kdN.getD n.toNat []) 0 kdN=some n.toNat:=by
 obtain⟨k,rfl⟩:∃k:Nat,n=k:=⟨n.toNat,by omega⟩
 rw[Int.toNat_natCast]
 have:k=0\/k=1\/k=2\/k=3:=by omega
 rcases this with rfl | rfl | rfl | rfl<;>exact⟨⟨by decide,by decide⟩,by decide⟩
theorem E1m {d:Dc} {n:Int} (h:chkP d.p n=0) (hn:n<=1000):∃w,lnD d=jn w/\(∀x∈w,A7w x)/\w≠[]/\decP w=some d/\(w.head?=some wYes\/w.head?=some wNo):=by
 obtain⟨⟨kind,name,f,t⟩,yes⟩:=d;unfold chkP at h;split at h
 ·cases h
 rename_i h1;split at h
 ·cases h
 rename_i h2;split at h
 ·cases h
 rename_i h3;simp only[not_or,Int.not_lt]at h3;simp only[not_or,not_and,Decidable.not_not,Bool.not_eq_false]at h2
 have gf:-9223372036854775808<=f/\f<=9223372036854775807:=by omega
 have gt:-9223372036854775808<=t/\t<=9223372036854775807:=by omega
 obtain⟨k1,k2⟩:=F1f h1;refine⟨_,rfl,?_,by simp,?_,?_⟩
 ·intro x hx;simp only[List.mem_cons,List.not_mem_nil,or_false]at hx;rcases hx with rfl | rfl | rfl | rfl | rfl
  ·split
   ·exact B0n.2.2.2.1
   ·exact B0n.2.2.2.2
  ·exact k1
  ·split
   ·exact⟨by simp,by decide⟩
   ·rename_i h4;exact A8j (h2.2 h4)
  ·exact B4v gf
  ·exact B4v gt
 ·simp only[decP];rw[k2];simp only[B3g f gf,B3g t gt];have h1':¬(kind<0\/3<kind):=h1
  have hk:((kind.toNat:Nat):Int)=kind:=by omega
  have h3':kind.toNat=3 ↔ kind=3:=by omega
  rw[if_neg]
  ·rw[hk];congr 3
   ·by_cases h4:kind=3
    ·rw[if_pos (h3'.2 h4),<-h2.1 h4]
    ·rw[if_neg (fun e=>h4 (h3'.1 e)),if_neg h4]
   ·cases yes<;>rfl
  ·rintro(e | e | ⟨e1,e2⟩)
   ·exact e rfl
   ·exact e rfl
   ·rw[if_pos (h3'.1 e1)]at e2;exact e2 rfl
 ·cases yes
  ·exact .inr rfl
  ·exact .inl rfl
theorem C8f {n:Int}:∀{l seen:List Dc},B4t n seen l=0->∀d∈l,chkP d.p n=0
 | [],_,_,d,hd=>by cases hd
 | x::r,seen,h,d,hd=>by
  rw[B4t]at h;split at h
  ·rename_i h1;exact absurd h h1
  ·rename_i h1;split at h
   ·cases h
   ·rcases List.mem_cons.1 hd with rfl | hd
    ·simpa using h1
    ·exact C8f h d hd
theorem C8g {n:Int}:∀{l seen:List Dc},B4t n seen l=0->(∀a∈seen,∀d∈l,a.p≠d.p)/\l.Pairwise fun a b=>a.p≠b.p
 | [],_,_=>⟨fun _ _ _ h=>(by cases h),List.Pairwise.nil⟩
 | x::r,seen,h=>by
  rw[B4t]at h;split at h
  ·rename_i h1;exact absurd h h1
  ·split at h
   ·cases h
   ·rename_i h2;obtain⟨i1,i2⟩:=C8g h;have h2':∀a∈seen,a.p≠x.p:=fun a ha e=>h2 (List.any_eq_true.2 ⟨a,ha,decide_eq_true e⟩);refine⟨fun a ha d hd=>?_,List.pairwise_cons.2 ⟨fun d hd=>i1 x (by simp) d hd,i2⟩⟩;rcases List.mem_cons.1 hd with rfl | hd
    ·exact h2' a ha
    ·exact i1 a (by simp[ha]) d hd
structure OkR (x:It):Prop where
 words:x.words≠[]/\x.words.length<=32/\∀w∈x.words,A4q w=true
 state:¬(x.state<0\/2<x.state)
 decs:∀d∈x.decs,chkP d.p x.words.length=0
 nod:x.decs.Pairwise fun a b=>a.p≠b.p
 gold:if x.state=1 then parD (prtD x.gold) = .ok x.gold/\x.gold.frm=0/\x.gold.to=x.words.length else x.gold=A1y
theorem D1c {x:It} (h:chkR x=0):OkR x:=by
 unfold chkR at h;split at h
 ·rename_i h1;exact absurd h h1
 rename_i h1;split at h
 ·cases h
 rename_i h2;split at h
 ·cases h
 split at h
 ·rename_i h3;exact absurd h h3
 rename_i h3
 have h1:chkW x.words=0:=by simpa using h1
 have h3:B4t x.words.length [] x.decs=0:=by simpa using h3
 refine⟨?_,h2,C8f h3,(C8g h3).2,?_⟩
 ·unfold chkW at h1;split at h1
  ·cases h1
  rename_i k1;split at h1
  ·cases h1
  rename_i k2;split at h1
  ·rename_i k3;exact⟨k1,by omega,fun w hw=>List.all_eq_true.1 k3 w hw⟩
  ·cases h1
 ·unfold chkG at h;split at h
  ·rename_i k1;rw[if_pos k1];split at h
   ·cases h
   rename_i k2;split at h
   ·rename_i k3;simp only[not_or,Decidable.not_not]at k2;exact⟨E1k k3,k2⟩
   ·cases h
  ·rename_i k1;rw[if_neg k1];split at h
   ·rename_i k2;exact B4r.1 k2
   ·cases h
theorem C8h:∀(l acc r:List UInt8),10∉l->cutL acc (l++10::r)=((acc++l)::(cutL [] r).1,(cutL [] r).2)
 | [],acc,r,_=>by simp[cutL]
 | c::l,acc,r,h=>by
  have hc:¬c=10:=fun e=>h (by simp[e]);rw[List.cons_append,cutL,if_neg hc,C8h l _ r (fun e=>h (by simp[e]))];simp
theorem D3t:∀(ls:List (List UInt8)),(∀l∈ls,10∉l)->cutL [] (unl ls)=(ls,[])
 | [],_=>rfl
 | l::ls,h=>by
  have e:unl (l::ls)=l++10::unl ls:=by simp[unl]
  rw[e,C8h l [] _ (h l (by simp)),D3t ls fun x hx=>h x (by simp[hx])];simp
def F1g (r:List (List UInt8)):Prop:=∀l,r.head?=some l->¬(hdW l=wYes\/hdW l=wNo)
theorem A7x {n:Int} (hn:n<=1000):∀{ds:List Dc} {r:List (List UInt8)},(∀d∈ds,chkP d.p n=0)->F1g r->A5u (ds.map lnD++r) = .ok (ds,r)
 | [],r,_,h=>by
  cases r with
  | nil=>rfl
  | cons l t=>rw[List.map_nil,List.nil_append,A5u,if_neg (h l rfl)]
 | d::ds,r,hd,h=>by
  obtain⟨w,h1,h2,h3,h4,h5⟩:=E1m (hd d (by simp)) hn;have hw:=B7h h3 h2
  have hh:hdW (lnD d)=wYes\/hdW (lnD d)=wNo:=by
   cases w with
   | nil=>exact absurd rfl h3
   | cons x t=>
    rw[h1,C8c hw];simpa using h5
  rw[List.map_cons,List.cons_append,A5u,if_pos hh,h1,hw];simp only[h4];rw[A7x hn (fun y hy=>hd y (by simp[hy])) h]
theorem D3u {w r:List UInt8} (h:32∉w):hdW (w++32::r)=w:=by
 unfold hdW;rw[List.takeWhile_append_of_pos,List.takeWhile_cons,if_neg (by simp)]
 ·simp
 ·intro c hc;simp only[ne_eq,decide_eq_true_eq];rintro rfl;exact h hc
theorem D7k:A7w A8i:=⟨by decide,by decide⟩
theorem D3v (r:List UInt8):¬(hdW (A8i++32::r)=wYes\/hdW (A8i++32::r)=wNo):=by
 rw[D3u D7k.sp];decide
theorem E6p (w:List UInt8) (r:List (List UInt8)):¬(hdW (jn (A5m::w::r))=wYes\/hdW (jn (A5m::w::r))=wNo):=by
 rw[A9n,D3u B0n.2.1.sp];decide
theorem E1n (l:List ByteArray):(l.map lbs).map bs=l:=by
 rw[List.map_map];have:bs∘lbs=id:=funext fun x=>B5y (A3j _);rw[this,List.map_id]
theorem B7i (s:ByteArray):bs (lbs s)=s:=B5y (A3j _)
theorem C1l {x:It} {r:List (List UInt8)} (hx:OkR x) (hid:A0v false x.id=true) (hr:F1g r):B0m (lnsI x++r) = .ok (x,r):=by
 obtain⟨hw0,hw1,hw2⟩:=hx.words;obtain⟨s1,s2⟩:=E1l hx.state
 have hs:((x.state.toNat:Nat):Int)=x.state:=by have:=hx.state;omega
 have hg:=A8j hid
 have e1:parts A5m (jn [A5m,lbs x.id,stN.getD x.state.toNat []])=some [lbs x.id,stN.getD x.state.toNat []]:=B3j B0n.2.1 (by
  intro w hw;simp only[List.mem_cons,List.not_mem_nil,or_false]at hw;rcases hw with rfl | rfl
  ·exact hg
  ·exact s1)
 have e2:parts A3i (A3i++32::jn (x.words.map lbs))=some (x.words.map lbs):=by
  cases hws:x.words with
  | nil=>exact absurd hws hw0
  | cons w ws=>
   rw[List.map_cons,<-A9n];refine B3j B0n.2.2.1 fun y hy=>?_;rw[<-List.map_cons (f:=lbs)]at hy;obtain⟨z,hz,rfl⟩:=List.mem_map.1 hy;exact C8e (hw2 z (by rw[hws];exact hz))
 simp only[lnsI,List.cons_append,B0m,e1,s2,e2];have hgold:=hx.gold
 have hn:(x.words.length:Int)<=1000:=by omega
 by_cases h1:x.state=1
 ·rw[if_pos h1]at hgold
  rw[if_pos h1,List.append_assoc,List.singleton_append,A7x hn hx.decs (fun l hl=>by
   injection hl with hl;subst hl;exact D3v _)]
  have hp:A7h ((A8i++32::prtD x.gold)::r) = .ok (x.gold,r):=by
   have h5:(A8i++32::prtD x.gold).take 5=[103,111,108,100,32]:=rfl;have:(A8i++32::prtD x.gold).drop 5=prtD x.gold:=rfl;rw[A7h,if_pos h5,this,hgold.1]
  simp only[hp];rw[if_pos (by omega),E1n,B7i,hs]
 ·rw[if_neg h1]at hgold;rw[if_neg h1,List.append_nil,A7x hn hx.decs hr];simp only;rw[if_neg (by omega),E1n,B7i,hs,<-hgold]
theorem D1d (l:List It):F1g (l.flatMap lnsI):=by
 intro y hy
 cases l with
 | nil=>simp at hy
 | cons x r=>
  simp only[List.flatMap_cons,lnsI,List.cons_append,List.head?_cons]at hy;injection hy with hy;subst hy;exact E6p _ _
theorem D3w (x:It):2<=(lnsI x).length:=by simp[lnsI]
theorem B0o:∀{l:List It} {n:Nat},(∀x∈l,OkR x/\A0v false x.id=true)->l.length<n->A2m n (l.flatMap lnsI) [] = .ok l
 | [],n+1,_,_=>by rw[List.flatMap_nil,A2m,if_pos rfl]
 | x::l,n+1,h,hn=>by
  have i:=B0o (l:=l) (n:=n) (fun y hy=>h y (by simp[hy])) (by simp at hn;omega);obtain⟨h1,h2⟩:=h x (by simp);have e:=C1l h1 h2 (D1d l);rw[List.flatMap_cons]
  cases hl:lnsI x++l.flatMap lnsI with
  | nil=>
   have h4:=congrArg List.length hl;have h5:=D3w x;rw[List.length_append,List.length_nil]at h4;omega
  | cons a t=>
   rw[hl]at e;rw[A2m,e];simp only[i]
theorem E1o {x:It} (hx:OkR x) (hid:A0v false x.id=true):∀l∈lnsI x,10∉l:=by
 obtain⟨s1,_⟩:=E1l hx.state;intro l hl;simp only[lnsI,List.mem_cons,List.mem_append,List.mem_map]at hl;rcases hl with rfl | rfl | ⟨d,hd,rfl⟩ | hl
 ·refine C4z fun w hw=>?_;simp only[List.mem_cons,List.not_mem_nil,or_false]at hw;rcases hw with rfl | rfl | rfl
  ·exact B0n.2.1
  ·exact A8j hid
  ·exact s1
 ·intro hm;rcases List.mem_append.1 hm with hm | hm
  ·revert hm;decide
  ·rcases List.mem_cons.1 hm with hm | hm
   ·revert hm;decide
   ·refine C4z (fun y hy=>?_) hm;obtain⟨z,hz,rfl⟩:=List.mem_map.1 hy;exact C8e (hx.words.2.2 z hz)
 ·have:=hx.words.2.1;obtain⟨w,h1,h2,_⟩:=E1m (hx.decs d hd) (by omega);rw[h1];exact C4z h2
 ·have hg:=hx.gold;split at hl
  ·rename_i h1;rw[if_pos h1]at hg;simp only[List.mem_singleton]at hl;subst hl;intro hm;rcases List.mem_append.1 hm with hm | hm
   ·revert hm;decide
   ·rcases List.mem_cons.1 hm with hm | hm
    ·revert hm;decide
    ·exact E1j hg.1 hm
  ·cases hl
theorem F1h {s:List UInt8} {b:Tb} (h:encT b = .ok s):decT s = .ok b:=by
 unfold encT at h;split at h
 ·cases h
 rename_i hk
 have hk:chkT b=0:=by simpa using hk
 split at h
 ·cases h
 rename_i hl;injection h with h;obtain⟨hv,hi⟩:=C2v hk
 have hi':∀x∈b.items,OkR x/\A0v false x.id=true:=fun x hx=>⟨D1c (hi x hx).1,(hi x hx).2⟩
 have hc:cutL [] s=(lnsB b,[]):=by
  rw[<-h];refine D3t _ fun l hl=>?_;simp only[lnsB,List.mem_cons,List.mem_flatMap]at hl;rcases hl with rfl | ⟨x,hx,hl⟩
  ·refine C4z fun w hw=>?_;simp only[List.mem_cons,List.not_mem_nil,or_false]at hw;rcases hw with rfl | rfl
   ·exact B0n.1
   ·exact A8j hv
  ·exact E1o (hi' x hx).1 (hi' x hx).2 l hl
 unfold decT;rw[if_neg (by rw[<-h];exact hl),hc];simp only[lnsB]
 rw[B3j B0n.1 (by
  intro w hw;simp only[List.mem_cons,List.not_mem_nil,or_false]at hw;subst hw
  exact A8j hv)]
 simp only
 have hlen:b.items.length<(b.items.flatMap lnsI).length+1:=by
  have:∀l:List It,l.length<=(l.flatMap lnsI).length:=by
   intro l
   induction l with
   | nil=>simp
   | cons x r ih=>
    rw[List.flatMap_cons,List.length_append,List.length_cons];have:=D3w x;omega
  have:=this b.items;omega
 rw[B0o hi' hlen];simp only;rw[B7i];have e:(⟨b.ver,b.items⟩:Tb)=b:=rfl;rw[e,if_neg (by simp[hk])]
def C8i (l:List It):Prop:=l.Pairwise fun a b=>cmpS a.id b.id<0
theorem D3x {p id:ByteArray}:C4x (some p) id=false ↔ cmpS p id<0:=by
 unfold C4x;have:=A9h.anti id p;rw[decide_eq_false_iff_not];omega
theorem D3y:∀{l:List It} {p:Option ByteArray},chkL p l=0 ↔ (∀x∈l,A0v false x.id=true/\chkR x=0)/\C8i l/\∀q,p=some q->∀x∈l,cmpS q x.id<0
 | [],p=>by simp[chkL,C8i]
 | y::r,p=>by
  have ih:=D3y (l:=r) (p:=some y.id);rw[chkL];constructor
  ·intro h;split at h
   ·cases h
   rename_i h1;split at h
   ·cases h
   rename_i h2;split at h
   ·rename_i h3;exact absurd h h3
   rename_i h3;obtain⟨i1,i2,i3⟩:=ih.1 h;refine⟨fun x hx=>?_,List.pairwise_cons.2 ⟨fun x hx=>i3 _ rfl x hx,i2⟩,fun q hq x hx=>?_⟩
   ·rcases List.mem_cons.1 hx with rfl | hx
    ·exact⟨by simpa using h1,by simpa using h3⟩
    ·exact i1 x hx
   ·subst hq;have hy:cmpS q y.id<0:=D3x.1 (by simpa using h2);rcases List.mem_cons.1 hx with rfl | hx
    ·exact hy
    ·exact A9h.trans _ _ _ hy (i3 _ rfl x hx)
  ·rintro⟨h1,h2,h3⟩;obtain⟨k1,k2⟩:=List.pairwise_cons.1 h2;obtain⟨n1,n2⟩:=h1 y (by simp)
   have hl:C4x p y.id=false:=by
    cases p with
    | none=>rfl
    | some q=>exact D3x.2 (h3 q rfl y (by simp))
   rw[if_neg (by simp[n1]),if_neg (by simp[hl]),if_neg (by simp[n2])];refine ih.2 ⟨fun x hx=>h1 x (by simp[hx]),k2,fun q hq x hx=>?_⟩;injection hq with hq;subst hq;exact k1 x hx
theorem D3z {b:Tb}:chkT b=0 ↔ A0v false b.ver=true/\b.items.length<=256/\(∀x∈b.items,A0v false x.id=true/\chkR x=0)/\C8i b.items:=by
 have h:=D3y (l:=b.items) (p:=none);unfold chkT;constructor
 ·intro k;split at k
  ·cases k
  rename_i k1;split at k
  ·cases k
  rename_i k2;obtain⟨i1,i2,_⟩:=h.1 k;exact⟨by simpa using k1,by omega,i1,i2⟩
 ·rintro⟨k1,k2,k3,k4⟩;rw[if_neg (by simp[k1]),if_neg (by omega)];exact h.2 ⟨k3,k4,fun q hq=>by cases hq⟩
theorem F4d {a b:ByteArray} (h:cmpS a b<0):a≠b:=fun e=>by subst e;rw[A9h.refl]at h;omega
theorem C8i.tail {y:It} {r:List It} (h:C8i (y::r)):C8i r/\∀x∈r,cmpS y.id x.id<0:=⟨(List.pairwise_cons.1 h).2,(List.pairwise_cons.1 h).1⟩
end Go.Proofs.YtmplckgbeaifkaaGreatDoor
namespace Go.Abs
open Go
def ePr:Enc Pr:=⟨4,fun p=>[iv p.kind,sv p.name,iv p.frm,iv p.to],fun _=>rfl,by omega,fun a b h=>by
 obtain⟨_,_,_,_⟩:=a;obtain⟨_,_,_,_⟩:=b;injection h with h1 h;injection h with h2 h;injection h with h3 h;injection h with h4 _;injection h1 with h1;injection h1 with _ h1;injection h2 with h2;injection h2 with h2;injection h3 with h3;injection h3 with _ h3;injection h4 with h4;injection h4 with _ h4;simp only at h1 h2 h3 h4
 subst h1;subst h2;subst h3;subst h4;rfl⟩
def eDc:Enc Dc:=⟨5,fun d=>[iv d.p.kind,sv d.p.name,iv d.p.frm,iv d.p.to,bv d.yes],fun _=>rfl,by omega,fun a b h=>by
 obtain⟨⟨_,_,_,_⟩,_⟩:=a;obtain⟨⟨_,_,_,_⟩,_⟩:=b;injection h with h1 h;injection h with h2 h;injection h with h3 h;injection h with h4 h;injection h with h5 _;injection h1 with h1;injection h1 with _ h1;injection h2 with h2;injection h2 with h2;injection h3 with h3;injection h3 with _ h3;injection h4 with h4;injection h4 with _ h4;injection h5 with h5;injection h5 with h5;simp only at h1 h2 h3 h4 h5
 subst h1;subst h2;subst h3;subst h4;subst h5;rfl⟩
structure DC where
 d:Dv
 cs:List T
 ok:IsD d cs
theorem DC.ext {a b:DC} (h:a.cs=b.cs):a=b:=by
 obtain⟨d,cs,ok⟩:=a;obtain⟨d',cs',ok'⟩:=b;simp only at h;subst h;obtain rfl:=IsD.uniq d d' cs ok ok';rfl
def eDC:Enc DC:=⟨5,DC.cs,fun a=>a.ok.len,by omega,fun _ _ h=>DC.ext h⟩
theorem D4a:∀m:List DC,IsDs (m.map DC.d) (m.flatMap DC.cs)
 | []=>by simp[IsDs]
 | x::m=>by
  rw[List.map_cons,List.flatMap_cons,IsDs];exact⟨_,_,rfl,x.ok,D4a m⟩
theorem IsS.isK {t:T} {m:List DC} (h:IsS eDC t m):IsK t (m.map DC.d):=by
 rcases h with⟨rfl,rfl⟩ | rfl
 ·exact .inl ⟨rfl,rfl⟩
 ·exact .inr ⟨m.flatMap DC.cs,by rw[slT,List.length_map];rfl,D4a m⟩
def IsIt (x:It) (cs:List T):Prop:=∃tw td g,cs=[sv x.id,tw,iv x.state,td]++g/\IsS eStr tw x.words/\IsS eDc td x.decs/\IsD x.gold g
theorem IsIt.len {x:It} {cs:List T} (h:IsIt x cs):cs.length=9:=by
 obtain⟨tw,td,g,rfl,_,_,h3⟩:=h;simp[h3.len]
theorem IsIt.uniq {x y:It} {cs:List T} (h:IsIt x cs) (k:IsIt y cs):x=y:=by
 obtain⟨tw,td,g,rfl,h1,h2,h3⟩:=h;obtain⟨tw',td',g',e,k1,k2,k3⟩:=k;obtain⟨id,ws,st,ds,gd⟩:=x;obtain⟨id',ws',st',ds',gd'⟩:=y;simp only[List.cons_append,List.nil_append]at e;injection e with e1 e;injection e with e2 e;injection e with e3 e;injection e with e4 e;injection e1 with e1;injection e1 with e1;injection e3 with e3;injection e3 with _ e3;simp only at e1 e3 h1 h2 h3 k1 k2 k3;subst e1;subst e2;subst e3;subst e4;subst e;obtain rfl:=(tSl eStr).uniq tw ws ws' h1 k1;obtain rfl:=(tSl eDc).uniq td ds ds' h2 k2;obtain rfl:=IsD.uniq gd gd' g h3 k3;rfl
structure IC where
 x:It
 cs:List T
 ok:IsIt x cs
theorem IC.ext {a b:IC} (h:a.cs=b.cs):a=b:=by
 obtain⟨x,cs,ok⟩:=a;obtain⟨x',cs',ok'⟩:=b;simp only at h;subst h;obtain rfl:=ok.uniq ok';rfl
def eIC:Enc IC:=⟨9,IC.cs,fun a=>a.ok.len,by omega,fun _ _ h=>IC.ext h⟩
def encI (x:It):List T:=[sv x.id,A2e eStr x.words,iv x.state,A2e eDc x.decs]++encD x.gold
theorem E6q (x:It):IsIt x (encI x):=⟨_,_,_,rfl,IsS.tree _ _,IsS.tree _ _,IsD.enc _⟩
def IC.of (x:It):IC:=⟨x,encI x,E6q x⟩
def tIt:Ty IC:=⟨fun t c=>t = .ag c.cs,fun t a b h h'=>by rw[h]at h';injection h' with h';exact IC.ext h'⟩
end Go.Abs
namespace Go.Proofs.YtmplckgbeaifkaaGreatDoor
open Go Go.Abs
structure TC where
 ver:ByteArray
 items:List IC
def TC.tb (b:TC):Tb:=⟨b.ver,b.items.map IC.x⟩
def tTb:Ty TC:=⟨fun t b=>∃u,t = .ag [sv b.ver,u]/\IsS eIC u b.items,fun t a b ⟨u,e,h⟩ ⟨u',e',h'⟩=>by
 rw[e]at e';injection e' with e';injection e' with e1 e';injection e' with e2 _;injection e1 with e1;injection e1 with e1;subst e2;have:=(tSl eIC).uniq u _ _ h h';obtain⟨_,_⟩:=a;obtain⟨_,_⟩:=b;simp only at e1 this
 subst e1;subst this;rfl⟩
end Go.Proofs.YtmplckgbeaifkaaGreatDoor
