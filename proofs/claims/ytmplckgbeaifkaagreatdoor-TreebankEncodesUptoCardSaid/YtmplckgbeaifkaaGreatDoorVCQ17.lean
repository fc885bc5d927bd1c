/- Auxiliary facts. -/
import Derived.Test.YtmplckgbeaifkaaGreatDoorVCQ16
import Derived.Lib.CountLaws
import Derived.Lib.CutLaws
set_option linter.unusedSimpArgs false
set_option maxRecDepth 100000
set_option maxHeartbeats 0
set_option linter.unusedVariables false
namespace Go.Proofs.YtmplckgbeaifkaaGreatDoor
open Go Go.Abs
def A1d:List UInt8->List UInt8->List (List UInt8)
 | acc,[]=>[acc]
 | acc,c::r=>if c=32 then acc::A1d [] r else A1d (acc++[c]) r
theorem B1h:∀(l acc:List UInt8),32∉l->A1d acc l=[acc++l]
 | [],acc,_=>by simp[A1d]
 | c::r,acc,h=>by
  have hc:¬c=32:=fun e=>h (by simp[e]);rw[A1d,if_neg hc,B1h r _ (fun e=>h (by simp[e]))];simp
theorem B1i:∀(w acc r:List UInt8),32∉w->A1d acc (w++32::r)=(acc++w)::A1d [] r
 | [],acc,r,_=>by simp[A1d]
 | c::w,acc,r,h=>by
  have hc:¬c=32:=fun e=>h (by simp[e]);rw[List.cons_append,A1d,if_neg hc,B1i w _ r (fun e=>h (by simp[e]))];simp
theorem B3v:∀(l:List UInt8) (c:UInt8),Lib.indexByte l c = -1->c∉l
 | [],c,_=>by simp
 | b::l,c,h=>by
  have hge:=Lib.indexByte_ge l c;rw[Lib.indexByte]at h;split at h
  ·cases h
  ·rename_i hb;split at h
   ·rename_i h1;have:=B3v l c (by simpa using h1);simp only[List.mem_cons,not_or];exact⟨fun e=>hb (by simp[e]),this⟩
   ·rename_i h1
    have:¬Lib.indexByte l c = -1:=by simpa using h1
    omega
theorem B3w:∀(l:List UInt8) (c:UInt8) (i:Nat),Lib.indexByte l c=i->∃w r,l=w++c::r/\w.length=i/\c∉w
 | [],c,i,h=>by rw[Lib.indexByte]at h;omega
 | b::l,c,i,h=>by
  have hge:=Lib.indexByte_ge l c;rw[Lib.indexByte]at h;split at h
  ·rename_i hb
   have e:b=c:=by simpa using hb
   subst e;exact⟨[],l,rfl,by simp;omega,by simp⟩
  ·rename_i hb;split at h
   ·omega
   ·rename_i h1
    have h2:¬Lib.indexByte l c = -1:=by simpa using h1
    obtain⟨w,r,e,hl,hn⟩:=B3w l c (i-1) (by omega);refine⟨b::w,r,by rw[e];rfl,by simp;omega,?_⟩;simp only[List.mem_cons,not_or];exact⟨fun e=>hb (by simp[e]),hn⟩
abbrev spB:ByteArray:=⟨#[32]⟩
theorem C8z:∀(n:Nat) (s:ByteArray),s.size<=n->Lib.splitB spB 0 (Lib.countB s spB) s=(A1d [] s.data.toList).map bs
 | n,s,hn=>by
  have hix:Lib.indexB s spB=Lib.indexByte s.data.toList 32:=Lib.index_one _ _;rcases Lib.indexB_cases s spB with h | ⟨i,h,hi⟩
  ·rw[Lib.splitB_miss _ _ _ _ h,B1h _ _ (B3v _ _ (by rw[<-hix];exact h))];simp only[List.nil_append,List.map_cons,List.map_nil,A4e]
  ·have hc:=Lib.countB_hit s spB i (by decide) h;obtain⟨w,r,e,hl,hw⟩:=B3w _ _ i (by rw[<-hix];exact h);rw[hc,Nat.add_comm,Lib.splitB_hit _ _ _ _ i h];have hlen:s.data.toList.length=s.size:=rfl
   have e1:(s.extract (i+spB.size) s.size).data.toList=r:=by
    rw[Lib.extract_data,e];rw[e]at hlen;simp only[List.length_append,List.length_cons]at hlen;show List.take (s.size-(i+1)) (List.drop (i+1) (w++32::r))=r
    have h4:List.drop (i+1) (w++32::r)=r:=by
     rw[<-hl,show w++32::r=(w++[32])++r by simp];exact List.drop_left' (by simp)
    rw[h4];exact List.take_of_length_le (by omega)
   have e2:s.extract 0 (i+0)=bs w:=by
    rw[<-A4e (s.extract 0 (i+0)),Lib.extract_data,e];congr 1;simp[<-hl]
   cases n with
   | zero=>rw[show s.size=0 by omega]at hlen;rw[e]at hlen;simp at hlen
   | succ n=>
    rw[C8z n _ (by
     have:(s.extract (i+spB.size) s.size).data.toList.length=r.length:=by rw[e1]
     have h3:(s.extract (i+spB.size) s.size).size=r.length:=this;rw[h3];rw[e]at hlen;simp at hlen
     omega),e1,e2,e,B1i w [] r hw]
    rfl
variable {q : Gl}
def prt (c:UInt8):Bool:=decide (32<=c.toNat)&&decide (c.toNat<=126)
def A2r (l:List UInt8):Option (List (List UInt8)):=
 if l.all prt then(if l.isEmpty then some []else if(A1d [] l).any List.isEmpty then none else some (A1d [] l))else none
def A3r (l:List UInt8):T:=match A2r l with
 | none=>.tu [nilS,iv 8]
 | some ws=>.tu [A1a eStr (ws.map bs),iv 0]
theorem E8h (c:UInt8):prt c = !(decide ((c.toNat:Int)<32)||decide (126<(c.toNat:Int))):=by
 have e1:decide ((c.toNat:Int)<32) = !decide (32<=c.toNat):=by
  by_cases h:32<=c.toNat
  ·rw[decide_eq_true h,decide_eq_false (by omega)];rfl
  ·rw[decide_eq_false h,decide_eq_true (by omega)];rfl
 have e2:decide (126<(c.toNat:Int)) = !decide (c.toNat<=126):=by
  by_cases h:c.toNat<=126
  ·rw[decide_eq_true h,decide_eq_false (by omega)];rfl
  ·rw[decide_eq_false h,decide_eq_true (by omega)];rfl
 rw[e1,e2,prt];cases decide (32<=c.toNat)<;>cases decide (c.toNat<=126)<;>rfl
noncomputable def tbWs:Tbl:=[(90,D2e)]
theorem D2l:Ctx Tryz.prog (G q) (orc tbWs):=(A0x.cons F7e .nil).ctx mixed
def SWs0 (s:ByteArray):A0b:=⟨[(0,.t (sv s))],[],0,38⟩
def SWs1 (s:ByteArray) (j:Nat):A0b:=⟨[(4,.t (iv (j:Int))),(0,.t (sv s))],[],0,38⟩
def SWs2 (ws:List ByteArray) (j:Nat):A0b:=⟨[(30,.t (iv (j:Int))),(29,.t (iv (ws.length:Int))),(28,.t (slT eStr ws)),(5,.t (slT eStr ws))],[],0,38⟩
def OkP (s:ByteArray) (j:Nat):Prop:=j<=s.size/\∀(i:Nat) c,i<j->s.data.toList[i]?=some c->prt c=true
def OkE (ws:List ByteArray) (j:Nat):Prop:=j<=ws.length/\∀(i:Nat) w,i<j->ws[i]?=some w->w.data.toList.isEmpty=false
def AllP (l:List UInt8):Prop:=l.all prt=true
def AllE (ws:List ByteArray):Prop:=OkE ws ws.length
theorem E3u (s:ByteArray) (hs:s.size<=4294967280):A0v Tryz.prog (G q) 137 [sv s] (· = A3r s.data.toList):=by
 refine D2a.call rfl ?_;(conv in B9p=>cbv)
 obtain⟨l,hl⟩:∃l,l=s.data.toList:=⟨_,rfl⟩
 have hlen:l.length=s.size:=by rw[hl];rfl
 rw[<-hl]
 have es:(s.toList==[])=l.isEmpty:=by rw[stl,<-hl,A2u]
 refine A0a D2l ?_;simp -implicitDefEqProofs;refine A0a D2l ?_
 cases he:l.isEmpty with
 | true=>
  have hl0:l=[]:=by simpa using he
  simp -implicitDefEqProofs [A2q,es,he];simp -implicitDefEqProofs [hl0,A3r,A2r,A1a]
 | false=>
 simp -implicitDefEqProofs [A2q,es,he]
 have bad:(l.all prt)=false->A3r l = .tu [nilS,iv 8]:=by
  intro h;simp[A3r,A2r,h]
 refine A0s (α:=Unit) (fun _=>SWs0 s) (fun _=>AllP l) (fun _=>rfl) ?_ ?_
 ·refine A0a D2l ?_;simp -implicitDefEqProofs;refine A0g ?_;refine A0t (SWs1 s) (fun j=>s.size-j) (OkP s) 0 (fun _=>rfl) ⟨Nat.zero_le _,fun i c h=>by omega⟩ ?_ rfl ?_
  ·refine A0r rfl rfl ?_ ?_<;>simp -implicitDefEqProofs [SWs1]
  ·rintro j ⟨hj,hok⟩;refine A0c D2l ?_;by_cases hlt:j<s.size
   ·obtain⟨x,hx⟩:∃x,s.data.toList[j]?=some x:=⟨_,List.getElem?_eq_getElem hlt⟩
    have ixj:=A4a s j x hx;have e1:IntKind.i64.wrap ((j:Int)+1)=((j+1:Nat):Int):=A0j (by omega) (by omega);have hk:=E8h x
    have hb:prt x=false->A3r l = .tu [nilS,iv 8]:=by
     intro h;refine bad ?_;rw[List.all_eq_false];exact⟨x,by rw[hl];exact List.mem_of_getElem? hx,by rw[h];simp⟩
    cases t1:decide ((x.toNat:Int)<32)with
    | true=>rw[t1]at hk;simp -implicitDefEqProofs [SWs1,hlt,ixj,t1,hb hk]
    | false=>
     cases t2:decide (126<(x.toNat:Int))with
     | true=>rw[t1,t2]at hk;simp -implicitDefEqProofs [SWs1,hlt,ixj,t1,t2,hb hk]
     | false=>
      rw[t1,t2]at hk;simp -implicitDefEqProofs [SWs1,hlt,ixj,t1,t2,e1];refine Abs.Next.mk (j+1) ⟨⟨hlt,fun i y hi hy=>?_⟩,by omega⟩ (A0r rfl rfl (by simp -implicitDefEqProofs [SWs1]) (by simp -implicitDefEqProofs [SWs1]));by_cases e:i=j
      ·subst e;rw[hx]at hy;injection hy with hy;subst hy;exact hk
      ·exact hok i y (by omega) hy
   ·have e:j=s.size:=by omega
    subst e;simp -implicitDefEqProofs [SWs1];refine Abs.Next.mk () ?_ (A0r rfl rfl (by simp -implicitDefEqProofs [SWs0]) (by simp -implicitDefEqProofs [SWs0]));show l.all prt=true;rw[List.all_eq_true,hl];intro x hx;obtain⟨i,hi,e⟩:=List.getElem_of_mem hx;exact hok i x hi (by rw[List.getElem?_eq_getElem hi,e])
 rintro _ hall;have hall:l.all prt=true:=hall
 obtain⟨ws,hws⟩:∃ws,ws=(A1d [] l).map bs:=⟨_,rfl⟩
 have q1:D2e [.v (.string s),.v (.string ⟨#[32]⟩)]=some (slT eStr ws):=by
  rw[D2e,A7u (τ:=tStr) (σ:=tStr) (x:=s) (y:=⟨#[32]⟩) rfl rfl,if_pos ⟨by omega,by decide⟩,C8z s.size s (Nat.le_refl _),hws,hl]
 have hlw:A4t (.t (slT eStr ws))=some (.t (iv (ws.length:Int))):=(IsS.mk (e:=eStr) ws).len
 have hwl:ws.length<=4294967281:=by
  have h1:=Lib.splitB_all spB (by decide) 0 _ s rfl;rw[C8z s.size s (Nat.le_refl _),<-hl,<-hws]at h1;have h2:=Lib.countB_le spB (by decide) s.size s (Nat.le_refl _);omega
 refine A0a D2l ?_;simp -implicitDefEqProofs [SWs0,tbWs,q1];refine A0s (α:=Unit) (fun _=>SWs2 ws ws.length) (fun _=>AllE ws) (fun _=>rfl) ?_ ?_
 ·refine A0a D2l ?_;simp -implicitDefEqProofs [hlw];refine A0g ?_;refine A0t (SWs2 ws) (fun j=>ws.length-j) (OkE ws) 0 (fun _=>rfl) ⟨Nat.zero_le _,fun i c h=>by omega⟩ ?_ rfl ?_
  ·refine A0r rfl rfl ?_ ?_<;>simp -implicitDefEqProofs [SWs2]
  ·rintro j ⟨hj,hok⟩;refine A0c D2l ?_;by_cases hlt:j<ws.length
   ·obtain⟨x,hx⟩:∃x,ws[j]?=some x:=⟨_,List.getElem?_eq_getElem hlt⟩
    have ia:=(IsS.mk (e:=eStr) ws).iaddr hx .i64;have e1:IntKind.i64.wrap ((j:Int)+1)=((j+1:Nat):Int):=A0j (by omega) (by omega);have ld:A0e false 1 [] (.t (.pt (eStr.enc x++rest eStr ws j)))=some (.t (sv x)):=rfl;have ia':A1b 1 (.t (slT eStr ws)) (.t (iv (j:Int)))=some (.t (.pt (eStr.enc x++rest eStr ws j))):=ia
    have ex:(x.toList==[])=x.data.toList.isEmpty:=by rw[stl,A2u]
    cases hxe:x.data.toList.isEmpty with
    | true=>
     have hw:A3r l = .tu [nilS,iv 8]:=by
      have:(A1d [] l).any List.isEmpty=true:=by
       rw[List.any_eq_true];have hx':=hx;rw[hws,List.getElem?_map]at hx';obtain⟨y,hy,e⟩:=Option.map_eq_some_iff.1 hx';refine⟨y,List.mem_of_getElem? hy,?_⟩
       have:x.data.toList=y:=by rw[<-e]
       rw[<-this];exact hxe
      simp[A3r,A2r,hall,he,this]
     rw[hxe]at ex;simp -implicitDefEqProofs [SWs2,hlt,ia',ld,A2q,ex,hw]
    | false=>
     rw[hxe]at ex;simp -implicitDefEqProofs [SWs2,hlt,ia',ld,A2q,ex,e1];refine Abs.Next.mk (j+1) ⟨⟨hlt,fun i y hi hy=>?_⟩,by omega⟩ (A0r rfl rfl (by simp -implicitDefEqProofs [SWs2]) (by simp -implicitDefEqProofs [SWs2]));by_cases e:i=j
     ·subst e;rw[hx]at hy;injection hy with hy;subst hy;exact hxe
     ·exact hok i y (by omega) hy
   ·have e:j=ws.length:=by omega
    subst e;simp -implicitDefEqProofs [SWs2];exact Abs.Next.mk () ⟨hj,hok⟩ (A0r rfl rfl (by simp -implicitDefEqProofs [SWs2]) (by simp -implicitDefEqProofs [SWs2]))
 rintro _ hne;refine A0c D2l ?_
 have hw:A3r l = .tu [slT eStr ws,iv 0]:=by
  have h1:(A1d [] l).any List.isEmpty=false:=by
   rw[List.any_eq_false];intro y hy;obtain⟨i,hi,e⟩:=List.getElem_of_mem hy
   have h2:ws[i]?=some (bs y):=by rw[hws,List.getElem?_map,List.getElem?_eq_getElem hi,e];rfl
   have h3:=hne.2 i (bs y) ((List.getElem?_eq_some_iff.1 h2).1) h2
   have h4:y.isEmpty=false:=by simpa using h3
   simp[h4]
  have h2:A1a eStr ws=slT eStr ws:=by
   cases hw:ws with
   | nil=>
    rw[hws]at hw
    have:A1d [] l=[]:=by simpa using hw
    cases l with
    | nil=>cases this
    | cons c r=>
     have nn:∀(r acc:List UInt8),A1d acc r≠[]:=by
      intro r
      induction r with
      | nil=>intro acc h;cases h
      | cons c r ih=>
       intro acc h;rw[A1d]at h;split at h
       ·cases h
       ·exact ih _ h
     exact absurd this (nn _ _)
   | cons _ _=>rfl
  simp[A3r,A2r,hall,he,h1,<-hws,h2]
 simp -implicitDefEqProofs [SWs2,hw]
theorem D2m (s:ByteArray) (i j:Nat) (h1:i<=j) (h2:j<=s.size):A3j (.t (sv s)) (some (.t (iv (i:Int)))) (some (.t (iv (j:Int))))=some (.t (sv (s.extract i j))):=by
 have a1:¬(i:Int)<0:=by omega
 have a2:¬(j:Int)<0:=by omega
 simp[A3j,boundV,h1,h2]
theorem E3v (s:ByteArray) (i:Nat) (h1:i<=s.size):A3j (.t (sv s)) (some (.t (iv (i:Int)))) none=some (.t (sv (s.extract i s.size))):=by
 have a1:¬(i:Int)<0:=by omega
 simp[A3j,boundV,h1]
theorem F4k (s:ByteArray) (j:Nat) (h2:j<=s.size):A3j (.t (sv s)) none (some (.t (iv (j:Int))))=some (.t (sv (s.extract 0 j))):=by
 have a2:¬(j:Int)<0:=by omega
 simp[A3j,boundV,h2]
theorem D2n (d:List UInt8) (c:UInt8):decV 0 (d++[c])=decV 0 d*10+(c.toNat-48):=by
 simp[decV,List.foldl_append]
theorem F7g:∀(n:Nat) (d:List UInt8),d.length=n->(∀c∈d,A1j c=true)->d.head?≠some 48->dd (decV 0 d)=d
 | 0,d,hn,_,_=>by
  have:d=[]:=List.eq_nil_of_length_eq_zero hn;subst this;rfl
 | n+1,d,hn,hd,hh=>by
  obtain⟨d',c,rfl⟩:∃d' c,d=d'++[c]:=by
   rcases List.eq_nil_or_concat d with h | ⟨d',c,h⟩
   ·rw[h]at hn;simp at hn
   ·exact⟨d',c,by simpa using h⟩
  have hc:=hd c (by simp);simp only[A1j,Bool.and_eq_true,decide_eq_true_eq]at hc
  have hl:d'.length=n:=by simpa using hn
  have hh':d'.head?≠some 48:=by
   cases d' with
   | nil=>simp
   | cons x r=>simpa using hh
  have ih:=F7g n d' hl (fun x hx=>hd x (by simp[hx])) hh';rw[D2n]
  obtain⟨v,hv⟩:∃v,v=decV 0 d':=⟨_,rfl⟩
  rw[<-hv]at ih ⊢
  have hpos:0<v*10+(c.toNat-48):=by
   cases d' with
   | nil=>
    have:c.toNat≠48:=by
     intro e;apply hh;have:c=48:=UInt8.toNat_inj.1 e;rw[this];rfl
    omega
   | cons x r=>
    by_cases h0:v=0
    ·rw[h0]at ih;cases ih
    ·omega
  rw[C8x _ hpos,show(v*10+(c.toNat-48)) / 10=v by omega,ih,show 48+(v*10+(c.toNat-48))%10=c.toNat by omega];congr 2;exact UInt8.toNat_inj.1 (by rw[UInt8.toNat_ofNat'];have:=c.toNat_lt;omega)
theorem C9a (n:Int):Lib.itoa n=if n=0 then [48]else if n<0 then 45::dd n.natAbs else dd n.natAbs:=by
 by_cases h0:n=0
 ·subst h0;unfold Lib.itoa;rw[if_neg (by omega),if_pos rfl,show(0:Int).toNat=0 from rfl,Lib.decDigits_one (by omega)];rfl
 ·rw[if_neg h0];unfold Lib.itoa dd;rw[if_neg (by omega:¬n.natAbs=0)];split
  ·rfl
  ·congr 1;omega
theorem D9l {c:UInt8} (h:A1j c=true):c≠45:=by
 intro e;subst e;revert h;decide
theorem B5s (l:List UInt8) (m:Int) (h:numS l=(m,0)):Lib.itoa m=l:=by
 rw[A9r]at h;split at h
 ·cases h
 ·rename_i hc;simp only[Bool.or_eq_true,not_or,Bool.not_eq_true,Bool.not_eq_eq_eq_not,Bool.not_true,Bool.not_false]at hc;obtain⟨⟨c1,c2⟩,c3⟩:=hc;have hall:∀c∈dOf l,A1j c=true:=List.all_eq_true.1 (by simpa using c2);by_cases h48:(dOf l).head?=some 48
  ·have hl:l=[48]:=by
    rw[h48]at c3;simpa using c3
   subst hl;have:numS [48]=(0,0):=rfl;rw[A9r]at this
   have e:m=0:=by
    split at h
    ·split at h
     ·rename_i h1 _;cases h1
     ·cases h
    ·split at h
     ·injection h with h _;exact h.symm
     ·cases h
   subst e;rw[C9a];rfl
  ·have hdd:=F7g _ (dOf l) rfl hall h48
   have hne:dOf l≠[]:=by intro e;rw[e]at c1;cases c1
   obtain⟨v,hv⟩:∃v,v=decV 0 (dOf l):=⟨_,rfl⟩
   rw[<-hv]at hdd h
   have hpos:v≠0:=by intro e;rw[e]at hdd;exact hne hdd.symm
   split at h
   ·rename_i h45;split at h
    ·injection h with h _;subst h;rw[C9a,if_neg (by omega),if_pos (by omega),show(-(v:Int)).natAbs=v by omega,hdd]
     cases l with
     | nil=>cases h45
     | cons x r=>
      have hx:x=45:=by simpa using h45
      subst hx;rfl
    ·cases h
   ·rename_i h45;split at h
    ·injection h with h _;subst h;rw[C9a,if_neg (by omega),if_neg (by omega),show(v:Int).natAbs=v by omega,hdd];unfold dOf;rw[if_neg h45]
    ·cases h
def eosE:List UInt8->Int
 | []=>9
 | _=>8
def A5m:Nat->List UInt8->Nat
 | _,[]=>0
 | i,c::r=>if decide (i<32)&&okAt false i c then A5m (i+1) r+1 else 0
def takB (c:UInt8):List UInt8->Except Int (List UInt8)
 | []=>.error 9
 | x::r=>if x=c then .ok r else .error 8
def A9b (s:List UInt8):Except Int (List UInt8×List UInt8):=
 if A5m 0 s=0 then .error (eosE s)else .ok (s.take (A5m 0 s),s.drop (A5m 0 s))
def sgn:List UInt8->List UInt8×List UInt8
 | 45::r=>([45],r)
 | s=>([],s)
def A7x (s:List UInt8):Except Int (Int×List UInt8):=
 let d:=(sgn s).2.takeWhile A1j
 let r:=(sgn s).2.dropWhile A1j
 if d=[]then .error (eosE r)
 else if(numS ((sgn s).1++d)).2=0 then .ok ((numS ((sgn s).1++d)).1,r)else .error 8
def plus:List UInt8->Bool×List UInt8
 | 43::r=>(true,r)
 | s=>(false,s)
structure Hd where
 lex:Bool
 name:List UInt8
 frm:Int
 to:Int
def B4q (s:List UInt8):Except Int (Hd×List UInt8):=do
 let (n,s1) <-A9b (plus s).2
 let s2 <-takB 32 s1
 let (f,s3) <-A7x s2
 let s4 <-takB 32 s3
 let (t,s5) <-A7x s4
 return (⟨(plus s).1,n,f,t⟩,s5)
def A2l (rd:List UInt8->Except Int (Dv×List UInt8)):Nat->Bool->List Dv->List UInt8->Except Int (List Dv×List UInt8)
 | n+1,lex,acc,32::r=>if lex && !acc.isEmpty then .ok (acc,32::r)else
  match rd r with
  | .error e=>.error e
  | .ok (d,r')=>A2l rd n lex (acc++[d]) r'
 | _,_,acc,s=>.ok (acc,s)
def A1l (lex:Bool) (kids:List Dv):Int:=if lex then 1 else if kids.isEmpty then 0 else 2
def A2s:Nat->List UInt8->Except Int (Dv×List UInt8)
 | _,[]=>.error 9
 | 0,c::_=>if c=40 then .error 7 else .error 8
 | k+1,c::s=>if c=40 then do
   let (h,s1) <-B4q s
   let (ks,s2) <-A2l (A2s k) s1.length h.lex [] s1
   if h.lex&&ks.isEmpty then .error (eosE s2)else
    let s3 <-takB 41 s2
    return (.mk (A1l h.lex ks) (bs h.name) h.frm h.to ks,s3)
  else .error 8
def parD (s:List UInt8):Except Int Dv:=
 if 65536<s.length then .error 7 else
 match A2s 64 s with
 | .error e=>.error e
 | .ok (d,[])=>.ok d
 | .ok (_,_)=>.error 8
mutual
def prtD:Dv->List UInt8
 | .mk k n f t ks=>40::((if k=1 then [43]else [])++lbs n++32::Lib.itoa f++32::Lib.itoa t++(prtK ks++[41]))
def prtK:List Dv->List UInt8
 | []=>[]
 | d::r=>32::(prtD d++prtK r)
end
theorem B8p {c:UInt8} {s r:List UInt8} (h:takB c s = .ok r):s=c::r:=by
 cases s with
 | nil=>cases h
 | cons x t=>
  simp only[takB]at h;split at h
  ·rename_i e;cases h;rw[e]
  ·cases h
theorem D2o {s n r:List UInt8} (h:A9b s = .ok (n,r)):s=n++r/\n≠[]/\A5m 0 s=n.length:=by
 unfold A9b at h;split at h
 ·cases h
 ·rename_i h0;injection h with h;injection h with h1 h2
  have hl:A5m 0 s<=s.length:=by
   have:∀(s:List UInt8) i,A5m i s<=s.length:=by
    intro s
    induction s with
    | nil=>intro i;exact Nat.le_refl _
    | cons c r ih=>intro i;rw[A5m];split<;>simp[ih]
   exact this s 0
  refine⟨?_,?_,?_⟩
  ·rw[<-h1,<-h2,List.take_append_drop]
  ·rw[<-h1];intro e;have:=congrArg List.length e;rw[List.length_take,List.length_nil,Nat.min_eq_left hl]at this;exact h0 this
  ·rw[<-h1,List.length_take];omega
theorem C2e (s:List UInt8):(sgn s).1++(sgn s).2=s:=by
 unfold sgn;split<;>rfl
theorem C0t {s r:List UInt8} {n:Int} (h:A7x s = .ok (n,r)):s=Lib.itoa n++r:=by
 unfold A7x at h;simp only at h;split at h
 ·cases h
 ·split at h
  ·rename_i h0;injection h with h;injection h with h1 h2;have:=B5s ((sgn s).1++(sgn s).2.takeWhile A1j) n (by rw[<-h1,<-h0]);rw[this,<-h2,List.append_assoc,List.takeWhile_append_dropWhile,C2e]
  ·cases h
theorem E8i (s:List UInt8):(if(plus s).1 then [43]else [])++(plus s).2=s:=by
 unfold plus;split<;>rfl
theorem A2z {α β:Type} {x:Except Int α} {f:α->Except Int β} {b:β} (h:(x >>= f) = .ok b):∃a,x = .ok a/\f a = .ok b:=by
 cases x with
 | error e=>cases h
 | ok a=>exact⟨a,rfl,h⟩
theorem E8j {s r:List UInt8} {h:Hd} (e:B4q s = .ok (h,r)):s=(if h.lex then [43]else [])++h.name++32::Lib.itoa h.frm++32::Lib.itoa h.to++r:=by
 obtain⟨⟨n,s1⟩,e1,e⟩:=A2z e;obtain⟨s2,e2,e⟩:=A2z e;obtain⟨⟨f,s3⟩,e3,e⟩:=A2z e;obtain⟨s4,e4,e⟩:=A2z e;obtain⟨⟨t,s5⟩,e5,e⟩:=A2z e;injection e with e;injection e with e6 e7;subst e6;subst e7;have k1:=(D2o e1).1;have k2:=B8p e2;have k3:=C0t e3;have k4:=B8p e4;have k5:=C0t e5;have k0:=E8i s;rw[k1,k2,k3,k4,k5]at k0;refine k0.symm.trans ?_;simp
theorem D2p {rd:List UInt8->Except Int (Dv×List UInt8)} (hrd:∀s d r,rd s = .ok (d,r)->s=prtD d++r):∀(n:Nat) (lex:Bool) (acc:List Dv) (s:List UInt8) (ks:List Dv) (r:List UInt8),A2l rd n lex acc s = .ok (ks,r)->∃m,ks=acc++m/\s=prtK m++r
 | 0,lex,acc,s,ks,r,h=>by
  rw[A2l]at h
  ·injection h with h;injection h with h1 h2;exact⟨[],by simp[h1],by simp[prtK,h2]⟩
  ·intros;omega
 | n+1,lex,acc,s,ks,r,h=>by
  by_cases hs:∃t,s=32::t
  ·obtain⟨t,rfl⟩:=hs;rw[A2l]at h;split at h
   ·injection h with h;injection h with h1 h2;exact⟨[],by simp[h1],by simp[prtK,h2]⟩
   ·split at h
    ·cases h
    ·rename_i d r' e;obtain⟨m,h1,h2⟩:=D2p hrd n lex _ _ _ _ h;refine⟨d::m,by rw[h1];simp,?_⟩;rw[hrd _ _ _ e,h2,prtK];simp
  ·rw[A2l]at h
   ·injection h with h;injection h with h1 h2;exact⟨[],by simp[h1],by simp[prtK,h2]⟩
   ·intro n' t _ e;exact hs ⟨t,e⟩
theorem B7f:∀(k:Nat) (s:List UInt8) (d:Dv) (r:List UInt8),A2s k s = .ok (d,r)->s=prtD d++r
 | _,[],d,r,h=>by cases ‹Nat› <;> cases h
 | 0,c::s,d,r,h=>by
  rw[A2s]at h;split at h<;>cases h
 | k+1,c::s,d,r,h=>by
  rw[A2s]at h;split at h
  ·rename_i hc;obtain⟨⟨hh,s1⟩,e1,h⟩:=A2z h;obtain⟨⟨ks,s2⟩,e2,h⟩:=A2z h;simp only at h;split at h
   ·cases h
   ·rename_i hl;obtain⟨s3,e3,h⟩:=A2z h;injection h with h;injection h with h1 h2;subst h1;subst h2;have k1:=E8j e1;obtain⟨m,k2,k3⟩:=D2p (fun s d r=>B7f k s d r) _ _ _ _ _ _ e2;have k4:=B8p e3;rw[List.nil_append]at k2;subst k2;rw[hc,k1,k3,k4,prtD]
    have:(if A1l hh.lex ks=1 then [43]else [])=(if hh.lex then [(43:UInt8)]else []):=by
     unfold A1l;cases hh.lex<;>simp;split<;>simp
    rw[this];simp[lbs,bs]
  ·cases h
theorem D6i {s:List UInt8} {d:Dv} (h:parD s = .ok d):prtD d=s:=by
 unfold parD at h;split at h
 ·cases h
 ·split at h
  ·cases h
  ·rename_i d' e;injection h with h;subst h;rw[B7f _ _ _ _ e,List.append_nil]
  ·cases h
structure Tb where
 ver:ByteArray
 items:List It
def chkW (ws:List ByteArray):Int:=if ws=[]then 1 else if 32<ws.length then 7 else if ws.all A3n then 0 else 1
def chkP (p:Pr) (n:Int):Int:=
 if p.kind<0\/3<p.kind then 14 else
 if(p.kind=3/\p.name≠⟨#[]⟩)\/(p.kind≠3/\A0y false p.name=false)then 1 else
 if p.frm<0\/p.to<=p.frm\/n<p.to then 2 else 0
def A8w (n:Int):List Dc->List Dc->Int
 | _,[]=>0
 | seen,d::r=>if chkP d.p n≠0 then chkP d.p n else if(seen.any fun y=>decide (y.p=d.p))then 4 else A8w n (seen++[d]) r
def C2f (d:Dv):Bool:=match parD (prtD d)with
 | .ok x=>decide (cmpD x d=0)
 | .error _=>false
def chkG (x:It):Int:=
 if x.state=1 then(if x.gold.frm≠0\/x.gold.to≠x.words.length then 2 else if C2f x.gold then 0 else 13)
 else if cmpD x.gold A1n=0 then 0 else 13
def chkR (x:It):Int:=
 if chkW x.words≠0 then chkW x.words else
 if x.state<0\/2<x.state then 14 else
 if 256<x.decs.length then 7 else
 if A8w x.words.length [] x.decs≠0 then A8w x.words.length [] x.decs else chkG x
def C0k (prev:Option ByteArray) (id:ByteArray):Bool:=match prev with
 | none=>false
 | some p=>decide (cmpS id p<=0)
def chkL:Option ByteArray->List It->Int
 | _,[]=>0
 | prev,x::r=>
  if A0y false x.id=false then 1 else
  if C0k prev x.id then 3 else
  if chkR x≠0 then chkR x else chkL (some x.id) r
def chkT (b:Tb):Int:=if A0y false b.ver=false then 1 else if 256<b.items.length then 7 else chkL none b.items
def A1m:List UInt8:=[118,101,114,115,105,111,110]
def A5n:List UInt8:=[105,116,101,109]
def A3o:List UInt8:=[119,111,114,100,115]
def A8h:List UInt8:=[103,111,108,100]
def wYes:List UInt8:=[121,101,115]
def wNo:List UInt8:=[110,111]
def stN:List (List UInt8):=[[111,112,101,110],[97,99,99,101,112,116,101,100],[114,101,106,101,99,116,101,100]]
def kdN:List (List UInt8):=[[101,110,116,114,121],[108,101,120],[114,117,108,101],[115,112,97,110]]
def jn:List (List UInt8)->List UInt8
 | []=>[]
 | [w]=>w
 | w::r=>w++32::jn r
theorem A6n (w x:List UInt8) (r:List (List UInt8)):jn (w::x::r)=w++32::jn (x::r):=rfl
def idxW (w:List UInt8):Nat->List (List UInt8)->Option Nat
 | _,[]=>none
 | i,x::r=>if x=w then some i else idxW w (i+1) r
def lnD (d:Dc):List UInt8:=jn [if d.yes then wYes else wNo,kdN.getD d.p.kind.toNat [],if d.p.kind=3 then [45]else lbs d.p.name,Lib.itoa d.p.frm,Lib.itoa d.p.to]
def lnsI (x:It):List (List UInt8):=
 jn [A5n,lbs x.id,stN.getD x.state.toNat []]::(A3o++32::jn (x.words.map lbs))::(x.decs.map lnD++if x.state=1 then [A8h++32::prtD x.gold]else [])
def lnsB (b:Tb):List (List UInt8):=jn [A1m,lbs b.ver]::b.items.flatMap lnsI
def unl (ls:List (List UInt8)):List UInt8:=ls.flatMap fun l=>l++[10]
def encT (b:Tb):Except Int (List UInt8):=
 if chkT b≠0 then .error (chkT b)else if 65536<(unl (lnsB b)).length then .error 7 else .ok (unl (lnsB b))
def cutL:List UInt8->List UInt8->List (List UInt8)×List UInt8
 | acc,[]=>([],acc)
 | acc,c::r=>if c=10 then(acc::(cutL [] r).1,(cutL [] r).2)else cutL (acc++[c]) r
def parts (first l:List UInt8):Option (List (List UInt8)):=match A2r l with
 | some (w::r)=>if w=first then some r else none
 | _=>none
def hdW (l:List UInt8):List UInt8:=l.takeWhile fun c=>c≠32
def decP:List (List UInt8)->Option Dc
 | [y,k,n,f,t]=>match idxW k 0 kdN with
  | none=>none
  | some i=>if(numS f).2≠0\/(numS t).2≠0\/(i=3/\n≠[45])then none else some ⟨⟨i,if i=3 then⟨#[]⟩else bs n,(numS f).1,(numS t).1⟩,decide (y=wYes)⟩
 | _=>none
def A6x:List (List UInt8)->Except Int (List Dc×List (List UInt8))
 | []=>.ok ([],[])
 | l::r=>if hdW l=wYes\/hdW l=wNo then
   match A2r l with
   | none=>.error 8
   | some w=>match decP w with
    | none=>.error 8
    | some d=>match A6x r with
     | .error e=>.error e
     | .ok (ds,r')=>.ok (d::ds,r')
  else .ok ([],l::r)
def A9c:List (List UInt8)->Except Int (Dv×List (List UInt8))
 | []=>.error 9
 | l::r=>if l.take 5=[103,111,108,100,32]then
   match parD (l.drop 5)with
   | .error e=>.error e
   | .ok d=>.ok (d,r)
  else .error 8
def B2m:List (List UInt8)->Except Int (It×List (List UInt8))
 | []=>.error 9
 | l::r=>match parts A5n l with
  | some [id,st]=>match idxW st 0 stN with
   | none=>.error 8
   | some i=>match r with
    | []=>.error 9
    | l2::r2=>match parts A3o l2 with
     | none=>.error 8
     | some ws=>match A6x r2 with
      | .error e=>.error e
      | .ok (ds,r3)=>if i=1 then
        match A9c r3 with
        | .error e=>.error e
        | .ok (g,r4)=>.ok (⟨bs id,ws.map bs,i,ds,g⟩,r4)
       else .ok (⟨bs id,ws.map bs,i,ds,A1n⟩,r3)
  | _=>.error 8
def A3a:Nat->List (List UInt8)->List UInt8->Except Int (List It)
 | 0,_,_=>.error 9
 | _+1,[],tl=>if tl=[]then .ok []else .error 9
 | n+1,l::r,tl=>match B2m (l::r)with
  | .error e=>.error e
  | .ok (x,r')=>match A3a n r' tl with
   | .error e=>.error e
   | .ok xs=>.ok (x::xs)
def decT (s:List UInt8):Except Int Tb:=
 if 65536<s.length then .error 7 else
 match cutL [] s with
 | ([],_)=>.error 9
 | (v::ls,tl)=>match parts A1m v with
  | some [n]=>match A3a (ls.length+1) ls tl with
   | .error e=>.error e
   | .ok xs=>if chkT ⟨bs n,xs⟩≠0 then .error (chkT ⟨bs n,xs⟩)else .ok ⟨bs n,xs⟩
  | _=>.error 8
theorem C2g:∀(s acc:List UInt8),unl (cutL acc s).1++(cutL acc s).2=acc++s
 | [],acc=>by simp[cutL,unl]
 | c::r,acc=>by
  rw[cutL];split
  ·rename_i h;have:=C2g r [];simp only[unl,List.flatMap_cons]at this ⊢;rw[List.append_assoc,this,h];simp
  ·rw[C2g r _];simp
theorem B5t:∀(s acc:List UInt8),jn (A1d acc s)=acc++s/\A1d acc s≠[]
 | [],acc=>by simp[A1d,jn]
 | c::r,acc=>by
  rw[A1d];split
  ·rename_i h;obtain⟨h1,h2⟩:=B5t r []
   cases e:A1d [] r with
   | nil=>exact absurd e h2
   | cons x t=>
    rw[A6n,<-e,h1,h];simp
  ·obtain⟨h1,h2⟩:=B5t r (acc++[c]);exact⟨by rw[h1];simp,h2⟩
theorem B7g {l:List UInt8} {ws:List (List UInt8)} (h:A2r l=some ws):jn ws=l:=by
 unfold A2r at h;split at h
 ·split at h
  ·rename_i h0;cases h
   cases l with
   | nil=>rfl
   | cons _ _=>cases h0
  ·split at h
   ·cases h
   ·cases h;have:=(B5t l []).1;simpa using this
 ·cases h
theorem A3s (l:List UInt8):lbs (bs l)=l:=by simp[lbs,bs]
theorem E8k (l:List (List UInt8)):(l.map bs).map lbs=l:=by
 rw[List.map_map];have:lbs∘bs=id:=funext fun x=>A3s x;rw[this,List.map_id]
theorem E8l {d:Dv} (h:C2f d=true):parD (prtD d) = .ok d:=by
 unfold C2f at h;split at h
 ·rename_i x e
  have h1:cmpD x d=0:=by simpa using h
  rw[e,B7d.1 h1]
 ·cases h
theorem D2q {n:Int}:∀{l seen:List Dc},A8w n seen l=0->∀d∈l,chkP d.p n=0
 | [],_,_,d,hd=>by cases hd
 | x::r,seen,h,d,hd=>by
  rw[A8w]at h;split at h
  ·rename_i h1;exact absurd h h1
  ·rename_i h1;split at h
   ·cases h
   ·rcases List.mem_cons.1 hd with rfl | hd
    ·simpa using h1
    ·exact D2q h d hd
theorem D2r {n:Int}:∀{l seen:List Dc},A8w n seen l=0->(∀a∈seen,∀d∈l,a.p≠d.p)/\l.Pairwise fun a b=>a.p≠b.p
 | [],_,_=>⟨fun _ _ _ h=>(by cases h),List.Pairwise.nil⟩
 | x::r,seen,h=>by
  rw[A8w]at h;split at h
  ·rename_i h1;exact absurd h h1
  ·split at h
   ·cases h
   ·rename_i h2;obtain⟨i1,i2⟩:=D2r h;have h2':∀a∈seen,a.p≠x.p:=fun a ha e=>h2 (List.any_eq_true.2 ⟨a,ha,decide_eq_true e⟩);refine⟨fun a ha d hd=>?_,List.pairwise_cons.2 ⟨fun d hd=>i1 x (by simp) d hd,i2⟩⟩;rcases List.mem_cons.1 hd with rfl | hd
    ·exact h2' a ha
    ·exact i1 a (by simp[ha]) d hd
structure OkR (x:It):Prop where
 words:x.words≠[]/\x.words.length<=32/\∀w∈x.words,A3n w=true
 state:¬(x.state<0\/2<x.state)
 decs:∀d∈x.decs,chkP d.p x.words.length=0
 nod:x.decs.Pairwise fun a b=>a.p≠b.p
 gold:if x.state=1 then parD (prtD x.gold) = .ok x.gold/\x.gold.frm=0/\x.gold.to=x.words.length else x.gold=A1n
theorem C9b {x:It} (h:chkR x=0):OkR x:=by
 unfold chkR at h;split at h
 ·rename_i h1;exact absurd h h1
 rename_i h1;split at h
 ·cases h
 rename_i h2;split at h
 ·cases h
 split at h
 ·rename_i h3;exact absurd h h3
 rename_i h3
 have h1:chkW x.words=0:=by simpa using h1
 have h3:A8w x.words.length [] x.decs=0:=by simpa using h3
 refine⟨?_,h2,D2q h3,(D2r h3).2,?_⟩
 ·unfold chkW at h1;split at h1
  ·cases h1
  rename_i k1;split at h1
  ·cases h1
  rename_i k2;split at h1
  ·rename_i k3;exact⟨k1,by omega,fun w hw=>List.all_eq_true.1 k3 w hw⟩
  ·cases h1
 ·unfold chkG at h;split at h
  ·rename_i k1;rw[if_pos k1];split at h
   ·cases h
   rename_i k2;split at h
   ·rename_i k3;simp only[not_or,Decidable.not_not]at k2;exact⟨E8l k3,k2⟩
   ·cases h
  ·rename_i k1;rw[if_neg k1];split at h
   ·rename_i k2;exact B7d.1 k2
   ·cases h
theorem B4r (s:ByteArray):bs (lbs s)=s:=B1d (A3s _)
def A7g (l:List It):Prop:=l.Pairwise fun a b=>cmpS a.id b.id<0
theorem C9c {p id:ByteArray}:C0k (some p) id=false ↔ cmpS p id<0:=by
 unfold C0k;have:=A5d.anti id p;rw[decide_eq_false_iff_not];omega
theorem D9m:∀{l:List It} {p:Option ByteArray},chkL p l=0 ↔ (∀x∈l,A0y false x.id=true/\chkR x=0)/\A7g l/\∀q,p=some q->∀x∈l,cmpS q x.id<0
 | [],p=>by simp[chkL,A7g]
 | y::r,p=>by
  have ih:=D9m (l:=r) (p:=some y.id);rw[chkL];constructor
  ·intro h;split at h
   ·cases h
   rename_i h1;split at h
   ·cases h
   rename_i h2;split at h
   ·rename_i h3;exact absurd h h3
   rename_i h3;obtain⟨i1,i2,i3⟩:=ih.1 h;refine⟨fun x hx=>?_,List.pairwise_cons.2 ⟨fun x hx=>i3 _ rfl x hx,i2⟩,fun q hq x hx=>?_⟩
   ·rcases List.mem_cons.1 hx with rfl | hx
    ·exact⟨by simpa using h1,by simpa using h3⟩
    ·exact i1 x hx
   ·subst hq;have hy:cmpS q y.id<0:=C9c.1 (by simpa using h2);rcases List.mem_cons.1 hx with rfl | hx
    ·exact hy
    ·exact A5d.trans _ _ _ hy (i3 _ rfl x hx)
  ·rintro⟨h1,h2,h3⟩;obtain⟨k1,k2⟩:=List.pairwise_cons.1 h2;obtain⟨n1,n2⟩:=h1 y (by simp)
   have hl:C0k p y.id=false:=by
    cases p with
    | none=>rfl
    | some q=>exact C9c.2 (h3 q rfl y (by simp))
   rw[if_neg (by simp[n1]),if_neg (by simp[hl]),if_neg (by simp[n2])];refine ih.2 ⟨fun x hx=>h1 x (by simp[hx]),k2,fun q hq x hx=>?_⟩;injection hq with hq;subst hq;exact k1 x hx
theorem A6t {b:Tb}:chkT b=0 ↔ A0y false b.ver=true/\b.items.length<=256/\(∀x∈b.items,A0y false x.id=true/\chkR x=0)/\A7g b.items:=by
 have h:=D9m (l:=b.items) (p:=none);unfold chkT;constructor
 ·intro k;split at k
  ·cases k
  rename_i k1;split at k
  ·cases k
  rename_i k2;obtain⟨i1,i2,_⟩:=h.1 k;exact⟨by simpa using k1,by omega,i1,i2⟩
 ·rintro⟨k1,k2,k3,k4⟩;rw[if_neg (by simp[k1]),if_neg (by omega)];exact h.2 ⟨k3,k4,fun q hq=>by cases hq⟩
theorem B9v {a b:ByteArray} (h:cmpS a b<0):a≠b:=fun e=>by subst e;rw[A5d.refl]at h;omega
theorem A7g.tail {y:It} {r:List It} (h:A7g (y::r)):A7g r/\∀x∈r,cmpS y.id x.id<0:=⟨(List.pairwise_cons.1 h).2,(List.pairwise_cons.1 h).1⟩
end Go.Proofs.YtmplckgbeaifkaaGreatDoor
namespace Go.Abs
open Go
def ePr:Enc Pr:=⟨4,fun p=>[iv p.kind,sv p.name,iv p.frm,iv p.to],fun _=>rfl,by omega,fun a b h=>by
 obtain⟨_,_,_,_⟩:=a;obtain⟨_,_,_,_⟩:=b;injection h with h1 h;injection h with h2 h;injection h with h3 h;injection h with h4 _;injection h1 with h1;injection h1 with _ h1;injection h2 with h2;injection h2 with h2;injection h3 with h3;injection h3 with _ h3;injection h4 with h4;injection h4 with _ h4;simp only at h1 h2 h3 h4
 subst h1;subst h2;subst h3;subst h4;rfl⟩
def eDc:Enc Dc:=⟨5,fun d=>[iv d.p.kind,sv d.p.name,iv d.p.frm,iv d.p.to,bv d.yes],fun _=>rfl,by omega,fun a b h=>by
 obtain⟨⟨_,_,_,_⟩,_⟩:=a;obtain⟨⟨_,_,_,_⟩,_⟩:=b;injection h with h1 h;injection h with h2 h;injection h with h3 h;injection h with h4 h;injection h with h5 _;injection h1 with h1;injection h1 with _ h1;injection h2 with h2;injection h2 with h2;injection h3 with h3;injection h3 with _ h3;injection h4 with h4;injection h4 with _ h4;injection h5 with h5;injection h5 with h5;simp only at h1 h2 h3 h4 h5
 subst h1;subst h2;subst h3;subst h4;subst h5;rfl⟩
structure DC where
 d:Dv
 cs:List T
 ok:IsD d cs
theorem DC.ext {a b:DC} (h:a.cs=b.cs):a=b:=by
 obtain⟨d,cs,ok⟩:=a;obtain⟨d',cs',ok'⟩:=b;simp only at h;subst h;obtain rfl:=IsD.uniq d d' cs ok ok';rfl
def eDC:Enc DC:=⟨5,DC.cs,fun a=>a.ok.len,by omega,fun _ _ h=>DC.ext h⟩
def IsIt (x:It) (cs:List T):Prop:=∃tw td g,cs=[sv x.id,tw,iv x.state,td]++g/\IsS eStr tw x.words/\IsS eDc td x.decs/\IsD x.gold g
theorem IsIt.len {x:It} {cs:List T} (h:IsIt x cs):cs.length=9:=by
 obtain⟨tw,td,g,rfl,_,_,h3⟩:=h;simp[h3.len]
theorem IsIt.uniq {x y:It} {cs:List T} (h:IsIt x cs) (k:IsIt y cs):x=y:=by
 obtain⟨tw,td,g,rfl,h1,h2,h3⟩:=h;obtain⟨tw',td',g',e,k1,k2,k3⟩:=k;obtain⟨id,ws,st,ds,gd⟩:=x;obtain⟨id',ws',st',ds',gd'⟩:=y;simp only[List.cons_append,List.nil_append]at e;injection e with e1 e;injection e with e2 e;injection e with e3 e;injection e with e4 e;injection e1 with e1;injection e1 with e1;injection e3 with e3;injection e3 with _ e3;simp only at e1 e3 h1 h2 h3 k1 k2 k3;subst e1;subst e2;subst e3;subst e4;subst e;obtain rfl:=(tSl eStr).uniq tw ws ws' h1 k1;obtain rfl:=(tSl eDc).uniq td ds ds' h2 k2;obtain rfl:=IsD.uniq gd gd' g h3 k3;rfl
structure IC where
 x:It
 cs:List T
 ok:IsIt x cs
theorem IC.ext {a b:IC} (h:a.cs=b.cs):a=b:=by
 obtain⟨x,cs,ok⟩:=a;obtain⟨x',cs',ok'⟩:=b;simp only at h;subst h;obtain rfl:=ok.uniq ok';rfl
def eIC:Enc IC:=⟨9,IC.cs,fun a=>a.ok.len,by omega,fun _ _ h=>IC.ext h⟩
def encI (x:It):List T:=[sv x.id,A1a eStr x.words,iv x.state,A1a eDc x.decs]++encD x.gold
theorem F4l (x:It):IsIt x (encI x):=⟨_,_,_,rfl,IsS.tree _ _,IsS.tree _ _,IsD.enc _⟩
def IC.of (x:It):IC:=⟨x,encI x,F4l x⟩
def tIt:Ty IC:=⟨fun t c=>t = .ag c.cs,fun t a b h h'=>by rw[h]at h';injection h' with h';exact IC.ext h'⟩
end Go.Abs
namespace Go.Proofs.YtmplckgbeaifkaaGreatDoor
open Go Go.Abs
structure TC where
 ver:ByteArray
 items:List IC
def TC.tb (b:TC):Tb:=⟨b.ver,b.items.map IC.x⟩
def tTb:Ty TC:=⟨fun t b=>∃u,t = .ag [sv b.ver,u]/\IsS eIC u b.items,fun t a b ⟨u,e,h⟩ ⟨u',e',h'⟩=>by
 rw[e]at e';injection e' with e';injection e' with e1 e';injection e' with e2 _;injection e1 with e1;injection e1 with e1;subst e2;have:=(tSl eIC).uniq u _ _ h h';obtain⟨_,_⟩:=a;obtain⟨_,_⟩:=b;simp only at e1 this
 subst e1;subst this;rfl⟩
end Go.Proofs.YtmplckgbeaifkaaGreatDoor
