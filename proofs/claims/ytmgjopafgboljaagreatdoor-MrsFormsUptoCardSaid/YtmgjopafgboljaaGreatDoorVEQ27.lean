/- Auxiliary facts. -/
import Derived.Test.YtmgjopafgboljaaGreatDoorVEQ25
import Derived.Test.YtmgjopafgboljaaGreatDoorVEQ48
set_option linter.unusedSimpArgs false
set_option linter.unusedVariables false
namespace Go.Proofs.YtmgjopafgboljaaGreatDoor
open Go Go.Abs
variable {q : Gl}
theorem F5i:∀(n:Nat) (d:List UInt8),d.length=n->(∀c∈d,A1j c=true)->d.head?≠some 48->dd (decV 0 d)=d
 | 0,d,hn,_,_=>by
  have:d=[]:=List.eq_nil_of_length_eq_zero hn;subst this;rfl
 | n+1,d,hn,hd,hh=>by
  obtain⟨d',c,rfl⟩:∃d' c,d=d'++[c]:=by
   rcases List.eq_nil_or_concat d with h | ⟨d',c,h⟩
   ·rw[h]at hn;simp at hn
   ·exact⟨d',c,by simpa using h⟩
  have hc:=hd c (by simp);simp only[A1j,Bool.and_eq_true,decide_eq_true_eq]at hc
  have hl:d'.length=n:=by simpa using hn
  have hh':d'.head?≠some 48:=by
   cases d' with
   | nil=>simp
   | cons x r=>simpa using hh
  have ih:=F5i n d' hl (fun x hx=>hd x (by simp[hx])) hh';rw[D1t]
  obtain⟨v,hv⟩:∃v,v=decV 0 d':=⟨_,rfl⟩
  rw[<-hv]at ih ⊢
  have hpos:0<v*10+(c.toNat-48):=by
   cases d' with
   | nil=>
    have:c.toNat≠48:=by
     intro e;apply hh;have:c=48:=UInt8.toNat_inj.1 e;rw[this];rfl
    omega
   | cons x r=>
    by_cases h0:v=0
    ·rw[h0]at ih;cases ih
    ·omega
  rw[C7z _ hpos,show(v*10+(c.toNat-48)) / 10=v by omega,ih,show 48+(v*10+(c.toNat-48))%10=c.toNat by omega];congr 2;exact UInt8.toNat_inj.1 (by rw[UInt8.toNat_ofNat'];have:=c.toNat_lt;omega)
theorem D5v (l:List UInt8) (m:Int) (h:numS l=(m,0)):Lib.itoa m=l:=by
 rw[C1k]at h;split at h
 ·cases h
 ·rename_i hc;simp only[Bool.or_eq_true,not_or,Bool.not_eq_true,Bool.not_eq_eq_eq_not,Bool.not_true,Bool.not_false]at hc;obtain⟨⟨c1,c2⟩,c3⟩:=hc;have hall:∀c∈dOf l,A1j c=true:=List.all_eq_true.1 (by simpa using c2);by_cases h48:(dOf l).head?=some 48
  ·have hl:l=[48]:=by
    rw[h48]at c3;simpa using c3
   subst hl;have:numS [48]=(0,0):=rfl;rw[C1k]at this
   have e:m=0:=by
    split at h
    ·split at h
     ·rename_i h1 _;cases h1
     ·cases h
    ·split at h
     ·injection h with h _;exact h.symm
     ·cases h
   subst e;rw[C2d];rfl
  ·have hdd:=F5i _ (dOf l) rfl hall h48
   have hne:dOf l≠[]:=by intro e;rw[e]at c1;cases c1
   obtain⟨v,hv⟩:∃v,v=decV 0 (dOf l):=⟨_,rfl⟩
   rw[<-hv]at hdd h
   have hpos:v≠0:=by intro e;rw[e]at hdd;exact hne hdd.symm
   split at h
   ·rename_i h45;split at h
    ·injection h with h _;subst h;rw[C2d,if_neg (by omega),if_pos (by omega),show(-(v:Int)).natAbs=v by omega,hdd]
     cases l with
     | nil=>cases h45
     | cons x r=>
      have hx:x=45:=by simpa using h45
      subst hx;rfl
    ·cases h
   ·rename_i h45;split at h
    ·injection h with h _;subst h;rw[C2d,if_neg (by omega),if_neg (by omega),show(v:Int).natAbs=v by omega,hdd];unfold dOf;rw[if_neg h45]
    ·cases h
theorem F3o (w:Int->List UInt8) (g:Int->Int) (x:Ep):prtE (fun p=>w (g p)) x=prtE w (mapE g x):=by
 unfold prtE mapE;simp only[List.map_map];rfl
theorem F3p (w:Int->List UInt8) (g:Int->Int) (c:Qq):prtQ (fun p=>w (g p)) c=prtQ w (mapQ g c):=rfl
theorem F3q (w:Int->List UInt8) (g:Int->Int) (m:Mr) (vs:List ByteArray):prtW (fun p=>w (g p)) m=prtW w ⟨g m.top,g m.index,vs,m.rels.map (mapE g),m.cons.map (mapQ g)⟩:=by
 unfold prtW;simp only[List.map_map];have e1:prtE (fun p=>w (g p))=prtE w∘mapE g:=funext fun x=>F3o w g x;have e2:prtQ (fun p=>w (g p))=prtQ w∘mapQ g:=funext fun x=>F3p w g x;rw[e1,e2]
theorem G0z {l:List Vr} (h:ordV (l.map nmV)=true) (hg:∀v∈l,A7t v) {v:Vr} (hv:v∈l):inR (cntV (l.map nmV)) (nmV v):=
 ⟨E9g (hg v hv),of_decide_eq_true (List.all_eq_true.1 h _ (List.mem_map_of_mem hv))⟩
theorem F7n {s:List UInt8} {m:Mr} (h:parM s = .ok m):A3c A0h m=0/\prtM m=s:=by
 unfold parM at h;split at h
 ·cases h
 split at h
 ·cases h
 rename_i he
 have he:(A7r (s.length+1) ⟨s,0,[]⟩).1.e=0:=by simpa using he
 obtain⟨raw,seen,h1,h2,h3,h4,h5,h6⟩:=B6b (Nat.lt_succ_self _) he;rw[h1]at h;simp only at h;obtain⟨rfl,g2,g3,g4,g5⟩:=E8g h;refine⟨g2,?_⟩
 have hw:Wt (fun p=>wM (outM raw seen) (toV (seen.map nmV) p)) seen:=fun p v hp=>by
  have hv:=List.mem_of_getElem? hp
  have e:toV (seen.map nmV) (p:Int)=nmV v:=by
   unfold toV;rw[Int.toNat_natCast,List.getD_eq_getElem?_getD,List.getElem?_map,hp];rfl
  simp only[e];unfold wM vW
  have e2:vS (outM raw seen).vars (nmV v)=v.sort:=by
   show vS ((upN _).map (A3p seen)) (nmV v)=_;rw[D8m _ (G0z g4 h4 hv),D9c g3 hv]
  rw[e2,D5v _ _ (g5 v hv)]
 rw[h6 _ hw,F3q (wM (outM raw seen)) (toV (seen.map nmV)) raw (outM raw seen).vars];rfl
noncomputable def B3y:A0p:=cm Tryz.f8 29
theorem C3z {q:Gl}:FnOK Tryz.prog (G q) 8 1 29 B3y [(.tmp 2)]:=fk Tryz.func8 (by kernel_rfl) (by kernel_rfl)
end Go.Proofs.YtmgjopafgboljaaGreatDoor
