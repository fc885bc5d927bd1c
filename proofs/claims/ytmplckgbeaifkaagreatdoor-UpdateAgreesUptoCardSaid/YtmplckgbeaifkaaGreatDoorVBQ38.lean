/-
 Auxiliary facts. No statement of the program stands here.
-/
import Derived.Test.YtmplckgbeaifkaaGreatDoorVBQ37
import Derived.Test.YtmplckgbeaifkaaGreatDoorVBQ26
import Derived.Test.YtmplckgbeaifkaaGreatDoorVBQ15
import Derived.Test.YtmplckgbeaifkaaGreatDoorVBQ39
import Derived.Test.YtmplckgbeaifkaaGreatDoorVBQ40
import Derived.Test.YtmplckgbeaifkaaGreatDoorVBQ47
namespace Go.Proofs.YtmplckgbeaifkaaGreatDoor
set_option linter.unusedSimpArgs false
set_option linter.unusedVariables false
open Go Go.Abs
variable {q : Gl}
noncomputable def F2z:List T->Option T:=g2 tD (tAg ePr) fun d p=>if nodD d<=10000 then some (bv (holds d p))else none
theorem F8s:GOK Tryz.prog (G q) 34 F2z:=A4e fun a b d p r ha hb hr=>by
 obtain rfl:b = .ag (ePr.enc p):=hb;split at hr
 ·rename_i hn;injection hr with hr;subst hr;obtain⟨c,rfl,hc⟩:=ha
  cases d with
  | mk k nm f tt ks=>
  have eP:=E6j hc hn;have hl:=C6i (.mk k nm f tt ks);have eH:=E6k p (C0z (.mk k nm f tt ks)) (C8o _) (by omega);obtain⟨tk,rfl,hk⟩:=hc.parts;have cd:=A3o k nm f tt tk;have cp:=A5f p;have ld:A0g true 5 [(1,pRow p),(0,.cells 26 [.t (iv k),.t (sv nm),.t (iv f),.t (iv tt),.t tk])] (.ptr 0 0)=some (.t (.ag [iv k,sv nm,iv f,iv tt,tk])):=rfl;have lp:A0g true 4 [(1,pRow p),(0,.cells 26 [.t (iv k),.t (sv nm),.t (iv f),.t (iv tt),.t tk])] (.ptr 1 0)=some (.t (.ag (ePr.enc p))):=rfl;refine C9m.runs ((A0y.cons (hPrp (q:=q)) (.cons (hHas (q:=q)) .nil)).ctx mixed) rfl ?_;simp -implicitDefEqProofs [B7f,cd,cp,ld,lp,eP,eH,holds]
 ·cases hr
theorem E6p {c:List T} {d:Dv} (p:Pr) (h:Abs.IsD d c) (hn:nodD d<=10000):F2z [.ag c,.ag (ePr.enc p)]=some (bv (holds d p)):=by
 show g2 _ _ _ _=_;rw[A4u (τ:=tD) (σ:=tAg ePr) (x:=d) ⟨c,rfl,h⟩ rfl,if_pos hn]
def A7s:A0i:=(jO [jM 2 (.box 28) [jT 0],jM 4 .mv [jF]] (.seq (jO [jM 12 (.load true 9) [jT 2],jM 13 (.call 16) [jT 12],jM 14 (.un .not) [jT 13],jV 15 14,jX 16 1 15 false,jG 17 (.call 17) [jT 16] 15 false,jG 18 (.un .not) [jT 17] 15 false,jM 19 .pick [jT 15,jW,jT 18],jV 20 19,jX 21 1 20 false,jG 22 (.call 28) [jT 21] 20 false,jG 23 (.un .not) [jT 22] 20 false,jM 24 .pick [jT 20,jW,jT 23]] (.cond (jT 24) (jO [jM 25 (.call 18) [],jV 4 25] .ret) .skip)) (jO [jM 27 (.load true 9) [jT 2],jV 28 1,jM 29 (.call 19) [jT 27,jT 28],jV 26 29,jM 30 (.ext 0) [jT 26],jM 31 (.ext 1) [jT 26],jM 32 (.ext 2) [jT 26],jM 5 (.alloc 28 [(.string ⟨#[]⟩),(.slice none 0 0),(.int .i64 0),(.slice none 0 0),(.int .i64 0),(.string ⟨#[]⟩),(.int .i64 0),(.int .i64 0),(.slice none 0 0)]) [],⟨none,.store 9,[jT 5,jT 30],none⟩,jV 6 31,jV 7 32] (.seq (jO [jV 33 7,jM 34 (jB .neq) [jT 33,(jI 0)],jV 35 34,jX 36 6 35 false,jG 37 (jB .lss) [jT 36,(jI 0)] 35 false,jM 38 .pick [jT 35,jW,jT 37],jV 39 38,jG 40 (.faddr 3) [jT 5] 39 false,jG 41 jL [jT 40] 39 false,jG 42 .lensl [jT 41] 39 false,jX 43 6 39 false,jG 44 (jB .add) [jT 42,jT 43] 39 false,jG 45 (.faddr 3) [jT 2] 39 false,jG 46 jL [jT 45] 39 false,jG 47 .lensl [jT 46] 39 false,jG 48 (jB .neq) [jT 44,jT 47] 39 false,jM 49 .pick [jT 39,jW,jT 48],jV 50 49,jG 51 (.faddr 0) [jT 5] 50 false,jG 52 jL [jT 51] 50 false,jG 53 (.faddr 0) [jT 2] 50 false,jG 54 jL [jT 53] 50 false,jG 55 (jB .neq) [jT 52,jT 54] 50 false,jM 56 .pick [jT 50,jW,jT 55]] (.cond (jT 56) (jO [jM 4 .mv [jF]] .ret) .skip)) (.seq (jO [jM 57 (.faddr 2) [jT 5],jM 58 jL [jT 57],jM 59 (jB .eql) [jT 58,(jI 1)]] (.cond (jT 59) (.seq (jO [jV 60 1,jM 61 (.faddr 4) [jT 5],jM 62 (.load true 5) [jT 61],jM 63 (.call 33) [jT 60,jT 62],jM 64 (.un .not) [jT 63],jV 65 64,jG 66 (.faddr 2) [jT 2] 65 false,jG 67 jL [jT 66] 65 false,jG 68 (jB .neq) [jT 67,(jI 1)] 65 false,jM 69 .pick [jT 65,jW,jT 68]] (.cond (jT 69) (jO [jM 4 .mv [jF]] .ret) .skip)) (jO [jM 8 .mv [jI 0]] (.block 0 (.loop (.seq (jO [jV 70 8,jM 71 (.faddr 3) [jT 5],jM 72 jL [jT 71],jM 73 .lensl [jT 72],jM 74 (jB .lss) [jT 70,jT 73]] (.cond (jT 74) .skip (.exit 0))) (.seq (.block 1 (.seq (.draw [jM 77 (.faddr 4) [jT 5],jM 78 (.load true 5) [jT 77],jM 79 (.faddr 3) [jT 5],jM 80 jL [jT 79],jV 81 8,jM 82 (.iaddr 5) [jT 80,jT 81],jM 83 (.faddr 0) [jT 82],jM 84 (.load true 4) [jT 83],jM 85 (.call 34) [jT 78,jT 84],jM 86 (.faddr 3) [jT 5],jM 87 jL [jT 86],jV 88 8,jM 89 (.iaddr 5) [jT 87,jT 88],jM 90 (.faddr 4) [jT 89],jM 91 jL [jT 90],jM 92 (.bin true .neq none) [jT 85,jT 91]]) (.cond (jT 92) (jO [jM 4 .mv [jF]] .ret) .skip))) (.ops [jV 75 8,jM 76 (jB .add) [jT 75,(jI 1)],jV 8 76]))))))) .skip)) (.seq (jO [jV 93 1,jM 94 .lensl [jT 93],jM 95 (jB .gtr) [jT 94,(jI 0)],jV 96 95,jX 97 1 96 true,jG 98 (.faddr 3) [jT 5] 96 true,jG 99 jL [jT 98] 96 true,jG 100 (.call 30) [jT 97,jT 99] 96 true,jG 101 .lensl [jT 100] 96 true,jG 102 (jB .eql) [jT 101,(jI 0)] 96 true,jM 103 .pick [jT 96,jT 102,jF]] (.cond (jT 103) (jO [jM 4 .mv [jF]] .ret) .skip)) (.seq (jO [jM 104 (.load true 9) [jT 5],jM 105 (.call 16) [jT 104],jM 106 (.un .not) [jT 105]] (.cond (jT 106) (jO [jM 107 (.call 18) [],jV 4 107] .ret) .skip)) (jO [jM 109 (.load true 9) [jT 5],jV 110 1,jM 111 (.call 19) [jT 109,jT 110],jV 108 111,jM 112 (.ext 0) [jT 108],jM 113 (.ext 1) [jT 108],jM 114 (.ext 2) [jT 108],jM 9 (.alloc 28 [(.string ⟨#[]⟩),(.slice none 0 0),(.int .i64 0),(.slice none 0 0),(.int .i64 0),(.string ⟨#[]⟩),(.int .i64 0),(.int .i64 0),(.slice none 0 0)]) [],⟨none,.store 9,[jT 9,jT 112],none⟩,jV 10 113,jV 11 114] (jO [jV 115 11,jM 116 (jB .eql) [jT 115,(jI 0)],jV 117 116,jX 118 10 117 true,jG 119 (jB .eql) [jT 118,(jI 0)] 117 true,jM 120 .pick [jT 117,jT 119,jF],jV 121 120,jG 122 (.load true 9) [jT 5] 121 true,jG 123 (.load true 9) [jT 9] 121 true,jG 124 (.call 21) [jT 122,jT 123] 121 true,jM 125 .pick [jT 121,jT 124,jF],jV 126 125,jG 127 (.call 18) [] 126 true,jM 128 .pick [jT 126,jT 127,jF],jV 4 128] .ret)))))))))
theorem B4w {q:Gl}:FnOK Tryz.prog (G q) 7 2 129 A7s [(.tmp 4)]:=⟨Tryz.f7,Tryz.func7,by kernel_rfl,by kernel_rfl,by kernel_rfl,by kernel_rfl⟩
def SHd (X:Row) (t:T) (j:Nat):A0b:=⟨[(5,.t (iv (j:Int))),(3,.ptr 0 0),(0,.t t)],[(0,X)],1,19⟩
open Classical in
theorem E0o {t:T} {l:List Dv} {c:List T} {d:Dv} (ht:IsK t l) (hs:SmK l) (hc:Abs.IsD d c) (hd:nodD d<=1000000):A0w Tryz.prog (G q) 33 [t,.ag c] (· = bv (decide (d∈l))):=by
 have C:Ctx Tryz.prog (G q) _:=(A0y.cons (D2w (q:=q)) .nil).ctx mixed;have l1:=ht.len;have hl:=hs.len
 cases d with
 | mk k nm f tt ks=>
 have hc0:=hc;obtain⟨tk,rfl,hk⟩:=hc.parts;have cd:=A3o k nm f tt tk;refine E3o.call rfl ?_;unfold C9l
 obtain⟨R,hR⟩:∃R,R=decide (Dv.mk k nm f tt ks∈l):=⟨_,rfl⟩
 rw[<-hR];refine A0a C ?_;simp -implicitDefEqProofs [cd];refine A0o (α:=Unit) (fun _=>⟨[],[],1,19⟩) (fun _=>R=false) (fun _=>rfl) ?_ ?_
 ·refine A0a C ?_;simp -implicitDefEqProofs;refine A0f ?_;refine A0k (SHd (dRow k nm f tt tk) t) (fun j=>l.length-j) (fun j=>j<=l.length/\decide (Dv.mk k nm f tt ks∈l.drop j)=R) 0 (fun _=>rfl) ⟨Nat.zero_le _,hR.symm⟩ ?_ rfl ?_
  ·refine A0d ?_;simp -implicitDefEqProofs [SHd]
  rintro j ⟨hj,heq⟩;have ld0:∀R:Heap,A0g true 5 ((0,dRow k nm f tt tk)::R) (.ptr 0 0)=some (.t (.ag [iv k,sv nm,iv f,iv tt,tk])):=fun _=>rfl;refine A0c C ?_;by_cases hlt:j<l.length
  ·obtain⟨x,hx⟩:∃x,l[j]?=some x:=⟨_,List.getElem?_eq_getElem hlt⟩
   obtain⟨p1,c1,i1,ld1,hc1⟩:=A5d ht hx;have e1:IntKind.i64.wrap ((j:Int)+1)=((j+1:Nat):Int):=A0h (by omega) (by omega);have n1:=hs.kid (List.mem_of_getElem? hx);have eC:=A9r hc1 hc0 (by omega) hd;rw[List.drop_eq_getElem_cons hlt,(List.getElem?_eq_some_iff.1 hx).2]at heq;by_cases h0:cmpD x (.mk k nm f tt ks)=0
   ·have:R=true:=by rw[<-heq];simp[B0q.1 h0]
    simp -implicitDefEqProofs [SHd,l1,hlt,ld0,i1,ld1,eC,h0,this]
   ·have hne:x ≠ .mk k nm f tt ks:=fun e=>h0 (B0q.2 e)
    have:decide (Dv.mk k nm f tt ks∈l.drop (j+1))=R:=by
     rw[<-heq];simp[Ne.symm hne]
    have hb:(cmpD x (.mk k nm f tt ks)==0)=false:=by simpa using h0
    simp -implicitDefEqProofs [SHd,l1,hlt,ld0,i1,ld1,eC,hb,e1];exact Abs.Next.mk (j+1) ⟨⟨by omega,this⟩,by omega⟩ (A0d (by simp -implicitDefEqProofs [SHd]))
  ·rw[List.drop_of_length_le (by omega)]at heq;simp -implicitDefEqProofs [SHd,l1,hlt];exact Abs.Next.mk () (by simpa using heq.symm) (A0s rfl rfl (by simp -implicitDefEqProofs) (by simp -implicitDefEqProofs))
 ·rintro _ h0;refine A0c C ?_;simp -implicitDefEqProofs [h0]
open Classical in
noncomputable def E6q:List T->Option T:=g2 tK tD fun l d=>if SmK l/\nodD d<=1000000 then some (bv (decide (d∈l)))else none
theorem F8t:GOK Tryz.prog (G q) 33 E6q:=A4e fun a b x y r ha hb hr=>by
 split at hr
 ·rename_i h;injection hr with hr;subst hr;obtain⟨c,rfl,hc⟩:=hb;exact E0o ha h.1 hc h.2
 ·cases hr
open Classical in
theorem E6r {t:T} {l:List Dv} {c:List T} {d:Dv} (ht:IsK t l) (hs:SmK l) (hc:Abs.IsD d c) (hd:nodD d<=1000000):E6q [t,.ag c]=some (bv (decide (d∈l))):=by
 show g2 _ _ _ _=_;rw[A4u (τ:=tK) (σ:=tD) ht ⟨c,rfl,hc⟩,if_pos ⟨hs,hd⟩]
end Go.Proofs.YtmplckgbeaifkaaGreatDoor
