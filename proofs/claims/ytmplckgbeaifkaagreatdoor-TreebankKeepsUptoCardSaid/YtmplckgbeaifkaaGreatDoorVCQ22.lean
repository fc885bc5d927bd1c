/- Auxiliary facts. -/
import Derived.Test.YtmplckgbeaifkaaGreatDoorVCQ21
set_option linter.unusedSimpArgs false
set_option linter.unusedVariables false
namespace Go.Proofs.YtmplckgbeaifkaaGreatDoor
open Go Go.Abs
theorem A4z {x y:It}:∀{l:List It},A7g l->(y∈putI x l ↔ y=x\/(y∈l/\y.id≠x.id))
 | [],_=>by simp[putI]
 | z::r,h=>by
  obtain⟨h1,h2⟩:=h.tail;rw[putI];split
  ·rename_i hz;rw[List.mem_cons,A4z h1,List.mem_cons];constructor
   ·rintro(rfl | h | ⟨h,k⟩)
    ·exact .inr ⟨.inl rfl,B9v hz⟩
    ·exact .inl h
    ·exact .inr ⟨.inr h,k⟩
   ·rintro(h | ⟨h | h,k⟩)
    ·exact .inr (.inl h)
    ·exact .inl h
    ·exact .inr (.inr ⟨h,k⟩)
  ·split
   ·rename_i hz;have e:=A4v.1 hz;rw[List.mem_cons,List.mem_cons];constructor
    ·rintro(h | h)
     ·exact .inl h
     ·refine .inr ⟨.inr h,?_⟩;rw[<-e];exact(B9v (h2 y h)).symm
    ·rintro(h | ⟨rfl | h,k⟩)
     ·exact .inl h
     ·exact absurd e k
     ·exact .inr h
   ·rename_i h3 h4
    have hx:cmpS x.id z.id<0:=by have:=A5d.anti x.id z.id;omega
    rw[List.mem_cons];constructor
    ·rintro(h | h)
     ·exact .inl h
     ·refine .inr ⟨h,?_⟩;rcases List.mem_cons.1 h with rfl | h
      ·exact(B9v hx).symm
      ·exact(B9v (A5d.trans _ _ _ hx (h2 y h))).symm
    ·rintro(h | ⟨h,_⟩)
     ·exact .inl h
     ·exact .inr h
theorem A3e {x:It}:∀{l:List It},A7g l->A7g (putI x l)
 | [],_=>List.pairwise_singleton _ _
 | z::r,h=>by
  obtain⟨h1,h2⟩:=h.tail;rw[putI];split
  ·rename_i hz;refine List.pairwise_cons.2 ⟨fun y hy=>?_,A3e h1⟩;rcases (A4z h1).1 hy with rfl | ⟨hy,_⟩
   ·exact hz
   ·exact h2 y hy
  ·split
   ·rename_i hz;refine List.pairwise_cons.2 ⟨fun y hy=>?_,h1⟩;rw[<-A4v.1 hz];exact h2 y hy
   ·rename_i h3 h4
    have hx:cmpS x.id z.id<0:=by have:=A5d.anti x.id z.id;omega
    refine List.pairwise_cons.2 ⟨fun y hy=>?_,h⟩;rcases List.mem_cons.1 hy with rfl | hy
    ·exact hx
    ·exact A5d.trans _ _ _ hx (h2 y hy)
theorem B3y:∀{l m:List It},A7g l->A7g m->(∀x,x∈l ↔ x∈m)->l=m
 | [],[],_,_,_=>rfl
 | [],b::m,_,_,h=>absurd ((h b).2 (by simp)) (by simp)
 | a::l,[],_,_,h=>absurd ((h a).1 (by simp)) (by simp)
 | a::l,b::m,hl,hm,h=>by
  obtain⟨h2,h1⟩:=hl.tail;obtain⟨h4,h3⟩:=hm.tail
  have irr:∀x:ByteArray,¬cmpS x x<0:=fun x=>by rw[A5d.refl];omega
  have e:a=b:=by
   rcases List.mem_cons.1 ((h a).1 (by simp))with e | e
   ·exact e
   ·rcases List.mem_cons.1 ((h b).2 (by simp))with e2 | e2
    ·exact e2.symm
    ·exact absurd (A5d.trans _ _ _ (h1 b e2) (h3 a e)) (irr _)
  subst e;rw[B3y h2 h4 fun x=>?_];constructor
  ·intro hx;rcases List.mem_cons.1 ((h x).1 (by simp[hx]))with e | e
   ·subst e;exact absurd (h1 _ hx) (irr _)
   ·exact e
  ·intro hx;rcases List.mem_cons.1 ((h x).2 (by simp[hx]))with e | e
   ·subst e;exact absurd (h3 _ hx) (irr _)
   ·exact e
theorem B8q {b c:Tb} {x:It} (hb:chkT b=0) (h:putT b x = .ok c):c=⟨b.ver,putI x b.items⟩/\chkT c=0/\A0y false x.id=true/\chkR x=0:=by
 obtain⟨h1,h2,h3,h4⟩:=A6t.1 hb;unfold putT at h;split at h
 ·cases h
 rename_i k1;split at h
 ·cases h
 rename_i k2;split at h
 ·cases h
 rename_i k3;cases h
 have k1:A0y false x.id=true:=by simpa using k1
 have k2:chkR x=0:=by simpa using k2
 refine⟨rfl,A6t.2 ⟨h1,by show(putI x b.items).length<=256;omega,fun y hy=>?_,A3e h4⟩,k1,k2⟩;rcases (A4z h4).1 hy with rfl | ⟨hy,_⟩
 ·exact⟨k1,k2⟩
 ·exact h3 y hy
end Go.Proofs.YtmplckgbeaifkaaGreatDoor
