/-
 Auxiliary facts. No statement of the program stands here.
-/
import Derived.Test.YtbiadmfmjnoecaaRows
namespace Go.Proofs.Ytbiadmfmjnoecaa
set_option linter.unusedSimpArgs false
set_option linter.unusedVariables false
def val (B:Nat):List Nat->Nat
 | []=>0
 | d::ds=>d+B*val B ds
def digs (B:Nat):Nat->Nat->List Nat
 | 0,_=>[]
 | n+1,x=>x%B::digs B n (x / B)
def A2x:List Nat->List Nat
 | a::b::r=>(a+b)::A2x r
 | _=>[]
def C2o:List Nat->List Nat
 | a::_::r=>a::C2o r
 | _=>[]
def odds:List Nat->List Nat
 | _::b::r=>b::odds r
 | _=>[]
def adj:List Nat->List Nat
 | a::b::r=>(a+b)::adj (b::r)
 | [a]=>[a]
 | []=>[]
theorem B8d (B:Nat):∀n x,(digs B n x).length=n
 | 0,_=>rfl
 | n+1,x=>by simp[digs,B8d B n]
theorem E6s (B:Nat) (hB:0<B):∀n x,x<B^n->val B (digs B n x)=x
 | 0,x,h=>by simp at h;simp[digs,val,h]
 | n+1,x,h=>by
  have:x / B<B^n:=by rw[Nat.div_lt_iff_lt_mul hB];rwa[Nat.pow_succ]at h
  simp only[digs,val,E6s B hB n _ this]
  exact Nat.mod_add_div x B
theorem E2v (B:Nat) (hB:0<B):∀n x,∀d∈digs B n x,d<=B-1
 | 0,_,d,hd=>by simp[digs]at hd
 | n+1,x,d,hd=>by
  simp only[digs,List.mem_cons]at hd
  rcases hd with rfl | hd
  ·have:=Nat.mod_lt x hB;omega
  ·exact E2v B hB n _ d hd
theorem G7j (j a b x y:Nat) (ha:a<2^j) (hb:b<2^j):(a+2^j*x)&&&(b+2^j*y)=(a&&&b)+2^j*(x&&&y):=by
 apply Nat.eq_of_testBit_eq
 intro i
 have hab:a&&&b<2^j:=Nat.lt_of_le_of_lt Nat.and_le_left ha
 rw[Nat.testBit_and,Nat.add_comm a,Nat.add_comm b,Nat.add_comm (a&&&b),Nat.testBit_two_pow_mul_add _ ha,Nat.testBit_two_pow_mul_add _ hb,Nat.testBit_two_pow_mul_add _ hab]
 split
 ·rw[Nat.testBit_and]
 ·rw[Nat.testBit_and]
theorem F5u (k a b x y:Nat) (ha:a<2^k) (hb:b<2^k):(a+2^k*(b+2^k*x))&&&((2^k-1)+2^k*2^k*y)=a+2^k*2^k*(x&&&y):=by
 have hp:0<2^k:=Nat.two_pow_pos k
 have e:2^k*2^k=2^(k+k):=(Nat.pow_add 2 k k).symm
 have h1:a+2^k*b<2^(k+k):=by
  rw[<-e]
  have:2^k*b+2^k<=2^k*2^k:=by rw[<-Nat.mul_succ];exact Nat.mul_le_mul_left _ hb
  omega
 have h2:2^k-1<2^(k+k):=by
  rw[<-e]
  have:2^k*1<=2^k*2^k:=Nat.mul_le_mul_left _ hp
  omega
 have h3:a+2^k*(b+2^k*x)=(a+2^k*b)+2^(k+k)*x:=by rw[<-e,Nat.mul_add,Nat.mul_assoc,Nat.add_assoc]
 rw[h3,e,G7j _ _ _ _ _ h1 h2,Nat.and_two_pow_sub_one_eq_mod,Nat.add_mul_mod_self_left,Nat.mod_eq_of_lt ha]
def mask (k n:Nat):Nat:=val (2^k*2^k) (List.replicate n (2^k-1))
theorem B4a (k:Nat):∀(n:Nat) (ds:List Nat),ds.length=2*n->(∀d∈ds,d<=2^k-1)->val (2^k) ds&&&mask k n=val (2^k*2^k) (C2o ds)
 | 0,ds,hl,_=>by
  have:ds=[]:=List.eq_nil_of_length_eq_zero (by omega)
  subst this
  simp[val,mask,C2o]
 | n+1,[],hl,_=>by simp at hl
 | n+1,[a],hl,_=>by simp at hl;omega
 | n+1,a::b::r,hl,h=>by
  have hp:0<2^k:=Nat.two_pow_pos k
  have ha:=h a (by simp)
  have hb:=h b (by simp)
  have ih:=B4a k n r (by simp at hl;omega) (fun d hd=>h d (by simp[hd]))
  simp only[mask]at ih
  simp only[val,mask,C2o,List.replicate_succ]
  rw[F5u k a b _ _ (by omega) (by omega),ih]
theorem D4x (B:Nat) (hB:0<B) (d:Nat) (ds:List Nat) (h:d<=B-1):val B (d::ds) / B=val B ds:=by
 simp only[val]
 rw[Nat.add_mul_div_left _ _ hB,Nat.div_eq_of_lt (by omega)]
 omega
theorem D2p:∀(n:Nat) (ds:List Nat),ds.length=2*n->C2o (ds.tail++[0])=odds ds
 | 0,ds,hl=>by
  have:ds=[]:=List.eq_nil_of_length_eq_zero (by omega)
  subst this;rfl
 | n+1,[],hl=>by simp at hl
 | n+1,[a],hl=>by simp at hl;omega
 | n+1,a::b::[],hl=>rfl
 | n+1,a::b::c::r,hl=>by
  have ih:=D2p n (c::r) (by simp at hl ⊢;omega)
  simp only[List.tail_cons,List.cons_append,C2o,odds]at ih ⊢
  rw[ih]
theorem B4b (B:Nat):∀ds,val B (ds++[0])=val B ds
 | []=>by simp[val]
 | d::ds=>by simp[val,B4b B ds]
theorem E6t (k n:Nat) (ds:List Nat) (hl:ds.length=2*n) (h:∀d∈ds,d<=2^k-1):val (2^k) ds / 2^k&&&mask k n=val (2^k*2^k) (odds ds):=by
 cases ds with
 | nil=>simp[val,odds]
 | cons d r=>
  rw[D4x _ (Nat.two_pow_pos k) _ _ (h d (by simp)),<-B4b]
  have:=D2p n (d::r) hl
  simp only[List.tail_cons]at this
  rw[B4a k n (r++[0]) (by simp at hl ⊢;omega) (fun x hx=>by
   simp at hx
   rcases hx with hx | rfl
   ·exact h x (by simp[hx])
   ·omega),this]
theorem C7k (B:Nat):∀(ds:List Nat),val B (odds ds)+val B (C2o ds)=val B (A2x ds)
 | []=>by simp[val,odds,C2o,A2x]
 | [a]=>by simp[val,odds,C2o,A2x]
 | a::b::r=>by
  simp only[val,odds,C2o,A2x]
  rw[<-C7k B r,Nat.mul_add]
  omega
theorem C0i:∀(n:Nat) (ds:List Nat),ds.length=2*n->(A2x ds).sum=ds.sum
 | 0,ds,hl=>by
  have:ds=[]:=List.eq_nil_of_length_eq_zero (by omega)
  subst this;rfl
 | n+1,[],hl=>by simp at hl
 | n+1,[a],hl=>by simp at hl;omega
 | n+1,a::b::r,hl=>by
  simp only[A2x,List.sum_cons,C0i n r (by simp at hl;omega)]
  omega
theorem A9r:∀(n:Nat) (ds:List Nat),ds.length=2*n->(A2x ds).length=n
 | 0,ds,hl=>by
  have:ds=[]:=List.eq_nil_of_length_eq_zero (by omega)
  subst this;rfl
 | n+1,[],hl=>by simp at hl
 | n+1,[a],hl=>by simp at hl;omega
 | n+1,a::b::r,hl=>by simp only[A2x,List.length_cons,A9r n r (by simp at hl;omega)]
theorem C5p (c:Nat):∀(ds:List Nat),(∀d∈ds,d<=c)->∀d∈A2x ds,d<=2*c
 | [],_,d,hd=>by simp[A2x]at hd
 | [a],_,d,hd=>by simp[A2x]at hd
 | a::b::r,h,d,hd=>by
  simp only[A2x,List.mem_cons]at hd
  rcases hd with rfl | hd
  ·have:=h a (by simp);have:=h b (by simp);omega
  ·exact C5p c r (fun x hx=>h x (by simp[hx])) d hd
theorem D8y:∀(ds:List Nat) (n:Nat),ds.length=2*n->C2o (adj ds)=A2x ds
 | [],_,_=>rfl
 | [a],n,hl=>by simp at hl;omega
 | a::b::[],_,_=>by simp[adj,C2o,A2x]
 | a::b::c::r,n,hl=>by
  have ih:=D8y (c::r) (n-1) (by simp at hl ⊢;omega)
  cases r with
  | nil=>simp at hl;omega
  | cons d r=>
   simp only[adj,C2o,A2x]at ih ⊢
   rw[ih]
theorem C2p:∀(ds:List Nat),(adj ds).length=ds.length
 | []=>rfl
 | [a]=>rfl
 | a::b::r=>by simp[adj,C2p (b::r)]
theorem G5v (c:Nat):∀(ds:List Nat),(∀d∈ds,d<=c)->∀d∈adj ds,d<=2*c
 | [],_,d,hd=>by simp[adj]at hd
 | [a],h,d,hd=>by simp only[adj,List.mem_singleton]at hd;have:=h a (by simp);omega
 | a::b::r,h,d,hd=>by
  simp only[adj,List.mem_cons]at hd
  rcases hd with rfl | hd
  ·have:=h a (by simp);have:=h b (by simp);omega
  ·exact G5v c (b::r) (fun x hx=>h x (by simp[hx])) d hd
theorem F5v (B:Nat) (hB:0<B):∀(ds:List Nat),(∀d∈ds,d<=B-1)->val B ds / B+val B ds=val B (adj ds)
 | [],_=>by simp[val,adj]
 | [a],h=>by
  rw[D4x B hB a [] (h a (by simp))]
  simp[val,adj]
 | a::b::r,h=>by
  rw[D4x B hB a (b::r) (h a (by simp))]
  have ih:=F5v B hB (b::r) (fun d hd=>h d (by simp[hd]))
  rw[D4x B hB b r (h b (by simp))]at ih
  show _=(a+b)+B*val B (adj (b::r))
  rw[<-ih]
  simp only[val,Nat.mul_add]
  omega
theorem E6u (B:Nat) (hB:0<B):∀(ds:List Nat),(∀d∈ds,d<=B-1)->val B ds<B^ds.length
 | [],_=>by simp[val]
 | d::ds,h=>by
  have ih:=E6u B hB ds (fun x hx=>h x (by simp[hx]))
  have hd:=h d (by simp)
  simp only[val,List.length_cons,Nat.pow_succ]
  have:B*val B ds+B<=B^ds.length*B:=by rw[<-Nat.mul_succ,Nat.mul_comm _ B];exact Nat.mul_le_mul_left _ ih
  omega
def popc (x:Nat):Nat:=(digs 2 64 x).sum
theorem dv (a b r:Nat) (h:a<b):(a+b*r) / b=r:=by
 rw[Nat.add_mul_div_left _ _ (by omega),Nat.div_eq_of_lt h];omega
theorem ts_y (f0 f1 f2 r2 r3 x y:Nat) (hx:x=f0+256*(f1+256*r2)) (k2:r2=f2+256*r3) (hy:y=x+(f1+256*r2)):y=(f0+f1+256*(f1+f2))+65536*(r2+r3):=by omega
theorem ts_z (f0 f1 f2 f3 f4 f5 f6 f7 r2 r3 r4 r5 r6 y z:Nat) (ey:y=(f0+f1+256*(f1+f2))+65536*(r2+r3)) (k2:r2=f2+256*r3) (k3:r3=f3+256*r4) (k4:r4=f4+256*r5) (k5:r5=f5+256*r6) (k6:r6=f6+256*f7) (hz:z=y+(r2+r3)) :
  z=(f0+f1+f2+f3+256*(f1+f2+f3+f4)+65536*(f2+f3+f4+f5)+16777216*(f3+f4+f5+f6))+4294967296*(r4+r5+r6+f7):=by omega
theorem ts_w (f0 f1 f2 f3 f4 f5 f6 f7 r4 r5 r6 z w A:Nat) (ez:z=f0+f1+f2+f3+256*A) (k4:r4=f4+256*r5) (k5:r5=f5+256*r6) (k6:r6=f6+256*f7) (hw:w=z+(r4+r5+r6+f7)) :
  w=(f0+f1+f2+f3+f4+f5+f6+f7)+128*(2*(A+r5+r6+f7)):=by omega
theorem ts_e (s a b c d:Nat):s+256*a+65536*b+16777216*c+4294967296*d=s+256*(a+256*b+65536*c+16777216*d):=by omega
theorem ts_b (f r r' c:Nat) (h:r=f+256*r') (hf:f<=8) (hr:r'<=c):r<=8+256*c:=by omega
theorem ts_l (x y z w r a b c:Nat) (hx:x<=578721382704613384) (hy:y=x+a) (ha:a<=3000000000000000) (hz:z=y+b) (hb:b<=9000000000000) (hw:w=z+c) (hc:c<=200000000):x<4611686018427387904/\y<4611686018427387904/\z<4611686018427387904/\w<4611686018427387904:=by omega
theorem ts_2 (a b c d:Nat) (ha:a<=c) (hb:b<=d):a+b<=c+d:=by omega
theorem G2j (f0 f1 f2 f3 f4 f5 f6 f7:Nat) (h0:f0<=8) (h1:f1<=8) (h2:f2<=8) (h3:f3<=8) (h4:f4<=8) (h5:f5<=8) (h6:f6<=8) (h7:f7<=8) (x y z w:Nat)
  (hx:x=f0+256*(f1+256*(f2+256*(f3+256*(f4+256*(f5+256*(f6+256*f7)))))))
  (hy:y=x+x / 256) (hz:z=y+y / 65536) (hw:w=z+z / 4294967296):x<2^62/\y<2^62/\z<2^62/\w<2^62/\w%128=f0+f1+f2+f3+f4+f5+f6+f7:=by
 have q1:f0<256:=by clear hx hy hz hw;omega
 have q2:f0+f1+256*(f1+f2)<65536:=by clear hx hy hz hw;omega
 have q3:f0+f1+f2+f3+256*(f1+f2+f3+f4)+65536*(f2+f3+f4+f5)+16777216*(f3+f4+f5+f6)<4294967296:=by clear hx hy hz hw;omega
 have q4:f0+f1+f2+f3+f4+f5+f6+f7<128:=by clear hx hy hz hw;omega
 obtain⟨r6,k6⟩:∃r,r=f6+256*f7:=⟨_,rfl⟩
 rw[<-k6]at hx
 obtain⟨r5,k5⟩:∃r,r=f5+256*r6:=⟨_,rfl⟩
 rw[<-k5]at hx
 obtain⟨r4,k4⟩:∃r,r=f4+256*r5:=⟨_,rfl⟩
 rw[<-k4]at hx
 obtain⟨r3,k3⟩:∃r,r=f3+256*r4:=⟨_,rfl⟩
 rw[<-k3]at hx
 obtain⟨r2,k2⟩:∃r,r=f2+256*r3:=⟨_,rfl⟩
 rw[<-k2]at hx
 have dx:x / 256=f1+256*r2:=by rw[hx];exact dv _ _ _ q1
 rw[dx]at hy
 have ey:=ts_y f0 f1 f2 r2 r3 x y hx k2 hy
 have dy:y / 65536=r2+r3:=by rw[ey];exact dv _ _ _ q2
 rw[dy]at hz
 have ez:=ts_z f0 f1 f2 f3 f4 f5 f6 f7 r2 r3 r4 r5 r6 y z ey k2 k3 k4 k5 k6 hz
 have dz:z / 4294967296=r4+r5+r6+f7:=by rw[ez];exact dv _ _ _ q3
 rw[dz]at hw
 have ew:=ts_w f0 f1 f2 f3 f4 f5 f6 f7 r4 r5 r6 z w ((f1+f2+f3+f4)+256*(f2+f3+f4+f5)+65536*(f3+f4+f5+f6)+16777216*(r4+r5+r6+f7)) (by rw[ez];exact ts_e _ _ _ _ _) k4 k5 k6 hw
 clear dx dy dz ey ez
 have b6:=ts_b f6 r6 f7 8 k6 h6 h7
 have b5:=ts_b f5 r5 r6 _ k5 h5 b6
 have b4:=ts_b f4 r4 r5 _ k4 h4 b5
 have b3:=ts_b f3 r3 r4 _ k3 h3 b4
 have b2:=ts_b f2 r2 r3 _ k2 h2 b3
 have b1:=ts_b f1 (f1+256*r2) r2 _ rfl h1 b2
 have b0:=ts_b f0 x (f1+256*r2) _ hx h0 b1
 have p62:2^62=4611686018427387904:=by decide
 rw[p62]
 have l:=ts_l x y z w 0 _ _ _ (Nat.le_trans b0 (by decide)) hy (Nat.le_trans b1 (by decide)) hz (Nat.le_trans (ts_2 _ _ _ _ b2 b3) (by decide)) hw (Nat.le_trans (ts_2 _ _ _ _ (ts_2 _ _ _ _ (ts_2 _ _ _ _ b4 b5) b6) h7) (by decide))
 refine⟨l.1,l.2.1,l.2.2.1,l.2.2.2,?_⟩
 rw[ew,Nat.add_mul_mod_self_left,Nat.mod_eq_of_lt q4]
theorem eight {l:List Nat} (h:l.length=8):∃a b c d e f g i,l=[a,b,c,d,e,f,g,i]:=by
 match l,h with
 | [a,b,c,d,e,f,g,i],_=>exact⟨a,b,c,d,e,f,g,i,rfl⟩
theorem swar (x y1 y2 y3 y4 y5 y6:Nat) (hx:x<2^64) (h1:y1=(x / 2&&&6148914691236517205)+(x&&&6148914691236517205)) (h2:y2=(y1 / 4&&&3689348814741910323)+(y1&&&3689348814741910323))
  (h3:y3=(y2 / 16+y2)&&&1085102592571150095) (h4:y4=y3+y3 / 256) (h5:y5=y4+y4 / 65536) (h6:y6=y5+y5 / 4294967296) :
  y1<2^64/\y2<2^64/\y2 / 16+y2<2^64/\y4<2^62/\y5<2^62/\y6<2^62/\y6%128=popc x/\popc x<=64:=by
 obtain⟨b,hb⟩:∃b,b=digs 2 64 x:=⟨_,rfl⟩
 have hl:b.length=2*32:=by rw[hb,B8d]
 have hd:∀d∈b,d<=2^1-1:=by rw[hb];exact E2v 2 (by decide) 64 x
 have vx:val (2^1) b=x:=by rw[hb];exact E6s 2 (by decide) 64 x hx
 have m0:mask 1 32=6148914691236517205:=by decide +kernel
 have m1:mask 2 16=3689348814741910323:=by decide +kernel
 have m2:mask 4 8=1085102592571150095:=by decide +kernel
 have e1:=B4a 1 32 b hl hd
 have o1:=E6t 1 32 b hl hd
 rw[vx,m0]at e1 o1
 have v1:y1=val (2^2) (A2x b):=by
  rw[h1,show x / 2=x / 2^1 from rfl,e1,o1,C7k]
 have l1:=A9r 32 b hl
 have d1:∀d∈A2x b,d<=2:=C5p 1 b hd
 have e2:=B4a 2 16 (A2x b) l1 (fun d h=>Nat.le_trans (d1 d h) (by decide))
 have o2:=E6t 2 16 (A2x b) l1 (fun d h=>Nat.le_trans (d1 d h) (by decide))
 rw[<-v1,m1]at e2 o2
 have v2:y2=val (2^4) (A2x (A2x b)):=by
  rw[h2,show y1 / 4=y1 / 2^2 from rfl,e2,o2,C7k]
 have l2:=A9r 16 (A2x b) l1
 have d2:∀d∈A2x (A2x b),d<=4:=C5p 2 _ d1
 have a2:=F5v (2^4) (by decide) (A2x (A2x b)) (fun d h=>Nat.le_trans (d2 d h) (by decide))
 rw[<-v2]at a2
 have da:∀d∈adj (A2x (A2x b)),d<=8:=G5v 4 _ d2
 have e3:=B4a 4 8 (adj (A2x (A2x b))) (by rw[C2p,l2]) (fun d h=>Nat.le_trans (da d h) (by decide))
 rw[<-a2,m2,D8y _ 8 l2]at e3
 have v3:y3=val (2^8) (A2x (A2x (A2x b))):=by rw[h3];exact e3
 have l3:=A9r 8 (A2x (A2x b)) l2
 have d3:∀d∈A2x (A2x (A2x b)),d<=8:=C5p 4 _ d2
 have s3:(A2x (A2x (A2x b))).sum=popc x:=by
  rw[C0i 8 _ l2,C0i 16 _ l1,C0i 32 _ hl,hb];rfl
 have lt1:=E6u (2^2) (by decide) (A2x b) (fun d h=>Nat.le_trans (d1 d h) (by decide))
 have lt2:=E6u (2^4) (by decide) (A2x (A2x b)) (fun d h=>Nat.le_trans (d2 d h) (by decide))
 have lta:=E6u (2^4) (by decide) (adj (A2x (A2x b))) (fun d h=>Nat.le_trans (da d h) (by decide))
 rw[l1,<-v1]at lt1
 rw[l2,<-v2]at lt2
 rw[C2p,l2,<-a2]at lta
 obtain⟨f0,f1,f2,f3,f4,f5,f6,f7,hf⟩:=eight l3
 rw[hf]at v3 d3 s3
 have q:=fun d h=>d3 d h
 simp only[List.mem_cons,List.not_mem_nil,or_false,forall_eq_or_imp,forall_eq]at q
 simp only[List.sum_cons,List.sum_nil]at s3
 obtain⟨q0,q1,q2,q3,q4,q5,q6,q7⟩:=q
 have t:=G2j f0 f1 f2 f3 f4 f5 f6 f7 q0 q1 q2 q3 q4 q5 q6 q7 y3 y4 y5 y6 (by rw[v3];simp[val]) h4 h5 h6
 obtain⟨t0,t1,t2,t3,t4⟩:=t
 refine⟨lt1,lt2,lta,t1,t2,t3,by omega,by omega⟩
end Go.Proofs.Ytbiadmfmjnoecaa
