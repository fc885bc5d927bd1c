/-
 Auxiliary facts. No statement of the program stands here.
-/
import Derived.Test.YtbiadmfmjnoecaaVPQ14
import Derived.Test.YtbiadmfmjnoecaaVPQ21
import Derived.Test.YtbiadmfmjnoecaaVPQ15
import Derived.Test.YtbiadmfmjnoecaaVPQ30
namespace Go.Proofs.Ytbiadmfmjnoecaa
set_option linter.unusedSimpArgs false
set_option linter.unusedVariables false
open Go Go.Abs
def tabX:List (Nat×FnM):=[(128,⟨1,50,C2z,[(.tmp 2),(.tmp 3)]⟩),(118,⟨2,26,B9x,[(.tmp 4)]⟩),(20,⟨2,26,B5d,[(.tmp 4)]⟩),(141,⟨1,20,B9y,[(.tmp 2)]⟩),(89,⟨2,26,C3v,[(.tmp 4)]⟩),(70,⟨2,31,D4b,[(.tmp 4)]⟩),(88,⟨2,28,D1b,[(.tmp 4)]⟩),(111,⟨2,26,B6e,[(.tmp 4)]⟩),(131,⟨2,25,B2d,[(.tmp 4)]⟩),(71,⟨2,21,B0j,[(.tmp 4)]⟩),(81,⟨2,10,B2e,[(.tmp 4)]⟩),(130,⟨2,13,B6f,[(.tmp 4)]⟩),(72,⟨1,18,C1p,[(.tmp 2)]⟩),(133,⟨1,6,B6g,[(.tmp 2)]⟩),(95,⟨1,21,B0k,[(.tmp 2)]⟩),(117,⟨1,23,B2f,[(.tmp 2)]⟩),(116,⟨2,13,B4a,[(.tmp 4)]⟩),(94,⟨2,13,B0l,[(.tmp 4)]⟩),(96,⟨1,35,A8g,[(.tmp 2)]⟩),(45,⟨1,63,B0t,[(.cell 2 true 2),(.tmp 3)]⟩),(46,⟨0,21,B8q,[(.tmp 0)]⟩),(55,⟨3,20,A8w,[(.tmp 6)]⟩),(66,⟨3,60,C9q,[(.tmp 6)]⟩),(75,⟨1,63,B2n,[(.tmp 2),(.tmp 3)]⟩),(76,⟨1,92,B6o,[(.tmp 2),(.tmp 3)]⟩),(77,⟨2,62,B2o,[(.tmp 4)]⟩),(78,⟨1,51,A8x,[(.tmp 2),(.tmp 3)]⟩),(79,⟨3,39,C9r,[(.cell 6 true 3)]⟩),(90,⟨2,23,C9s,[(.tmp 4),(.tmp 5)]⟩),(97,⟨1,78,B6p,[(.tmp 2)]⟩),(98,⟨1,34,B6q,[(.tmp 2)]⟩),(99,⟨4,60,A7u,[(.tmp 8),(.tmp 9)]⟩),(100,⟨2,23,C0n,[(.tmp 4)]⟩),(101,⟨1,46,B6r,[(.tmp 2)]⟩),(102,⟨1,19,B6s,[(.tmp 2)]⟩),(103,⟨3,37,C0o,[(.tmp 6)]⟩),(104,⟨1,54,B2q,[(.tmp 2)]⟩),(105,⟨4,59,C0p,[(.tmp 8)]⟩),(106,⟨2,28,A6n,[(.tmp 4)]⟩),(107,⟨3,18,A8y,[(.tmp 6)]⟩),(108,⟨2,43,B6t,[(.tmp 4),(.tmp 5)]⟩),(109,⟨2,20,B2r,[(.tmp 4)]⟩),(119,⟨1,58,A5g,[(.tmp 2)]⟩),(120,⟨2,48,C5b,[(.tmp 4)]⟩),(121,⟨2,28,B6u,[(.tmp 4),(.tmp 5)]⟩),(122,⟨1,29,B6v,[(.tmp 2)]⟩),(123,⟨1,26,B6w,[(.tmp 2)]⟩),(124,⟨1,38,B2s,[(.tmp 2)]⟩),(125,⟨1,52,B2t,[(.tmp 2)]⟩),(126,⟨2,69,B6x,[(.tmp 4)]⟩),(127,⟨2,18,B6y,[(.tmp 4)]⟩),(129,⟨2,18,D1m,[(.tmp 4)]⟩),(132,⟨2,56,B0u,[(.tmp 4)]⟩),(135,⟨1,5,B0v,[(.tmp 2)]⟩),(136,⟨1,5,C0q,[(.tmp 2)]⟩),(137,⟨2,20,C0r,[(.tmp 4)]⟩),(138,⟨2,21,B6z,[(.tmp 4)]⟩),(139,⟨2,27,A8z,[(.tmp 4)]⟩),(140,⟨2,66,B7a,[(.tmp 4)]⟩),(142,⟨2,36,B7b,[(.tmp 4)]⟩),(143,⟨1,9,B0w,[(.tmp 2)]⟩),(144,⟨2,26,C0s,[(.tmp 4)]⟩),(145,⟨1,9,B0x,[(.tmp 2)]⟩),(146,⟨1,9,B0y,[(.tmp 2)]⟩),(3,⟨3,54,A9l,[(.tmp 6)]⟩),(4,⟨3,57,A6k,[(.tmp 6)]⟩),(5,⟨2,28,A7c,[(.tmp 4)]⟩),(6,⟨2,98,A7r,[(.tmp 4)]⟩),(15,⟨1,24,A5b,[(.cell 2 true 2)]⟩),(16,⟨2,23,B4c,[(.tmp 4)]⟩),(17,⟨0,101,A8h,[(.tmp 0)]⟩),(18,⟨3,103,B0p,[(.tmp 6),(.tmp 7)]⟩),(19,⟨3,123,C4c,[(.tmp 6),(.tmp 7)]⟩),(21,⟨3,17,A5c,[(.tmp 6)]⟩),(22,⟨3,26,A9m,[(.tmp 6)]⟩),(23,⟨3,23,B8i,[(.tmp 6)]⟩),(24,⟨1,9,B5e,[(.tmp 2)]⟩),(25,⟨2,9,B8j,[(.tmp 4)]⟩),(26,⟨2,54,A9n,[(.tmp 4)]⟩),(27,⟨2,58,B8k,[(.tmp 4)]⟩),(33,⟨2,9,B6j,[(.tmp 4)]⟩),(47,⟨1,23,B6k,[(.tmp 2)]⟩),(48,⟨2,57,B6l,[(.tmp 4)]⟩),(49,⟨0,17,C4g,[(.cell 0 true 2)]⟩),(50,⟨1,5,E1n,[(.cell 2 true 1)]⟩),(51,⟨2,32,C9b,[(.cell 4 true 2)]⟩),(52,⟨1,7,C9c,[(.cell 2 true 1)]⟩),(53,⟨3,20,A7s,[(.tmp 6)]⟩),(54,⟨2,21,A6t,[(.tmp 4)]⟩),(56,⟨3,34,C0d,[(.tmp 6),(.tmp 7)]⟩),(57,⟨3,17,B5f,[(.tmp 6)]⟩),(58,⟨2,21,B2k,[(.tmp 4)]⟩),(64,⟨2,42,B0q,[(.tmp 4)]⟩),(68,⟨2,88,C0e,[(.cell 4 true 1)]⟩),(80,⟨1,13,B0r,[(.cell 2 true 1),(.tmp 3)]⟩),(82,⟨2,20,B8m,[(.tmp 4)]⟩),(83,⟨3,39,A7d,[(.tmp 6)]⟩),(84,⟨2,28,A7e,[(.tmp 4)]⟩),(87,⟨1,55,B0s,[(.tmp 2)]⟩),(91,⟨2,62,A6u,[]⟩),(92,⟨1,52,B2l,[(.tmp 2)]⟩),(110,⟨1,40,C0f,[(.tmp 2)]⟩),(112,⟨1,6,C4j,[(.tmp 2)]⟩),(113,⟨1,18,E1o,[(.tmp 2)]⟩),(114,⟨3,39,A5r,[(.tmp 6)]⟩),(115,⟨2,17,A5s,[(.tmp 4)]⟩),(134,⟨2,52,C0g,[(.tmp 4)]⟩)]
theorem B3o:F6e Try.prog G tabX:=by
 intro q hq
 simp only[tabX,List.mem_cons,List.not_mem_nil,or_false]at hq
 rcases hq with rfl | rfl | rfl | rfl | rfl | rfl | rfl | rfl | rfl | rfl | rfl | rfl | rfl | rfl | rfl | rfl | rfl | rfl | rfl | rfl | rfl | rfl | rfl | rfl | rfl | rfl | rfl | rfl | rfl | rfl | rfl | rfl | rfl | rfl | rfl | rfl | rfl | rfl | rfl | rfl | rfl | rfl | rfl | rfl | rfl | rfl | rfl | rfl | rfl | rfl | rfl | rfl | rfl | rfl | rfl | rfl | rfl | rfl | rfl | rfl | rfl | rfl | rfl | rfl | rfl | rfl | rfl | rfl | rfl | rfl | rfl | rfl | rfl | rfl | rfl | rfl | rfl | rfl | rfl | rfl | rfl | rfl | rfl | rfl | rfl | rfl | rfl | rfl | rfl | rfl | rfl | rfl | rfl | rfl | rfl | rfl | rfl | rfl | rfl | rfl | rfl | rfl | rfl | rfl | rfl | rfl | rfl
 ·exact D1a
 ·exact C8v
 ·exact C7k
 ·exact C8w
 ·exact D4a
 ·exact E8z
 ·exact E1l
 ·exact C3w
 ·exact C3x
 ·exact B8c
 ·exact C1o
 ·exact C3y
 ·exact D4c
 ·exact C3z
 ·exact B8d
 ·exact C1q
 ·exact B9z
 ·exact B6h
 ·exact B8e
 ·exact B8p
 ·exact D1l
 ·exact B5j
 ·exact E4w
 ·exact C1u
 ·exact C4v
 ·exact C1v
 ·exact B5k
 ·exact E4x
 ·exact E4y
 ·exact C4w
 ·exact C4x
 ·exact B2p
 ·exact C9t
 ·exact C4y
 ·exact C4z
 ·exact C9u
 ·exact C1w
 ·exact C9v
 ·exact C1x
 ·exact B5l
 ·exact C5a
 ·exact C1y
 ·exact A8k
 ·exact D4w
 ·exact C5c
 ·exact C5d
 ·exact C5e
 ·exact C1z
 ·exact C2a
 ·exact C5f
 ·exact C5g
 ·exact E1w
 ·exact B8r
 ·exact B8s
 ·exact C9w
 ·exact C9x
 ·exact C5h
 ·exact B5m
 ·exact C5i
 ·exact C5j
 ·exact C5k
 ·exact C9y
 ·exact C5l
 ·exact C5m
 ·exact C0a
 ·exact B2h
 ·exact B4s
 ·exact B6i
 ·exact B2i
 ·exact C9a
 ·exact B8g
 ·exact B8h
 ·exact D4i
 ·exact A8i
 ·exact C0b
 ·exact D1c
 ·exact C7l
 ·exact D1d
 ·exact C0c
 ·exact D1e
 ·exact C4d
 ·exact C4e
 ·exact C4f
 ·exact D7z
 ·exact F4m
 ·exact E4p
 ·exact E4q
 ·exact B2j
 ·exact B1j
 ·exact C9d
 ·exact C7m
 ·exact C4h
 ·exact B8l
 ·exact C9e
 ·exact C4i
 ·exact D1f
 ·exact B4t
 ·exact B4u
 ·exact B8n
 ·exact B1k
 ·exact C1r
 ·exact C9f
 ·exact D8a
 ·exact F4n
 ·exact B1n
 ·exact B1o
 ·exact C9g
end Go.Proofs.Ytbiadmfmjnoecaa
namespace Go.Abs
set_option linter.unusedSimpArgs false
set_option linter.unusedVariables false
open Go
abbrev Memo:=List (Nat×List T×T)
def Memo.get (m:Memo) (f:Nat) (args:List T):Option T:=match m with
 | []=>none
 | (g,as',r)::rest=>if g=f then(if eqTs as' args then some r else Memo.get rest f args)else Memo.get rest f args
def A6r (P:Program) (G:A1c) (m:Memo):Prop:=∀q∈m,A0y P G q.1 q.2.1 (· = q.2.2)
theorem A6r.nil {P:Program} {G:A1c}:A6r P G []:=fun _ h=>by cases h
theorem A6r.cons {P:Program} {G:A1c} {m:Memo} {f:Nat} {as':List T} {r:T} (h:A0y P G f as' (· = r)) (hm:A6r P G m):A6r P G ((f,as',r)::m):=fun q hq=>by
 rcases List.mem_cons.1 hq with rfl | hq
 ·exact h
 ·exact hm q hq
theorem Memo.get_sound {P:Program} {G:A1c}:∀{m:Memo} {f:Nat} {args:List T} {r:T},A6r P G m->m.get f args=some r->A0y P G f args (· = r)
 | [],f,args,r,_,h=>by cases h
 | (g,as',r0)::rest,f,args,r,hm,h=>by
  have hr:A6r P G rest:=fun q hq=>hm q (List.mem_cons_of_mem _ hq)
  simp only[Memo.get]at h
  split at h
  ·rename_i hg
   split at h
   ·rename_i ha
    injection h with h
    subst h;subst hg
    rw[<-C6s _ _ ha]
    exact hm (g,as',r0) List.mem_cons_self
   ·exact Memo.get_sound hr h
  ·exact Memo.get_sound hr h
def E2u (tab:List (Nat×FnM)) (memo:Memo) (rounds:Nat):Nat->A1f
 | 0=>⟨memo.get,fun _ _ _ _=>none⟩
 | n+1=>⟨fun f args=>match memo.get f args with
   | some r=>some r
   | none=>F1z tab rounds (E2u tab memo rounds n) f args,F2a tab rounds (E2u tab memo rounds n)⟩
theorem A2i {P:Program} {G:A1c} (hm:P.follows .mixedOrders=true) {tab:List (Nat×FnM)} (ht:F6e P G tab) {memo:Memo} (hme:A6r P G memo) (rounds:Nat):∀n,(E2u tab memo rounds n).Sound P G
 | 0=>⟨fun _ _ _ h=>Memo.get_sound hme h,fun _ _ _ _ _ _ _ h=>(by cases h),fun _ _ _ _ _ _ _ h=>(by cases h)⟩
 | n+1=>⟨fun f args r h=>by
   simp only[E2u]at h
   split at h
   ·rename_i r' hr
    injection h with h
    subst h
    exact Memo.get_sound hme hr
   ·exact D6i hm ht rounds (A2i hm ht hme rounds n) f args r h,
   fun f ps H nx r H' nx' h=>(C2h hm ht rounds (A2i hm ht hme rounds n) f ps H nx r H' nx' h).1,
   fun f ps H nx r H' nx' h _=>(C2h hm ht rounds (A2i hm ht hme rounds n) f ps H nx r H' nx' h).2⟩
end Go.Abs
namespace Go.Proofs.Ytbiadmfmjnoecaa
set_option linter.unusedSimpArgs false
set_option linter.unusedVariables false
open Go Go.Abs
def B3p:List T:=[.sl 3 [.v (.string ⟨#[116,111,112]⟩),.v (.slice none 0 0),.sl 2 [.v (.string ⟨#[70]⟩),.v (.string ⟨#[116,111,112]⟩),.v (.string ⟨#[71]⟩),.v (.string ⟨#[116,111,112]⟩)],.v (.string ⟨#[120]⟩),.sl 1 [.v (.string ⟨#[116,111,112]⟩)],.v (.slice none 0 0),.v (.string ⟨#[121]⟩),.sl 1 [.v (.string ⟨#[116,111,112]⟩)],.v (.slice none 0 0)]]
def B3q:T:=.tu [.sl 3 [.v (.string ⟨#[116,111,112]⟩),.sl 1 [.v (.int .u64 7)],.v (.string ⟨#[120]⟩),.sl 1 [.v (.int .u64 2)],.v (.string ⟨#[121]⟩),.sl 1 [.v (.int .u64 4)]],.v (.int .i64 0)]
theorem D2j:A0y Try.prog G 76 B3p (· = B3q):=(A2i A1w B3o (memo:=[]) (A6r.nil) 400 30).t _ _ _ (by kernel_rfl)
def C6t:List T:=[.sl 3 [.v (.string ⟨#[116,111,112]⟩),.v (.slice none 0 0),.sl 2 [.v (.string ⟨#[70]⟩),.v (.string ⟨#[116,111,112]⟩),.v (.string ⟨#[71]⟩),.v (.string ⟨#[116,111,112]⟩)],.v (.string ⟨#[120]⟩),.sl 1 [.v (.string ⟨#[116,111,112]⟩)],.v (.slice none 0 0),.v (.string ⟨#[121]⟩),.sl 1 [.v (.string ⟨#[116,111,112]⟩)],.v (.slice none 0 0)]]
def C6u:T:=.v (.int .i64 0)
theorem F2b:A0y Try.prog G 97 C6t (· = C6u):=(A2i A1w B3o (memo:=[(76,B3p,B3q)]) (A6r.cons D2j (.nil)) 400 30).t _ _ _ (by kernel_rfl)
def E2v:List T:=[.sl 3 [.v (.string ⟨#[116,111,112]⟩),.v (.slice none 0 0),.sl 2 [.v (.string ⟨#[70]⟩),.v (.string ⟨#[116,111,112]⟩),.v (.string ⟨#[71]⟩),.v (.string ⟨#[116,111,112]⟩)],.v (.string ⟨#[120]⟩),.sl 1 [.v (.string ⟨#[116,111,112]⟩)],.v (.slice none 0 0),.v (.string ⟨#[121]⟩),.sl 1 [.v (.string ⟨#[116,111,112]⟩)],.v (.slice none 0 0)]]
def E2w:T:=.tu [.sl 3 [.sl 2 [.v (.int .i64 0),.v (.int .i64 0),.v (.int .i64 1),.v (.int .i64 0)],.sl 2 [.v (.int .i64 0),.v (.int .i64 0),.v (.int .i64 1),.v (.int .i64 0)],.sl 2 [.v (.int .i64 0),.v (.int .i64 0),.v (.int .i64 1),.v (.int .i64 0)]],.v (.int .i64 0)]
theorem G1x:A0y Try.prog G 75 E2v (· = E2w):=(A2i A1w B3o (memo:=[(76,B3p,B3q),(97,C6t,C6u)]) (A6r.cons D2j (.cons F2b (.nil))) 400 30).t _ _ _ (by kernel_rfl)
def D6j:List T:=[.sl 3 [.v (.string ⟨#[116,111,112]⟩),.v (.slice none 0 0),.sl 2 [.v (.string ⟨#[70]⟩),.v (.string ⟨#[116,111,112]⟩),.v (.string ⟨#[71]⟩),.v (.string ⟨#[116,111,112]⟩)],.v (.string ⟨#[120]⟩),.sl 1 [.v (.string ⟨#[116,111,112]⟩)],.v (.slice none 0 0),.v (.string ⟨#[121]⟩),.sl 1 [.v (.string ⟨#[116,111,112]⟩)],.v (.slice none 0 0)]]
def D6k:T:=.tu [.sl 2 [.v (.string ⟨#[70]⟩),.v (.int .i64 0),.v (.string ⟨#[71]⟩),.v (.int .i64 0)],.v (.int .i64 0)]
theorem F9r:A0y Try.prog G 78 D6j (· = D6k):=(A2i A1w B3o (memo:=[(76,B3p,B3q),(97,C6t,C6u)]) (A6r.cons D2j (.cons F2b (.nil))) 400 30).t _ _ _ (by kernel_rfl)
def E2x:List T:=[.sl 3 [.v (.string ⟨#[116,111,112]⟩),.v (.slice none 0 0),.sl 2 [.v (.string ⟨#[70]⟩),.v (.string ⟨#[116,111,112]⟩),.v (.string ⟨#[71]⟩),.v (.string ⟨#[116,111,112]⟩)],.v (.string ⟨#[120]⟩),.sl 1 [.v (.string ⟨#[116,111,112]⟩)],.v (.slice none 0 0),.v (.string ⟨#[121]⟩),.sl 1 [.v (.string ⟨#[116,111,112]⟩)],.v (.slice none 0 0)]]
def E2y:T:=.tu [.ag [.sl 3 [.v (.string ⟨#[116,111,112]⟩),.sl 1 [.v (.int .u64 7)],.v (.slice none 0 0),.sl 2 [.v (.int .i64 0),.v (.int .i64 0),.v (.int .i64 1),.v (.int .i64 0)],.v (.string ⟨#[120]⟩),.sl 1 [.v (.int .u64 2)],.sl 1 [.v (.int .i64 0)],.sl 2 [.v (.int .i64 0),.v (.int .i64 0),.v (.int .i64 1),.v (.int .i64 0)],.v (.string ⟨#[121]⟩),.sl 1 [.v (.int .u64 4)],.sl 1 [.v (.int .i64 0)],.sl 2 [.v (.int .i64 0),.v (.int .i64 0),.v (.int .i64 1),.v (.int .i64 0)]],.sl 2 [.v (.string ⟨#[70]⟩),.v (.int .i64 0),.v (.string ⟨#[71]⟩),.v (.int .i64 0)]],.v (.int .i64 0)]
theorem G1y:A0y Try.prog G 45 E2x (· = E2y):=(A2i A1w B3o (memo:=[(75,E2v,E2w),(76,B3p,B3q),(78,D6j,D6k)]) (A6r.cons G1x (.cons D2j (.cons F9r (.nil)))) 400 30).t _ _ _ (by kernel_rfl)
def D6l:List T:=[]
def D6m:T:=.ag [.sl 3 [.v (.string ⟨#[116,111,112]⟩),.sl 1 [.v (.int .u64 7)],.v (.slice none 0 0),.sl 2 [.v (.int .i64 0),.v (.int .i64 0),.v (.int .i64 1),.v (.int .i64 0)],.v (.string ⟨#[120]⟩),.sl 1 [.v (.int .u64 2)],.sl 1 [.v (.int .i64 0)],.sl 2 [.v (.int .i64 0),.v (.int .i64 0),.v (.int .i64 1),.v (.int .i64 0)],.v (.string ⟨#[121]⟩),.sl 1 [.v (.int .u64 4)],.sl 1 [.v (.int .i64 0)],.sl 2 [.v (.int .i64 0),.v (.int .i64 0),.v (.int .i64 1),.v (.int .i64 0)]],.sl 2 [.v (.string ⟨#[70]⟩),.v (.int .i64 0),.v (.string ⟨#[71]⟩),.v (.int .i64 0)]]
theorem F9s:A0y Try.prog G 49 D6l (· = D6m):=(A2i A1w B3o (memo:=[(45,E2x,E2y)]) (A6r.cons G1y (.nil)) 400 30).t _ _ _ (by kernel_rfl)
def F6g:List T:=[]
def B1g:T:=.sl 13 [.v (.string ⟨#[116,111,112]⟩),.v (.slice none 0 0),.v (.slice none 0 0),.v (.string ⟨#[108,105,115,116]⟩),.sl 1 [.v (.string ⟨#[116,111,112]⟩)],.v (.slice none 0 0),.v (.string ⟨#[99,111,110,115]⟩),.sl 1 [.v (.string ⟨#[108,105,115,116]⟩)],.sl 2 [.v (.string ⟨#[70,73,82,83,84]⟩),.v (.string ⟨#[116,111,112]⟩),.v (.string ⟨#[82,69,83,84]⟩),.v (.string ⟨#[108,105,115,116]⟩)],.v (.string ⟨#[110,117,108,108]⟩),.sl 1 [.v (.string ⟨#[108,105,115,116]⟩)],.v (.slice none 0 0),.v (.string ⟨#[100,108,105,115,116]⟩),.sl 1 [.v (.string ⟨#[116,111,112]⟩)],.sl 2 [.v (.string ⟨#[76,73,83,84]⟩),.v (.string ⟨#[108,105,115,116]⟩),.v (.string ⟨#[76,65,83,84]⟩),.v (.string ⟨#[108,105,115,116]⟩)],.v (.string ⟨#[105,110,100,101,120]⟩),.sl 1 [.v (.string ⟨#[116,111,112]⟩)],.v (.slice none 0 0),.v (.string ⟨#[104,97,110,100,108,101]⟩),.sl 1 [.v (.string ⟨#[105,110,100,101,120]⟩)],.v (.slice none 0 0),.v (.string ⟨#[101,118,101,110,116]⟩),.sl 1 [.v (.string ⟨#[105,110,100,101,120]⟩)],.v (.slice none 0 0),.v (.string ⟨#[101,110,116,105,116,121]⟩),.sl 1 [.v (.string ⟨#[105,110,100,101,120]⟩)],.v (.slice none 0 0),.v (.string ⟨#[114,101,108]⟩),.sl 1 [.v (.string ⟨#[116,111,112]⟩)],.sl 1 [.v (.string ⟨#[76,65,66,69,76]⟩),.v (.string ⟨#[104,97,110,100,108,101]⟩)],.v (.string ⟨#[113,101,113]⟩),.sl 1 [.v (.string ⟨#[116,111,112]⟩)],.sl 2 [.v (.string ⟨#[72,73,71,72]⟩),.v (.string ⟨#[104,97,110,100,108,101]⟩),.v (.string ⟨#[76,79,87]⟩),.v (.string ⟨#[104,97,110,100,108,101]⟩)],.v (.string ⟨#[115,101,109]⟩),.sl 1 [.v (.string ⟨#[116,111,112]⟩)],.sl 4 [.v (.string ⟨#[84,79,80]⟩),.v (.string ⟨#[104,97,110,100,108,101]⟩),.v (.string ⟨#[73,78,68,69,88]⟩),.v (.string ⟨#[105,110,100,101,120]⟩),.v (.string ⟨#[82,69,76,83]⟩),.v (.string ⟨#[100,108,105,115,116]⟩),.v (.string ⟨#[67,79,78,83]⟩),.v (.string ⟨#[100,108,105,115,116]⟩)],.v (.string ⟨#[115,105,103,110]⟩),.sl 1 [.v (.string ⟨#[116,111,112]⟩)],.sl 2 [.v (.string ⟨#[83,69,77]⟩),.v (.string ⟨#[115,101,109]⟩),.v (.string ⟨#[65,82,71,83]⟩),.v (.string ⟨#[108,105,115,116]⟩)]]
theorem G1z:A0y Try.prog G 46 F6g (· = B1g):=(A2i A1w B3o (memo:=[]) (A6r.nil) 400 30).t _ _ _ (by kernel_rfl)
end Go.Proofs.Ytbiadmfmjnoecaa
