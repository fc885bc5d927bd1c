/-
 Auxiliary facts. No statement of the program stands here.
-/
import Derived.Test.YtbiadmfmjnoecaaVAQ14
import Derived.Test.YtbiadmfmjnoecaaVAQ21
import Derived.Test.YtbiadmfmjnoecaaVAQ15
import Derived.Test.YtbiadmfmjnoecaaVAQ30
namespace Go.Proofs.Ytbiadmfmjnoecaa
set_option linter.unusedSimpArgs false
set_option linter.unusedVariables false
open Go Go.Abs
def tabX:List (Nat×FnM):=[(128,⟨1,50,C6g,[(.tmp 2),(.tmp 3)]⟩),(118,⟨2,26,C2t,[(.tmp 4)]⟩),(20,⟨2,26,B7k,[(.tmp 4)]⟩),(141,⟨1,20,C2u,[(.tmp 2)]⟩),(89,⟨2,26,C7b,[(.tmp 4)]⟩),(70,⟨2,31,C7c,[(.tmp 4)]⟩),(88,⟨2,28,D4z,[(.tmp 4)]⟩),(111,⟨2,26,B8e,[(.tmp 4)]⟩),(131,⟨2,25,B4m,[(.tmp 4)]⟩),(71,⟨2,21,B2l,[(.tmp 4)]⟩),(81,⟨2,10,B4n,[(.tmp 4)]⟩),(130,⟨2,13,B8f,[(.tmp 4)]⟩),(72,⟨1,18,B4o,[(.tmp 2)]⟩),(133,⟨1,6,B8g,[(.tmp 2)]⟩),(95,⟨1,21,B2m,[(.tmp 2)]⟩),(117,⟨1,23,B4p,[(.tmp 2)]⟩),(116,⟨2,13,B6i,[(.tmp 4)]⟩),(94,⟨2,13,B2n,[(.tmp 4)]⟩),(96,⟨1,35,A5w,[(.tmp 2)]⟩),(45,⟨1,63,B2u,[(.cell 2 true 2),(.tmp 3)]⟩),(46,⟨0,21,C0x,[(.tmp 0)]⟩),(55,⟨3,20,B0v,[(.tmp 6)]⟩),(66,⟨3,60,C3l,[(.tmp 6)]⟩),(75,⟨1,63,B4z,[(.tmp 2),(.tmp 3)]⟩),(76,⟨1,92,B8o,[(.tmp 2),(.tmp 3)]⟩),(77,⟨2,62,B5a,[(.tmp 4)]⟩),(78,⟨1,51,B0w,[(.tmp 2),(.tmp 3)]⟩),(79,⟨3,39,D3f,[(.cell 6 true 3)]⟩),(90,⟨2,23,C3m,[(.tmp 4),(.tmp 5)]⟩),(97,⟨1,78,B8p,[(.tmp 2)]⟩),(98,⟨1,34,B8q,[(.tmp 2)]⟩),(99,⟨4,60,A9h,[(.tmp 8),(.tmp 9)]⟩),(100,⟨2,23,C3n,[(.tmp 4)]⟩),(101,⟨1,46,B8r,[(.tmp 2)]⟩),(102,⟨1,19,B8s,[(.tmp 2)]⟩),(103,⟨3,37,C3o,[(.tmp 6)]⟩),(104,⟨1,54,B5c,[(.tmp 2)]⟩),(105,⟨4,59,C3p,[(.tmp 8)]⟩),(106,⟨2,28,A7w,[(.tmp 4)]⟩),(107,⟨3,18,B0x,[(.tmp 6)]⟩),(108,⟨2,43,B8t,[(.tmp 4),(.tmp 5)]⟩),(109,⟨2,20,B5d,[(.tmp 4)]⟩),(119,⟨1,58,A6d,[(.tmp 2)]⟩),(120,⟨2,48,C8q,[(.tmp 4)]⟩),(121,⟨2,28,B8u,[(.tmp 4),(.tmp 5)]⟩),(122,⟨1,29,B8v,[(.tmp 2)]⟩),(123,⟨1,26,B8w,[(.tmp 2)]⟩),(124,⟨1,38,B5e,[(.tmp 2)]⟩),(125,⟨1,52,B5f,[(.tmp 2)]⟩),(126,⟨2,69,B8x,[(.tmp 4)]⟩),(127,⟨2,18,B8y,[(.tmp 4)]⟩),(129,⟨2,18,D5s,[(.tmp 4)]⟩),(132,⟨2,56,B2v,[(.tmp 4)]⟩),(135,⟨1,5,B2w,[(.tmp 2)]⟩),(136,⟨1,5,C3q,[(.tmp 2)]⟩),(137,⟨2,20,C3r,[(.tmp 4)]⟩),(138,⟨2,21,B8z,[(.tmp 4)]⟩),(139,⟨2,27,B0y,[(.tmp 4)]⟩),(140,⟨2,66,B9a,[(.tmp 4)]⟩),(142,⟨2,36,B9b,[(.tmp 4)]⟩),(143,⟨1,9,B2x,[(.tmp 2)]⟩),(144,⟨2,26,C3s,[(.tmp 4)]⟩),(145,⟨1,9,B2y,[(.tmp 2)]⟩),(146,⟨1,9,B2z,[(.tmp 2)]⟩),(3,⟨3,54,B1l,[(.tmp 6)]⟩),(4,⟨3,57,A7t,[(.tmp 6)]⟩),(5,⟨2,28,A8m,[(.tmp 4)]⟩),(6,⟨2,98,A9d,[(.tmp 4)]⟩),(15,⟨1,24,A5y,[(.cell 2 true 2)]⟩),(16,⟨2,23,B6k,[(.tmp 4)]⟩),(17,⟨0,101,A9y,[(.tmp 0)]⟩),(18,⟨3,103,B2p,[(.tmp 6),(.tmp 7)]⟩),(19,⟨3,123,C7n,[(.tmp 6),(.tmp 7)]⟩),(21,⟨3,17,A5z,[(.tmp 6)]⟩),(22,⟨3,26,B1m,[(.tmp 6)]⟩),(23,⟨3,23,C0n,[(.tmp 6)]⟩),(24,⟨1,9,B7l,[(.tmp 2)]⟩),(25,⟨2,9,C0o,[(.tmp 4)]⟩),(26,⟨2,54,B1n,[(.tmp 4)]⟩),(27,⟨2,58,C0p,[(.tmp 4)]⟩),(33,⟨2,9,B8j,[(.tmp 4)]⟩),(47,⟨1,23,B8k,[(.tmp 2)]⟩),(48,⟨2,57,B8l,[(.tmp 4)]⟩),(49,⟨0,17,C7r,[(.cell 0 true 2)]⟩),(50,⟨1,5,E6b,[(.cell 2 true 1)]⟩),(51,⟨2,32,D2o,[(.cell 4 true 2)]⟩),(52,⟨1,7,D2p,[(.cell 2 true 1)]⟩),(53,⟨3,20,A9e,[(.tmp 6)]⟩),(54,⟨2,21,A8c,[(.tmp 4)]⟩),(56,⟨3,34,C3a,[(.tmp 6),(.tmp 7)]⟩),(57,⟨3,17,B7m,[(.tmp 6)]⟩),(58,⟨2,21,B4t,[(.tmp 4)]⟩),(64,⟨2,42,B2q,[(.tmp 4)]⟩),(68,⟨2,88,C3b,[(.cell 4 true 1)]⟩),(80,⟨1,13,B2r,[(.cell 2 true 1),(.tmp 3)]⟩),(82,⟨2,20,C0r,[(.tmp 4)]⟩),(83,⟨3,39,A8n,[(.tmp 6)]⟩),(84,⟨2,28,A8o,[(.tmp 4)]⟩),(87,⟨1,55,B2s,[(.tmp 2)]⟩),(91,⟨2,62,A8d,[]⟩),(92,⟨1,52,B4u,[(.tmp 2)]⟩),(110,⟨1,40,C3c,[(.tmp 2)]⟩),(112,⟨1,6,C7u,[(.tmp 2)]⟩),(113,⟨1,18,E6c,[(.tmp 2)]⟩),(114,⟨3,39,A6r,[(.tmp 6)]⟩),(115,⟨2,17,A6s,[(.tmp 4)]⟩),(134,⟨2,52,C3d,[(.tmp 4)]⟩)]
theorem B9k:D6p Try.prog G tabX:=by
 intro q hq
 simp only[tabX,List.mem_cons,List.not_mem_nil,or_false]at hq
 rcases hq with rfl | rfl | rfl | rfl | rfl | rfl | rfl | rfl | rfl | rfl | rfl | rfl | rfl | rfl | rfl | rfl | rfl | rfl | rfl | rfl | rfl | rfl | rfl | rfl | rfl | rfl | rfl | rfl | rfl | rfl | rfl | rfl | rfl | rfl | rfl | rfl | rfl | rfl | rfl | rfl | rfl | rfl | rfl | rfl | rfl | rfl | rfl | rfl | rfl | rfl | rfl | rfl | rfl | rfl | rfl | rfl | rfl | rfl | rfl | rfl | rfl | rfl | rfl | rfl | rfl | rfl | rfl | rfl | rfl | rfl | rfl | rfl | rfl | rfl | rfl | rfl | rfl | rfl | rfl | rfl | rfl | rfl | rfl | rfl | rfl | rfl | rfl | rfl | rfl | rfl | rfl | rfl | rfl | rfl | rfl | rfl | rfl | rfl | rfl | rfl | rfl | rfl | rfl | rfl | rfl | rfl | rfl
 ·exact D4y
 ·exact D2j
 ·exact D1c
 ·exact D2k
 ·exact D8n
 ·exact D8o
 ·exact E5z
 ·exact C7d
 ·exact C7e
 ·exact C0j
 ·exact C4u
 ·exact C7f
 ·exact C4v
 ·exact C7g
 ·exact C0k
 ·exact C4w
 ·exact C2v
 ·exact B8h
 ·exact A9x
 ·exact C0w
 ·exact D5r
 ·exact B7p
 ·exact D3e
 ·exact C5a
 ·exact C8k
 ·exact C5b
 ·exact B7q
 ·exact F0o
 ·exact D3g
 ·exact C8l
 ·exact C8m
 ·exact B5b
 ·exact D3h
 ·exact C8n
 ·exact C8o
 ·exact D3i
 ·exact C5c
 ·exact D3j
 ·exact C5d
 ·exact B7r
 ·exact C8p
 ·exact C5e
 ·exact B0d
 ·exact D9j
 ·exact C8r
 ·exact C8s
 ·exact C8t
 ·exact C5f
 ·exact C5g
 ·exact C8u
 ·exact C8v
 ·exact E6n
 ·exact C0y
 ·exact C0z
 ·exact D3k
 ·exact D3l
 ·exact C8w
 ·exact B7s
 ·exact C8x
 ·exact C8y
 ·exact C8z
 ·exact D3m
 ·exact C9a
 ·exact C9b
 ·exact C2x
 ·exact B4r
 ·exact B6z
 ·exact B8i
 ·exact C7m
 ·exact F0f
 ·exact C0l
 ·exact C0m
 ·exact D8w
 ·exact A9z
 ·exact C2y
 ·exact D5c
 ·exact D1d
 ·exact D5d
 ·exact C2z
 ·exact D5e
 ·exact C7o
 ·exact C7p
 ·exact C7q
 ·exact E2w
 ·exact G1y
 ·exact F0g
 ·exact F0h
 ·exact B4s
 ·exact B3q
 ·exact D2q
 ·exact D1e
 ·exact C7s
 ·exact C0q
 ·exact D2r
 ·exact C7t
 ·exact D5f
 ·exact B7a
 ·exact B7b
 ·exact C0s
 ·exact B3r
 ·exact C4x
 ·exact D2s
 ·exact E2x
 ·exact G1z
 ·exact B3u
 ·exact B3v
 ·exact D2t
end Go.Proofs.Ytbiadmfmjnoecaa
namespace Go.Abs
set_option linter.unusedSimpArgs false
set_option linter.unusedVariables false
open Go
abbrev Memo:=List (Nat×List T×T)
def Memo.get (m:Memo) (f:Nat) (args:List T):Option T:=match m with
 | []=>none
 | (g,as',r)::rest=>if g=f then(if eqTs as' args then some r else Memo.get rest f args)else Memo.get rest f args
def A5l (P:Program) (G:A1j) (m:Memo):Prop:=∀q∈m,A0y P G q.1 q.2.1 (· = q.2.2)
theorem A5l.nil {P:Program} {G:A1j}:A5l P G []:=fun _ h=>by cases h
theorem A5l.cons {P:Program} {G:A1j} {m:Memo} {f:Nat} {as':List T} {r:T} (h:A0y P G f as' (· = r)) (hm:A5l P G m):A5l P G ((f,as',r)::m):=fun q hq=>by
 rcases List.mem_cons.1 hq with rfl | hq
 ·exact h
 ·exact hm q hq
theorem Memo.get_sound {P:Program} {G:A1j}:∀{m:Memo} {f:Nat} {args:List T} {r:T},A5l P G m->m.get f args=some r->A0y P G f args (· = r)
 | [],f,args,r,_,h=>by cases h
 | (g,as',r0)::rest,f,args,r,hm,h=>by
  have hr:A5l P G rest:=fun q hq=>hm q (List.mem_cons_of_mem _ hq)
  simp only[Memo.get]at h
  split at h
  ·rename_i hg
   split at h
   ·rename_i ha
    injection h with h
    subst h;subst hg
    rw[<-D0c _ _ ha]
    exact hm (g,as',r0) List.mem_cons_self
   ·exact Memo.get_sound hr h
  ·exact Memo.get_sound hr h
def E0v (tab:List (Nat×FnM)) (memo:Memo) (rounds:Nat):Nat->A1f
 | 0=>⟨memo.get,fun _ _ _ _=>none⟩
 | n+1=>⟨fun f args=>match memo.get f args with
   | some r=>some r
   | none=>F7t tab rounds (E0v tab memo rounds n) f args,E7k tab rounds (E0v tab memo rounds n)⟩
theorem A2n {P:Program} {G:A1j} (hm:P.follows .mixedOrders=true) {tab:List (Nat×FnM)} (ht:D6p P G tab) {memo:Memo} (hme:A5l P G memo) (rounds:Nat):∀n,(E0v tab memo rounds n).Sound P G
 | 0=>⟨fun _ _ _ h=>Memo.get_sound hme h,fun _ _ _ _ _ _ _ h=>(by cases h),fun _ _ _ _ _ _ _ h=>(by cases h)⟩
 | n+1=>⟨fun f args r h=>by
   simp only[E0v]at h
   split at h
   ·rename_i r' hr
    injection h with h
    subst h
    exact Memo.get_sound hme hr
   ·exact E0u hm ht rounds (A2n hm ht hme rounds n) f args r h,
   fun f ps H nx r H' nx' h=>(B0l hm ht rounds (A2n hm ht hme rounds n) f ps H nx r H' nx' h).1,
   fun f ps H nx r H' nx' h _=>(B0l hm ht rounds (A2n hm ht hme rounds n) f ps H nx r H' nx' h).2⟩
end Go.Abs
namespace Go.Proofs.Ytbiadmfmjnoecaa
set_option linter.unusedSimpArgs false
set_option linter.unusedVariables false
open Go Go.Abs
def B5u:List T:=[.sl 3 [.v (.string ⟨#[116,111,112]⟩),.v (.slice none 0 0),.sl 2 [.v (.string ⟨#[70]⟩),.v (.string ⟨#[116,111,112]⟩),.v (.string ⟨#[71]⟩),.v (.string ⟨#[116,111,112]⟩)],.v (.string ⟨#[120]⟩),.sl 1 [.v (.string ⟨#[116,111,112]⟩)],.v (.slice none 0 0),.v (.string ⟨#[121]⟩),.sl 1 [.v (.string ⟨#[116,111,112]⟩)],.v (.slice none 0 0)]]
def B5v:T:=.tu [.sl 3 [.v (.string ⟨#[116,111,112]⟩),.sl 1 [.v (.int .u64 7)],.v (.string ⟨#[120]⟩),.sl 1 [.v (.int .u64 2)],.v (.string ⟨#[121]⟩),.sl 1 [.v (.int .u64 4)]],.v (.int .i64 0)]
theorem D6q:A0y Try.prog G 76 B5u (· = B5v):=(A2n A1w B9k (memo:=[]) (A5l.nil) 400 30).t _ _ _ (by kernel_rfl)
def D0d:List T:=[.sl 3 [.v (.string ⟨#[116,111,112]⟩),.v (.slice none 0 0),.sl 2 [.v (.string ⟨#[70]⟩),.v (.string ⟨#[116,111,112]⟩),.v (.string ⟨#[71]⟩),.v (.string ⟨#[116,111,112]⟩)],.v (.string ⟨#[120]⟩),.sl 1 [.v (.string ⟨#[116,111,112]⟩)],.v (.slice none 0 0),.v (.string ⟨#[121]⟩),.sl 1 [.v (.string ⟨#[116,111,112]⟩)],.v (.slice none 0 0)]]
def D0e:T:=.v (.int .i64 0)
theorem F7u:A0y Try.prog G 97 D0d (· = D0e):=(A2n A1w B9k (memo:=[(76,B5u,B5v)]) (A5l.cons D6q (.nil)) 400 30).t _ _ _ (by kernel_rfl)
def E7m:List T:=[.sl 3 [.v (.string ⟨#[116,111,112]⟩),.v (.slice none 0 0),.sl 2 [.v (.string ⟨#[70]⟩),.v (.string ⟨#[116,111,112]⟩),.v (.string ⟨#[71]⟩),.v (.string ⟨#[116,111,112]⟩)],.v (.string ⟨#[120]⟩),.sl 1 [.v (.string ⟨#[116,111,112]⟩)],.v (.slice none 0 0),.v (.string ⟨#[121]⟩),.sl 1 [.v (.string ⟨#[116,111,112]⟩)],.v (.slice none 0 0)]]
def E7n:T:=.tu [.sl 3 [.sl 2 [.v (.int .i64 0),.v (.int .i64 0),.v (.int .i64 1),.v (.int .i64 0)],.sl 2 [.v (.int .i64 0),.v (.int .i64 0),.v (.int .i64 1),.v (.int .i64 0)],.sl 2 [.v (.int .i64 0),.v (.int .i64 0),.v (.int .i64 1),.v (.int .i64 0)]],.v (.int .i64 0)]
theorem H0e:A0y Try.prog G 75 E7m (· = E7n):=(A2n A1w B9k (memo:=[(76,B5u,B5v),(97,D0d,D0e)]) (A5l.cons D6q (.cons F7u (.nil))) 400 30).t _ _ _ (by kernel_rfl)
def E0w:List T:=[.sl 3 [.v (.string ⟨#[116,111,112]⟩),.v (.slice none 0 0),.sl 2 [.v (.string ⟨#[70]⟩),.v (.string ⟨#[116,111,112]⟩),.v (.string ⟨#[71]⟩),.v (.string ⟨#[116,111,112]⟩)],.v (.string ⟨#[120]⟩),.sl 1 [.v (.string ⟨#[116,111,112]⟩)],.v (.slice none 0 0),.v (.string ⟨#[121]⟩),.sl 1 [.v (.string ⟨#[116,111,112]⟩)],.v (.slice none 0 0)]]
def E0x:T:=.tu [.sl 2 [.v (.string ⟨#[70]⟩),.v (.int .i64 0),.v (.string ⟨#[71]⟩),.v (.int .i64 0)],.v (.int .i64 0)]
theorem G7y:A0y Try.prog G 78 E0w (· = E0x):=(A2n A1w B9k (memo:=[(76,B5u,B5v),(97,D0d,D0e)]) (A5l.cons D6q (.cons F7u (.nil))) 400 30).t _ _ _ (by kernel_rfl)
def E7o:List T:=[.sl 3 [.v (.string ⟨#[116,111,112]⟩),.v (.slice none 0 0),.sl 2 [.v (.string ⟨#[70]⟩),.v (.string ⟨#[116,111,112]⟩),.v (.string ⟨#[71]⟩),.v (.string ⟨#[116,111,112]⟩)],.v (.string ⟨#[120]⟩),.sl 1 [.v (.string ⟨#[116,111,112]⟩)],.v (.slice none 0 0),.v (.string ⟨#[121]⟩),.sl 1 [.v (.string ⟨#[116,111,112]⟩)],.v (.slice none 0 0)]]
def E7p:T:=.tu [.ag [.sl 3 [.v (.string ⟨#[116,111,112]⟩),.sl 1 [.v (.int .u64 7)],.v (.slice none 0 0),.sl 2 [.v (.int .i64 0),.v (.int .i64 0),.v (.int .i64 1),.v (.int .i64 0)],.v (.string ⟨#[120]⟩),.sl 1 [.v (.int .u64 2)],.sl 1 [.v (.int .i64 0)],.sl 2 [.v (.int .i64 0),.v (.int .i64 0),.v (.int .i64 1),.v (.int .i64 0)],.v (.string ⟨#[121]⟩),.sl 1 [.v (.int .u64 4)],.sl 1 [.v (.int .i64 0)],.sl 2 [.v (.int .i64 0),.v (.int .i64 0),.v (.int .i64 1),.v (.int .i64 0)]],.sl 2 [.v (.string ⟨#[70]⟩),.v (.int .i64 0),.v (.string ⟨#[71]⟩),.v (.int .i64 0)]],.v (.int .i64 0)]
theorem H0f:A0y Try.prog G 45 E7o (· = E7p):=(A2n A1w B9k (memo:=[(75,E7m,E7n),(76,B5u,B5v),(78,E0w,E0x)]) (A5l.cons H0e (.cons D6q (.cons G7y (.nil)))) 400 30).t _ _ _ (by kernel_rfl)
def E0y:T:=.ag [.sl 3 [.v (.string ⟨#[116,111,112]⟩),.sl 1 [.v (.int .u64 7)],.v (.slice none 0 0),.sl 2 [.v (.int .i64 0),.v (.int .i64 0),.v (.int .i64 1),.v (.int .i64 0)],.v (.string ⟨#[120]⟩),.sl 1 [.v (.int .u64 2)],.sl 1 [.v (.int .i64 0)],.sl 2 [.v (.int .i64 0),.v (.int .i64 0),.v (.int .i64 1),.v (.int .i64 0)],.v (.string ⟨#[121]⟩),.sl 1 [.v (.int .u64 4)],.sl 1 [.v (.int .i64 0)],.sl 2 [.v (.int .i64 0),.v (.int .i64 0),.v (.int .i64 1),.v (.int .i64 0)]],.sl 2 [.v (.string ⟨#[70]⟩),.v (.int .i64 0),.v (.string ⟨#[71]⟩),.v (.int .i64 0)]]
def G3t:List T:=[]
def B3i:T:=.sl 13 [.v (.string ⟨#[116,111,112]⟩),.v (.slice none 0 0),.v (.slice none 0 0),.v (.string ⟨#[108,105,115,116]⟩),.sl 1 [.v (.string ⟨#[116,111,112]⟩)],.v (.slice none 0 0),.v (.string ⟨#[99,111,110,115]⟩),.sl 1 [.v (.string ⟨#[108,105,115,116]⟩)],.sl 2 [.v (.string ⟨#[70,73,82,83,84]⟩),.v (.string ⟨#[116,111,112]⟩),.v (.string ⟨#[82,69,83,84]⟩),.v (.string ⟨#[108,105,115,116]⟩)],.v (.string ⟨#[110,117,108,108]⟩),.sl 1 [.v (.string ⟨#[108,105,115,116]⟩)],.v (.slice none 0 0),.v (.string ⟨#[100,108,105,115,116]⟩),.sl 1 [.v (.string ⟨#[116,111,112]⟩)],.sl 2 [.v (.string ⟨#[76,73,83,84]⟩),.v (.string ⟨#[108,105,115,116]⟩),.v (.string ⟨#[76,65,83,84]⟩),.v (.string ⟨#[108,105,115,116]⟩)],.v (.string ⟨#[105,110,100,101,120]⟩),.sl 1 [.v (.string ⟨#[116,111,112]⟩)],.v (.slice none 0 0),.v (.string ⟨#[104,97,110,100,108,101]⟩),.sl 1 [.v (.string ⟨#[105,110,100,101,120]⟩)],.v (.slice none 0 0),.v (.string ⟨#[101,118,101,110,116]⟩),.sl 1 [.v (.string ⟨#[105,110,100,101,120]⟩)],.v (.slice none 0 0),.v (.string ⟨#[101,110,116,105,116,121]⟩),.sl 1 [.v (.string ⟨#[105,110,100,101,120]⟩)],.v (.slice none 0 0),.v (.string ⟨#[114,101,108]⟩),.sl 1 [.v (.string ⟨#[116,111,112]⟩)],.sl 1 [.v (.string ⟨#[76,65,66,69,76]⟩),.v (.string ⟨#[104,97,110,100,108,101]⟩)],.v (.string ⟨#[113,101,113]⟩),.sl 1 [.v (.string ⟨#[116,111,112]⟩)],.sl 2 [.v (.string ⟨#[72,73,71,72]⟩),.v (.string ⟨#[104,97,110,100,108,101]⟩),.v (.string ⟨#[76,79,87]⟩),.v (.string ⟨#[104,97,110,100,108,101]⟩)],.v (.string ⟨#[115,101,109]⟩),.sl 1 [.v (.string ⟨#[116,111,112]⟩)],.sl 4 [.v (.string ⟨#[84,79,80]⟩),.v (.string ⟨#[104,97,110,100,108,101]⟩),.v (.string ⟨#[73,78,68,69,88]⟩),.v (.string ⟨#[105,110,100,101,120]⟩),.v (.string ⟨#[82,69,76,83]⟩),.v (.string ⟨#[100,108,105,115,116]⟩),.v (.string ⟨#[67,79,78,83]⟩),.v (.string ⟨#[100,108,105,115,116]⟩)],.v (.string ⟨#[115,105,103,110]⟩),.sl 1 [.v (.string ⟨#[116,111,112]⟩)],.sl 2 [.v (.string ⟨#[83,69,77]⟩),.v (.string ⟨#[115,101,109]⟩),.v (.string ⟨#[65,82,71,83]⟩),.v (.string ⟨#[108,105,115,116]⟩)]]
theorem H0g:A0y Try.prog G 46 G3t (· = B3i):=(A2n A1w B9k (memo:=[]) (A5l.nil) 400 30).t _ _ _ (by kernel_rfl)
end Go.Proofs.Ytbiadmfmjnoecaa
