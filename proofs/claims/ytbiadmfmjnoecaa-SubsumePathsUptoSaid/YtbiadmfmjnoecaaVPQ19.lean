/-
 Auxiliary facts. No statement of the program stands here.
-/
import Derived.Test.YtbiadmfmjnoecaaRows
namespace Go.Proofs.Ytbiadmfmjnoecaa
set_option linter.unusedSimpArgs false
set_option linter.unusedVariables false
def val (B:Nat):List Nat->Nat
 | []=>0
 | d::ds=>d+B*val B ds
def digs (B:Nat):Nat->Nat->List Nat
 | 0,_=>[]
 | n+1,x=>x%B::digs B n (x / B)
def popc (x:Nat):Nat:=(digs 2 64 x).sum
end Go.Proofs.Ytbiadmfmjnoecaa
