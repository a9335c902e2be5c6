/-
  What the two listed tables hold.
-/
import Derived.Test.YtmiclamhiohemaaDoorRows
namespace Go.Proofs.YtmiclamhiohemaaDoor
open Go
set_option autoImplicit false

def accL : List Nat := [128, 191, 160, 191, 128, 159, 144, 191, 128, 143, 0, 0, 0, 0, 0, 0, 0, 0, 0, 0, 0, 0, 0, 0, 0, 0, 0, 0, 0, 0, 0, 0]
def tabAcc : Array Value := (accL.map fun (n : Nat) => Value.int .u8 n).toArray
def tabFirst : Array Value := (Go.Pinned.utf8FirstZ.map fun (n : Nat) => Value.int .u8 n).toArray
def putTab (tab : Array Value) : Obj → Obj
  | .cells _ t frozen => .cells tab t frozen
  | o => o
end Go.Proofs.YtmiclamhiohemaaDoor
