/-
  Contract: does the layer do anything?
-/
import Derived.Test.YtaiahigeejodaaaGG
namespace Go.Proofs.Ytaiahigeejodaaa
open Go.RowKit
set_option linter.unusedVariables false
set_option linter.unusedSimpArgs false
attribute [local irreducible] Rd hRow hBlk hRd hRdr rowsP Fn hMarks

def w12 : List Nat := [0, 1, 0, 0, 0, 0, 0, 0, 0, 2, 1, 7]
theorem w12_bs : Bs w12 := fun c hc => by
  have h : w12.all (fun c => decide (c < 256)) = true := by decide
  exact of_decide_eq_true (List.all_eq_true.1 h c hc)
theorem w1_take : w1.enc.take 12 = w12 := w1_enc
section
variable {H : List HP} {w0 w : World}
set_option maxHeartbeats 8000000
end
end Go.Proofs.Ytaiahigeejodaaa
