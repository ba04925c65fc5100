/-
  Contract: decoding a page.
-/
import Derived.Test.YtaiahigeejodaaaGF
namespace Go.Proofs.Ytaiahigeejodaaa
open Go.RowKit
set_option linter.unusedVariables false
set_option linter.unusedSimpArgs false
attribute [local irreducible] Rd hRow hBlk hRd hRdr rowsP Fn hMarks

theorem zeroP (n : Int) : Pg.cells ⟨n, 0, [nilS, nilS, nilS, nilS]⟩ = pcells n 0 [] := rfl
section
variable {H : List HP} {w0 w : World}
set_option maxHeartbeats 8000000
end
end Go.Proofs.Ytaiahigeejodaaa
