/-
  Contracts: may a page be; its first free slot.
-/
import Derived.Test.YtfoeelghehjanaaGC
namespace Go.Proofs.Ytfoeelghehjanaa
open Go.RowKit
set_option linter.unusedVariables false
set_option linter.unusedSimpArgs false
attribute [local irreducible] Rd hRow hBlk hRd hAll Fn hMarks

section
variable {H : List HP} {w0 w : World}
set_option maxHeartbeats 8000000
end
end Go.Proofs.Ytfoeelghehjanaa
