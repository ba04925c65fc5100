/-
  No cell of these rows narrows 'for every input' (looked for: loops, veiled, ifaces, maps, wideKeys, modest, calm, conditions, laid).
  DERIVED. THE GIVEN ROWS OF THIS SEAT. 5 by the template 'for every input the law returns true; each argument reads behind the call as it read before'; 0 by the template 'total and deterministic' (their statements: YtaiahigeejodaaaTotals.lean).
  GIVEN WITH THE SEED: the statements are not yours to turn. If you find one false, say at which input.
  Laid BY PROGRAM, IN A SANDBOX (cutbox-rows.mjs): the forced cells as the released guide's own fill.sh prints them over the translation 81cb786798d5a201… (all of the seat's roots in one cut). By AI agents, Wed Nov 11 2026. No macro, syntax, notation, axiom, sorry.
-/
import Derived.Test.YtaiahigeejodaaaChecked
import GoSem.Claim
import GoSem.ClaimJoined
import GoSem.ClaimMapViews
import Derived.JoinedTies
import Derived.KernelRfl
namespace Go.Proofs.Ytaiahigeejodaaa
/- THE CELL 'sum', in the pinned program and in every row, IS THE sha256 OF THE DUMP (.gsa) THAT YtaiahigeejodaaaProg.lean LOADS. Nothing in Lean hashes anything: it is a label: what it is worth is what the hold of that sum in a sandbox is worth. -/
noncomputable def Try.pinned : Pinned := { name := "ytaiahigeejodaaa", sum := "81cb786798d5a20106ca1c32962bccd8fd842124064df7b80f8d4691f1bb2aec", checked := Try.checked }
namespace Rows
def none {H : Type} : Left H := { results := [], args := [] }

/-- 'gazetteerlaw10.HeapTuples': WHATEVER THE INPUT: true; the input reads as it did. -/
def heapTuplesSpec : ChangeSpec := { name := "heapTuples", fn := fun _ => fun
  | [d1, d2] => { results := [.lit (.bool true)], args := [d1, d2] }
  | _ => none }
def heapTuplesRow : OpenClaim := { program := "ytaiahigeejodaaa", sum := "81cb786798d5a20106ca1c32962bccd8fd842124064df7b80f8d4691f1bb2aec", func := "gazetteer/gazetteerlaw10.HeapTuples", spec := "heapTuples", unfollowed := true, recurses := true, apart := false }
def HeapTuplesSaid : Prop := heapTuplesRow.holds Try.pinned (OpenSpec.ofChange heapTuplesSpec)

/-- ITS FALSE NEIGHBOUR: 'it returns false'. Refute it at one input. -/
def heapTuplesWrong : ChangeSpec := { name := "heapTuples", fn := fun _ => fun
  | [d1, d2] => { results := [.lit (.bool false)], args := [d1, d2] }
  | _ => none }
def HeapTuplesWrongFalsely : Prop := heapTuplesRow.holds Try.pinned (OpenSpec.ofChange heapTuplesWrong)

/-- 'gazetteerlaw10.HeapBack': WHATEVER THE INPUT: true; the input reads as it did. -/
def heapBackSpec : ChangeSpec := { name := "heapBack", fn := fun _ => fun
  | [d1, d2] => { results := [.lit (.bool true)], args := [d1, d2] }
  | _ => none }
def heapBackRow : OpenClaim := { program := "ytaiahigeejodaaa", sum := "81cb786798d5a20106ca1c32962bccd8fd842124064df7b80f8d4691f1bb2aec", func := "gazetteer/gazetteerlaw10.HeapBack", spec := "heapBack", unfollowed := true, recurses := true, apart := false }
def HeapBackSaid : Prop := heapBackRow.holds Try.pinned (OpenSpec.ofChange heapBackSpec)

/-- ITS FALSE NEIGHBOUR: 'it returns false'. Refute it at one input. -/
def heapBackWrong : ChangeSpec := { name := "heapBack", fn := fun _ => fun
  | [d1, d2] => { results := [.lit (.bool false)], args := [d1, d2] }
  | _ => none }
def HeapBackWrongFalsely : Prop := heapBackRow.holds Try.pinned (OpenSpec.ofChange heapBackWrong)

/-- 'gazetteerlaw10.HeapRows': WHATEVER THE INPUT: true; the input reads as it did. -/
def heapRowsSpec : ChangeSpec := { name := "heapRows", fn := fun _ => fun
  | [d] => { results := [.lit (.bool true)], args := [d] }
  | _ => none }
def heapRowsRow : OpenClaim := { program := "ytaiahigeejodaaa", sum := "81cb786798d5a20106ca1c32962bccd8fd842124064df7b80f8d4691f1bb2aec", func := "gazetteer/gazetteerlaw10.HeapRows", spec := "heapRows", unfollowed := true, recurses := true, apart := false }
def HeapRowsSaid : Prop := heapRowsRow.holds Try.pinned (OpenSpec.ofChange heapRowsSpec)

/-- ITS FALSE NEIGHBOUR: 'it returns false'. Refute it at one input. -/
def heapRowsWrong : ChangeSpec := { name := "heapRows", fn := fun _ => fun
  | [d] => { results := [.lit (.bool false)], args := [d] }
  | _ => none }
def HeapRowsWrongFalsely : Prop := heapRowsRow.holds Try.pinned (OpenSpec.ofChange heapRowsWrong)

/-- 'gazetteerlaw10.HeapPages': WHATEVER THE INPUT: true; the input reads as it did. -/
def heapPagesSpec : ChangeSpec := { name := "heapPages", fn := fun _ => fun
  | [d1, d2] => { results := [.lit (.bool true)], args := [d1, d2] }
  | _ => none }
def heapPagesRow : OpenClaim := { program := "ytaiahigeejodaaa", sum := "81cb786798d5a20106ca1c32962bccd8fd842124064df7b80f8d4691f1bb2aec", func := "gazetteer/gazetteerlaw10.HeapPages", spec := "heapPages", unfollowed := true, recurses := true, apart := false }
def HeapPagesSaid : Prop := heapPagesRow.holds Try.pinned (OpenSpec.ofChange heapPagesSpec)

/-- ITS FALSE NEIGHBOUR: 'it returns false'. Refute it at one input. -/
def heapPagesWrong : ChangeSpec := { name := "heapPages", fn := fun _ => fun
  | [d1, d2] => { results := [.lit (.bool false)], args := [d1, d2] }
  | _ => none }
def HeapPagesWrongFalsely : Prop := heapPagesRow.holds Try.pinned (OpenSpec.ofChange heapPagesWrong)

/-- 'gazetteerlaw10.HeapPuts': WHATEVER THE INPUT: true; the input reads as it did. -/
def heapPutsSpec : ChangeSpec := { name := "heapPuts", fn := fun _ => fun
  | [d1, d2] => { results := [.lit (.bool true)], args := [d1, d2] }
  | _ => none }
def heapPutsRow : OpenClaim := { program := "ytaiahigeejodaaa", sum := "81cb786798d5a20106ca1c32962bccd8fd842124064df7b80f8d4691f1bb2aec", func := "gazetteer/gazetteerlaw10.HeapPuts", spec := "heapPuts", unfollowed := true, recurses := true, apart := false }
def HeapPutsSaid : Prop := heapPutsRow.holds Try.pinned (OpenSpec.ofChange heapPutsSpec)

/-- ITS FALSE NEIGHBOUR: 'it returns false'. Refute it at one input. -/
def heapPutsWrong : ChangeSpec := { name := "heapPuts", fn := fun _ => fun
  | [d1, d2] => { results := [.lit (.bool false)], args := [d1, d2] }
  | _ => none }
def HeapPutsWrongFalsely : Prop := heapPutsRow.holds Try.pinned (OpenSpec.ofChange heapPutsWrong)

/- THE SECOND FORM. 'bulk': how many values and letters a reading holds, each counted each time it is reached (what is shared counts as often as it is met; a slice's spare places count too). A statement '..UptoSaid' is the law's where the arguments, and the package variables that the reading takes, are together of bulk at most 1048576: NARROWER than '..Said'. Prove '..Said' where nothing that the law and all that it calls make is longer than what came in: it says more and counts as full. Else prove '..UptoSaid'. A law counts once. -/
mutual
def uptoBulk {H : Type} : DataW H → Nat
  | .lit (.string bytes) => bytes.length + 1
  | .lit _ => 1
  | .nil => 1
  | .ptr d => uptoBulk d + 1
  | .slice elems spare => uptoBulkAll elems + uptoBulkAll spare + 1
  | .agg parts => uptoBulkAll parts + 1
  | .iface _ d => uptoBulk d + 1
  | .map entries => uptoBulkEntries entries + 1
  | .held _ => 1
def uptoBulkAll {H : Type} : List (DataW H) → Nat
  | [] => 0
  | d :: r => uptoBulk d + uptoBulkAll r
def uptoBulkEntries {H : Type} : List (Lit × DataW H) → Nat
  | [] => 0
  | x :: r => uptoBulkEntry x + uptoBulkEntries r
def uptoBulkEntry {H : Type} : Lit × DataW H → Nat
  | (.string bytes, d) => bytes.length + uptoBulk d + 1
  | (_, d) => uptoBulk d + 1
 end
def uptoSmall : (H : Type) → List (DataW H) → Bool := fun _ ds => decide (uptoBulkAll ds ≤ 1048576)
def OpenSpec.upto (s : _root_.Go.ChangeSpec) : _root_.Go.OpenSpec := { _root_.Go.OpenSpec.ofChange s with cond := some uptoSmall }

/-- 'gazetteerlaw10.HeapTuples', WHERE WHAT IT READS IS OF BULK AT MOST 1048576: true; the input reads as it did. -/
def heapTuplesUptoRow : OpenClaim := { program := "ytaiahigeejodaaa", sum := "81cb786798d5a20106ca1c32962bccd8fd842124064df7b80f8d4691f1bb2aec", func := "gazetteer/gazetteerlaw10.HeapTuples", spec := "heapTuples", unfollowed := true, recurses := true, apart := false, narrowed := true }
def HeapTuplesUptoSaid : Prop := heapTuplesUptoRow.holds Try.pinned (OpenSpec.upto heapTuplesSpec)

/-- 'gazetteerlaw10.HeapBack', WHERE WHAT IT READS IS OF BULK AT MOST 1048576: true; the input reads as it did. -/
def heapBackUptoRow : OpenClaim := { program := "ytaiahigeejodaaa", sum := "81cb786798d5a20106ca1c32962bccd8fd842124064df7b80f8d4691f1bb2aec", func := "gazetteer/gazetteerlaw10.HeapBack", spec := "heapBack", unfollowed := true, recurses := true, apart := false, narrowed := true }
def HeapBackUptoSaid : Prop := heapBackUptoRow.holds Try.pinned (OpenSpec.upto heapBackSpec)

/-- 'gazetteerlaw10.HeapRows', WHERE WHAT IT READS IS OF BULK AT MOST 1048576: true; the input reads as it did. -/
def heapRowsUptoRow : OpenClaim := { program := "ytaiahigeejodaaa", sum := "81cb786798d5a20106ca1c32962bccd8fd842124064df7b80f8d4691f1bb2aec", func := "gazetteer/gazetteerlaw10.HeapRows", spec := "heapRows", unfollowed := true, recurses := true, apart := false, narrowed := true }
def HeapRowsUptoSaid : Prop := heapRowsUptoRow.holds Try.pinned (OpenSpec.upto heapRowsSpec)

/-- 'gazetteerlaw10.HeapPages', WHERE WHAT IT READS IS OF BULK AT MOST 1048576: true; the input reads as it did. -/
def heapPagesUptoRow : OpenClaim := { program := "ytaiahigeejodaaa", sum := "81cb786798d5a20106ca1c32962bccd8fd842124064df7b80f8d4691f1bb2aec", func := "gazetteer/gazetteerlaw10.HeapPages", spec := "heapPages", unfollowed := true, recurses := true, apart := false, narrowed := true }
def HeapPagesUptoSaid : Prop := heapPagesUptoRow.holds Try.pinned (OpenSpec.upto heapPagesSpec)

/-- 'gazetteerlaw10.HeapPuts', WHERE WHAT IT READS IS OF BULK AT MOST 1048576: true; the input reads as it did. -/
def heapPutsUptoRow : OpenClaim := { program := "ytaiahigeejodaaa", sum := "81cb786798d5a20106ca1c32962bccd8fd842124064df7b80f8d4691f1bb2aec", func := "gazetteer/gazetteerlaw10.HeapPuts", spec := "heapPuts", unfollowed := true, recurses := true, apart := false, narrowed := true }
def HeapPutsUptoSaid : Prop := heapPutsUptoRow.holds Try.pinned (OpenSpec.upto heapPutsSpec)

end Rows
end Go.Proofs.Ytaiahigeejodaaa
