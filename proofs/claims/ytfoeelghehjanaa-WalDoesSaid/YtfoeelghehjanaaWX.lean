/-
  What is done to a log, as arguments; what a log does on a disk that does what it is told.
-/
import Derived.Test.YtfoeelghehjanaaWU
import Derived.Test.YtfoeelghehjanaaKp
import Derived.Test.YtfoeelghehjanaaKr
namespace Go.Proofs.Ytfoeelghehjanaa
open Go.RowKit
set_option linter.unusedVariables false
set_option linter.unusedSimpArgs false
/-! ## Operations as arguments -/
abbrev OT := Int × Int × Int × (Option Addr × Nat × List Bool) × Unit
def OT.cells (y : OT) : List Value := [Value.int .i64 y.1] ++ ([Value.int .i64 y.2.1] ++ ([Value.int .u8 y.2.2.1] ++ ([Value.slice y.2.2.2.1.1 y.2.2.2.1.2.2.length y.2.2.2.1.2.1] ++ [])))
def OT.ok (W : World) (y : OT) : Prop :=
  (Lit.int .i64 y.1).wf = true ∧ (Lit.int .i64 y.2.1).wf = true ∧ (Lit.int .u8 y.2.2.1).wf = true ∧
    (Rd W y.2.2.2.1.1 (y.2.2.2.1.2.2.flatMap fun b => [Value.bool b]) ∧ y.2.2.2.1.2.2.length ≤ y.2.2.2.1.2.1 ∧ y.2.2.2.1.2.1 ≤ maxLen ∧ y.2.2.2.1.2.2.length * 1 ≤ 140737488351232 ∧ ∀ b ∈ y.2.2.2.1.2.2, True ∧ [Value.bool b].length = 1) ∧ True
def OT.wop (y : OT) : WOp := ⟨y.1, y.2.1, y.2.2.1.toNat, y.2.2.2.1.1, y.2.2.2.1.2.1, y.2.2.2.1.2.2⟩
theorem OT.cells_wop {W : World} {y : OT} (h : y.ok W) : y.cells = y.wop.cells := by
  obtain ⟨h1, h2, h3, _⟩ := h
  have e3 := wf_u8 h3
  unfold OT.cells WOp.cells OT.wop
  dsimp only
  rw [Int.toNat_of_nonneg e3.1]
  rfl
theorem OT.wop_rd {W : World} {y : OT} (h : y.ok W) : y.wop.rd W := by
  obtain ⟨h1, h2, h3, ⟨a1, _⟩, _⟩ := h
  have e : ∀ l : List Bool, (l.flatMap fun b => [Value.bool b]) = l.map Value.bool := by
    intro l
    induction l with
    | nil => rfl
    | cons b l ih => rw [List.flatMap_cons, ih]; rfl
  rw [e] at a1
  exact a1
theorem OT.wop_wf {W : World} {y : OT} (h : y.ok W) : y.wop.wf := by
  obtain ⟨h1, h2, h3, ⟨a1, a2, a3, a4, _⟩, _⟩ := h
  have e3 := wf_u8 h3
  exact ⟨wf_i64 h1, wf_i64 h2, by show y.2.2.1.toNat < 256; omega, ⟨a2, by show y.2.2.2.1.2.2.length ≤ _; omega⟩⟩
abbrev LT := Option Addr × Nat × List OT
def LT.ok (W : World) (q : LT) : Prop := Rd W q.1 (q.2.2.flatMap OT.cells) ∧ q.2.2.length ≤ q.2.1 ∧ q.2.1 ≤ maxLen ∧ q.2.2.length * 48 ≤ 140737488351232 ∧ ∀ y ∈ q.2.2, OT.ok W y ∧ (OT.cells y).length = 4
def LT.wops (q : LT) : List WOp := q.2.2.map OT.wop
theorem LT.len (q : LT) : q.wops.length = q.2.2.length := by simp [LT.wops]
theorem LT.rd {W : World} {q : LT} (h : q.ok W) : Rd W q.1 (q.wops.flatMap WOp.cells) := by
  have key : ∀ l : List OT, (∀ y ∈ l, OT.ok W y ∧ (OT.cells y).length = 4) → l.flatMap OT.cells = (l.map OT.wop).flatMap WOp.cells := by
    intro l
    induction l with
    | nil => intro _; rfl
    | cons y l ih =>
      intro h
      rw [List.flatMap_cons, List.map_cons, List.flatMap_cons, ih fun z hz => h z (by simp [hz]), OT.cells_wop (h y (by simp)).1]
  have := h.1
  rw [key _ h.2.2.2.2] at this
  exact this
theorem LT.all {W : World} {q : LT} (h : q.ok W) : ∀ o ∈ q.wops, o.wf ∧ o.rd W := by
  intro o ho
  obtain ⟨y, hy, rfl⟩ := List.mem_map.1 ho
  exact ⟨OT.wop_wf (h.2.2.2.2 y hy).1, OT.wop_rd (h.2.2.2.2 y hy).1⟩
theorem LT.cap {W : World} {q : LT} (h : q.ok W) : q.wops.length ≤ q.2.1 ∧ q.wops.length ≤ 9223372036854775807 := by
  rw [LT.len]
  exact ⟨h.2.1, by have := h.2.2.2.1; omega⟩
/-! ## Calm disks -/
end Go.Proofs.Ytfoeelghehjanaa
