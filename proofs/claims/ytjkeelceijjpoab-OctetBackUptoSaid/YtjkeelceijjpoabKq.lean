/-
  The second form's bound on arguments.
-/
import Derived.Test.YtjkeelceijjpoabKp
import Derived.Test.YtjkeelceijjpoabRows
namespace Go.Proofs.Ytjkeelceijjpoab
open Go.RowKit Go.ChangeShapes Go.WideShapes
set_option linter.unusedVariables false
set_option linter.unusedSimpArgs false

theorem bulk_one {H : Type} (d : DataW H) : 1 ≤ Rows.uptoBulk d := by
  cases d with
  | lit l => cases l <;> simp [Rows.uptoBulk]
  | nil => simp [Rows.uptoBulk]
  | ptr d => simp [Rows.uptoBulk]
  | slice elems spare => simp [Rows.uptoBulk]
  | agg parts => simp [Rows.uptoBulk]
  | iface t d => simp [Rows.uptoBulk]
  | map entries => simp [Rows.uptoBulk]
  | held h => simp [Rows.uptoBulk]
theorem bulk_part {H : Type} {d : DataW H} {l : List (DataW H)} (h : d ∈ l) : Rows.uptoBulk d ≤ Rows.uptoBulkAll l := by
  induction l with
  | nil => cases h
  | cons x r ih =>
    simp only [Rows.uptoBulkAll]
    cases List.mem_cons.1 h with
    | inl e => subst e; omega
    | inr e => have := ih e; omega
theorem bulk_len {H : Type} (l : List (DataW H)) : l.length ≤ Rows.uptoBulkAll l := by
  induction l with
  | nil => simp [Rows.uptoBulkAll]
  | cons x r ih => have := bulk_one x; simp only [Rows.uptoBulkAll, List.length_cons]; omega
def Sz.upto (H : Type) (P : Program) : Sz H P where
  S t d := Rows.uptoBulk d ≤ 1048576
  okn n b := n ≤ 1048576
  zero := by intro b; simp
  mono := fun h h2 => Nat.le_trans h h2
  slice := by
    intro t e el sp ht h
    simp only [Rows.uptoBulk] at h
    have h1 := bulk_len el
    have h2 := bulk_len sp
    refine ⟨by omega, fun d hd => ?_⟩
    have := bulk_part hd
    omega
  struct := by
    intro t fs l ht h i f d hf hd
    simp only [Rows.uptoBulk] at h
    have := bulk_part (List.mem_of_getElem? hd)
    omega
  array := by
    intro t e n l ht h d hd
    simp only [Rows.uptoBulk] at h
    have := bulk_part hd
    omega
theorem Sz.upto_at {H : Type} {P : Program} {ds : List (DataW H)} (hk : Rows.uptoSmall H ds = true) {t : TypeId} {d : DataW H} (hd : d ∈ ds) : (Sz.upto H P).S t d := by
  have h : Rows.uptoBulkAll ds ≤ 1048576 := of_decide_eq_true hk
  have := bulk_part hd
  show Rows.uptoBulk d ≤ 1048576
  omega
end Go.Proofs.Ytjkeelceijjpoab
