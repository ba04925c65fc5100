/-
  Spots, tuples and what is stored, held against each other.
-/
import Derived.Test.YtaiahigeejodaaaHH
import Derived.Test.YtaiahigeejodaaaK2
namespace Go.Proofs.Ytaiahigeejodaaa
open Go.RowKit
set_option linter.unusedVariables false
set_option linter.unusedSimpArgs false
attribute [local irreducible] Rd hRow hBlk hRd hRdr rowsP Fn hMarks

instance : TyE Try.prog 54 [(0, 3), (1, 3)] := ⟨⟨_, Try.underlying54, rfl, rfl⟩, by kernel_rfl⟩
instance : TyE Try.prog 28 [(0, 2), (1, 2), (2, 2), (3, 2)] := ⟨⟨_, Try.underlying28, rfl, rfl⟩, by kernel_rfl⟩
instance : TyE Try.prog 30 [(0, 25), (1, 26), (2, 26), (3, 28), (7, 2)] := ⟨⟨_, Try.underlying30, rfl, rfl⟩, by kernel_rfl⟩
instance : TyG Try.prog 54 := ⟨by kernel_rfl⟩
instance : TyG Try.prog 30 := ⟨by kernel_rfl⟩
section
variable {w : World}
abbrev spc (n : Int) (k : Int) : List Value := [.int .i64 n, .int .i64 k]
theorem eq_spot (d : Nat) (n k n' k' : Int) : (Op.equalIn (d + 2) 54 (.agg (spc n k).toArray) (.agg (spc n' k').toArray)).run Try.prog w = .ok (decide (n = n' ∧ k = k')) w := by
  rw [es_struct, es_cons (es_p1 rfl) (es_p1 rfl) es_int (es_cons (es_p1 rfl) (es_p1 rfl) es_int es_nil)]
  simp
abbrev kyc (a b c d : Int) : List Value := [.int .i64 a, .int .i64 b, .int .i64 c, .int .i64 d]
theorem eq_key (dd : Nat) (a b c d a' b' c' d' : Int) : (Op.equalIn (dd + 2) 28 (.agg (kyc a b c d).toArray) (.agg (kyc a' b' c' d').toArray)).run Try.prog w = .ok (decide (a = a' ∧ b = b' ∧ c = c' ∧ d = d')) w := by
  rw [es_struct, es_cons (es_p1 rfl) (es_p1 rfl) es_int (es_cons (es_p1 rfl) (es_p1 rfl) es_int (es_cons (es_p1 rfl) (es_p1 rfl) es_int (es_cons (es_p1 rfl) (es_p1 rfl) es_int es_nil)))]
  simp
theorem eq_tuple (dd : Nat) (t u : TM) : (Op.equalIn (dd + 3) 30 (.agg t.cells.toArray) (.agg u.cells.toArray)).run Try.prog w = .ok (decide (t = u)) w := by
  have hk := eq_key (w := w) dd t.x0 t.x1 t.y0 t.y1 u.x0 u.x1 u.y0 u.y1
  rw [es_struct, es_cons (es_p1 rfl) (es_p1 rfl) es_int (es_cons (es_p1 rfl) (es_p1 rfl) es_int (es_cons (es_p1 rfl) (es_p1 rfl) es_int (es_cons (es_pA (ys := kyc t.x0 t.x1 t.y0 t.y1) rfl) (es_pA (ys := kyc u.x0 u.x1 u.y0 u.y1) rfl) hk (es_cons (es_p1 rfl) (es_p1 rfl) es_int es_nil))))]
  refine congrArg (fun r => Result.ok r w) ?_
  obtain ⟨r, a, b, x0, x1, y0, y1, v⟩ := t
  obtain ⟨r', a', b', x0', x1', y0', y1', v'⟩ := u
  simp only [TM.mk.injEq, Int.ofNat_inj, Bool.and_true]
  by_cases h : r = r' ∧ a = a' ∧ b = b' ∧ x0 = x0' ∧ x1 = x1' ∧ y0 = y0' ∧ y1 = y1' ∧ v = v'
  · obtain ⟨rfl, rfl, rfl, rfl, rfl, rfl, rfl, rfl⟩ := h
    simp
  · rw [decide_eq_false h]
    simp
    omega
end
end Go.Proofs.Ytaiahigeejodaaa
