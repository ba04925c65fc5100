/-
  The plain law of what a crash leaves (no program in sight).
-/
import Derived.Test.YtnnamckabjhflaaDS
namespace Go.Proofs.Ytnnamckabjhflaa
open Go.RowKit
set_option linter.unusedVariables false
set_option linter.unusedSimpArgs false

theorem getD_set (s : List Blk) (a i : Nat) (b : Blk) (h : a < s.length) : (s.set a b).getD i noughts = if a = i then b else s.getD i noughts := by
  by_cases hc : a = i
  · subst hc
    simp [List.getD_eq_getElem?_getD, h]
  · simp [List.getD_eq_getElem?_getD, hc, List.getElem?_set]
theorem lay_some : ∀ (l : List Wr) (s : List Blk) (live : Nat → Bool) (j i : Nat), (∀ x ∈ l, x.at_ < s.length) →
    (lay s l live j).getD i noughts = s.getD i noughts ∨ ∃ (k : Nat) (h : k < l.length), (l[k]'h).at_ = i ∧ (lay s l live j).getD i noughts = (l[k]'h).b
  | [], s, live, j, i, _ => .inl rfl
  | x :: l, s, live, j, i, hx => by
    unfold lay
    have hxs := hx x (by simp)
    have ih := lay_some l (if live j then s.set x.at_ x.b else s) live (j + 1) i (fun y hy => by have := hx y (by simp [hy]); split <;> simpa using this)
    rcases ih with h | ⟨k, hk, h1, h2⟩
    · rw [h]
      split
      · rw [getD_set _ _ _ _ hxs]
        by_cases hc : x.at_ = i
        · rw [if_pos hc]
          exact .inr ⟨0, by simp, hc, rfl⟩
        · rw [if_neg hc]; exact .inl rfl
      · exact .inl rfl
    · exact .inr ⟨k + 1, by simp; omega, h1, h2⟩
theorem lay_false : ∀ (l : List Wr) (s : List Blk) (j : Nat), lay s l (fun _ => false) j = s
  | [], s, j => rfl
  | x :: l, s, j => by unfold lay; exact lay_false l s (j + 1)
theorem lay_ones : ∀ (l : List Wr) (s : List Blk) (j k i : Nat) (h : k < l.length), (∀ x ∈ l, x.at_ < s.length) → (l[k]'h).at_ = i → (lay s l (fun m => decide (m = j + k)) j).getD i noughts = (l[k]'h).b
  | [], s, j, k, i, h, _, _ => by simp at h
  | x :: l, s, j, 0, i, h, hx, hi => by
    unfold lay
    rw [lay_congr (l1 := fun m => decide (m = j + 0)) (l2 := fun _ => false) l _ (j + 1) fun m h1 h2 => by simp; omega, lay_false]
    simp only [Nat.add_zero, decide_true, if_true]
    rw [getD_set _ _ _ _ (hx x (by simp)), if_pos (show x.at_ = i from hi)]
    rfl
  | x :: l, s, j, k + 1, i, h, hx, hi => by
    unfold lay
    have hd : decide (j = j + (k + 1)) = false := by simp
    simp only [hd, Bool.false_eq_true, if_false]
    have ih := lay_ones l s (j + 1) k i (by simpa using h) (fun y hy => hx y (by simp [hy])) hi
    rw [show j + (k + 1) = j + 1 + k by omega]
    exact ih
def ones (k : Nat) : List Bool := List.replicate k false ++ [true]
theorem ones_len (k : Nat) : (ones k).length = k + 1 := by simp [ones]
theorem ones_getD (k m : Nat) : (ones k).getD m false = decide (m = k) := by
  unfold ones
  rw [List.getD_eq_getElem?_getD]
  rcases Nat.lt_trichotomy m k with h | h | h
  · rw [List.getElem?_append_left (by simpa using h), List.getElem?_replicate, if_pos h]
    simp; omega
  · subst h
    rw [List.getElem?_append_right (by simp)]
    simp
  · rw [List.getElem?_eq_none (by simp; omega)]
    simp; omega
theorem vec_nil {D : DM} (h : D.pend = []) : D.vec = D.safe := by
  apply List.ext_getElem
  · exact vec_len D
  · intro i h1 h2
    simp only [DM.vec, List.getElem_map, List.getElem_range]
    unfold DM.holds
    rw [h]
    simp [lastOf, List.getD_eq_getElem?_getD, h2]
theorem crash_vecs (D : DM) (keep : List Bool) : (D.crash keep).vec = lay D.safe D.pend (fun i => keep.getD i false) 0 := vec_nil rfl
theorem crash_lv (D : DM) (keep : List Bool) : (D.crash keep).lv := ⟨rfl, rfl, rfl⟩
theorem crash_len (D : DM) (keep : List Bool) : (D.crash keep).safe.length = D.safe.length := lay_length _ _ _ _
theorem crash_none (D : DM) : (D.crash []).vec = D.safe := by
  rw [crash_vecs]
  exact lay_false D.pend D.safe 0
theorem crash_one {D : DM} (hD : D.ok) {k i : Nat} (hk : k < D.pend.length) (hi : (D.pend[k]'hk).at_ = i) : ((D.crash (ones k)).read (i : Int)).2.1 = (D.pend[k]'hk).b := by
  have hx := (hD.pend _ (List.getElem_mem hk)).2
  rw [read_lv (crash_lv D _) (by rw [crash_len]; omega)]
  show DM.holds (D.crash (ones k)) i = _
  show (lastOf [] i).getD ((lay D.safe D.pend (fun i => (ones k).getD i false) 0).getD i noughts) = _
  have e : (fun i => (ones k).getD i false) = fun m => decide (m = 0 + k) := by
    funext m
    rw [ones_getD, Nat.zero_add]
  rw [e, lay_ones D.pend D.safe 0 k i hk (fun x hx => (hD.pend x hx).2) hi]
  rfl
/-- what lives on was held at some time -/
theorem crash_held {D : DM} (hD : D.ok) (keep : List Bool) (i : Nat) (hi : i < D.safe.length) : (D.crash keep).vec.getD i noughts = D.safe.getD i noughts ∨ ∃ (k : Nat) (h : k < D.pend.length), (D.pend[k]'h).at_ = i ∧ (D.crash keep).vec.getD i noughts = (D.pend[k]'h).b := by
  rw [crash_vecs]
  exact lay_some D.pend D.safe _ 0 i fun x hx => (hD.pend x hx).2
theorem fits_ops {D : DM} {n m : Nat} (h : D.fits n) (hm : n + 6 ≤ m) (hb : m ≤ 90000) : DM.fits { D with ops := D.ops + (6 : Nat) } m := by
  obtain ⟨⟨⟨h1, h2, h3, h4, h5, h6, h7⟩, hp, ho⟩, ⟨l1, l2, l3⟩⟩ := h
  have hle : D.ops ≤ 90000 ∨ 90000 < D.ops := by omega
  exact ⟨⟨⟨h1, h2, h3, h4, h5, h6, ⟨by dsimp only; omega, by dsimp only; omega⟩⟩, by dsimp only; omega, by dsimp only; omega⟩, ⟨l1, l2, l3⟩⟩
end Go.Proofs.Ytnnamckabjhflaa
