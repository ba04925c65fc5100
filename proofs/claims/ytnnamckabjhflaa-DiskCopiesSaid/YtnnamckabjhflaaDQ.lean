/-
  The plain law of a disk that is armed, or set to fail (no program in sight).
-/
import Derived.Test.YtnnamckabjhflaaDN
namespace Go.Proofs.Ytnnamckabjhflaa
open Go.RowKit
set_option linter.unusedVariables false
set_option linter.unusedSimpArgs false

/-- the same disk, armed -/
abbrev DM.am (D : DM) (m : Int) : DM := { D with armed := true, left := m }
/-- the same disk, without power -/
abbrev DM.dd (D : DM) : DM := { D with dead := true, armed := false, left := 0 }
/-- the same disk, set to fail -/
abbrev DM.fl (D : DM) (m : Int) : DM := { D with fails := m }
theorem atN_am {D : DM} {n : Nat} (h : D.atN n) {m : Int} (hm : 0 ≤ m ∧ m ≤ 1000) : (D.am m).atN n := by
  obtain ⟨⟨h1, h2, h3, h4, h5, h6, h7⟩, hp, ho⟩ := h
  exact ⟨⟨h1, h2, h3, h4, ⟨by dsimp only; omega, by dsimp only; omega, fun _ => hm.1⟩, h6, h7⟩, hp, ho⟩
theorem atN_dd {D : DM} {n : Nat} (h : D.atN n) : D.dd.atN n := by
  obtain ⟨⟨h1, h2, h3, h4, h5, h6, h7⟩, hp, ho⟩ := h
  exact ⟨⟨h1, h2, h3, h4, ⟨by dsimp only; omega, by dsimp only; omega, fun e => by cases e⟩, h6, h7⟩, hp, ho⟩
theorem atN_fl {D : DM} {n : Nat} (h : D.atN n) {m : Int} (hm : 0 ≤ m ∧ m ≤ 1000) : (D.fl m).atN n := by
  obtain ⟨⟨h1, h2, h3, h4, h5, h6, h7⟩, hp, ho⟩ := h
  exact ⟨⟨h1, h2, h3, h4, h5, ⟨by dsimp only; omega, by dsimp only; omega⟩, h7⟩, hp, ho⟩
theorem ready_am_yes {D : DM} (h : D.lv) {m i : Int} (h0 : 0 ≤ i) (h1 : i < D.safe.length) : (D.am m).ready i = (D.am m, 0) := by
  unfold DM.ready
  dsimp only
  rw [h.dead, h.fails, if_neg (by decide), if_neg (by omega)]
  rfl
theorem ready_am_no {D : DM} (h : D.lv) {m i : Int} (hi : i < 0 ∨ (D.safe.length : Int) ≤ i) : (D.am m).ready i = (D.am m, 2) := by
  unfold DM.ready
  dsimp only
  rw [h.dead, if_neg (by decide), if_pos hi]
theorem do_am {D : DM} {m : Int} (hm : m ≠ 0) : (D.am m).do_ = (DM.am { D with ops := D.ops + 1 } (m - 1), true) := by
  unfold DM.do_
  dsimp only
  rw [if_pos rfl, if_neg hm]
theorem do_am0 {D : DM} : (D.am 0).do_ = ({ D with dead := true, armed := false, left := 0 }, false) := by
  unfold DM.do_
  dsimp only
  rw [if_pos rfl, if_pos rfl]
theorem does_read (D : DM) {o : Opn} (h : o.k = 0) : D.does o = D.read o.at_ := by unfold DM.does; rw [if_pos h]
theorem does_write (D : DM) {o : Opn} (h : o.k = 1) : D.does o = ((D.write o.at_ (blkB o.fill)).1, noughts, (D.write o.at_ (blkB o.fill)).2) := by unfold DM.does; rw [if_neg (by omega), if_pos h]
theorem does_sync (D : DM) {o : Opn} (h : o.k = 2) : D.does o = (D.sync.1, noughts, D.sync.2) := by unfold DM.does; rw [if_neg (by omega), if_neg (by omega), if_pos h]
def Opn.acts (o : Opn) : Prop := o.k = 2 ∨ (o.k = 1 ∧ 0 ≤ o.at_ ∧ o.at_ < 6)
theorem does_am_dead {D : DM} (h : D.lv) (hl : D.safe.length = 6) {o : Opn} (ho : o.acts) : (D.am 0).does o = (D.dd, noughts, 9) := by
  rcases ho with h2 | ⟨h1, h3, h4⟩
  · rw [does_sync _ h2]
    unfold DM.sync
    rw [ready_am_yes h (by omega) (by omega)]
    simp [do_am0]
  · rw [does_write _ h1]
    unfold DM.write
    rw [ready_am_yes h (by omega) (by omega)]
    simp [do_am0]
theorem does_am {D : DM} (h : D.lv) (hl : D.safe.length = 6) {o : Opn} (hk : o.k < 3) {m : Int} (hm : m = 0 → ¬ o.acts) :
    (D.am m).does o = ((D.does o).1.am (if 0 < o.k ∧ (D.does o).2.2 = 0 then m - 1 else m), (D.does o).2.1, (D.does o).2.2) := by
  rcases (show o.k = 0 ∨ o.k = 1 ∨ o.k = 2 by omega) with h0 | h0 | h0
  · rw [does_read _ h0, does_read _ h0, if_neg (by omega)]
    by_cases hi : o.at_ < 0 ∨ (D.safe.length : Int) ≤ o.at_
    · rw [read_out h hi]
      unfold DM.read
      rw [ready_am_no h hi]
      simp
    · obtain ⟨n, hn⟩ := Int.eq_ofNat_of_zero_le (show 0 ≤ o.at_ by omega)
      rw [hn, read_lv h (by omega)]
      unfold DM.read
      rw [ready_am_yes h (by omega) (by omega)]
      simp
      rfl
  · rw [does_write _ h0, does_write _ h0]
    by_cases hi : o.at_ < 0 ∨ (D.safe.length : Int) ≤ o.at_
    · rw [write_out h hi]
      rw [if_neg (fun q => absurd (show (2 : Int) = 0 from q.2) (by decide))]
      unfold DM.write
      rw [ready_am_no h hi]
      simp
    · obtain ⟨n, hn⟩ := Int.eq_ofNat_of_zero_le (show 0 ≤ o.at_ by omega)
      have hm0 : m ≠ 0 := fun e => hm e (.inr ⟨h0, by omega, by omega⟩)
      rw [hn, write_lv h (by omega), if_pos ⟨by omega, rfl⟩]
      unfold DM.write
      rw [ready_am_yes h (by omega) (by omega)]
      simp [do_am hm0]
  · have hm0 : m ≠ 0 := fun e => hm e (.inl h0)
    rw [does_sync _ h0, does_sync _ h0, sync_lv h (by omega), if_pos ⟨by omega, rfl⟩]
    unfold DM.sync
    rw [ready_am_yes h (by omega) (by omega)]
    simp [do_am hm0]
    rfl
theorem ready_dd (D : DM) (i : Int) : D.dd.ready i = (D.dd, 9) := by unfold DM.ready; rw [if_pos rfl]
theorem read_dd (D : DM) (i : Int) : D.dd.read i = (D.dd, noughts, 9) := by unfold DM.read; rw [ready_dd]; simp
theorem sync_dd (D : DM) : D.dd.sync = (D.dd, 9) := by unfold DM.sync; rw [ready_dd]; simp
theorem arm_dd (D : DM) (n : Int) : D.dd.arm n = (D.dd, 9) := by unfold DM.arm; rw [if_pos rfl]
theorem fail_dd (D : DM) (n : Int) : D.dd.fail n = (D.dd, 9) := by unfold DM.fail; rw [if_pos rfl]
theorem lay_congr {l1 l2 : Nat → Bool} : ∀ (l : List Wr) (s : List Blk) (j : Nat), (∀ k, j ≤ k → k < j + l.length → l1 k = l2 k) → lay s l l1 j = lay s l l2 j
  | [], s, j, _ => rfl
  | x :: l, s, j, h => by
    unfold lay
    rw [h j (Nat.le_refl _) (by simp)]
    exact lay_congr l _ (j + 1) fun k h1 h2 => h k (by omega) (by simp; omega)
theorem getD_rep (n i : Nat) (h : i < n) : (List.replicate n true).getD i false = true := by
  rw [List.getD_eq_getElem?_getD, List.getElem?_replicate, if_pos h]; rfl
theorem crash_all (D : DM) : D.crash (List.replicate D.pend.length true) = { DM.settle D (fun _ => true) with dead := false, armed := false, fails := 0 } := by
  unfold DM.crash DM.settle
  rw [lay_congr (l1 := fun i => (List.replicate D.pend.length true).getD i false) (l2 := fun _ => true) D.pend D.safe 0 fun k _ h2 => getD_rep _ _ (by omega)]
theorem crash_vec {D : DM} (hD : D.ok) : (D.crash (List.replicate D.pend.length true)).lv ∧ (D.crash (List.replicate D.pend.length true)).vec = D.vec ∧ (D.crash (List.replicate D.pend.length true)).safe.length = D.safe.length := by
  rw [crash_all]
  refine ⟨⟨rfl, rfl, rfl⟩, vec_sync hD D.ops, settle_len D _⟩
end Go.Proofs.Ytnnamckabjhflaa
