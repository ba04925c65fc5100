/-
  The plain law of RecordAgain: rows and their bytes lead back to one another.
-/
import Derived.Test.YtmfcffeoooegcaaTD
import Derived.Test.YtmfcffeoooegcaaRU
namespace Go.Proofs.Ytmfcffeoooegcaa
open Go.RowKit
set_option linter.unusedVariables false
set_option linter.unusedSimpArgs false

/-! ## What was decoded is encoded as it was -/
def seg (xs : List Nat) (i n : Nat) : List Nat := (xs.drop i).take n
theorem seg_cat (xs : List Nat) (i a b : Nat) : seg xs i a ++ seg xs (i + a) b = seg xs i (a + b) := by
  unfold seg
  rw [List.take_add, List.drop_drop]
theorem seg_oct {xs : List Nat} {i : Nat} (h : i < xs.length) : [oct xs i] = seg xs i 1 := by
  unfold seg
  rw [oct_eq h, List.drop_eq_getElem_cons h]
  rfl
theorem seg_beb {xs : List Nat} (hx : Bs xs) {i : Nat} (h : i + 8 ≤ xs.length) : beb 8 (nb xs i) = seg xs i 8 := by
  unfold nb seg
  have := beb_bnum ((xs.drop i).take 8) (fun c hc => hx c (List.mem_of_mem_drop (List.mem_of_mem_take hc)))
  rw [List.length_take, List.length_drop, Nat.min_eq_left (by omega)] at this
  exact this
theorem seg_len {xs : List Nat} {i n : Nat} (h : i + n ≤ xs.length) : (seg xs i n).length = n := by
  unfold seg; rw [List.length_take, List.length_drop]; omega
theorem dec_enc {xs : List Nat} (hx : Bs xs) {r : Rc} {n : Nat} (h : parse xs = some (r, n)) (hk : oct xs 0 = 1 ∨ oct xs 0 = 2 ∨ oct xs 0 = 3 ∨ oct xs 0 = 4) (hR : r.right) : r.enc = seg xs 0 n := by
  unfold parse at h
  split at h
  · cases h
  · rename_i h25
    have s0 := seg_oct (xs := xs) (i := 0) (by omega)
    have s1 := seg_beb hx (i := 1) (by omega)
    have s9 := seg_beb hx (i := 9) (by omega)
    have s17 := seg_beb hx (i := 17) (by omega)
    have c1 := seg_cat xs 0 1 8
    have c2 := seg_cat xs 0 9 8
    have c3 := seg_cat xs 0 17 8
    simp only [Nat.zero_add, Nat.reduceAdd] at c1 c2 c3
    split at h
    · rename_i hk1
      split at h
      · cases h
      · rename_i hlen
        cases h
        have s25 := seg_oct (xs := xs) (i := 25) (by omega)
        have s26 := seg_oct (xs := xs) (i := 26) (by omega)
        have s27 := seg_oct (xs := xs) (i := 27) (by omega)
        have sw := seg_oct (xs := xs) (i := 28 + oct xs 27) (by omega)
        have l1 : ((xs.drop 28).take (oct xs 27)).length = oct xs 27 := seg_len (i := 28) (by omega)
        have l2 : ((xs.drop (28 + oct xs 27 + 1)).take (oct xs (28 + oct xs 27))).length = oct xs (28 + oct xs 27) := seg_len (i := 28 + oct xs 27 + 1) (by omega)
        have c4 := seg_cat xs 25 1 1
        have c5 := seg_cat xs 25 2 1
        have c6 := seg_cat xs 25 3 (oct xs 27)
        have c7 := seg_cat xs 25 (3 + oct xs 27) 1
        have c8 := seg_cat xs 25 (3 + oct xs 27 + 1) (oct xs (28 + oct xs 27))
        have c9 := seg_cat xs 0 25 (3 + oct xs 27 + 1 + oct xs (28 + oct xs 27))
        simp only [Nat.zero_add, Nat.reduceAdd] at c4 c5 c6 c9
        rw [show 25 + (3 + oct xs 27) = 28 + oct xs 27 by omega] at c7
        rw [show 25 + (3 + oct xs 27 + 1) = 28 + oct xs 27 + 1 by omega] at c8
        unfold Rc.enc P1
        dsimp only
        rw [if_pos (by omega), l1, l2]
        rw [show ([Int.toNat ((oct xs 0 : Nat) : Int)] : List Nat) = [oct xs 0] from rfl, show ([Int.toNat ((oct xs 25 : Nat) : Int), Int.toNat ((oct xs 26 : Nat) : Int)] : List Nat) = [oct xs 25] ++ [oct xs 26] from rfl]
        rw [s0, s1, s9, s17, c1, c2, c3, s25, s26, s27, sw, c4, c5]
        show seg xs 0 25 ++ (seg xs 25 3 ++ seg xs 28 (oct xs 27) ++ seg xs (28 + oct xs 27) 1 ++ seg xs (28 + oct xs 27 + 1) (oct xs (28 + oct xs 27))) = _
        rw [c6, c7, c8, c9, show 25 + (3 + oct xs 27 + 1 + oct xs (28 + oct xs 27)) = 28 + oct xs 27 + 1 + oct xs (28 + oct xs 27) by omega]
    · split at h
      · rename_i hk1 hk2
        split at h
        · cases h
        · rename_i hlen
          cases h
          have s25 := seg_oct (xs := xs) (i := 25) (by omega)
          have s26 := seg_oct (xs := xs) (i := 26) (by omega)
          have s27 := seg_oct (xs := xs) (i := 27) (by omega)
          have sn := seg_beb hx (i := 28 + oct xs 27) (by omega)
          have l1 : ((xs.drop 28).take (oct xs 27)).length = oct xs 27 := seg_len (i := 28) (by omega)
          have c4 := seg_cat xs 25 1 1
          have c5 := seg_cat xs 25 2 1
          have c6 := seg_cat xs 25 3 (oct xs 27)
          have c7 := seg_cat xs 25 (3 + oct xs 27) 8
          have c9 := seg_cat xs 0 25 (3 + oct xs 27 + 8)
          simp only [Nat.zero_add, Nat.reduceAdd] at c4 c5 c6 c9
          rw [show 25 + (3 + oct xs 27) = 28 + oct xs 27 by omega] at c7
          unfold Rc.enc P2
          dsimp only
          rw [if_neg (by omega), if_pos (by omega), l1]
          rw [show ([Int.toNat ((oct xs 0 : Nat) : Int)] : List Nat) = [oct xs 0] from rfl, show ([Int.toNat ((oct xs 25 : Nat) : Int), Int.toNat ((oct xs 26 : Nat) : Int)] : List Nat) = [oct xs 25] ++ [oct xs 26] from rfl]
          rw [s0, s1, s9, s17, c1, c2, c3, s25, s26, s27, sn, c4, c5]
          show seg xs 0 25 ++ (seg xs 25 3 ++ seg xs 28 (oct xs 27) ++ seg xs (28 + oct xs 27) 8) = _
          rw [c6, c7, c9, show 25 + (3 + oct xs 27 + 8) = 28 + oct xs 27 + 8 by omega]
      · rename_i hk1 hk2
        cases h
        unfold Rc.enc P3
        dsimp only
        rw [if_neg (by omega), if_neg (by omega)]
        rw [show ([Int.toNat ((oct xs 0 : Nat) : Int)] : List Nat) = [oct xs 0] from rfl]
        rw [s0, s1, s9, s17, c1, c2, c3, List.append_nil]
theorem decM_enc {xs : List Nat} (hx : Bs xs) (h : (decM xs).2.2 = 0) : (decM xs).1.enc = xs.take (decM xs).2.1 := by
  by_cases h0 : xs = []
  · have : decM xs = (Rc.zero, 0, 7) := by unfold decM; rw [if_pos h0]
    rw [this] at h; cases h
  · by_cases hk : oct xs 0 < 1 ∨ 4 < oct xs 0
    · rw [decM_bad h0 hk] at h; cases h
    · cases hp : parse xs with
      | none => rw [decM_none h0 hk hp] at h; cases h
      | some q =>
        obtain ⟨r, n⟩ := q
        by_cases hr : r.right
        · rw [decM_yes h0 hk hp hr]
          have := dec_enc hx hp (by omega) hr
          unfold seg at this
          rw [List.drop_zero] at this
          exact this
        · rw [decM_no h0 hk hp hr] at h; cases h
theorem decN_enc : ∀ (n : Nat) (ys : List Nat) (acc : List Rc), Bs ys → (decN n ys acc).2 = 0 → ∃ ls, (decN n ys acc).1.1 = acc ++ ls ∧ ls.length = n ∧ ys = ls.flatMap Rc.enc ++ (decN n ys acc).1.2
  | 0, ys, acc, _, _ => ⟨[], by simp [decN], rfl, by simp [decN]⟩
  | n + 1, ys, acc, hx, h => by
    by_cases h0 : (decM ys).2.2 = 0
    · rw [decN_yes h0] at h ⊢
      obtain ⟨ls, e1, e2, e3⟩ := decN_enc n (ys.drop (decM ys).2.1) (acc ++ [(decM ys).1]) (hx.drop _) h
      refine ⟨(decM ys).1 :: ls, by rw [e1]; simp, by simp [e2], ?_⟩
      rw [List.flatMap_cons, decM_enc hx h0, List.append_assoc, ← e3, List.take_append_drop]
    · rw [decN_no h0] at h
      exact absurd h h0
theorem decRow_enc {xs : List Nat} (hx : Bs xs) (h : (decRow xs).2 = 0) : rowE (decRow xs).1 = 0 ∧ rowEnc (decRow xs).1 = xs := by
  unfold decRow at h ⊢
  split
  · rename_i h1; rw [if_pos h1] at h; cases h
  · rename_i h1
    rw [if_neg h1] at h
    split
    · rename_i h2; rw [if_pos h2] at h; cases h
    · rename_i h2
      rw [if_neg h2] at h
      split
      · rename_i h3
        rw [if_pos h3] at h
        split
        · rename_i h4
          obtain ⟨ls, e1, e2, e3⟩ := decN_enc _ _ _ (hx.drop 2) h3
          refine ⟨h4.2, ?_⟩
          show rowEnc (decN (bnum 0 (xs.take 2)) (xs.drop 2) []).1.1 = xs
          rw [e1, List.nil_append]
          unfold rowEnc
          rw [e2]
          rw [h4.1, List.append_nil] at e3
          rw [← e3]
          have := beb_bnum (xs.take 2) (fun c hc => hx c (List.mem_of_mem_take hc))
          rw [List.length_take, Nat.min_eq_left (by omega)] at this
          rw [this, List.take_append_drop]
        · rename_i h4; rw [if_neg h4] at h; cases h
      · rename_i h3
        rw [if_neg h3] at h
        exact absurd h h3

/-! ## What was encoded is decoded as it was -/
theorem decN_back : ∀ (rs : List Rc) (acc : List Rc), (∀ r ∈ rs, r.wf ∧ r.right) → decN rs.length (rs.flatMap Rc.enc) acc = ((acc ++ rs.map Rc.core, []), 0)
  | [], acc, _ => by simp [decN]
  | r :: rs, acc, h => by
    have h1 := decM_back (h r (by simp)).1 (h r (by simp)).2 (rs.flatMap Rc.enc)
    rw [List.flatMap_cons, List.length_cons, decN_yes (by rw [h1]), h1]
    show decN rs.length ((r.enc ++ rs.flatMap Rc.enc).drop r.enc.length) (acc ++ [r.core]) = _
    rw [List.drop_left, decN_back rs _ fun x hx => h x (by simp [hx])]
    simp
theorem rowE_core (rs : List Rc) : rowE (rs.map Rc.core) = rowE rs := rowE_of_core (by rw [List.map_map]; rfl)
theorem decRow_back {rs : List Rc} (hw : ∀ r ∈ rs, r.wf) (h : rowE rs = 0) : decRow (rowEnc rs) = (rs.map Rc.core, 0) := by
  obtain ⟨hl, hok⟩ := rowE_zero h
  have hr : ∀ r ∈ rs, r.right := fun r hr => by
    obtain ⟨k, hk, rfl⟩ := List.mem_iff_getElem.1 hr
    exact rowOk_right hok hk
  have e1 : (rowEnc rs).take 2 = beb 2 rs.length := by
    unfold rowEnc; exact List.take_left' (beb_length 2 _)
  have e2 : (rowEnc rs).drop 2 = rs.flatMap Rc.enc := by
    unfold rowEnc; exact List.drop_left' (beb_length 2 _)
  have e3 : bnum 0 (beb 2 rs.length) = rs.length := by
    rw [bnum_beb]; exact Nat.mod_eq_of_lt (by omega)
  have e4 : ¬ (rowEnc rs).length < 2 := by
    unfold rowEnc; rw [List.length_append, beb_length]; omega
  have e5 := decN_back rs [] fun r hr' => ⟨hw r hr', hr r hr'⟩
  unfold decRow
  rw [if_neg e4, e1, e2, e3, if_neg (by omega), e5, if_pos rfl, if_pos ⟨rfl, by rw [List.nil_append, rowE_core]; exact h⟩]
  simp
end Go.Proofs.Ytmfcffeoooegcaa
