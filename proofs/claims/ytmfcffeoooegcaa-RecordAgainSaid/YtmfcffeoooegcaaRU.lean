/-
  The plain law of RecordBack: what was encoded is decoded, whatever stands behind; each beginning is too short.
-/
import Derived.Test.YtmfcffeoooegcaaRI
namespace Go.Proofs.Ytmfcffeoooegcaa
open Go.RowKit
set_option linter.unusedVariables false
set_option linter.unusedSimpArgs false

theorem oct_at {pre post : List Nat} {x i : Nat} (h : pre.length = i) : oct (pre ++ ([x] ++ post)) i = x := by
  subst h
  unfold oct
  rw [List.drop_left]
  show bnum 0 [x] = x
  simp [bnum]
theorem nb_at {pre post : List Nat} {x i : Nat} (h : pre.length = i) (hx : x < 18446744073709551616) : nb (pre ++ (beb 8 x ++ post)) i = x := by
  subst h
  unfold nb
  rw [List.drop_left, List.take_left' (beb_length 8 x), bnum_beb]
  exact Nat.mod_eq_of_lt hx
theorem sub_at {pre m post : List Nat} {i n : Nat} (h : pre.length = i) (hn : m.length = n) : ((pre ++ (m ++ post)).drop i).take n = m := by
  subst h
  rw [List.drop_left, List.take_left' hn]
theorem oct_take {xs : List Nat} {i j : Nat} (h : i < j) : oct (xs.take j) i = oct xs i := by
  unfold oct
  rw [List.drop_take, List.take_take, Nat.min_eq_left (by omega)]
/-- what a record of kind 1 says -/
theorem enc1 {k l t b p s n : Nat} {o w ys xs : List Nat} (hl : l < 18446744073709551616) (ht : t < 18446744073709551616) (hb : b < 18446744073709551616)
    (e : xs = [k] ++ (beb 8 l ++ (beb 8 t ++ (beb 8 b ++ ([p] ++ ([s] ++ ([o.length] ++ (o ++ ([w.length] ++ (w ++ ys)))))))))) :
    oct xs 0 = k ∧ nb xs 1 = l ∧ nb xs 9 = t ∧ nb xs 17 = b ∧ oct xs 25 = p ∧ oct xs 26 = s ∧ oct xs 27 = o.length ∧ (xs.drop 28).take o.length = o ∧ oct xs (28 + o.length) = w.length ∧ (xs.drop (28 + o.length + 1)).take w.length = w ∧ xs.length = 29 + o.length + w.length + ys.length := by
  have l0 : ([] : List Nat).length = 0 := rfl
  have l1 : ([k] : List Nat).length = 1 := rfl
  have l2 : ([k] ++ beb 8 l).length = 9 := by rw [List.length_append, beb_length]; rfl
  have l3 : ([k] ++ beb 8 l ++ beb 8 t).length = 17 := by rw [List.length_append, l2, beb_length]
  have l4 : ([k] ++ beb 8 l ++ beb 8 t ++ beb 8 b).length = 25 := by rw [List.length_append, l3, beb_length]
  have l5 : ([k] ++ beb 8 l ++ beb 8 t ++ beb 8 b ++ [p]).length = 26 := by rw [List.length_append, l4]; rfl
  have l6 : ([k] ++ beb 8 l ++ beb 8 t ++ beb 8 b ++ [p] ++ [s]).length = 27 := by rw [List.length_append, l5]; rfl
  have l7 : ([k] ++ beb 8 l ++ beb 8 t ++ beb 8 b ++ [p] ++ [s] ++ [o.length]).length = 28 := by rw [List.length_append, l6]; rfl
  have l8 : ([k] ++ beb 8 l ++ beb 8 t ++ beb 8 b ++ [p] ++ [s] ++ [o.length] ++ o).length = 28 + o.length := by rw [List.length_append, l7]
  have l9 : ([k] ++ beb 8 l ++ beb 8 t ++ beb 8 b ++ [p] ++ [s] ++ [o.length] ++ o ++ [w.length]).length = 28 + o.length + 1 := by rw [List.length_append, l8]; rfl
  refine ⟨?_, ?_, ?_, ?_, ?_, ?_, ?_, ?_, ?_, ?_, ?_⟩
  · rw [e]; exact oct_at l0
  · rw [e]; exact nb_at l1 hl
  · rw [e]; have := nb_at (post := beb 8 b ++ ([p] ++ ([s] ++ ([o.length] ++ (o ++ ([w.length] ++ (w ++ ys))))))) l2 ht; simpa only [List.append_assoc] using this
  · rw [e]; have := nb_at (post := ([p] ++ ([s] ++ ([o.length] ++ (o ++ ([w.length] ++ (w ++ ys))))))) l3 hb; simpa only [List.append_assoc] using this
  · rw [e]; have := oct_at (x := p) (post := (([s] ++ ([o.length] ++ (o ++ ([w.length] ++ (w ++ ys))))))) l4; simpa only [List.append_assoc] using this
  · rw [e]; have := oct_at (x := s) (post := ((([o.length] ++ (o ++ ([w.length] ++ (w ++ ys))))))) l5; simpa only [List.append_assoc] using this
  · rw [e]; have := oct_at (x := o.length) (post := ((((o ++ ([w.length] ++ (w ++ ys))))))) l6; simpa only [List.append_assoc] using this
  · rw [e]; have := sub_at (m := o) (post := (((((([w.length] ++ (w ++ ys)))))))) l7 rfl; simpa only [List.append_assoc] using this
  · rw [e]; have := oct_at (x := w.length) (post := ((((((((w ++ ys))))))))) l8; simpa only [List.append_assoc] using this
  · rw [e]; have := sub_at (m := w) (post := ys) l9 rfl; simpa only [List.append_assoc] using this
  · rw [e]; simp only [List.length_append, beb_length, List.length_cons, List.length_nil]; omega
theorem enc2 {k l t b p s n : Nat} {w ys xs : List Nat} (hl : l < 18446744073709551616) (ht : t < 18446744073709551616) (hb : b < 18446744073709551616) (hn : n < 18446744073709551616)
    (e : xs = [k] ++ (beb 8 l ++ (beb 8 t ++ (beb 8 b ++ ([p] ++ ([s] ++ ([w.length] ++ (w ++ (beb 8 n ++ ys))))))))) :
    oct xs 0 = k ∧ nb xs 1 = l ∧ nb xs 9 = t ∧ nb xs 17 = b ∧ oct xs 25 = p ∧ oct xs 26 = s ∧ oct xs 27 = w.length ∧ (xs.drop 28).take w.length = w ∧ nb xs (28 + w.length) = n ∧ xs.length = 36 + w.length + ys.length := by
  have l0 : ([] : List Nat).length = 0 := rfl
  have l1 : ([k] : List Nat).length = 1 := rfl
  have l2 : ([k] ++ beb 8 l).length = 9 := by rw [List.length_append, beb_length]; rfl
  have l3 : ([k] ++ beb 8 l ++ beb 8 t).length = 17 := by rw [List.length_append, l2, beb_length]
  have l4 : ([k] ++ beb 8 l ++ beb 8 t ++ beb 8 b).length = 25 := by rw [List.length_append, l3, beb_length]
  have l5 : ([k] ++ beb 8 l ++ beb 8 t ++ beb 8 b ++ [p]).length = 26 := by rw [List.length_append, l4]; rfl
  have l6 : ([k] ++ beb 8 l ++ beb 8 t ++ beb 8 b ++ [p] ++ [s]).length = 27 := by rw [List.length_append, l5]; rfl
  have l7 : ([k] ++ beb 8 l ++ beb 8 t ++ beb 8 b ++ [p] ++ [s] ++ [w.length]).length = 28 := by rw [List.length_append, l6]; rfl
  have l8 : ([k] ++ beb 8 l ++ beb 8 t ++ beb 8 b ++ [p] ++ [s] ++ [w.length] ++ w).length = 28 + w.length := by rw [List.length_append, l7]
  refine ⟨?_, ?_, ?_, ?_, ?_, ?_, ?_, ?_, ?_, ?_⟩
  · rw [e]; exact oct_at l0
  · rw [e]; exact nb_at l1 hl
  · rw [e]; have := nb_at (post := beb 8 b ++ ([p] ++ ([s] ++ ([w.length] ++ (w ++ (beb 8 n ++ ys)))))) l2 ht; simpa only [List.append_assoc] using this
  · rw [e]; have := nb_at (post := ([p] ++ ([s] ++ ([w.length] ++ (w ++ (beb 8 n ++ ys)))))) l3 hb; simpa only [List.append_assoc] using this
  · rw [e]; have := oct_at (x := p) (post := (([s] ++ ([w.length] ++ (w ++ (beb 8 n ++ ys)))))) l4; simpa only [List.append_assoc] using this
  · rw [e]; have := oct_at (x := s) (post := ((([w.length] ++ (w ++ (beb 8 n ++ ys)))))) l5; simpa only [List.append_assoc] using this
  · rw [e]; have := oct_at (x := w.length) (post := ((((w ++ (beb 8 n ++ ys)))))) l6; simpa only [List.append_assoc] using this
  · rw [e]; have := sub_at (m := w) (post := ((((((beb 8 n ++ ys))))))) l7 rfl; simpa only [List.append_assoc] using this
  · rw [e]; have := nb_at (post := ys) l8 hn; simpa only [List.append_assoc] using this
  · rw [e]; simp only [List.length_append, beb_length, List.length_cons, List.length_nil]; omega
theorem enc3 {k l t b : Nat} {ys xs : List Nat} (hl : l < 18446744073709551616) (ht : t < 18446744073709551616) (hb : b < 18446744073709551616)
    (e : xs = [k] ++ (beb 8 l ++ (beb 8 t ++ (beb 8 b ++ ys)))) :
    oct xs 0 = k ∧ nb xs 1 = l ∧ nb xs 9 = t ∧ nb xs 17 = b ∧ xs.length = 25 + ys.length := by
  have l0 : ([] : List Nat).length = 0 := rfl
  have l1 : ([k] : List Nat).length = 1 := rfl
  have l2 : ([k] ++ beb 8 l).length = 9 := by rw [List.length_append, beb_length]; rfl
  have l3 : ([k] ++ beb 8 l ++ beb 8 t).length = 17 := by rw [List.length_append, l2, beb_length]
  refine ⟨?_, ?_, ?_, ?_, ?_⟩
  · rw [e]; exact oct_at l0
  · rw [e]; exact nb_at l1 hl
  · rw [e]; have := nb_at (post := beb 8 b ++ ys) l2 ht; simpa only [List.append_assoc] using this
  · rw [e]; have := nb_at (post := ys) l3 hb; simpa only [List.append_assoc] using this
  · rw [e]; simp only [List.length_append, beb_length, List.length_cons, List.length_nil]; omega
theorem enc_pos {r : Rc} : 0 < r.enc.length := by
  unfold Rc.enc
  simp only [List.length_append, List.length_cons, List.length_nil]; omega
theorem append_ne {xs ys : List Nat} (h : 0 < xs.length) : ¬ xs ++ ys = [] := fun e => by
  have := congrArg List.length e
  simp only [List.length_append, List.length_nil] at this
  omega
theorem Rc.right_at {r : Rc} {A : Option Addr} {c : Nat} {B : Option Addr} {d : Nat} (h : r.right) : (r.at_ A c B d).right := h
/-- the bytes of a record, by kind -/
theorem enc_1 {r : Rc} (h : r.k = 1) (ys : List Nat) : r.enc ++ ys = [r.k.toNat] ++ (beb 8 r.l ++ (beb 8 r.t ++ (beb 8 r.b ++ ([r.p.toNat] ++ ([r.s.toNat] ++ ([r.o.length] ++ (r.o ++ ([r.w.length] ++ (r.w ++ ys))))))))) := by
  unfold Rc.enc
  rw [if_pos h]
  simp only [List.append_assoc, List.cons_append, List.nil_append]
theorem enc_2 {r : Rc} (h : r.k = 2) (ys : List Nat) : r.enc ++ ys = [r.k.toNat] ++ (beb 8 r.l ++ (beb 8 r.t ++ (beb 8 r.b ++ ([r.p.toNat] ++ ([r.s.toNat] ++ ([r.w.length] ++ (r.w ++ (beb 8 r.n ++ ys)))))))) := by
  unfold Rc.enc
  rw [if_neg (by omega), if_pos h]
  simp only [List.append_assoc, List.cons_append, List.nil_append]
theorem enc_3 {r : Rc} (h : r.k ≠ 1 ∧ r.k ≠ 2) (ys : List Nat) : r.enc ++ ys = [r.k.toNat] ++ (beb 8 r.l ++ (beb 8 r.t ++ (beb 8 r.b ++ ys))) := by
  unfold Rc.enc
  rw [if_neg h.1, if_neg h.2]
  simp only [List.append_assoc, List.cons_append, List.nil_append]
theorem decM_back {r : Rc} (hw : r.wf) (hR : r.right) (ys : List Nat) : decM (r.enc ++ ys) = (r.at_ none 0 none 0, r.enc.length, 0) := by
  have hR2 : (r.at_ none 0 none 0).right := hR
  obtain ⟨h1, h2, h3, h4, h5, h6, h7, h8, h9, h10, h11⟩ := hw
  obtain ⟨q1, q2, q3, q4, q5, q6, q7, q8, q9, q10, q11, q12⟩ := hR
  have hne : ¬ r.enc ++ ys = [] := append_ne enc_pos
  have hel : (r.enc ++ ys).length = r.enc.length + ys.length := List.length_append
  rcases (by omega : r.k = 1 ∨ r.k = 2 ∨ (r.k ≠ 1 ∧ r.k ≠ 2)) with hk | hk | hk
  · obtain ⟨e0, e1, e2, e3, e4, e5, e6, e7, e8, e9, e10⟩ := enc1 (n := 0) h1 h2 h3 (enc_1 hk ys)
    have h0 : oct (r.enc ++ ys) 0 = 1 := by rw [e0]; omega
    refine decM_yes hne (by omega) ?_ hR2
    rw [parse1_some h0 (by rw [e6, e8]; omega)]
    have hp : P1 (r.enc ++ ys) none 0 none 0 = r.at_ none 0 none 0 := by
      unfold P1 Rc.at_
      rw [e6, e8, e7, e9, e1, e2, e3, e4, e5, e0, (q10 hk).1, Int.toNat_of_nonneg (by omega), Int.toNat_of_nonneg q6.1, Int.toNat_of_nonneg q7.1]
    rw [hp, e6, e8, show 28 + r.o.length + 1 + r.w.length = r.enc.length from by omega]
  · obtain ⟨e0, e1, e2, e3, e4, e5, e6, e7, e8, e10⟩ := enc2 h1 h2 h3 h4 (enc_2 hk ys)
    have h0 : oct (r.enc ++ ys) 0 = 2 := by rw [e0]; omega
    refine decM_yes hne (by omega) ?_ hR2
    rw [parse2_some h0 (by rw [e6]; omega)]
    have hp : P2 (r.enc ++ ys) none 0 none 0 = r.at_ none 0 none 0 := by
      unfold P2 Rc.at_
      rw [e6, e8, e7, e1, e2, e3, e4, e5, e0, List.length_eq_zero_iff.mp (q11 hk), Int.toNat_of_nonneg (by omega), Int.toNat_of_nonneg q6.1, Int.toNat_of_nonneg q7.1]
    rw [hp, e6, show 28 + r.w.length + 8 = r.enc.length from by omega]
  · obtain ⟨e0, e1, e2, e3, e10⟩ := enc3 h1 h2 h3 (enc_3 hk ys)
    obtain ⟨z1, z2, z3, z4, z5⟩ := q12 (by omega)
    refine decM_yes hne (by omega) ?_ hR2
    rw [parse3_some (by omega) (by omega)]
    have hp : P3 (r.enc ++ ys) none 0 none 0 = r.at_ none 0 none 0 := by
      unfold P3 Rc.at_
      rw [e1, e2, e3, e0, z1, z2, z5, List.length_eq_zero_iff.mp z3, List.length_eq_zero_iff.mp z4, Int.toNat_of_nonneg (by omega)]
    rw [hp, show 25 = r.enc.length from by omega]
theorem decM_short {r : Rc} (hw : r.wf) (hR : r.right) {j : Nat} (hj : j < r.enc.length) : decM (r.enc.take j) = (Rc.zero, 0, 7) := by
  by_cases h0 : j = 0
  · subst h0; unfold decM; rw [if_pos List.take_zero]
  obtain ⟨h1, h2, h3, h4, h5, h6, h7, h8, h9, h10, h11⟩ := hw
  obtain ⟨q1, q2, q3, q4, q5, q6, q7, q8, q9, q10, q11, q12⟩ := hR
  have hl : (r.enc.take j).length = j := by rw [List.length_take]; omega
  have hne : ¬ r.enc.take j = [] := fun e => by rw [e] at hl; exact h0 hl.symm
  have hy := List.append_nil r.enc
  rcases (by omega : r.k = 1 ∨ r.k = 2 ∨ (r.k ≠ 1 ∧ r.k ≠ 2)) with hk | hk | hk
  · obtain ⟨e0, e1, e2, e3, e4, e5, e6, e7, e8, e9, e10⟩ := enc1 (n := 0) h1 h2 h3 (enc_1 hk [])
    rw [hy] at e0 e6 e8 e10
    have f0 : oct (r.enc.take j) 0 = 1 := by rw [oct_take (by omega), e0]; omega
    refine decM_none hne (by omega) (parse1_none f0 ?_)
    rw [hl]
    by_cases a1 : j < 28
    · exact .inl a1
    · have f1 : oct (r.enc.take j) 27 = r.o.length := by rw [oct_take (by omega), e6]
      rw [f1]
      by_cases a2 : j < 29 + r.o.length
      · exact .inr (.inl a2)
      · rw [oct_take (by omega), e8]
        refine .inr (.inr ?_)
        rw [List.length_nil] at e10
        omega
  · obtain ⟨e0, e1, e2, e3, e4, e5, e6, e7, e8, e10⟩ := enc2 h1 h2 h3 h4 (enc_2 hk [])
    rw [hy] at e0 e6 e8 e10
    have f0 : oct (r.enc.take j) 0 = 2 := by rw [oct_take (by omega), e0]; omega
    refine decM_none hne (by omega) (parse2_none f0 ?_)
    rw [hl]
    by_cases a1 : j < 28
    · exact .inl a1
    · rw [oct_take (by omega), e6]
      rw [List.length_nil] at e10
      omega
  · obtain ⟨e0, e1, e2, e3, e10⟩ := enc3 h1 h2 h3 (enc_3 hk [])
    rw [hy] at e0 e10
    have f0 : oct (r.enc.take j) 0 = r.k.toNat := by rw [oct_take (by omega), e0]
    refine decM_none hne (by omega) (parse3_none (by omega) ?_)
    rw [List.length_nil] at e10
    omega
end Go.Proofs.Ytmfcffeoooegcaa
