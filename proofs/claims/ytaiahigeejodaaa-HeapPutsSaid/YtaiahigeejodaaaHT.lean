/-
  What is set where it goes is one item more, and all others are as they were (no program in sight).
-/
import Derived.Test.YtaiahigeejodaaaHQ
import Derived.Test.YtaiahigeejodaaaGO
namespace Go.Proofs.Ytaiahigeejodaaa
open Go.RowKit
set_option linter.unusedVariables false
set_option linter.unusedSimpArgs false

theorem spM_app (A B : List PM) : spM (A ++ B) = spM A ++ spM B := by unfold spM; rw [List.flatMap_append]
theorem spM_cons (p : PM) (B : List PM) : spM (p :: B) = spM1 p ++ spM B := by unfold spM; rw [List.flatMap_cons]
def ixS (n : Int) (l : List (List Nat)) (k : Nat) : List SpM := (l.zipIdx k).map fun x => ((n, x.2), x.1)
theorem spM1_ix (p : PM) : spM1 p = ixS p.n p.s 0 := rfl
theorem ixS_app (n : Int) (l r : List (List Nat)) (k : Nat) : ixS n (l ++ r) k = ixS n l k ++ ixS n r (k + l.length) := by
  unfold ixS
  rw [List.zipIdx_append, List.map_append]
theorem ixS_cons (n : Int) (x : List Nat) (r : List (List Nat)) (k : Nat) : ixS n (x :: r) k = ((n, k), x) :: ixS n r (k + 1) := by
  unfold ixS
  rw [List.zipIdx_cons, List.map_cons]
theorem ixS_mem {n : Int} : ∀ {l : List (List Nat)} {k : Nat}, ∀ x ∈ ixS n l k, x.1.1 = n ∧ k ≤ x.1.2 ∧ x.1.2 < k + l.length ∧ x.2 ∈ l
  | [], k, x, hx => by cases hx
  | y :: l, k, x, hx => by
    rw [ixS_cons] at hx
    rcases List.mem_cons.1 hx with rfl | hx
    · exact ⟨rfl, Nat.le_refl _, by show k < k + (l.length + 1); omega, List.mem_cons_self ..⟩
    · obtain ⟨h1, h2, h3, h4⟩ := ixS_mem x hx
      exact ⟨h1, by omega, by rw [List.length_cons]; omega, List.mem_cons_of_mem _ h4⟩
theorem ixS_split {n : Int} : ∀ {l : List (List Nat)} {k : Nat}, ∀ x ∈ ixS n l k, ∃ l1 l2, l = l1 ++ x.2 :: l2 ∧ x.1 = (n, k + l1.length)
  | [], k, x, hx => by cases hx
  | y :: l, k, x, hx => by
    rw [ixS_cons] at hx
    rcases List.mem_cons.1 hx with rfl | hx
    · exact ⟨[], l, rfl, rfl⟩
    · obtain ⟨l1, l2, h1, h2⟩ := ixS_split x hx
      exact ⟨y :: l1, l2, by rw [h1]; rfl, by rw [h2, List.length_cons]; congr 1; omega⟩
theorem spM_mem {M : List PM} {x : SpM} (h : x ∈ spM M) : ∃ p ∈ M, x ∈ spM1 p := by
  obtain ⟨p, hp, hx⟩ := List.mem_flatMap.1 h
  exact ⟨p, hp, hx⟩
theorem bad_split {xs : List SpM} (h : ∀ x ∈ xs, badS x = false) : (xs.filter freeS).length + (xs.filterMap itM1).length = xs.length := by
  induction xs with
  | nil => rfl
  | cons x xs ih =>
    have ih := ih fun y hy => h y (List.mem_cons_of_mem _ hy)
    have hb : (decide (0 < x.2.length) && (decT x.2).isNone) = false := h x (List.mem_cons_self ..)
    by_cases h0 : x.2.length = 0
    · have hf : freeS x = true := decide_eq_true h0
      have hd : itM1 x = none := by
        unfold itM1 decT
        rw [if_neg (by rw [h0]; exact fun h => absurd h.1 (by decide))]
        rfl
      rw [List.filter_cons_of_pos hf, List.filterMap_cons, hd, List.length_cons, List.length_cons]
      show (xs.filter freeS).length + 1 + (xs.filterMap itM1).length = _
      omega
    · have hf : ¬ freeS x = true := by unfold freeS; simpa using h0
      cases hd : decT x.2 with
      | none =>
        rw [hd, decide_eq_true (by omega)] at hb
        cases hb
      | some t =>
        have hi : itM1 x = some (x.1, t) := by unfold itM1; rw [hd]; rfl
        rw [List.filter_cons_of_neg hf, List.filterMap_cons, hi]
        show (xs.filter freeS).length + ((xs.filterMap itM1).length + 1) = xs.length + 1
        omega
theorem room_ix (n : Int) : ∀ (l : List (List Nat)) (k : Nat), ((ixS n l k).filter freeS).length = (l.filter fun b => decide (b.length = 0)).length
  | [], _ => rfl
  | x :: l, k => by
    rw [ixS_cons]
    by_cases h : x.length = 0
    · rw [List.filter_cons_of_pos (p := freeS) (by unfold freeS; simpa using h), List.filter_cons_of_pos (by simpa using h), List.length_cons, List.length_cons, room_ix n l (k + 1)]
    · rw [List.filter_cons_of_neg (p := freeS) (by unfold freeS; simpa using h), List.filter_cons_of_neg (by simpa using h), room_ix n l (k + 1)]
theorem room_sum : ∀ M : List PM, (M.map roomP).sum = ((spM M).filter freeS).length
  | [] => rfl
  | p :: M => by
    rw [List.map_cons, List.sum_cons, room_sum M, spM_cons, List.filter_append, List.length_append, spM1_ix, room_ix]
    rfl
theorem ixS_len (n : Int) (l : List (List Nat)) (k : Nat) : (ixS n l k).length = l.length := by unfold ixS; rw [List.length_map, List.length_zipIdx]
theorem spM_len : ∀ {M : List PM}, (∀ p ∈ M, p.s.length = 4) → (spM M).length = 4 * M.length
  | [], _ => rfl
  | p :: M, h => by
    rw [spM_cons, List.length_append, spM1_ix, ixS_len, h p (List.mem_cons_self ..), spM_len fun q hq => h q (List.mem_cons_of_mem _ hq), List.length_cons]
    omega
theorem wrong0 {M : List PM} (h : wrongM M = 0) : M.length ≤ 32 ∧ okL M = true ∧ ∀ x ∈ spM M, badS x = false := by
  unfold wrongM at h
  by_cases h1 : 32 < M.length
  · rw [if_pos h1] at h; cases h
  · rw [if_neg h1] at h
    by_cases h2 : okL M = true
    · rw [if_pos h2] at h
      by_cases h3 : (spM M).any badS = true
      · rw [if_pos h3] at h; cases h
      · refine ⟨by omega, h2, fun x hx => ?_⟩
        rw [Bool.not_eq_true, List.any_eq_false] at h3
        simpa using h3 x hx
    · rw [if_neg h2] at h; cases h
theorem wrong_of {M : List PM} (h1 : M.length ≤ 32) (h2 : okL M = true) (h3 : ∀ x ∈ spM M, badS x = false) : wrongM M = 0 := by
  unfold wrongM
  rw [if_neg (by omega), if_pos h2, if_neg]
  rw [Bool.not_eq_true, List.any_eq_false]
  intro x hx
  rw [h3 x hx]
  decide
theorem puts_count {M : List PM} (h4 : ∀ p ∈ M, p.s.length = 4) (h : wrongM M = 0) : (M.map roomP).sum + (itemsM M).length = 4 * M.length := by
  obtain ⟨_, _, hb⟩ := wrong0 h
  rw [room_sum, its_ok h]
  unfold itR
  rw [bad_split hb, spM_len h4]
theorem puts_full {M : List PM} (h : wrongM M = 0) : ((placeM M).2 = 6 ∧ (M.map roomP).sum = 0) ∨ ((placeM M).2 = 0 ∧ (M.map roomP).sum ≠ 0 ∧ ∃ x, (spM M).find? freeS = some x ∧ (placeM M).1 = x.1) := by
  rw [room_sum]
  unfold placeM
  rw [if_pos h]
  cases hf : (spM M).find? freeS with
  | none =>
    refine .inl ⟨rfl, ?_⟩
    rw [List.find?_eq_none] at hf
    rw [List.filter_eq_nil_iff.2 fun x hx => hf x hx]
    rfl
  | some x =>
    refine .inr ⟨rfl, ?_, x, rfl, rfl⟩
    have := List.length_pos_of_mem (List.mem_filter.2 ⟨List.mem_of_find?_eq_some hf, List.find?_some hf⟩)
    omega
theorem getD_lt {M : List PM} (h : okL M = true) : ∀ {j : Nat}, j < M.length → ∀ i < j, (M.getD i PM.zero).n < (M.getD j PM.zero).n := by
  intro j
  induction j with
  | zero => intro _ i hi; omega
  | succ j ih =>
    intro hj i hi
    have h1 := List.all_eq_true.1 h (j + 1) (List.mem_range.2 hj)
    unfold okAt at h1
    rw [decide_eq_false (by omega), Bool.false_or, Bool.and_eq_true] at h1
    have h2 := of_decide_eq_true h1.2
    rw [Nat.add_sub_cancel] at h2
    rcases (by omega : i < j ∨ i = j) with h3 | rfl
    · exact Int.lt_trans (ih (by omega) i h3) h2
    · exact h2
theorem getD_ne {M : List PM} (h : okL M = true) {i j : Nat} (hi : i < M.length) (hj : j < M.length) (hn : (M.getD i PM.zero).n = (M.getD j PM.zero).n) : i = j := by
  rcases Nat.lt_trichotomy i j with h1 | h1 | h1
  · have := getD_lt h hj i h1; omega
  · exact h1
  · have := getD_lt h hi j h1; omega
theorem puts_at {M : List PM} (h4 : ∀ p ∈ M, p.s.length = 4) (h : wrongM M = 0) {x : SpM} (hf : (spM M).find? freeS = some x) :
    ∃ (i : Nat) (k : Nat), i < M.length ∧ k < 4 ∧ x.1 = ((M.getD i PM.zero).n, k) ∧ (M.getD i PM.zero).right = true ∧
      (∀ j < M.length, (M.getD j PM.zero).n = x.1.1 ↔ j = i) ∧
      ∀ t : TM, t.ok → t.right = true → wrongM (M.set i ((M.getD i PM.zero).put k t.enc 1)) = 0 ∧
        ∃ xs ys, itemsM M = xs ++ ys ∧ itemsM (M.set i ((M.getD i PM.zero).put k t.enc 1)) = xs ++ (x.1, t) :: ys ∧ ∀ z ∈ xs ++ ys, z.1 ≠ x.1 := by
  obtain ⟨h32, hok, hb⟩ := wrong0 h
  have hxm := List.mem_of_find?_eq_some hf
  have hx0 : x.2.length = 0 := of_decide_eq_true (show freeS x = true from List.find?_some hf)
  obtain ⟨p, hp, hxp⟩ := spM_mem hxm
  obtain ⟨A, B, hAB⟩ := List.append_of_mem hp
  have hi : A.length < M.length := by rw [hAB, List.length_append, List.length_cons]; omega
  have hg : M.getD A.length PM.zero = p := by
    rw [hAB, List.getD_eq_getElem?_getD, List.getElem?_append_right (Nat.le_refl _), Nat.sub_self]
    rfl
  rw [spM1_ix] at hxp
  obtain ⟨S1, S2, hS, hx1⟩ := ixS_split x hxp
  rw [Nat.zero_add] at hx1
  have hk : S1.length < 4 := by
    have := h4 p hp
    rw [hS, List.length_append, List.length_cons] at this
    omega
  have hri : p.right = true := by
    have h1 := List.all_eq_true.1 hok A.length (List.mem_range.2 hi)
    unfold okAt at h1
    rw [hg, Bool.and_eq_true] at h1
    exact h1.1
  refine ⟨A.length, S1.length, hi, hk, by rw [hg]; exact hx1, by rw [hg]; exact hri, fun j hj => ⟨fun e => getD_ne hok hj hi (by rw [hg, e, hx1]), fun e => by rw [e, hg, hx1]⟩, fun t ht htr => ?_⟩
  rw [hg]
  have hset : M.set A.length (p.put S1.length t.enc 1) = A ++ p.put S1.length t.enc 1 :: B := by
    rw [hAB, List.set_append_right _ _ (Nat.le_refl _), Nat.sub_self, List.set_cons_zero]
  have hput : (p.put S1.length t.enc 1).s = S1 ++ t.enc :: S2 := by
    unfold PM.put
    dsimp only
    rw [hS, List.set_append_right _ _ (Nat.le_refl _), Nat.sub_self, List.set_cons_zero]
  have e1 : spM M = (spM A ++ ixS p.n S1 0) ++ ((p.n, S1.length), x.2) :: (ixS p.n S2 (S1.length + 1) ++ spM B) := by
    rw [hAB, spM_app, spM_cons, spM1_ix, hS, ixS_app, ixS_cons, Nat.zero_add]
    simp
  have e2 : spM (M.set A.length (p.put S1.length t.enc 1)) = (spM A ++ ixS p.n S1 0) ++ ((p.n, S1.length), t.enc) :: (ixS p.n S2 (S1.length + 1) ++ spM B) := by
    rw [hset, spM_app, spM_cons, spM1_ix, hput, ixS_app, ixS_cons, Nat.zero_add]
    show _ = _
    simp [PM.put]
  have hdt := decT_enc ht htr
  have hmemA : ∀ q ∈ A, q.n ≠ p.n := by
    intro q hq e
    obtain ⟨j, hj, rfl⟩ := List.getElem_of_mem hq
    have hgj : M.getD j PM.zero = A[j] := by
      rw [hAB, List.getD_eq_getElem?_getD, List.getElem?_append_left hj, List.getElem?_eq_getElem hj]
      rfl
    have := getD_ne hok (i := j) (j := A.length) (by omega) hi (by rw [hgj, hg, e])
    omega
  have hmemB : ∀ q ∈ B, q.n ≠ p.n := by
    intro q hq e
    obtain ⟨j, hj, rfl⟩ := List.getElem_of_mem hq
    have hl : A.length + 1 + j < M.length := by rw [hAB, List.length_append, List.length_cons]; omega
    have hgj : M.getD (A.length + 1 + j) PM.zero = B[j] := by
      rw [hAB, List.getD_eq_getElem?_getD, List.getElem?_append_right (by omega), show A.length + 1 + j - A.length = j + 1 by omega, List.getElem?_cons_succ, List.getElem?_eq_getElem hj]
      rfl
    have := getD_ne hok (i := A.length + 1 + j) (j := A.length) hl hi (by rw [hgj, hg, e])
    omega
  have hsp : ∀ L : List PM, (∀ q ∈ L, q.n ≠ p.n) → ∀ z ∈ spM L, z.1 ≠ x.1 := by
    intro L hL z hz e
    obtain ⟨q, hq, hz⟩ := spM_mem hz
    rw [spM1_ix] at hz
    have := ixS_mem z hz
    exact hL q hq (by rw [← this.1, e, hx1])
  have hw : wrongM (M.set A.length (p.put S1.length t.enc 1)) = 0 := by
    refine wrong_of (by rw [List.length_set]; exact h32) ?_ ?_
    · refine List.all_eq_true.2 fun j hj => ?_
      rw [List.mem_range, List.length_set] at hj
      have h1 := List.all_eq_true.1 hok j (List.mem_range.2 hj)
      have key : ∀ j, ((M.set A.length (p.put S1.length t.enc 1)).getD j PM.zero).n = (M.getD j PM.zero).n ∧ ((M.getD j PM.zero).right = true → ((M.set A.length (p.put S1.length t.enc 1)).getD j PM.zero).right = true) := by
        intro j
        by_cases hja : j = A.length
        · subst hja
          have : (M.set A.length (p.put S1.length t.enc 1)).getD A.length PM.zero = p.put S1.length t.enc 1 := by
            rw [List.getD_eq_getElem?_getD, List.getElem?_set_self hi]; rfl
          rw [this, hg]
          exact ⟨rfl, fun _ => put_right hri _ (by rw [tenc_len]; decide) _⟩
        · have : (M.set A.length (p.put S1.length t.enc 1)).getD j PM.zero = M.getD j PM.zero := by
            rw [List.getD_eq_getElem?_getD, List.getElem?_set_ne (fun e => hja e.symm), ← List.getD_eq_getElem?_getD]
          rw [this]
          exact ⟨rfl, id⟩
      unfold okAt at h1 ⊢
      rw [Bool.and_eq_true] at h1 ⊢
      rw [(key j).1, (key (j - 1)).1]
      exact ⟨(key j).2 h1.1, h1.2⟩
    · intro z hz
      rw [e2] at hz
      rcases List.mem_append.1 hz with hz | hz
      · exact hb z (by rw [e1]; exact List.mem_append_left _ hz)
      · rcases List.mem_cons.1 hz with rfl | hz
        · show (decide (0 < t.enc.length) && (decT t.enc).isNone) = false
          rw [hdt]
          exact Bool.and_false _
        · exact hb z (by rw [e1]; exact List.mem_append_right _ (List.mem_cons_of_mem _ hz))
  refine ⟨hw, (spM A ++ ixS p.n S1 0).filterMap itM1, (ixS p.n S2 (S1.length + 1) ++ spM B).filterMap itM1, ?_, ?_, ?_⟩
  · rw [its_ok h]
    unfold itR
    rw [e1, List.filterMap_append, List.filterMap_cons]
    have : itM1 ((p.n, S1.length), x.2) = none := by
      unfold itM1 decT
      dsimp only
      rw [if_neg (by rw [hx0]; exact fun h => absurd h.1 (by decide))]
      rfl
    rw [this]
  · rw [its_ok hw]
    unfold itR
    rw [e2, List.filterMap_append, List.filterMap_cons]
    have : itM1 ((p.n, S1.length), t.enc) = some (x.1, t) := by
      unfold itM1
      rw [hdt, hx1]
      rfl
    rw [this]
  · intro z hz e
    rw [← List.filterMap_append] at hz
    obtain ⟨y, hy, hzy⟩ := List.mem_filterMap.1 hz
    have hyz : y.1 = x.1 := by
      unfold itM1 at hzy
      obtain ⟨u, _, rfl⟩ := Option.map_eq_some_iff.1 hzy
      exact e
    rw [List.append_assoc] at hy
    rcases List.mem_append.1 hy with hy | hy
    · exact hsp A hmemA y hy hyz
    · rcases List.mem_append.1 hy with hy | hy
      · obtain ⟨a1, a2, a3, _⟩ := ixS_mem y hy
        rw [hyz, hx1] at a3
        dsimp only at a3
        omega
      · rcases List.mem_append.1 hy with hy | hy
        · obtain ⟨a1, a2, a3, _⟩ := ixS_mem y hy
          rw [hyz, hx1] at a2
          dsimp only at a2
          omega
        · exact hsp B hmemB y hy hyz
theorem splice_at {l : List Pg} (hl : ∀ r ∈ l, (Pg.cells r).length = 6) {k : Nat} (hk : k < l.length) {p : Pg} (hp : p.cells.length = 6) : splice (l.flatMap Pg.cells) (k * 6) p.cells = (l.set k p).flatMap Pg.cells := by
  induction l generalizing k with
  | nil => exact absurd hk (by simp)
  | cons q l ih =>
    have hq := hl q (List.mem_cons_self ..)
    cases k with
    | zero =>
      rw [List.set_cons_zero, List.flatMap_cons, List.flatMap_cons]
      unfold splice
      rw [Nat.zero_mul, List.take_zero, List.nil_append, Nat.zero_add, hp, ← hq, List.drop_left]
    | succ k =>
      have h1 := ih (fun r hr => hl r (List.mem_cons_of_mem _ hr)) (k := k) (by simpa using hk)
      rw [List.set_cons_succ, List.flatMap_cons, List.flatMap_cons, ← h1]
      unfold splice
      rw [show (k + 1) * 6 = q.cells.length + k * 6 by rw [hq]; omega, List.take_append, List.take_of_length_le (by omega), show q.cells.length + k * 6 - q.cells.length = k * 6 by omega, List.append_assoc, Nat.add_assoc, List.drop_append, List.drop_eq_nil_of_le (by omega), List.nil_append, show q.cells.length + (k * 6 + p.cells.length) - q.cells.length = k * 6 + p.cells.length by omega]
      simp only [List.append_assoc]
end Go.Proofs.Ytaiahigeejodaaa
