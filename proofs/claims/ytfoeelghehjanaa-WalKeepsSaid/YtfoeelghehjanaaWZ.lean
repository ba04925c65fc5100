/-
  A log on a disk whose power may go: what is found again (no program in sight).
-/
import Derived.Test.YtfoeelghehjanaaWX
namespace Go.Proofs.Ytfoeelghehjanaa
open Go.RowKit
set_option linter.unusedVariables false
set_option linter.unusedSimpArgs false

/-! ## Sectors, one by one -/
abbrev atB (S : List Blk) (i : Nat) : Blk := S.getD i noughts
/-- so many sectors from a place on -/
def ar (S : List Blk) (at_ n : Nat) : List Blk := (List.range n).map fun i => atB S (at_ + i)
theorem ar_len (S : List Blk) (at_ n : Nat) : (ar S at_ n).length = n := by simp [ar]
theorem ar_get {S : List Blk} {at_ n i : Nat} (h : i < n) : (ar S at_ n)[i]? = some (atB S (at_ + i)) := by
  unfold ar
  rw [List.getElem?_map, List.getElem?_range h]
  rfl
theorem ar_eq {S : List Blk} {at_ n : Nat} (h : at_ + n ≤ S.length) : (S.drop at_).take n = ar S at_ n := by
  refine List.ext_getElem? fun i => ?_
  by_cases hi : i < n
  · rw [ar_get hi, List.getElem?_take_of_lt hi, List.getElem?_drop, List.getElem?_eq_getElem (by omega)]
    show _ = some (S.getD (at_ + i) noughts)
    rw [List.getD_eq_getElem?_getD, List.getElem?_eq_getElem (by omega)]
    rfl
  · rw [List.getElem?_eq_none (by rw [List.length_take]; omega), List.getElem?_eq_none (by rw [ar_len]; omega)]
theorem ar_congr {S S' : List Blk} {at_ n : Nat} (h : ∀ i, i < n → atB S' (at_ + i) = atB S (at_ + i)) : ar S' at_ n = ar S at_ n :=
  List.map_congr_left fun i hi => h i (List.mem_range.1 hi)
theorem ar_add (S : List Blk) (at_ n m : Nat) : ar S at_ (n + m) = ar S at_ n ++ ar S (at_ + n) m := by
  unfold ar
  rw [List.range_add, List.map_append, List.map_map]
  congr 1
  refine List.map_congr_left fun i _ => ?_
  show atB S (at_ + (n + i)) = atB S (at_ + n + i)
  rw [Nat.add_assoc]
theorem ar_parts {S : List Blk} {at_ t n : Nat} {b : List Nat} (h : ∀ k, k < secN b.length → atB S (at_ + k) = partB t n b k) : ar S at_ (secN b.length) = partsB t n b :=
  List.map_congr_left fun k hk => h k (List.mem_range.1 hk)
theorem splice_in {S l : List Blk} {at_ k : Nat} (h : at_ + l.length ≤ S.length) (hk : k < l.length) : atB (spliceB S at_ l) (at_ + k) = l.getD k noughts := by
  show (spliceB S at_ l).getD (at_ + k) noughts = _
  have hl : (S.take at_).length = at_ := by rw [List.length_take]; omega
  unfold spliceB
  rw [List.getD_eq_getElem?_getD, List.getD_eq_getElem?_getD, List.append_assoc, List.getElem?_append_right (by omega), hl, Nat.add_sub_cancel_left, List.getElem?_append_left hk]
theorem splice_out {S l : List Blk} {at_ i : Nat} (h : at_ + l.length ≤ S.length) (hi : i < at_ ∨ at_ + l.length ≤ i) : atB (spliceB S at_ l) i = atB S i := by
  show (spliceB S at_ l).getD i noughts = S.getD i noughts
  have hl : (S.take at_).length = at_ := by rw [List.length_take]; omega
  unfold spliceB
  rw [List.getD_eq_getElem?_getD, List.getD_eq_getElem?_getD, List.append_assoc]
  rcases hi with hi | hi
  · rw [List.getElem?_append_left (by omega), List.getElem?_take_of_lt hi]
  · rw [List.getElem?_append_right (by omega), hl, List.getElem?_append_right (by omega), List.getElem?_drop]
    congr 2
    omega
theorem splice_parts {S : List Blk} {at_ t n : Nat} {b : List Nat} (h : at_ + secN b.length ≤ S.length) {k : Nat} (hk : k < secN b.length) : atB (spliceB S at_ (partsB t n b)) (at_ + k) = partB t n b k := by
  rw [splice_in (by rw [partsB_len]; exact h) (by rw [partsB_len]; exact hk), List.getD_eq_getElem?_getD]
  unfold partsB
  rw [List.getElem?_map, List.getElem?_range hk]
  rfl
/-! ## Old sectors -/
def pT (x : Blk) : Nat := bnum 0 (x.take 4)
def pN (x : Blk) : Nat := bnum 0 ((x.drop 4).take 4)
theorem pT_part {t n : Nat} {b : List Nat} {k : Nat} (ht : t < 4294967296) : pT (partB t n b k) = t := by
  unfold pT partB stampB
  rw [List.append_assoc, List.append_assoc, List.append_assoc, List.append_assoc, List.take_left' (beb_length _ _), bnum_beb]
  exact Nat.mod_eq_of_lt ht
theorem pN_part {t n : Nat} {b : List Nat} {k : Nat} (hn : n < 4294967296) : pN (partB t n b k) = n := by
  unfold pN partB stampB
  rw [List.append_assoc, List.append_assoc, List.append_assoc, List.append_assoc, take_mid (n := 4) (m := 4) (beb_length _ _) (beb_length _ _), bnum_beb]
  exact Nat.mod_eq_of_lt hn
/-- noughts, or a sector of a frame that was laid before -/
def Old (T N : Nat) (x : Blk) : Prop := x = noughts ∨ ∃ (t n : Nat) (b : List Nat) (k : Nat), t < 4294967296 ∧ n < 4294967296 ∧ b.length ≤ 40000 ∧ x = partB t n b k ∧ (t < T ∨ (t = T ∧ n < N))
theorem Old.mono {T N T' N' : Nat} {x : Blk} (h : Old T N x) (hm : T < T' ∨ (T = T' ∧ N ≤ N')) : Old T' N' x := by
  rcases h with h | ⟨t, n, b, k, h1, h2, h3, h4, h5⟩
  · exact .inl h
  · exact .inr ⟨t, n, b, k, h1, h2, h3, h4, by omega⟩
theorem Old.ne {T N n : Nat} {x : Blk} (h : Old T N x) (hT : T < 4294967296) (hn : n < 4294967296) (hN : N ≤ n) {b : List Nat} (hb : b.length ≤ 40000) (k : Nat) : x ≠ partB T n b k := by
  rcases h with rfl | ⟨t, m, c, j, h1, h2, h3, rfl, h5⟩
  · intro e
    have h6 := congrArg stN e
    rw [stN_noughts, stN_part, secN_pos hb] at h6
    omega
  · intro e
    have h6 := congrArg pT e
    have h7 := congrArg pN e
    rw [pT_part h1, pT_part hT] at h6
    rw [pN_part h2, pN_part hn] at h7
    omega
theorem old_part {t n T N : Nat} {b : List Nat} {k : Nat} (h1 : t < 4294967296) (h2 : n < 4294967296) (h3 : b.length ≤ 40000) (h5 : t < T ∨ (t = T ∧ n < N)) : Old T N (partB t n b k) := .inr ⟨t, n, b, k, h1, h2, h3, rfl, h5⟩
/-- behind the frames: nothing new, or a frame of which a sector is missing -/
def Torn (t n : Nat) (S : List Blk) (at_ m : Nat) : Prop := ∃ b : List Nat, b.length ≤ 40000 ∧ (∀ i, i < m → Old t n (atB S (at_ + i)) ∨ (i < secN b.length ∧ atB S (at_ + i) = partB t n b i)) ∧ ∃ i, i < secN b.length ∧ (i < m → Old t n (atB S (at_ + i)))
theorem Torn.of_old {t n : Nat} {S : List Blk} {at_ m : Nat} (h : ∀ i, i < m → Old t n (atB S (at_ + i))) : Torn t n S at_ m :=
  ⟨[], by decide, fun i hi => .inl (h i hi), 0, by decide, fun hi => h 0 hi⟩
theorem Torn.none {t n : Nat} {S : List Blk} {at_ m : Nat} (h : Torn t n S at_ m) (ht : t < 4294967296) (hn : n < 4294967296) (hS : ∀ x ∈ S, Blk.ok x) : stM (ar S at_ m) t n = none := by
  obtain ⟨b, hb, h1, j, hj, h2⟩ := h
  cases hs : stM (ar S at_ m) t n with
  | none => rfl
  | some c =>
    exfalso
    have hok : ∀ x ∈ ar S at_ m, Blk.ok x := by
      intro x hx
      obtain ⟨i, _, rfl⟩ := List.mem_map.1 hx
      show Blk.ok (S.getD (at_ + i) noughts)
      rw [List.getD_eq_getElem?_getD]
      cases hg : S[at_ + i]? with
      | none => exact noughts_ok
      | some y => exact hS y (List.mem_of_getElem? hg)
    obtain ⟨c1, c2, c3, c4⟩ := stM_some hok hs
    rw [ar_len] at c1
    have hk : ∀ k, k < secN c.length → atB S (at_ + k) = partB t n c k := by
      intro k hk
      have h3 : (partsB t n c)[k]? = ((ar S at_ m).take (secN c.length))[k]? := by rw [c4]
      rw [List.getElem?_take_of_lt hk, ar_get (by omega)] at h3
      unfold partsB at h3
      rw [List.getElem?_map, List.getElem?_range hk] at h3
      exact (Option.some.inj h3).symm
    have h0 := hk 0 (by omega)
    rcases h1 0 (by omega) with ho | ⟨_, ho⟩
    · exact ho.ne ht hn (Nat.le_refl _) c3 0 h0
    · have h5 := congrArg stN (h0.symm.trans ho)
      rw [stN_part, stN_part] at h5
      exact (h2 (by omega)).ne ht hn (Nat.le_refl _) c3 j (hk j (by omega))
/-! ## What stands on a disk -/
structure Base (S : List Blk) (W : WM) : Prop where
  ok : W.ok
  four : 4 ≤ W.area
  len : 2 + 2 * W.area ≤ S.length
  blk : ∀ x ∈ S, Blk.ok x
  head : atB S (W.turn % 2) = headB W.turn W.area
  other : atB S ((W.turn + 1) % 2) = if W.turn = 0 then noughts else headB (W.turn - 1) W.area
  own : ar S (fromN W.turn W.area) W.fin = framesB W.turn 0 W.list
  oth : ∀ i, i < W.area → Old (W.turn + 1) 1 (atB S (fromN (W.turn + 1) W.area + i))
/-- as it may stand behind a crash -/
structure LaidT (S : List Blk) (W : WM) : Prop extends Base S W where
  rest : Torn W.turn W.list.length S (fromN W.turn W.area + W.fin) (W.area - W.fin)
/-- as it stands while nothing has gone wrong -/
structure Laid (S : List Blk) (W : WM) : Prop extends Base S W where
  rest : ∀ i, i < W.area - W.fin → Old W.turn W.list.length (atB S (fromN W.turn W.area + W.fin + i))
/-- as Open leaves it -/
structure Clean (S : List Blk) (W : WM) : Prop extends Base S W where
  rest : ∀ i, i < W.area - W.fin → atB S (fromN W.turn W.area + W.fin + i) = noughts
theorem Clean.laid {S : List Blk} {W : WM} (h : Clean S W) : Laid S W := ⟨h.toBase, fun i hi => .inl (h.rest i hi)⟩
theorem Laid.torn {S : List Blk} {W : WM} (h : Laid S W) : LaidT S W := ⟨h.toBase, Torn.of_old h.rest⟩
theorem mod2 (t : Nat) : t % 2 = 0 ∧ (t + 1) % 2 = 1 ∨ t % 2 = 1 ∧ (t + 1) % 2 = 0 := by omega
theorem from_cases (t a : Nat) : fromN t a = 2 ∧ fromN (t + 1) a = 2 + a ∧ t % 2 = 0 ∧ (t + 1) % 2 = 1 ∨ fromN t a = 2 + a ∧ fromN (t + 1) a = 2 ∧ t % 2 = 1 ∧ (t + 1) % 2 = 0 := by
  unfold fromN
  rcases mod2 t with ⟨h1, h2⟩ | ⟨h1, h2⟩
  · left; rw [h1, h2]; omega
  · right; rw [h1, h2]; omega
end Go.Proofs.Ytfoeelghehjanaa
