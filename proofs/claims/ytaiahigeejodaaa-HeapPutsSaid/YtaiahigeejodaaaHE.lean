/-
  Contract: which tuple bytes are.
-/
import Derived.Test.YtaiahigeejodaaaHD
namespace Go.Proofs.Ytaiahigeejodaaa
open Go.RowKit
set_option linter.unusedVariables false
set_option linter.unusedSimpArgs false
attribute [local irreducible] Rd hRow hBlk hRd hRdr Fn hMarks

abbrev tcs (r : Nat) (us : List Nat) (is : List Int) : List Value := .int .u32 (r : Int) :: ((us.map fun n : Nat => Value.int .u64 (n : Int)) ++ is.map fun x => Value.int .i64 x)
theorem tcs_setU {r : Nat} {us : List Nat} {is : List Int} {k : Nat} (hk : k < us.length) (v : Nat) : (tcs r us is).set (1 + k) (.int .u64 (v : Int)) = tcs r (us.set k v) is := by
  show (Value.int .u32 (r : Int) :: ((us.map fun n : Nat => Value.int .u64 (n : Int)) ++ is.map fun x => Value.int .i64 x)).set (1 + k) _ = _
  have e : (us.map fun n : Nat => Value.int .u64 (n : Int)).set k (.int .u64 (v : Int)) = (us.set k v).map fun n : Nat => Value.int .u64 (n : Int) := List.map_set.symm
  rw [Nat.add_comm 1 k, List.set_cons_succ, List.set_append_left _ _ (by rw [List.length_map]; exact hk), e]
theorem tcs_setI {r : Nat} {us : List Nat} {is : List Int} {k : Nat} (hu : us.length = 2) (hk : k < is.length) (x : Int) : (tcs r us is).set (3 + k) (.int .i64 x) = tcs r us (is.set k x) := by
  show (Value.int .u32 (r : Int) :: ((us.map fun n : Nat => Value.int .u64 (n : Int)) ++ is.map fun x => Value.int .i64 x)).set (3 + k) _ = _
  have e : (is.map fun x => Value.int .i64 x).set k (.int .i64 x) = (is.set k x).map fun x => Value.int .i64 x := List.map_set.symm
  rw [show 3 + k = (2 + k) + 1 by omega, List.set_cons_succ, List.set_append_right _ _ (by rw [List.length_map]; omega), List.length_map, hu, show 2 + k - 2 = k by omega, e]
theorem tcs_len {r : Nat} {us : List Nat} {is : List Int} (hu : us.length = 2) (hi : is.length = 5) : (tcs r us is).length = 8 := by simp [hu, hi]
theorem take_set {α : Type} {l : List α} {k : Nat} (hk : k < l.length) (v : α) : (l.set k v).take (k + 1) = l.take k ++ [v] := by
  rw [List.take_succ_eq_append_getElem (by rw [List.length_set]; exact hk), List.getElem_set_self, List.take_set_of_le (Nat.le_refl k)]
def decR (b : List Nat) : TM := (decT b).getD TM.zero
def partU (b : List Nat) : List Nat := [bnum 0 ((b.drop 4).take 4), bnum 0 ((b.drop 8).take 4)]
def partI (b : List Nat) : List Int := [sN (bnum 0 ((b.drop 12).take 8)), sN (bnum 0 ((b.drop 20).take 8)), sN (bnum 0 ((b.drop 28).take 8)), sN (bnum 0 ((b.drop 36).take 8)), sN (bnum 0 ((b.drop 44).take 8))]
theorem partU_take {b : List Nat} {k : Nat} (hk : k < 2) : (partU b).take (k + 1) = (partU b).take k ++ [bnum 0 ((b.drop (4 + 4 * k)).take 4)] := by
  rcases (by omega : k = 0 ∨ k = 1) with rfl | rfl <;> rfl
theorem partI_take {b : List Nat} {k : Nat} (hk : k < 5) : (partI b).take (k + 1) = (partI b).take k ++ [sN (bnum 0 ((b.drop (12 + 8 * k)).take 8))] := by
  rcases (by omega : k = 0 ∨ k = 1 ∨ k = 2 ∨ k = 3 ∨ k = 4) with rfl | rfl | rfl | rfl | rfl <;> rfl
section
variable {H : List HP} {w0 w : World}
set_option maxHeartbeats 8000000
theorem hdecode (A : Option Addr) (c : Nat) (b : List Nat) (n : Nat) (hn : n = b.length) (hr : Rd w0 A (bys b)) (hb : Bs b) (hl : b.length ≤ 140737488351232) :
    Fn Try.prog 14 [.slice A n c] w0 fun v w' => v = .tuple #[.agg (decR b).cells.toArray, .int .i64 (if (decT b).isSome then 0 else 200)] ∧ St w0 w' [] := by
  subst hn
  refine enter 60 Try.func14 rfl rfl rfl ?_
  intro a hE
  have hS := St.start w0
  repeat' (first

    | (with_reducible refine wp_seq ?_)
    | (with_reducible refine c_region ?_)
    | (with_reducible refine wpList_nil ?_)
    | (with_reducible refine then_normal ?_)
    | ((with_reducible refine g_move ?_); refine s_move hE rfl rfl ?_; clear hE a; intro a hE)
    | ((with_reducible refine g_assign ?_); refine s_assign hE rfl rfl ?_; clear hE a; intro a hE)
    | ((with_reducible refine g_alloc ?_); refine s_allocS hE hS rfl rfl ?_; clear hE a hS; intro g a w hE hS)
    )
  obtain ⟨g2, rfl⟩ : ∃ x, x = g := ⟨g, rfl⟩
  refine s_call hE rfl rfl rfl (read A c b w (hr.st hS) (by omega)) ?_
  rintro _ w ⟨gr, A1, c1, rfl, hS1⟩; clear hE a; intro a hE; replace hS := hS.frame hS1; clear hS1; try simp only [List.cons_append, List.nil_append] at hS
  repeat' (first

    | (with_reducible refine wp_seq ?_)
    | (with_reducible refine c_region ?_)
    | (with_reducible refine wpList_nil ?_)
    | (with_reducible refine then_normal ?_)
    | ((with_reducible refine g_move ?_); refine s_move hE rfl rfl ?_; clear hE a; intro a hE)
    | ((with_reducible refine g_assign ?_); refine s_assign hE rfl rfl ?_; clear hE a; intro a hE)
    | ((with_reducible refine g_alloc ?_); refine s_allocS hE hS rfl rfl ?_; clear hE a hS; intro g a w hE hS)
    )
  obtain ⟨g5, rfl⟩ : ∃ x, x = g := ⟨g, rfl⟩
  refine s_call hE rfl rfl rfl (u32 gr A1 c1 b 0 0 _ w0 w (hS.focus (k := 1) rfl) hb (by omega) (by omega)) ?_
  rintro _ w ⟨rfl, hS⟩; clear hE a; intro a hE
  simp only [List.eraseIdx_cons_succ, List.eraseIdx_cons_zero] at hS
  have hp1 := takeM_le (xs := b) (p := 0) (e := 0) (n := 4) (by omega)
  have hV := bnum_lt32 (takeM_bs (p := 0) (e := 0) (n := 4) hb) (takeM_n (n := 4))
  have h52 : b.length = 52 → bnum 0 (takeM b 0 0 4).1 = bnum 0 (b.take 4) ∧ (takeM b 0 0 4).2.1 = 4 ∧ (takeM b 0 0 4).2.2 = 0 := fun h => by
    have e : takeM b 0 0 4 = ((b.drop 0).take 4, 0 + 4, 0) := takeM_inT (n := 4) (by omega)
    rw [e]
    exact ⟨rfl, rfl, rfl⟩
  generalize bnum 0 (takeM b 0 0 4).1 = V at hE hV h52
  generalize (takeM b 0 0 4).2.1 = p1 at hS hp1 h52
  generalize (takeM b 0 0 4).2.2 = e1 at hS h52
  repeat' (first

    | (with_reducible refine wp_seq ?_)
    | (with_reducible refine c_region ?_)
    | (with_reducible refine wpList_nil ?_)
    | (with_reducible refine then_normal ?_)
    | (with_reducible refine wp_block ?_)
    | ((with_reducible refine g_move ?_); refine s_move hE rfl rfl ?_; clear hE a; intro a hE)
    | ((with_reducible refine g_blt .len ?_); refine s_len hE rfl rfl ?_; clear hE a; intro a hE)
    | ((with_reducible refine g_fa ?_); refine s_fieldL hE rfl rfl rfl ?_; clear hE a; intro a hE)
    | ((with_reducible refine g_store ?_); (first | (refine s_storeB (k := 1) hS hE rfl rfl rfl rfl rfl rfl ?_) ); clear hS; intro w hS; simp only [List.set_cons_zero, List.set_cons_succ, Nat.add_zero] at hS)
    | ((with_reducible refine g_lit ?_); refine s_lit hE hS rfl rfl rfl rfl rfl (by first | (simp [Value.oneCell']; done)) rfl ?_; clear hE a hS; intro g a w hE hS)
    )
  generalize hP : ([.pointer (some ⟨g5, 0 + 1, none⟩), .pointer (some ⟨g5, 0 + 2, none⟩)] : List Value) = ptrs at hS
  have hpl : ptrs.length = 2 := by rw [← hP]; rfl
  refine wp_loop_ghost (fun q a w => ∃ (k : Nat) (us : List Nat) (p : Nat) (e : Int), k + q = 2 ∧ us.length = 2 ∧ p ≤ b.length ∧ (b.length = 52 → us.take k = (partU b).take k ∧ p = 4 + 4 * k ∧ e = 0) ∧ St w0 w [hRdr gr A1 c1 b p e, hRow 88 1 (some ⟨g, 0, none⟩) 2 2 ptrs, hBlk g5 30 (tcs V us [0, 0, 0, 0, 0]), hBlk g2 30 TM.zero.cells] ∧ Env 60 [(18, .int .i64 2), (19, .int .i64 (k : Int)), (17, .slice (some ⟨g, 0, none⟩) 2 2), (4, .pointer (some ⟨gr, 0, none⟩)), (5, .pointer (some ⟨g5, 0, none⟩)), (2, .pointer (some ⟨g2, 0, none⟩)), (0, .slice A b.length c)] a) 2
    ⟨0, [0, 0], p1, e1, by omega, rfl, hp1, fun h => ⟨rfl, (h52 h).2.1, (h52 h).2.2⟩, hS.p1, hE.sub ⟨rfl, rfl, rfl, rfl, rfl, rfl, rfl, trivial⟩⟩ ?_
  clear hE a hS hp1
  replace h52 := fun h => (h52 h).1
  clear p1 e1
  rintro q a w ⟨k, us, p, e, hk, hul, hp, h52k, hS, hE⟩
  by_cases hk1 : k < 2
  · have hg : ptrs[((k : Nat) : Int).toNat * 1]? = some (.pointer (some ⟨g5, 1 + k, none⟩)) := by
      rw [← hP]
      rcases (by omega : k = 0 ∨ k = 1) with rfl | rfl <;> rfl
    have htl := tcs_len (r := V) (is := [0, 0, 0, 0, 0]) hul rfl
    repeat' (first

      | (with_reducible refine wp_seq ?_)
      | (with_reducible refine c_region ?_)
      | (with_reducible refine wpList_nil ?_)
      | (with_reducible refine then_normal ?_)
      | (with_reducible refine wp_skip ?_)
      | (with_reducible refine wp_block ?_)
      | ((with_reducible refine g_move ?_); refine s_move hE rfl rfl ?_; clear hE a; intro a hE)
      | ((with_reducible refine g_assign ?_); refine s_assign hE rfl rfl ?_; clear hE a; intro a hE)
      | ((with_reducible refine g_bin .lss ?_); refine s_lss hE rfl rfl rfl ?_; clear hE a; intro a hE)
      | ((with_reducible refine g_cond ?_); refine c_dec hE rfl (fun hc => ?_) (fun hc => ?_) <;> try omega)
      | ((with_reducible refine g_ia ?_); refine s_idxR hE rfl rfl (by omega) (by omega) (by (first | exact hS.rdAt (k := 1) rfl )) (by first | omega ) rfl ?_; clear hE a; intro a hE)
      | ((with_reducible refine g_load ?_); refine s_loadR hE rfl (by (first | exact hS.rdAt (k := 1) rfl )) (by first | exact hg ) rfl ?_; clear hE a; intro a hE)
      )
    refine s_call hE rfl rfl rfl (u32 gr A1 c1 b p e _ w0 w hS hb hp (by omega)) ?_
    rintro _ w ⟨rfl, hS⟩; clear hE a; intro a hE
    have hp1 := takeM_le (xs := b) (p := p) (e := e) (n := 4) hp
    have hX := bnum_lt32 (takeM_bs (p := p) (e := e) (n := 4) hb) (takeM_n (n := 4))
    have h52' : b.length = 52 → bnum 0 (takeM b p e 4).1 = bnum 0 ((b.drop (4 + 4 * k)).take 4) ∧ (takeM b p e 4).2.1 = 4 + 4 * (k + 1) ∧ (takeM b p e 4).2.2 = 0 := fun h => by
      obtain ⟨_, rfl, rfl⟩ := h52k h
      have e : takeM b (4 + 4 * k) 0 4 = ((b.drop (4 + 4 * k)).take 4, 4 + 4 * k + 4, 0) := takeM_inT (n := 4) (by omega)
      rw [e]
      exact ⟨rfl, by show 4 + 4 * k + 4 = _; omega, rfl⟩
    generalize bnum 0 (takeM b p e 4).1 = X at hE hX h52'
    generalize (takeM b p e 4).2.1 = p1 at hS hp1 h52'
    generalize (takeM b p e 4).2.2 = e1 at hS h52'
    repeat' (first

      | ((with_reducible refine g_conv ?_); refine s_conv hE rfl rfl (by first  | exact wrap_u64_in (by omega) ) ?_; clear hE a; intro a hE)
      | ((with_reducible refine g_nc ?_); refine s_nilCheck hE rfl rfl ?_; clear hE a; intro a hE)
      )
    refine g_store ?_
    refine s_storeB (k := 2) hS hE rfl rfl rfl rfl (by rw [htl, Nat.blt_eq]; omega) rfl ?_
    clear hS; intro w hS
    simp only [List.set_cons_zero, List.set_cons_succ] at hS
    rw [tcs_setU (by omega)] at hS
    repeat' (first

      | (with_reducible refine c_region ?_)
      | (with_reducible refine wpList_nil ?_)
      | (with_reducible refine then_normal ?_)
      | (with_reducible refine block_normal ?_)
      | ((with_reducible refine g_move ?_); refine s_move hE rfl rfl ?_; clear hE a; intro a hE)
      | ((with_reducible refine g_bin .add ?_); refine s_add hE rfl rfl rfl (by first  | exact wrap64_in (by omega) ) ?_; clear hE a; intro a hE)
      )
    exact ⟨q - 1, by omega, k + 1, us.set k X, p1, e1, by omega, by rw [List.length_set]; exact hul, hp1, fun h => ⟨by rw [take_set (by omega), (h52k h).1, partU_take hk1, (h52' h).1], (h52' h).2.1, (h52' h).2.2⟩, hS, hE.sub ⟨rfl, rfl, rfl, rfl, rfl, rfl, rfl, trivial⟩⟩
  · obtain rfl : k = 2 := by omega
    have hus : b.length = 52 → us = partU b ∧ p = 12 ∧ e = 0 := fun h => by
      obtain ⟨h1, h2, h3⟩ := h52k h
      rw [List.take_of_length_le (by omega)] at h1
      exact ⟨h1, h2, h3⟩
    clear h52k
    obtain ⟨gl, rfl⟩ : ∃ x, x = g := ⟨g, rfl⟩
    repeat' (first

      | (with_reducible refine wp_seq ?_)
      | (with_reducible refine c_region ?_)
      | (with_reducible refine wpList_nil ?_)
      | (with_reducible refine then_normal ?_)
      | (with_reducible refine wp_block ?_)
      | (with_reducible refine wp_exit ?_)
      | (with_reducible refine then_exit ?_)
      | (with_reducible refine block_same ?_)
      | ((with_reducible refine g_move ?_); refine s_move hE rfl rfl ?_; clear hE a; intro a hE)
      | ((with_reducible refine g_bin .lss ?_); refine s_lss hE rfl rfl rfl ?_; clear hE a; intro a hE)
      | ((with_reducible refine g_blt .len ?_); refine s_len hE rfl rfl ?_; clear hE a; intro a hE)
      | ((with_reducible refine g_fa ?_); refine s_fieldL hE rfl rfl rfl ?_; clear hE a; intro a hE)
      | ((with_reducible refine g_cond ?_); refine c_false hE rfl ?_)
      | ((with_reducible refine g_lit ?_); refine s_lit hE hS rfl rfl rfl rfl rfl (by first | (simp [Value.oneCell']; done)) rfl ?_; clear hE a hS; intro g a w hE hS)
      )
    generalize hP2 : ([.pointer (some ⟨g5, 0 + 3 + 0, none⟩), .pointer (some ⟨g5, 0 + 3 + 1, none⟩), .pointer (some ⟨g5, 0 + 3 + 2, none⟩), .pointer (some ⟨g5, 0 + 3 + 3, none⟩), .pointer (some ⟨g5, 0 + 7, none⟩)] : List Value) = ptr2 at hS
    have hpl2 : ptr2.length = 5 := by rw [← hP2]; rfl
    have hS2 := (hS.drop 2).p1
    simp only [List.eraseIdx_cons_succ, List.eraseIdx_cons_zero] at hS2
    clear hS; have hS := hS2; clear hS2 hpl hP
    refine wp_loop_ghost (fun q a w => ∃ (k : Nat) (is : List Int) (p : Nat) (e : Int), k + q = 5 ∧ is.length = 5 ∧ p ≤ b.length ∧ (b.length = 52 → is.take k = (partI b).take k ∧ p = 12 + 8 * k ∧ e = 0) ∧ St w0 w [hRdr gr A1 c1 b p e, hRow 90 1 (some ⟨g, 0, none⟩) 5 5 ptr2, hBlk g5 30 (tcs V us is), hBlk g2 30 TM.zero.cells] ∧ Env 60 [(39, .int .i64 5), (40, .int .i64 (k : Int)), (38, .slice (some ⟨g, 0, none⟩) 5 5), (4, .pointer (some ⟨gr, 0, none⟩)), (5, .pointer (some ⟨g5, 0, none⟩)), (2, .pointer (some ⟨g2, 0, none⟩)), (0, .slice A b.length c)] a) 5
      ⟨0, [0, 0, 0, 0, 0], p, e, by omega, rfl, hp, fun h => ⟨rfl, (hus h).2.1, (hus h).2.2⟩, hS, hE.sub ⟨rfl, rfl, rfl, rfl, rfl, rfl, rfl, trivial⟩⟩ ?_
    clear hE a hS hp
    replace hus := fun h => (hus h).1
    clear p e
    rintro q a w ⟨k, is, p, e, hk, hil, hp, h52k, hS, hE⟩
    have htl := tcs_len (r := V) hul hil
    by_cases hk1 : k < 5
    · have hg : ptr2[((k : Nat) : Int).toNat * 1]? = some (.pointer (some ⟨g5, 3 + k, none⟩)) := by
        rw [← hP2]
        rcases (by omega : k = 0 ∨ k = 1 ∨ k = 2 ∨ k = 3 ∨ k = 4) with rfl | rfl | rfl | rfl | rfl <;> rfl
      repeat' (first

        | (with_reducible refine wp_seq ?_)
        | (with_reducible refine c_region ?_)
        | (with_reducible refine wpList_nil ?_)
        | (with_reducible refine then_normal ?_)
        | (with_reducible refine wp_skip ?_)
        | (with_reducible refine wp_block ?_)
        | ((with_reducible refine g_move ?_); refine s_move hE rfl rfl ?_; clear hE a; intro a hE)
        | ((with_reducible refine g_assign ?_); refine s_assign hE rfl rfl ?_; clear hE a; intro a hE)
        | ((with_reducible refine g_bin .lss ?_); refine s_lss hE rfl rfl rfl ?_; clear hE a; intro a hE)
        | ((with_reducible refine g_cond ?_); refine c_dec hE rfl (fun hc => ?_) (fun hc => ?_) <;> try omega)
        | ((with_reducible refine g_ia ?_); refine s_idxR hE rfl rfl (by omega) (by omega) (by (first | exact hS.rdAt (k := 1) rfl )) (by first | omega ) rfl ?_; clear hE a; intro a hE)
        | ((with_reducible refine g_load ?_); refine s_loadR hE rfl (by (first | exact hS.rdAt (k := 1) rfl )) (by first | exact hg ) rfl ?_; clear hE a; intro a hE)
        )
      refine s_call hE rfl rfl rfl (u64 gr A1 c1 b p e _ w0 w hS hb hp (by omega)) ?_
      rintro _ w ⟨rfl, hS⟩; clear hE a; intro a hE
      have hp1 := takeM_le (xs := b) (p := p) (e := e) (n := 8) hp
      have h52' : b.length = 52 → bnum 0 (takeM b p e 8).1 = bnum 0 ((b.drop (12 + 8 * k)).take 8) ∧ (takeM b p e 8).2.1 = 12 + 8 * (k + 1) ∧ (takeM b p e 8).2.2 = 0 := fun h => by
        obtain ⟨_, rfl, rfl⟩ := h52k h
        have e : takeM b (12 + 8 * k) 0 8 = ((b.drop (12 + 8 * k)).take 8, 12 + 8 * k + 8, 0) := takeM_inT (n := 8) (by omega)
        rw [e]
        exact ⟨rfl, by show 12 + 8 * k + 8 = _; omega, rfl⟩
      generalize bnum 0 (takeM b p e 8).1 = X at hE h52'
      generalize (takeM b p e 8).2.1 = p1 at hS hp1 h52'
      generalize (takeM b p e 8).2.2 = e1 at hS h52'
      have hw : IntKind.i64.wrap (X : Int) = sN X := rfl
      repeat' (first

        | ((with_reducible refine g_conv ?_); refine s_conv hE rfl rfl (by first | exact hw ) ?_; clear hE a; intro a hE)
        | ((with_reducible refine g_nc ?_); refine s_nilCheck hE rfl rfl ?_; clear hE a; intro a hE)
        )
      refine g_store ?_
      refine s_storeB (k := 2) hS hE rfl rfl rfl rfl (by rw [htl, Nat.blt_eq]; omega) rfl ?_
      clear hS; intro w hS
      simp only [List.set_cons_zero, List.set_cons_succ] at hS
      rw [tcs_setI hul (by omega)] at hS
      repeat' (first

        | (with_reducible refine c_region ?_)
        | (with_reducible refine wpList_nil ?_)
        | (with_reducible refine then_normal ?_)
        | (with_reducible refine block_normal ?_)
        | ((with_reducible refine g_move ?_); refine s_move hE rfl rfl ?_; clear hE a; intro a hE)
        | ((with_reducible refine g_bin .add ?_); refine s_add hE rfl rfl rfl (by first  | exact wrap64_in (by omega) ) ?_; clear hE a; intro a hE)
        )
      exact ⟨q - 1, by omega, k + 1, is.set k (sN X), p1, e1, by omega, by rw [List.length_set]; exact hil, hp1, fun h => ⟨by rw [take_set (by omega), (h52k h).1, partI_take hk1, (h52' h).1], (h52' h).2.1, (h52' h).2.2⟩, hS, hE.sub ⟨rfl, rfl, rfl, rfl, rfl, rfl, rfl, trivial⟩⟩
    · obtain rfl : k = 5 := by omega
      have his : b.length = 52 → is = partI b := fun h => by
        obtain ⟨h1, h2, h3⟩ := h52k h
        rw [List.take_of_length_le (by omega), List.take_of_length_le (by show 5 ≤ 5; decide)] at h1
        exact h1
      by_cases hl52 : b.length = 52
      · have et : tcs V us is = (parseT b).cells := by
          rw [hus hl52, his hl52, h52 hl52]
          rfl
        rw [et] at hS
        have hcl : (parseT b).cells.length = 8 := rfl
        have hone := TM.cells_one (parseT b)
        have hd0 : decT b = if (parseT b).right = true then some (parseT b) else none := by
          unfold decT
          by_cases hri : (parseT b).right = true
          · rw [if_pos hri, if_pos ⟨hl52, hri⟩]
          · rw [if_neg hri, if_neg (fun h => hri h.2)]
        have hdR : decR b = (decT b).getD TM.zero := rfl
        generalize parseT b = t at hS hcl hone hd0
        repeat' (first

          | (with_reducible refine wp_seq ?_)
          | (with_reducible refine c_region ?_)
          | (with_reducible refine wpList_nil ?_)
          | (with_reducible refine then_normal ?_)
          | (with_reducible refine wp_exit ?_)
          | (with_reducible refine then_exit ?_)
          | (with_reducible refine block_same ?_)
          | ((with_reducible refine g_move ?_); refine s_move hE rfl rfl ?_; clear hE a; intro a hE)
          | ((with_reducible refine g_bin .lss ?_); refine s_lss hE rfl rfl rfl ?_; clear hE a; intro a hE)
          | ((with_reducible refine g_bin .neq ?_); refine s_neq hE rfl rfl rfl ?_; clear hE a; intro a hE)
          | ((with_reducible refine g_blt .len ?_); refine s_len hE rfl rfl ?_; clear hE a; intro a hE)
          | ((with_reducible refine g_guard ?_); refine gd_yes hE rfl rfl rfl ?_)
          | ((with_reducible refine g_guard ?_); refine gd_dec hE rfl rfl (fun hc hE2 => ?_) (fun hc hE2 => ?_) <;> (try omega) <;> (replace hE := hE2; clear hE2))
          | ((with_reducible refine g_cond ?_); refine c_false hE rfl ?_)
          | ((with_reducible refine g_load ?_); (first | (refine s_loadW (k := 2) hS hE rfl rfl rfl rfl ?_) ); clear hE a; intro a hE)
          )
        refine s_call hE rfl rfl rfl (tcheck t w) ?_
        rintro _ w ⟨rfl, hS1⟩; clear hE a; intro a hE; replace hS := hS.frame hS1; clear hS1; try simp only [List.cons_append, List.nil_append] at hS
        by_cases hri : t.right = true
        · rw [if_pos hri] at hE hd0
          rw [hdR, hd0]
          repeat' (first

            | (with_reducible refine wp_seq ?_)
            | (with_reducible refine c_region ?_)
            | (with_reducible refine wpList_nil ?_)
            | (with_reducible refine then_normal ?_)
            | (with_reducible refine wp_skip ?_)
            | (with_reducible refine wp_ret ?_)
            | ((with_reducible refine g_assign ?_); refine s_assign hE rfl rfl ?_; clear hE a; intro a hE)
            | ((with_reducible refine g_bin .neq ?_); refine s_neq hE rfl rfl rfl ?_; clear hE a; intro a hE)
            | ((with_reducible refine g_guard ?_); refine gd_yes hE rfl rfl rfl ?_)
            | ((with_reducible refine g_pick ?_); refine s_pickF hE rfl rfl rfl ?_; clear hE a; intro a hE)
            | ((with_reducible refine g_cond ?_); refine c_false hE rfl ?_)
            | ((with_reducible refine g_load ?_); (first | (refine s_loadW (k := 2) hS hE rfl rfl rfl rfl ?_) ); clear hE a; intro a hE)
            | ((with_reducible refine g_store ?_); (first | (refine s_storeW (k := 3) hS hE rfl rfl rfl rfl rfl (by first | assumption ) ?_) ); clear hS; intro w hS; simp only [List.set_cons_zero, List.set_cons_succ, Nat.add_zero] at hS)
            )
          exact retG (vs := [_, _]) hE rfl ⟨⟨_, rfl, res_W (k := 3) hS rfl rfl⟩, rfl, trivial⟩ ⟨rfl, hS.nil⟩
        · rw [if_neg hri] at hE hd0
          rw [hdR, hd0]
          repeat' (first

            | (with_reducible refine wp_seq ?_)
            | (with_reducible refine c_region ?_)
            | (with_reducible refine wpList_nil ?_)
            | (with_reducible refine then_normal ?_)
            | (with_reducible refine wp_ret ?_)
            | (with_reducible refine then_ret ?_)
            | ((with_reducible refine g_assign ?_); refine s_assign hE rfl rfl ?_; clear hE a; intro a hE)
            | ((with_reducible refine g_bin .neq ?_); refine s_neq hE rfl rfl rfl ?_; clear hE a; intro a hE)
            | ((with_reducible refine g_guard ?_); refine gd_yes hE rfl rfl rfl ?_)
            | ((with_reducible refine g_pick ?_); refine s_pickF hE rfl rfl rfl ?_; clear hE a; intro a hE)
            | ((with_reducible refine g_cond ?_); refine c_true hE rfl ?_)
            | ((with_reducible refine g_build ?_); refine s_build [_, _, _, _, _, _, _, _] hE rfl rfl rfl ?_; clear hE a; intro a hE)
            | ((with_reducible refine g_store ?_); (first | (refine s_storeW (k := 3) hS hE rfl rfl rfl rfl rfl (by first | (simp [Value.oneCell']; done)) ?_) ); clear hS; intro w hS; simp only [List.set_cons_zero, List.set_cons_succ, Nat.add_zero] at hS)
            )
          exact retG (vs := [_, _]) hE rfl ⟨⟨_, rfl, res_W (k := 3) hS rfl rfl⟩, rfl, trivial⟩ ⟨rfl, hS.nil⟩
      · have hd0 : decT b = none := if_neg fun h => hl52 h.1
        have hdR : decR b = TM.zero := by unfold decR; rw [hd0]; rfl
        rw [hd0, hdR]
        repeat' (first

          | (with_reducible refine wp_seq ?_)
          | (with_reducible refine c_region ?_)
          | (with_reducible refine wpList_nil ?_)
          | (with_reducible refine then_normal ?_)
          | (with_reducible refine wp_ret ?_)
          | (with_reducible refine then_ret ?_)
          | (with_reducible refine wp_exit ?_)
          | (with_reducible refine then_exit ?_)
          | (with_reducible refine block_same ?_)
          | ((with_reducible refine g_move ?_); refine s_move hE rfl rfl ?_; clear hE a; intro a hE)
          | ((with_reducible refine g_assign ?_); refine s_assign hE rfl rfl ?_; clear hE a; intro a hE)
          | ((with_reducible refine g_bin .lss ?_); refine s_lss hE rfl rfl rfl ?_; clear hE a; intro a hE)
          | ((with_reducible refine g_bin .neq ?_); refine s_neq hE rfl rfl rfl ?_; clear hE a; intro a hE)
          | ((with_reducible refine g_blt .len ?_); refine s_len hE rfl rfl ?_; clear hE a; intro a hE)
          | ((with_reducible refine g_guard ?_); refine gd_no hE rfl rfl rfl rfl ?_; clear hE a; intro a hE)
          | ((with_reducible refine g_guard ?_); refine gd_dec hE rfl rfl (fun hc hE2 => ?_) (fun hc hE2 => ?_) <;> (try omega) <;> (replace hE := hE2; clear hE2))
          | ((with_reducible refine g_pick ?_); refine s_pickT hE rfl rfl rfl ?_; clear hE a; intro a hE)
          | ((with_reducible refine g_cond ?_); refine c_true hE rfl ?_)
          | ((with_reducible refine g_cond ?_); refine c_false hE rfl ?_)
          | ((with_reducible refine g_build ?_); refine s_build [_, _, _, _, _, _, _, _] hE rfl rfl rfl ?_; clear hE a; intro a hE)
          | ((with_reducible refine g_store ?_); (first | (refine s_storeW (k := 3) hS hE rfl rfl rfl rfl rfl (by first | (simp [Value.oneCell']; done)) ?_) ); clear hS; intro w hS; simp only [List.set_cons_zero, List.set_cons_succ, Nat.add_zero] at hS)
          )
        exact retG (vs := [_, _]) hE rfl ⟨⟨_, rfl, res_W (k := 3) hS rfl rfl⟩, rfl, trivial⟩ ⟨rfl, hS.nil⟩
end
end Go.Proofs.Ytaiahigeejodaaa
