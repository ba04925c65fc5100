/-
  Contracts: bytes copied, held against each other, joined.
-/
import Derived.Test.YtmfcffeoooegcaaKn
import Derived.Test.YtmfcffeoooegcaaTy
namespace Go.Proofs.Ytmfcffeoooegcaa
open Go.RowKit
set_option linter.unusedVariables false
set_option linter.unusedSimpArgs false
attribute [local irreducible] Rd hRow hBlk hRd hAll Fn

theorem clone (A : Option Addr) (c : Nat) (xs : List Nat) (w0 : World) (hr : Rd w0 A (bys xs)) (hl : xs.length ≤ 140737488355328) :
    Fn Try.prog 49 [.slice A xs.length c] w0 fun v w' => ∃ A' c', v = .slice A' xs.length c' ∧ St w0 w' [hRow 5 1 A' xs.length c' (bys xs)] := by
  refine enter 8 Try.func49 rfl rfl rfl ?_
  intro a hE
  have hS := St.start w0
  cases A with
  | none =>
    repeat' (first
      | (with_reducible refine wp_seq ?_)
      | (with_reducible refine c_region ?_)
      | (with_reducible refine wpList_nil ?_)
      | (with_reducible refine then_normal ?_)
      | (with_reducible refine wp_ret ?_)
      | (with_reducible refine then_ret ?_)
      | ((with_reducible refine g_move ?_); refine s_move hE rfl rfl ?_; clear hE a; intro a hE)
      | ((with_reducible refine g_assign ?_); refine s_assign hE rfl rfl ?_; clear hE a; intro a hE)
      | ((with_reducible refine g_bin .eql ?_); refine s_eqnil hE rfl rfl rfl ?_; clear hE a; intro a hE)
      | ((with_reducible refine g_cond ?_); refine c_true hE rfl ?_)
      )
    have hx : xs = [] := hr.none_nil
    subst hx
    exact ret1 hE rfl rfl ⟨none, 0, rfl, hS.rowNil _ _⟩
  | some ad =>
    repeat' (first
      | (with_reducible refine wp_seq ?_)
      | (with_reducible refine c_region ?_)
      | (with_reducible refine wpList_nil ?_)
      | (with_reducible refine then_normal ?_)
      | (with_reducible refine wp_skip ?_)
      | ((with_reducible refine g_move ?_); refine s_move hE rfl rfl ?_; clear hE a; intro a hE)
      | ((with_reducible refine g_assign ?_); refine s_assign hE rfl rfl ?_; clear hE a; intro a hE)
      | ((with_reducible refine g_bin .eql ?_); refine s_eqnil hE rfl rfl rfl ?_; clear hE a; intro a hE)
      | ((with_reducible refine g_cond ?_); refine c_false hE rfl ?_)
      )
    refine s_lit (parts := []) (cs := []) hE hS rfl rfl rfl rfl rfl (by simp) rfl ?_
    clear hE a hS; intro g a w hE hS
    repeat' (first
      | ((with_reducible refine g_move ?_); refine s_move hE rfl rfl ?_; clear hE a; intro a hE)
      )
    refine s_append hE hS rfl rfl (hr.st hS) (by rw [bys_length, Nat.mul_one]) (bys_one xs) (by omega) rfl rfl rfl rfl ?_
    clear hE a hS; intro A' c' a w hE hS
    repeat' (first
      | (with_reducible refine wpList_nil ?_)
      | (with_reducible refine then_normal ?_)
      | (with_reducible refine wp_ret ?_)
      | ((with_reducible refine g_assign ?_); refine s_assign hE rfl rfl ?_; clear hE a; intro a hE)
      )
    refine ret1 hE rfl rfl ⟨A', c', by rw [Nat.zero_add], ?_⟩
    rw [Nat.zero_add, List.nil_append] at hS
    exact hS

theorem equal (A B : Option Addr) (c d : Nat) (xs ys : List Nat) (w0 : World) (hr : Rd w0 A (bys xs)) (hr2 : Rd w0 B (bys ys)) (hl : xs.length ≤ 9223372036854775807) (hl2 : ys.length ≤ 9223372036854775807) :
    Fn Try.prog 47 [.slice A xs.length c, .slice B ys.length d] w0 fun v w' => v = .bool (decide (xs = ys)) ∧ St w0 w' [] := by
  refine enter 26 Try.func47 rfl rfl rfl ?_
  intro a hE
  have hS := St.start w0
  repeat' (first
    | (with_reducible refine wp_seq ?_)
    | (with_reducible refine c_region ?_)
    | (with_reducible refine wpList_nil ?_)
    | (with_reducible refine then_normal ?_)
    | (with_reducible refine wp_skip ?_)
    | (with_reducible refine wp_ret ?_)
    | (with_reducible refine then_ret ?_)
    | (with_reducible refine wp_block ?_)
    | ((with_reducible refine g_move ?_); refine s_move hE rfl rfl ?_; clear hE a; intro a hE)
    | ((with_reducible refine g_assign ?_); refine s_assign hE rfl rfl ?_; clear hE a; intro a hE)
    | ((with_reducible refine g_bin .neq ?_); refine s_neq hE rfl rfl rfl ?_; clear hE a; intro a hE)
    | ((with_reducible refine g_blt .len ?_); refine s_len hE rfl rfl ?_; clear hE a; intro a hE)
    | ((with_reducible refine g_cond ?_); refine c_dec hE rfl (fun hc => ?_) (fun hc => ?_) <;> try omega)
    )
  · have hne : ¬ xs = ys := fun e => hc (by rw [e])
    exact ret1 hE rfl rfl ⟨by simp [hne], hS⟩
  · have hlen : xs.length = ys.length := by omega
    refine wp_loop_ghost (fun q a w => ∃ (k : Nat), k + q = xs.length ∧ xs.take k = ys.take k ∧ St w0 w [] ∧ Env 26 [(0, .slice A xs.length c), (1, .slice B ys.length d), (11, .slice A xs.length c), (12, .int .i64 (xs.length : Int)), (13, .int .i64 (k : Int))] a) xs.length ⟨0, by omega, rfl, hS, hE.sub ⟨rfl, rfl, rfl, rfl, rfl, trivial⟩⟩ ?_
    clear hE a hS
    rintro q a w ⟨k, hk, ht, hS, hE⟩
    repeat' (first
      | (with_reducible refine wp_seq ?_)
      | (with_reducible refine c_region ?_)
      | (with_reducible refine wpList_nil ?_)
      | (with_reducible refine then_normal ?_)
      | (with_reducible refine wp_skip ?_)
      | (with_reducible refine wp_ret ?_)
      | (with_reducible refine wp_block ?_)
      | (with_reducible refine wp_exit ?_)
      | (with_reducible refine then_exit ?_)
      | (with_reducible refine block_same ?_)
      | ((with_reducible refine g_move ?_); refine s_move hE rfl rfl ?_; clear hE a; intro a hE)
      | ((with_reducible refine g_assign ?_); refine s_assign hE rfl rfl ?_; clear hE a; intro a hE)
      | ((with_reducible refine g_bin .lss ?_); refine s_lss hE rfl rfl rfl ?_; clear hE a; intro a hE)
      | ((with_reducible refine g_cond ?_); refine c_dec hE rfl (fun hc => ?_) (fun hc => ?_) <;> try omega)
      )
    · have hk1 : k < xs.length := by omega
      have hk2 : k < ys.length := by omega
      obtain ⟨ad, hA, hcx⟩ := (hr.st hS).cell (bys_getI hk1)
      obtain ⟨ad2, hB, hcy⟩ := (hr2.st hS).cell (bys_getI hk2)
      refine c_draw (V := [.slice A xs.length c, .int .i64 (k : Int), .pointer (some (ad.add (((k : Nat) : Int).toNat * 1))), .int .u8 ((xs[k] : Nat) : Int), .slice B ys.length d, .int .i64 (k : Int), .pointer (some (ad2.add (((k : Nat) : Int).toNat * 1))), .int .u8 ((ys[k] : Nat) : Int), .bool (decide (((xs[k] : Nat) : Int) ≠ ((ys[k] : Nat) : Int)))]) (J := fun w' => St w0 w' []) mixed hE hS.drew rfl rfl rfl ⟨?_, ?_, ?_, ?_, ?_, ?_, ?_, ?_, ?_, trivial⟩ ?_
      all_goals (clear hE a hcx hcy hS w; intro a w hE hS)
      · repeat' (first
          | (with_reducible refine wpList_nil ?_)
          | ((with_reducible refine g_move ?_); refine s_move hE rfl rfl ?_; clear hE a; intro a hE)
          )
        exact one_ok hE rfl hS
      · repeat' (first
          | (with_reducible refine wpList_nil ?_)
          | ((with_reducible refine g_move ?_); refine s_move hE rfl rfl ?_; clear hE a; intro a hE)
          )
        exact one_ok hE rfl hS
      · refine s_idx hE rfl rfl (by omega) (by omega) hA rfl ?_
        clear hE a; intro a hE
        repeat' (first
          | (with_reducible refine wpList_nil ?_)
          )
        exact one_ok hE rfl hS
      · obtain ⟨ad', hA', hcx⟩ := (hr.st hS).cell (bys_getI hk1)
        obtain rfl : ad = ad' := Option.some.inj (hA.symm.trans hA')
        refine s_load hE rfl (by rw [Nat.mul_one]; exact hcx) rfl ?_
        clear hE a; intro a hE
        repeat' (first
          | (with_reducible refine wpList_nil ?_)
          )
        exact one_ok hE rfl hS
      · repeat' (first
          | (with_reducible refine wpList_nil ?_)
          | ((with_reducible refine g_move ?_); refine s_move hE rfl rfl ?_; clear hE a; intro a hE)
          )
        exact one_ok hE rfl hS
      · repeat' (first
          | (with_reducible refine wpList_nil ?_)
          | ((with_reducible refine g_move ?_); refine s_move hE rfl rfl ?_; clear hE a; intro a hE)
          )
        exact one_ok hE rfl hS
      · refine s_idx hE rfl rfl (by omega) (by omega) hB rfl ?_
        clear hE a; intro a hE
        repeat' (first
          | (with_reducible refine wpList_nil ?_)
          )
        exact one_ok hE rfl hS
      · obtain ⟨ad', hB', hcy⟩ := (hr2.st hS).cell (bys_getI hk2)
        obtain rfl : ad2 = ad' := Option.some.inj (hB.symm.trans hB')
        refine s_load hE rfl (by rw [Nat.mul_one]; exact hcy) rfl ?_
        clear hE a; intro a hE
        repeat' (first
          | (with_reducible refine wpList_nil ?_)
          )
        exact one_ok hE rfl hS
      · repeat' (first
          | (with_reducible refine wpList_nil ?_)
          | ((with_reducible refine g_bin .neq ?_); refine s_neq hE rfl rfl rfl ?_; clear hE a; intro a hE)
          )
        exact one_ok hE rfl hS
      · repeat' (first
          | (with_reducible refine wp_seq ?_)
          | (with_reducible refine c_region ?_)
          | (with_reducible refine wpList_nil ?_)
          | (with_reducible refine then_normal ?_)
          | (with_reducible refine wp_skip ?_)
          | (with_reducible refine wp_ret ?_)
          | (with_reducible refine then_ret ?_)
          | (with_reducible refine block_normal ?_)
          | (with_reducible refine block_ret ?_)
          | ((with_reducible refine g_move ?_); refine s_move hE rfl rfl ?_; clear hE a; intro a hE)
          | ((with_reducible refine g_assign ?_); refine s_assign hE rfl rfl ?_; clear hE a; intro a hE)
          | ((with_reducible refine g_bin .add ?_); refine s_add hE rfl rfl rfl (by first | exact wrap64_in (by omega) ) ?_; clear hE a; intro a hE)
          | ((with_reducible refine g_cond ?_); refine c_dec hE rfl (fun hc => ?_) (fun hc => ?_) <;> try omega)
          )
        · have hne : ¬ xs = ys := fun e => by subst e; exact hc rfl
          exact ret1 hE rfl rfl ⟨by simp [hne], hS⟩
        · refine ⟨q - 1, by omega, k + 1, by omega, ?_, hS, hE.sub ⟨rfl, rfl, rfl, rfl, rfl, trivial⟩⟩
          rw [List.take_succ_eq_append_getElem hk1, List.take_succ_eq_append_getElem hk2, ht]
          have e : xs[k] = ys[k] := by
            by_cases e : xs[k] = ys[k]
            · exact e
            · exact absurd (fun h => e (by exact_mod_cast h)) hc
          rw [e]
    · obtain rfl : k = xs.length := by omega
      rw [List.take_length, hlen, List.take_length] at ht
      exact ret1 hE rfl rfl ⟨by simp [ht], hS⟩

theorem oequal (A B : Option Addr) (c d : Nat) (xs ys : List Nat) (w0 : World) (hr : Rd w0 A (bys xs)) (hr2 : Rd w0 B (bys ys)) (hl : xs.length ≤ 9223372036854775807) (hl2 : ys.length ≤ 9223372036854775807) :
    Fn Try.prog 29 [.slice A xs.length c, .slice B ys.length d] w0 fun v w' => v = .bool (decide (xs = ys)) ∧ St w0 w' [] := by
  refine enter 8 Try.func29 rfl rfl rfl ?_
  intro a hE
  repeat' (first
    | (with_reducible refine wp_seq ?_)
    | (with_reducible refine c_region ?_)
    | (with_reducible refine wpList_nil ?_)
    | (with_reducible refine then_normal ?_)
    | ((with_reducible refine g_move ?_); refine s_move hE rfl rfl ?_; clear hE a; intro a hE)
    | ((with_reducible refine g_assign ?_); refine s_assign hE rfl rfl ?_; clear hE a; intro a hE)
    )
  refine s_call hE rfl rfl rfl (equal A B c d xs ys w0 hr hr2 hl hl2) ?_
  rintro v w ⟨rfl, hS⟩; clear hE a; intro a hE
  repeat' (first
    | (with_reducible refine wpList_nil ?_)
    | (with_reducible refine then_normal ?_)
    | (with_reducible refine wp_ret ?_)
    | ((with_reducible refine g_assign ?_); refine s_assign hE rfl rfl ?_; clear hE a; intro a hE)
    )
  exact ret1 hE rfl rfl ⟨rfl, hS⟩

theorem rsame (A B : Option Addr) (c d : Nat) (xs ys : List Nat) (w0 : World) (hr : Rd w0 A (bys xs)) (hr2 : Rd w0 B (bys ys)) (hl : xs.length ≤ 9223372036854775806) (hl2 : ys.length ≤ 9223372036854775806) :
    Fn Try.prog 15 [.slice A xs.length c, .slice B ys.length d] w0 fun v w' => v = .bool (decide (xs = ys)) ∧ St w0 w' [] := by
  refine enter 26 Try.func15 rfl rfl rfl ?_
  intro a hE
  have hS := St.start w0
  repeat' (first
    | (with_reducible refine wp_seq ?_)
    | (with_reducible refine c_region ?_)
    | (with_reducible refine wpList_nil ?_)
    | (with_reducible refine then_normal ?_)
    | (with_reducible refine wp_skip ?_)
    | (with_reducible refine wp_ret ?_)
    | (with_reducible refine then_ret ?_)
    | (with_reducible refine wp_block ?_)
    | ((with_reducible refine g_move ?_); refine s_move hE rfl rfl ?_; clear hE a; intro a hE)
    | ((with_reducible refine g_assign ?_); refine s_assign hE rfl rfl ?_; clear hE a; intro a hE)
    | ((with_reducible refine g_bin .neq ?_); refine s_neq hE rfl rfl rfl ?_; clear hE a; intro a hE)
    | ((with_reducible refine g_blt .len ?_); refine s_len hE rfl rfl ?_; clear hE a; intro a hE)
    | ((with_reducible refine g_cond ?_); refine c_dec hE rfl (fun hc => ?_) (fun hc => ?_) <;> try omega)
    )
  · have hne : ¬ xs = ys := fun e => hc (by rw [e])
    exact ret1 hE rfl rfl ⟨by simp [hne], hS⟩
  · have hlen : xs.length = ys.length := by omega
    refine wp_loop_ghost (fun q a w => ∃ (k : Nat), k + q = xs.length ∧ xs.take k = ys.take k ∧ St w0 w [] ∧ Env 26 [(0, .slice A xs.length c), (1, .slice B ys.length d), (5, .int .i64 (k : Int))] a) xs.length ⟨0, by omega, rfl, hS, hE.sub ⟨rfl, rfl, rfl, trivial⟩⟩ ?_
    clear hE a hS
    rintro q a w ⟨k, hk, ht, hS, hE⟩
    repeat' (first
      | (with_reducible refine wp_seq ?_)
      | (with_reducible refine c_region ?_)
      | (with_reducible refine wpList_nil ?_)
      | (with_reducible refine then_normal ?_)
      | (with_reducible refine wp_skip ?_)
      | (with_reducible refine wp_ret ?_)
      | (with_reducible refine wp_block ?_)
      | (with_reducible refine wp_exit ?_)
      | (with_reducible refine then_exit ?_)
      | (with_reducible refine block_same ?_)
      | ((with_reducible refine g_move ?_); refine s_move hE rfl rfl ?_; clear hE a; intro a hE)
      | ((with_reducible refine g_assign ?_); refine s_assign hE rfl rfl ?_; clear hE a; intro a hE)
      | ((with_reducible refine g_bin .lss ?_); refine s_lss hE rfl rfl rfl ?_; clear hE a; intro a hE)
      | ((with_reducible refine g_blt .len ?_); refine s_len hE rfl rfl ?_; clear hE a; intro a hE)
      | ((with_reducible refine g_cond ?_); refine c_dec hE rfl (fun hc => ?_) (fun hc => ?_) <;> try omega)
      )
    · have hk1 : k < xs.length := by omega
      have hk2 : k < ys.length := by omega
      obtain ⟨ad, hA, hcx⟩ := (hr.st hS).cell (bys_getI hk1)
      obtain ⟨ad2, hB, hcy⟩ := (hr2.st hS).cell (bys_getI hk2)
      refine c_draw (V := [.slice A xs.length c, .int .i64 (k : Int), .pointer (some (ad.add (((k : Nat) : Int).toNat * 1))), .int .u8 ((xs[k] : Nat) : Int), .slice B ys.length d, .int .i64 (k : Int), .pointer (some (ad2.add (((k : Nat) : Int).toNat * 1))), .int .u8 ((ys[k] : Nat) : Int), .bool (decide (((xs[k] : Nat) : Int) ≠ ((ys[k] : Nat) : Int)))]) (J := fun w' => St w0 w' []) mixed hE hS.drew rfl rfl rfl ⟨?_, ?_, ?_, ?_, ?_, ?_, ?_, ?_, ?_, trivial⟩ ?_
      all_goals (clear hE a hcx hcy hS w; intro a w hE hS)
      · repeat' (first
          | (with_reducible refine wpList_nil ?_)
          | ((with_reducible refine g_move ?_); refine s_move hE rfl rfl ?_; clear hE a; intro a hE)
          )
        exact one_ok hE rfl hS
      · repeat' (first
          | (with_reducible refine wpList_nil ?_)
          | ((with_reducible refine g_move ?_); refine s_move hE rfl rfl ?_; clear hE a; intro a hE)
          )
        exact one_ok hE rfl hS
      · refine s_idx hE rfl rfl (by omega) (by omega) hA rfl ?_
        clear hE a; intro a hE
        repeat' (first
          | (with_reducible refine wpList_nil ?_)
          )
        exact one_ok hE rfl hS
      · obtain ⟨ad', hA', hcx⟩ := (hr.st hS).cell (bys_getI hk1)
        obtain rfl : ad = ad' := Option.some.inj (hA.symm.trans hA')
        refine s_load hE rfl (by rw [Nat.mul_one]; exact hcx) rfl ?_
        clear hE a; intro a hE
        repeat' (first
          | (with_reducible refine wpList_nil ?_)
          )
        exact one_ok hE rfl hS
      · repeat' (first
          | (with_reducible refine wpList_nil ?_)
          | ((with_reducible refine g_move ?_); refine s_move hE rfl rfl ?_; clear hE a; intro a hE)
          )
        exact one_ok hE rfl hS
      · repeat' (first
          | (with_reducible refine wpList_nil ?_)
          | ((with_reducible refine g_move ?_); refine s_move hE rfl rfl ?_; clear hE a; intro a hE)
          )
        exact one_ok hE rfl hS
      · refine s_idx hE rfl rfl (by omega) (by omega) hB rfl ?_
        clear hE a; intro a hE
        repeat' (first
          | (with_reducible refine wpList_nil ?_)
          )
        exact one_ok hE rfl hS
      · obtain ⟨ad', hB', hcy⟩ := (hr2.st hS).cell (bys_getI hk2)
        obtain rfl : ad2 = ad' := Option.some.inj (hB.symm.trans hB')
        refine s_load hE rfl (by rw [Nat.mul_one]; exact hcy) rfl ?_
        clear hE a; intro a hE
        repeat' (first
          | (with_reducible refine wpList_nil ?_)
          )
        exact one_ok hE rfl hS
      · repeat' (first
          | (with_reducible refine wpList_nil ?_)
          | ((with_reducible refine g_bin .neq ?_); refine s_neq hE rfl rfl rfl ?_; clear hE a; intro a hE)
          )
        exact one_ok hE rfl hS
      · repeat' (first
          | (with_reducible refine wp_seq ?_)
          | (with_reducible refine c_region ?_)
          | (with_reducible refine wpList_nil ?_)
          | (with_reducible refine then_normal ?_)
          | (with_reducible refine wp_skip ?_)
          | (with_reducible refine wp_ret ?_)
          | (with_reducible refine then_ret ?_)
          | (with_reducible refine block_normal ?_)
          | (with_reducible refine block_ret ?_)
          | ((with_reducible refine g_move ?_); refine s_move hE rfl rfl ?_; clear hE a; intro a hE)
          | ((with_reducible refine g_assign ?_); refine s_assign hE rfl rfl ?_; clear hE a; intro a hE)
          | ((with_reducible refine g_bin .add ?_); refine s_add hE rfl rfl rfl (by first | exact wrap64_in (by omega) ) ?_; clear hE a; intro a hE)
          | ((with_reducible refine g_cond ?_); refine c_dec hE rfl (fun hc => ?_) (fun hc => ?_) <;> try omega)
          )
        · have hne : ¬ xs = ys := fun e => by subst e; exact hc rfl
          exact ret1 hE rfl rfl ⟨by simp [hne], hS⟩
        · refine ⟨q - 1, by omega, k + 1, by omega, ?_, hS, hE.sub ⟨rfl, rfl, rfl, trivial⟩⟩
          rw [List.take_succ_eq_append_getElem hk1, List.take_succ_eq_append_getElem hk2, ht]
          have e : xs[k] = ys[k] := by
            by_cases e : xs[k] = ys[k]
            · exact e
            · exact absurd (fun h => e (by exact_mod_cast h)) hc
          rw [e]
    · obtain rfl : k = xs.length := by omega
      rw [List.take_length, hlen, List.take_length] at ht
      exact ret1 hE rfl rfl ⟨by simp [ht], hS⟩

theorem rboth (A B : Option Addr) (c d : Nat) (xs ys : List Nat) (w0 : World) (hr : Rd w0 A (bys xs)) (hr2 : Rd w0 B (bys ys)) (hl : xs.length + ys.length ≤ 140737488355328) :
    Fn Try.prog 33 [.slice A xs.length c, .slice B ys.length d] w0 fun v w' => ∃ A' c', v = .slice A' (xs.length + ys.length) c' ∧ St w0 w' [hRow 5 1 A' (xs.length + ys.length) c' (bys (xs ++ ys))] := by
  refine enter 41 Try.func33 rfl rfl rfl ?_
  intro a hE
  have hS := St.start w0
  repeat' (first
    | (with_reducible refine wp_seq ?_)
    | (with_reducible refine c_region ?_)
    | (with_reducible refine wpList_nil ?_)
    | (with_reducible refine then_normal ?_)
    | ((with_reducible refine g_move ?_); refine s_move hE rfl rfl ?_; clear hE a; intro a hE)
    | ((with_reducible refine g_assign ?_); refine s_assign hE rfl rfl ?_; clear hE a; intro a hE)
    | ((with_reducible refine g_bin .add ?_); refine s_add hE rfl rfl rfl (by first | exact wrap64_in (by omega) ) ?_; clear hE a; intro a hE)
    | ((with_reducible refine g_blt .len ?_); refine s_len hE rfl rfl ?_; clear hE a; intro a hE)
    )
  refine s_make hE hS rfl rfl (by omega) (by omega) (by omega) (by omega) rfl ?_
  clear hE a hS; intro g a w hE hS
  rw [show ((0 : Int)).toNat = 0 from rfl, Nat.zero_mul, List.take_zero] at hS
  repeat' (first
    | (with_reducible refine wp_seq ?_)
    | (with_reducible refine c_region ?_)
    | (with_reducible refine wpList_nil ?_)
    | (with_reducible refine then_normal ?_)
    | (with_reducible refine wp_block ?_)
    | ((with_reducible refine g_assign ?_); refine s_assign hE rfl rfl ?_; clear hE a; intro a hE)
    )
  refine wp_loop_ghost (fun q a w => ∃ (k : Nat) (A1 : Option Addr) (c1 : Nat), k + q = xs.length ∧ St w0 w [hRow 5 1 A1 k c1 (bys (xs.take k))] ∧ Env 41 [(0, .slice A xs.length c), (1, .slice B ys.length d), (5, .slice A1 k c1), (6, .int .i64 (k : Int))] a) xs.length ⟨0, _, _, by omega, by simpa [bys] using hS, hE.sub ⟨rfl, rfl, rfl, rfl, trivial⟩⟩ ?_
  clear hE a hS w g
  rintro q a w ⟨k, A1, c1, hk, hS, hE⟩
  repeat' (first
    | (with_reducible refine wp_seq ?_)
    | (with_reducible refine c_region ?_)
    | (with_reducible refine wpList_nil ?_)
    | (with_reducible refine then_normal ?_)
    | (with_reducible refine wp_skip ?_)
    | (with_reducible refine wp_block ?_)
    | (with_reducible refine wp_exit ?_)
    | (with_reducible refine then_exit ?_)
    | (with_reducible refine block_same ?_)
    | ((with_reducible refine g_move ?_); refine s_move hE rfl rfl ?_; clear hE a; intro a hE)
    | ((with_reducible refine g_assign ?_); refine s_assign hE rfl rfl ?_; clear hE a; intro a hE)
    | ((with_reducible refine g_bin .lss ?_); refine s_lss hE rfl rfl rfl ?_; clear hE a; intro a hE)
    | ((with_reducible refine g_blt .len ?_); refine s_len hE rfl rfl ?_; clear hE a; intro a hE)
    | ((with_reducible refine g_cond ?_); refine c_dec hE rfl (fun hc => ?_) (fun hc => ?_) <;> try omega)
    )
  · have hk' : k < xs.length := by omega
    refine s_get hE rfl rfl (by omega) (by omega) (hr.st hS) (bys_getI hk') rfl rfl ?_
    clear hE a; intro a _ hE
    skip
    refine s_append1 (s := .tmp 20) hE hS rfl rfl (by intro t h; cases h; rfl) rfl (by omega) rfl rfl rfl rfl ?_
    clear hE a hS; intro A3 c3 u a w hE hS
    repeat' (first
      | (with_reducible refine c_region ?_)
      | (with_reducible refine wpList_nil ?_)
      | (with_reducible refine then_normal ?_)
      | (with_reducible refine block_normal ?_)
      | ((with_reducible refine g_move ?_); refine s_move hE rfl rfl ?_; clear hE a; intro a hE)
      | ((with_reducible refine g_assign ?_); refine s_assign hE rfl rfl ?_; clear hE a; intro a hE)
      | ((with_reducible refine g_bin .add ?_); refine s_add hE rfl rfl rfl (by first | exact wrap64_in (by omega) ) ?_; clear hE a; intro a hE)
      )
    refine ⟨q - 1, by omega, k + 1, A3, c3, by omega, ?_, hE.sub ⟨rfl, rfl, rfl, rfl, trivial⟩⟩
    rw [List.take_succ_eq_append_getElem hk', bys_append]
    exact hS
  · obtain rfl : k = xs.length := by omega
    rw [List.take_length] at hS
    refine wp_loop_ghost (fun q a w => ∃ (k : Nat) (A1 : Option Addr) (c1 : Nat), k + q = ys.length ∧ St w0 w [hRow 5 1 A1 (xs.length + k) c1 (bys (xs ++ ys.take k))] ∧ Env 41 [(0, .slice A xs.length c), (1, .slice B ys.length d), (5, .slice A1 (xs.length + k) c1), (7, .int .i64 (k : Int))] a) ys.length ⟨0, _, _, by omega, by simpa [bys] using hS, hE.sub ⟨rfl, rfl, rfl, rfl, trivial⟩⟩ ?_
    clear hE a hS w hk q A1 c1
    rintro q a w ⟨k, A1, c1, hk, hS, hE⟩
    repeat' (first
      | (with_reducible refine wp_seq ?_)
      | (with_reducible refine c_region ?_)
      | (with_reducible refine wpList_nil ?_)
      | (with_reducible refine then_normal ?_)
      | (with_reducible refine wp_skip ?_)
      | (with_reducible refine wp_ret ?_)
      | (with_reducible refine wp_block ?_)
      | (with_reducible refine wp_exit ?_)
      | (with_reducible refine then_exit ?_)
      | (with_reducible refine block_same ?_)
      | ((with_reducible refine g_move ?_); refine s_move hE rfl rfl ?_; clear hE a; intro a hE)
      | ((with_reducible refine g_assign ?_); refine s_assign hE rfl rfl ?_; clear hE a; intro a hE)
      | ((with_reducible refine g_bin .lss ?_); refine s_lss hE rfl rfl rfl ?_; clear hE a; intro a hE)
      | ((with_reducible refine g_blt .len ?_); refine s_len hE rfl rfl ?_; clear hE a; intro a hE)
      | ((with_reducible refine g_cond ?_); refine c_dec hE rfl (fun hc => ?_) (fun hc => ?_) <;> try omega)
      )
    · have hk' : k < ys.length := by omega
      refine s_get hE rfl rfl (by omega) (by omega) (hr2.st hS) (bys_getI hk') rfl rfl ?_
      clear hE a; intro a _ hE
      skip
      refine s_append1 (s := .tmp 33) hE hS rfl rfl (by intro t h; cases h; rfl) rfl (by omega) rfl rfl rfl rfl ?_
      clear hE a hS; intro A3 c3 u a w hE hS
      repeat' (first
        | (with_reducible refine c_region ?_)
        | (with_reducible refine wpList_nil ?_)
        | (with_reducible refine then_normal ?_)
        | (with_reducible refine block_normal ?_)
        | ((with_reducible refine g_move ?_); refine s_move hE rfl rfl ?_; clear hE a; intro a hE)
        | ((with_reducible refine g_assign ?_); refine s_assign hE rfl rfl ?_; clear hE a; intro a hE)
        | ((with_reducible refine g_bin .add ?_); refine s_add hE rfl rfl rfl (by first | exact wrap64_in (by omega) ) ?_; clear hE a; intro a hE)
        )
      refine ⟨q - 1, by omega, k + 1, A3, c3, by omega, ?_, hE.sub ⟨rfl, rfl, rfl, rfl, trivial⟩⟩
      rw [List.take_succ_eq_append_getElem hk', ← List.append_assoc, bys_append]
      exact hS
    · obtain rfl : k = ys.length := by omega
      rw [List.take_length] at hS
      exact ret1 hE rfl rfl ⟨A1, c1, rfl, hS⟩

theorem rboth0 (A : Option Addr) (c : Nat) (xs : List Nat) (w0 : World) (hr : Rd w0 A (bys xs)) (hl : xs.length ≤ 140737488355328) :
    Fn Try.prog 33 [.slice A xs.length c, .slice none 0 0] w0 fun v w' => ∃ A' c', v = .slice A' xs.length c' ∧ St w0 w' [hRow 5 1 A' xs.length c' (bys xs)] := by
  have h := rboth A none c 0 xs [] w0 hr Rd.nil (by simpa using hl)
  simp only [List.length_nil, Nat.add_zero, List.append_nil] at h
  exact h
/-- joined, told as one row -/
theorem rboth1 (A B : Option Addr) (c d : Nat) (xs ys : List Nat) (w0 : World) (hr : Rd w0 A (bys xs)) (hr2 : Rd w0 B (bys ys)) (hl : xs.length + ys.length ≤ 140737488355328) :
    Fn Try.prog 33 [.slice A xs.length c, .slice B ys.length d] w0 fun v w' => ∃ A' c', v = .slice A' (xs ++ ys).length c' ∧ St w0 w' [hRow 5 1 A' (xs ++ ys).length c' (bys (xs ++ ys))] := by
  have h := rboth A B c d xs ys w0 hr hr2 hl
  rw [← List.length_append] at h
  exact h
theorem rsame0 (A B : Option Addr) (c d : Nat) (w0 : World) :
    Fn Try.prog 15 [.slice A 0 c, .slice B 0 d] w0 fun v w' => v = .bool true ∧ St w0 w' [] := by
  have h := rsame A B c d [] [] w0 Rd.nil Rd.nil (by decide) (by decide)
  exact h
end Go.Proofs.Ytmfcffeoooegcaa
