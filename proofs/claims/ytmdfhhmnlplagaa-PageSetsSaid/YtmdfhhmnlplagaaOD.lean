/-
  Contracts of octet: numbers put; noughts; the reference's numbers.
-/
import Derived.Test.YtmdfhhmnlplagaaOC
namespace Go.Proofs.Ytmdfhhmnlplagaa
open Go.RowKit
set_option linter.unusedVariables false
set_option linter.unusedSimpArgs false
attribute [local irreducible] Rd hRow hBlk hRd hAll Fn

theorem put (A : Option Addr) (c : Nat) (xs : List Nat) (x n : Nat) (hx : x < 18446744073709551616) (hn : n ≤ 8) (w0 : World) (hr : Rd w0 A (bys xs)) (hl : xs.length ≤ 140737488355000) :
    Fn Try.prog 55 [.slice A xs.length c, .int .u64 (x : Int), .int .i64 (n : Int)] w0 fun v w' => ∃ A' c', v = .slice A' (xs ++ beb n x).length c' ∧ St w0 w' [hRow 5 1 A' (xs ++ beb n x).length c' (bys (xs ++ beb n x))] := by
  refine enter 25 Try.func55 rfl rfl rfl ?_
  intro a hE
  have hS := St.start w0
  repeat' (first
    | (with_reducible refine wp_seq ?_)
    | (with_reducible refine c_region ?_)
    | (with_reducible refine wpList_nil ?_)
    | (with_reducible refine then_normal ?_)
    | ((with_reducible refine g_move ?_); refine s_move hE rfl rfl ?_; clear hE a; intro a hE)
    | ((with_reducible refine g_assign ?_); refine s_assign hE rfl rfl ?_; clear hE a; intro a hE)
    )
  refine s_call hE rfl rfl rfl (clone A c xs w0 hr (by omega)) ?_
  rintro _ w ⟨A1, c1, rfl, hS⟩; clear hE a; intro a hE
  repeat' (first
    | (with_reducible refine wp_seq ?_)
    | (with_reducible refine c_region ?_)
    | (with_reducible refine wpList_nil ?_)
    | (with_reducible refine then_normal ?_)
    | (with_reducible refine wp_block ?_)
    | ((with_reducible refine g_move ?_); refine s_move hE rfl rfl ?_; clear hE a; intro a hE)
    | ((with_reducible refine g_assign ?_); refine s_assign hE rfl rfl ?_; clear hE a; intro a hE)
    | ((with_reducible refine g_bin .sub ?_); refine s_sub hE rfl rfl rfl (by first | exact wrap64_in (by omega) ) ?_; clear hE a; intro a hE)
    )
  refine wp_loop_ghost (fun q a w => ∃ (ys : List Nat) (A1 : Option Addr) (c1 : Nat), ys ++ beb q x = xs ++ beb n x ∧ q ≤ n ∧ St w0 w [hRow 5 1 A1 ys.length c1 (bys ys)] ∧ Env 25 [(0, .slice A1 ys.length c1), (1, .int .u64 (x : Int)), (7, .int .i64 ((q : Int) - 1))] a) n ⟨xs, A1, c1, rfl, Nat.le_refl _, hS, hE.sub ⟨rfl, rfl, rfl, trivial⟩⟩ ?_
  clear hE a hS
  rintro q a w ⟨ys, A2, c2, hy, hq, hS, hE⟩
  have hly := congrArg List.length hy
  simp only [List.length_append, beb_length] at hly
  by_cases hq0 : q = 0
  · subst hq0
    simp only [beb, List.append_nil] at hy
    subst hy
    repeat' (first
      | (with_reducible refine wp_seq ?_)
      | (with_reducible refine c_region ?_)
      | (with_reducible refine wpList_nil ?_)
      | (with_reducible refine then_normal ?_)
      | (with_reducible refine wp_ret ?_)
      | (with_reducible refine wp_exit ?_)
      | (with_reducible refine then_exit ?_)
      | (with_reducible refine block_same ?_)
      | ((with_reducible refine g_move ?_); refine s_move hE rfl rfl ?_; clear hE a; intro a hE)
      | ((with_reducible refine g_assign ?_); refine s_assign hE rfl rfl ?_; clear hE a; intro a hE)
      | ((with_reducible refine g_bin .geq ?_); refine s_geq hE rfl rfl rfl ?_; clear hE a; intro a hE)
      | ((with_reducible refine g_cond ?_); refine c_false hE rfl ?_)
      )
    exact ret1 hE rfl rfl ⟨A2, c2, rfl, hS⟩
  · obtain ⟨m, rfl⟩ : ∃ m, q = m + 1 := ⟨q - 1, by omega⟩
    replace hE := hE.as (d := 7) rfl (u := .int .i64 (m : Int)) (by simp)
    repeat' (first
      | (with_reducible refine wp_seq ?_)
      | (with_reducible refine c_region ?_)
      | (with_reducible refine wpList_nil ?_)
      | (with_reducible refine then_normal ?_)
      | (with_reducible refine wp_skip ?_)
      | (with_reducible refine wp_block ?_)
      | ((with_reducible refine g_move ?_); refine s_move hE rfl rfl ?_; clear hE a; intro a hE)
      | ((with_reducible refine g_bin .geq ?_); refine s_geq hE rfl rfl rfl ?_; clear hE a; intro a hE)
      | ((with_reducible refine g_bin .mul ?_); refine s_mul hE rfl rfl rfl (by first | exact mulN (a := 8) (by omega) ) ?_; clear hE a; intro a hE)
      | ((with_reducible refine g_bin .shr ?_); refine s_shr hE rfl rfl (by omega) rfl (by first | exact shr_nat x (8 * m) 64 (by omega) ) ?_; clear hE a; intro a hE)
      | ((with_reducible refine g_conv ?_); refine s_conv hE rfl rfl (by first | exact wrap_u8_nat (x / 2 ^ (8 * m))) ?_; clear hE a; intro a hE)
      | ((with_reducible refine g_cond ?_); refine c_true hE rfl ?_)
      )
    have e : ys.length + 1 = (ys ++ [x / 2 ^ (8 * m) % 256]).length := by simp
    refine s_append1 (s := .tmp 16) hE hS rfl rfl (by intro t h; cases h; rfl) rfl (by omega) rfl rfl rfl rfl ?_
    clear hE a hS; intro A3 c3 u a w hE hS
    rw [e] at hE hS
    repeat' (first
      | (with_reducible refine c_region ?_)
      | (with_reducible refine wpList_nil ?_)
      | (with_reducible refine then_normal ?_)
      | (with_reducible refine block_normal ?_)
      | ((with_reducible refine g_move ?_); refine s_move hE rfl rfl ?_; clear hE a; intro a hE)
      | ((with_reducible refine g_assign ?_); refine s_assign hE rfl rfl ?_; clear hE a; intro a hE)
      | ((with_reducible refine g_bin .sub ?_); refine s_sub hE rfl rfl rfl (by first | exact wrap64_in (by omega) ) ?_; clear hE a; intro a hE)
      )
    refine ⟨m, by omega, ys ++ [x / 2 ^ (8 * m) % 256], A3, c3, ?_, by omega, by rw [bys_append]; exact hS, hE.sub ⟨rfl, rfl, rfl, trivial⟩⟩
    rw [List.append_assoc]
    simp only [beb] at hy
    exact hy

theorem put16 (A : Option Addr) (c : Nat) (xs : List Nat) (x : Nat) (hx : x < 65536) (w0 : World) (hr : Rd w0 A (bys xs)) (hl : xs.length ≤ 140737488355000) :
    Fn Try.prog 52 [.slice A xs.length c, .int .u16 (x : Int)] w0 fun v w' => ∃ A' c', v = .slice A' (xs ++ beb 2 x).length c' ∧ St w0 w' [hRow 5 1 A' (xs ++ beb 2 x).length c' (bys (xs ++ beb 2 x))] := by
  refine enter 9 Try.func52 rfl rfl rfl ?_
  intro a hE
  have hS := St.start w0
  repeat' (first
    | (with_reducible refine wp_seq ?_)
    | (with_reducible refine c_region ?_)
    | (with_reducible refine wpList_nil ?_)
    | (with_reducible refine then_normal ?_)
    | ((with_reducible refine g_move ?_); refine s_move hE rfl rfl ?_; clear hE a; intro a hE)
    | ((with_reducible refine g_assign ?_); refine s_assign hE rfl rfl ?_; clear hE a; intro a hE)
    | ((with_reducible refine g_conv ?_); refine s_conv hE rfl rfl (by first | exact wrap_u64_in (by omega) ) ?_; clear hE a; intro a hE)
    )
  refine s_call hE rfl rfl rfl (put A c xs x 2 (by omega) (by omega) w0 hr hl) ?_
  rintro _ w ⟨A1, c1, rfl, hS⟩; clear hE a; intro a hE
  repeat' (first
    | (with_reducible refine wpList_nil ?_)
    | (with_reducible refine then_normal ?_)
    | (with_reducible refine wp_ret ?_)
    | ((with_reducible refine g_assign ?_); refine s_assign hE rfl rfl ?_; clear hE a; intro a hE)
    )
  exact ret1 hE rfl rfl ⟨A1, c1, rfl, hS⟩

theorem put32 (A : Option Addr) (c : Nat) (xs : List Nat) (x : Nat) (hx : x < 4294967296) (w0 : World) (hr : Rd w0 A (bys xs)) (hl : xs.length ≤ 140737488355000) :
    Fn Try.prog 53 [.slice A xs.length c, .int .u32 (x : Int)] w0 fun v w' => ∃ A' c', v = .slice A' (xs ++ beb 4 x).length c' ∧ St w0 w' [hRow 5 1 A' (xs ++ beb 4 x).length c' (bys (xs ++ beb 4 x))] := by
  refine enter 9 Try.func53 rfl rfl rfl ?_
  intro a hE
  have hS := St.start w0
  repeat' (first
    | (with_reducible refine wp_seq ?_)
    | (with_reducible refine c_region ?_)
    | (with_reducible refine wpList_nil ?_)
    | (with_reducible refine then_normal ?_)
    | ((with_reducible refine g_move ?_); refine s_move hE rfl rfl ?_; clear hE a; intro a hE)
    | ((with_reducible refine g_assign ?_); refine s_assign hE rfl rfl ?_; clear hE a; intro a hE)
    | ((with_reducible refine g_conv ?_); refine s_conv hE rfl rfl (by first | exact wrap_u64_in (by omega) ) ?_; clear hE a; intro a hE)
    )
  refine s_call hE rfl rfl rfl (put A c xs x 4 (by omega) (by omega) w0 hr hl) ?_
  rintro _ w ⟨A1, c1, rfl, hS⟩; clear hE a; intro a hE
  repeat' (first
    | (with_reducible refine wpList_nil ?_)
    | (with_reducible refine then_normal ?_)
    | (with_reducible refine wp_ret ?_)
    | ((with_reducible refine g_assign ?_); refine s_assign hE rfl rfl ?_; clear hE a; intro a hE)
    )
  exact ret1 hE rfl rfl ⟨A1, c1, rfl, hS⟩

theorem put64 (A : Option Addr) (c : Nat) (xs : List Nat) (x : Nat) (hx : x < 18446744073709551616) (w0 : World) (hr : Rd w0 A (bys xs)) (hl : xs.length ≤ 140737488355000) :
    Fn Try.prog 51 [.slice A xs.length c, .int .u64 (x : Int)] w0 fun v w' => ∃ A' c', v = .slice A' (xs ++ beb 8 x).length c' ∧ St w0 w' [hRow 5 1 A' (xs ++ beb 8 x).length c' (bys (xs ++ beb 8 x))] := by
  refine enter 8 Try.func51 rfl rfl rfl ?_
  intro a hE
  have hS := St.start w0
  repeat' (first
    | (with_reducible refine wp_seq ?_)
    | (with_reducible refine c_region ?_)
    | (with_reducible refine wpList_nil ?_)
    | (with_reducible refine then_normal ?_)
    | ((with_reducible refine g_move ?_); refine s_move hE rfl rfl ?_; clear hE a; intro a hE)
    | ((with_reducible refine g_assign ?_); refine s_assign hE rfl rfl ?_; clear hE a; intro a hE)
    )
  refine s_call hE rfl rfl rfl (put A c xs x 8 (by omega) (by omega) w0 hr hl) ?_
  rintro _ w ⟨A1, c1, rfl, hS⟩; clear hE a; intro a hE
  repeat' (first
    | (with_reducible refine wpList_nil ?_)
    | (with_reducible refine then_normal ?_)
    | (with_reducible refine wp_ret ?_)
    | ((with_reducible refine g_assign ?_); refine s_assign hE rfl rfl ?_; clear hE a; intro a hE)
    )
  exact ret1 hE rfl rfl ⟨A1, c1, rfl, hS⟩

theorem or_zero {a b : Nat} : a ||| b = 0 ↔ a = 0 ∧ b = 0 := by
  constructor
  · intro h
    have h1 : a ≤ a ||| b := Nat.left_le_or
    have h2 : b ≤ a ||| b := Nat.right_le_or
    omega
  · rintro ⟨rfl, rfl⟩; rfl
def orAll : List Nat → Nat
  | [] => 0
  | c :: l => c ||| orAll l
def zeroB (xs : List Nat) : Bool := xs.all (· == 0)
theorem zeroB_take_succ {xs : List Nat} {k : Nat} (h : k < xs.length) : zeroB (xs.take (k + 1)) = (zeroB (xs.take k) && xs[k] == 0) := by
  rw [List.take_succ_eq_append_getElem h]
  simp only [zeroB, List.all_append, List.all_cons, List.all_nil, Bool.and_true]
theorem zero (A : Option Addr) (c : Nat) (xs : List Nat) (w0 : World) (hr : Rd w0 A (bys xs)) (hx : Bs xs) (hl : xs.length ≤ 140737488355328) :
    Fn Try.prog 31 [.slice A xs.length c] w0 fun v w' => v = .bool (zeroB xs) ∧ St w0 w' [] := by
  refine enter 18 Try.func31 rfl rfl rfl ?_
  intro a hE
  have hS := St.start w0
  repeat' (first
    | (with_reducible refine wp_seq ?_)
    | (with_reducible refine c_region ?_)
    | (with_reducible refine wpList_nil ?_)
    | (with_reducible refine then_normal ?_)
    | (with_reducible refine wp_block ?_)
    | ((with_reducible refine g_move ?_); refine s_move hE rfl rfl ?_; clear hE a; intro a hE)
    | ((with_reducible refine g_assign ?_); refine s_assign hE rfl rfl ?_; clear hE a; intro a hE)
    | ((with_reducible refine g_blt .len ?_); refine s_len hE rfl rfl ?_; clear hE a; intro a hE)
    )
  refine wp_loop_ghost (fun q a w => ∃ (k s : Nat), k + q = xs.length ∧ s < 256 ∧ ((s = 0) ↔ zeroB (xs.take k) = true) ∧ St w0 w [] ∧ Env 18 [(3, .int .u8 (s : Int)), (6, .slice A xs.length c), (7, .int .i64 (xs.length : Int)), (8, .int .i64 (k : Int))] a) xs.length ⟨0, 0, by omega, by omega, by simp [zeroB], hS, hE.sub ⟨rfl, rfl, rfl, rfl, trivial⟩⟩ ?_
  clear hE a hS
  rintro q a w ⟨k, s, hk, hs, hsz, hS, hE⟩
  by_cases hk1 : k < xs.length
  · have hb := hx.get hk1
    repeat' (first
      | (with_reducible refine wp_seq ?_)
      | (with_reducible refine c_region ?_)
      | (with_reducible refine wpList_nil ?_)
      | (with_reducible refine then_normal ?_)
      | (with_reducible refine wp_skip ?_)
      | (with_reducible refine wp_block ?_)
      | (with_reducible refine block_normal ?_)
      | ((with_reducible refine g_move ?_); refine s_move hE rfl rfl ?_; clear hE a; intro a hE)
      | ((with_reducible refine g_assign ?_); refine s_assign hE rfl rfl ?_; clear hE a; intro a hE)
      | ((with_reducible refine g_bin .lss ?_); refine s_lss hE rfl rfl rfl ?_; clear hE a; intro a hE)
      | ((with_reducible refine g_bin .add ?_); refine s_add hE rfl rfl rfl (by first | exact wrap64_in (by omega) ) ?_; clear hE a; intro a hE)
      | ((with_reducible refine g_bin .or ?_); refine s_or hE rfl rfl rfl (by first | exact or_u8 hs hb) ?_; clear hE a; intro a hE)
      | ((with_reducible refine g_cond ?_); refine c_dec hE rfl (fun hc => ?_) (fun hc => ?_) <;> try omega)
      | ((with_reducible refine g_ia ?_); refine s_idxR hE rfl rfl (by omega) (by omega) (by (first | exact Rd.st (by assumption) hS )) (by first | (simp only [bys_length]; omega)) rfl ?_; clear hE a; intro a hE)
      | ((with_reducible refine g_load ?_); refine s_loadR hE rfl (by (first | exact Rd.st (by assumption) hS )) (by first | exact bys_getM hk1 ) rfl ?_; clear hE a; intro a hE)
      )
    refine ⟨q - 1, by omega, k + 1, s ||| xs[k], by omega, Nat.or_lt_two_pow (n := 8) hs hb, ?_, hS, hE.sub ⟨rfl, rfl, rfl, rfl, trivial⟩⟩
    rw [or_zero, hsz, zeroB_take_succ hk1]
    simp
  · obtain rfl : k = xs.length := by omega
    rw [List.take_length] at hsz
    repeat' (first
      | (with_reducible refine wp_seq ?_)
      | (with_reducible refine c_region ?_)
      | (with_reducible refine wpList_nil ?_)
      | (with_reducible refine then_normal ?_)
      | (with_reducible refine wp_ret ?_)
      | (with_reducible refine wp_exit ?_)
      | (with_reducible refine then_exit ?_)
      | (with_reducible refine block_same ?_)
      | ((with_reducible refine g_move ?_); refine s_move hE rfl rfl ?_; clear hE a; intro a hE)
      | ((with_reducible refine g_assign ?_); refine s_assign hE rfl rfl ?_; clear hE a; intro a hE)
      | ((with_reducible refine g_bin .lss ?_); refine s_lss hE rfl rfl rfl ?_; clear hE a; intro a hE)
      | ((with_reducible refine g_bin .eql ?_); refine s_eql hE rfl rfl rfl ?_; clear hE a; intro a hE)
      | ((with_reducible refine g_cond ?_); refine c_dec hE rfl (fun hc => ?_) (fun hc => ?_) <;> try omega)
      )
    refine ret1 hE rfl rfl ⟨?_, hS⟩
    congr 1
    cases hz : zeroB xs with
    | true => have := hsz.2 hz; subst this; rfl
    | false =>
      have : ¬ s = 0 := fun h => by rw [hsz.1 h] at hz; cases hz
      simp; omega

end Go.Proofs.Ytmdfhhmnlplagaa
