/-
  Contracts of octet: numbers put; noughts; the reference's numbers.
-/
import Derived.Test.YtfoeelghehjanaaOC
namespace Go.Proofs.Ytfoeelghehjanaa
open Go.RowKit
set_option linter.unusedVariables false
set_option linter.unusedSimpArgs false
attribute [local irreducible] Rd hRow hBlk hRd hAll Fn

theorem put (A : Option Addr) (c : Nat) (xs : List Nat) (x n : Nat) (hx : x < 18446744073709551616) (hn : n ≤ 8) (w0 : World) (hr : Rd w0 A (bys xs)) (hl : xs.length ≤ 140737488355000) :
    Fn Try.prog 105 [.slice A xs.length c, .int .u64 (x : Int), .int .i64 (n : Int)] w0 fun v w' => ∃ A' c', v = .slice A' (xs ++ beb n x).length c' ∧ St w0 w' [hRow 5 1 A' (xs ++ beb n x).length c' (bys (xs ++ beb n x))] := by
  refine enter 25 Try.func105 rfl rfl rfl ?_
  intro a hE
  have hS := St.start w0
  repeat' (first
    | (with_reducible refine wp_seq ?_)
    | (with_reducible refine c_region ?_)
    | (with_reducible refine wpList_nil ?_)
    | (with_reducible refine then_normal ?_)
    | ((with_reducible refine g_move ?_); refine s_move hE rfl rfl ?_; clear hE a; intro a hE)
    | ((with_reducible refine g_assign ?_); refine s_assign hE rfl rfl ?_; clear hE a; intro a hE)
    )
  refine s_call hE rfl rfl rfl (clone A c xs w0 hr (by omega)) ?_
  rintro _ w ⟨A1, c1, rfl, hS⟩; clear hE a; intro a hE
  repeat' (first
    | (with_reducible refine wp_seq ?_)
    | (with_reducible refine c_region ?_)
    | (with_reducible refine wpList_nil ?_)
    | (with_reducible refine then_normal ?_)
    | (with_reducible refine wp_block ?_)
    | ((with_reducible refine g_move ?_); refine s_move hE rfl rfl ?_; clear hE a; intro a hE)
    | ((with_reducible refine g_assign ?_); refine s_assign hE rfl rfl ?_; clear hE a; intro a hE)
    | ((with_reducible refine g_bin .sub ?_); refine s_sub hE rfl rfl rfl (by first | exact wrap64_in (by omega) ) ?_; clear hE a; intro a hE)
    )
  refine wp_loop_ghost (fun q a w => ∃ (ys : List Nat) (A1 : Option Addr) (c1 : Nat), ys ++ beb q x = xs ++ beb n x ∧ q ≤ n ∧ St w0 w [hRow 5 1 A1 ys.length c1 (bys ys)] ∧ Env 25 [(0, .slice A1 ys.length c1), (1, .int .u64 (x : Int)), (7, .int .i64 ((q : Int) - 1))] a) n ⟨xs, A1, c1, rfl, Nat.le_refl _, hS, hE.sub ⟨rfl, rfl, rfl, trivial⟩⟩ ?_
  clear hE a hS
  rintro q a w ⟨ys, A2, c2, hy, hq, hS, hE⟩
  have hly := congrArg List.length hy
  simp only [List.length_append, beb_length] at hly
  by_cases hq0 : q = 0
  · subst hq0
    simp only [beb, List.append_nil] at hy
    subst hy
    repeat' (first
      | (with_reducible refine wp_seq ?_)
      | (with_reducible refine c_region ?_)
      | (with_reducible refine wpList_nil ?_)
      | (with_reducible refine then_normal ?_)
      | (with_reducible refine wp_ret ?_)
      | (with_reducible refine wp_exit ?_)
      | (with_reducible refine then_exit ?_)
      | (with_reducible refine block_same ?_)
      | ((with_reducible refine g_move ?_); refine s_move hE rfl rfl ?_; clear hE a; intro a hE)
      | ((with_reducible refine g_assign ?_); refine s_assign hE rfl rfl ?_; clear hE a; intro a hE)
      | ((with_reducible refine g_bin .geq ?_); refine s_geq hE rfl rfl rfl ?_; clear hE a; intro a hE)
      | ((with_reducible refine g_cond ?_); refine c_false hE rfl ?_)
      )
    exact ret1 hE rfl rfl ⟨A2, c2, rfl, hS⟩
  · obtain ⟨m, rfl⟩ : ∃ m, q = m + 1 := ⟨q - 1, by omega⟩
    replace hE := hE.as (d := 7) rfl (u := .int .i64 (m : Int)) (by simp)
    repeat' (first
      | (with_reducible refine wp_seq ?_)
      | (with_reducible refine c_region ?_)
      | (with_reducible refine wpList_nil ?_)
      | (with_reducible refine then_normal ?_)
      | (with_reducible refine wp_skip ?_)
      | (with_reducible refine wp_block ?_)
      | ((with_reducible refine g_move ?_); refine s_move hE rfl rfl ?_; clear hE a; intro a hE)
      | ((with_reducible refine g_bin .geq ?_); refine s_geq hE rfl rfl rfl ?_; clear hE a; intro a hE)
      | ((with_reducible refine g_bin .mul ?_); refine s_mul hE rfl rfl rfl (by first | exact mulN (a := 8) (by omega) ) ?_; clear hE a; intro a hE)
      | ((with_reducible refine g_bin .shr ?_); refine s_shr hE rfl rfl (by omega) rfl (by first | exact shr_nat x (8 * m) 64 (by omega) ) ?_; clear hE a; intro a hE)
      | ((with_reducible refine g_conv ?_); refine s_conv hE rfl rfl (by first | exact wrap_u8_nat (x / 2 ^ (8 * m))) ?_; clear hE a; intro a hE)
      | ((with_reducible refine g_cond ?_); refine c_true hE rfl ?_)
      )
    have e : ys.length + 1 = (ys ++ [x / 2 ^ (8 * m) % 256]).length := by simp
    refine s_append1 (s := .tmp 16) hE hS rfl rfl (by intro t h; cases h; rfl) rfl (by omega) rfl rfl rfl rfl ?_
    clear hE a hS; intro A3 c3 u a w hE hS
    rw [e] at hE hS
    repeat' (first
      | (with_reducible refine c_region ?_)
      | (with_reducible refine wpList_nil ?_)
      | (with_reducible refine then_normal ?_)
      | (with_reducible refine block_normal ?_)
      | ((with_reducible refine g_move ?_); refine s_move hE rfl rfl ?_; clear hE a; intro a hE)
      | ((with_reducible refine g_assign ?_); refine s_assign hE rfl rfl ?_; clear hE a; intro a hE)
      | ((with_reducible refine g_bin .sub ?_); refine s_sub hE rfl rfl rfl (by first | exact wrap64_in (by omega) ) ?_; clear hE a; intro a hE)
      )
    refine ⟨m, by omega, ys ++ [x / 2 ^ (8 * m) % 256], A3, c3, ?_, by omega, by rw [bys_append]; exact hS, hE.sub ⟨rfl, rfl, rfl, trivial⟩⟩
    rw [List.append_assoc]
    simp only [beb] at hy
    exact hy

theorem put16 (A : Option Addr) (c : Nat) (xs : List Nat) (x : Nat) (hx : x < 65536) (w0 : World) (hr : Rd w0 A (bys xs)) (hl : xs.length ≤ 140737488355000) :
    Fn Try.prog 96 [.slice A xs.length c, .int .u16 (x : Int)] w0 fun v w' => ∃ A' c', v = .slice A' (xs ++ beb 2 x).length c' ∧ St w0 w' [hRow 5 1 A' (xs ++ beb 2 x).length c' (bys (xs ++ beb 2 x))] := by
  refine enter 9 Try.func96 rfl rfl rfl ?_
  intro a hE
  have hS := St.start w0
  repeat' (first
    | (with_reducible refine wp_seq ?_)
    | (with_reducible refine c_region ?_)
    | (with_reducible refine wpList_nil ?_)
    | (with_reducible refine then_normal ?_)
    | ((with_reducible refine g_move ?_); refine s_move hE rfl rfl ?_; clear hE a; intro a hE)
    | ((with_reducible refine g_assign ?_); refine s_assign hE rfl rfl ?_; clear hE a; intro a hE)
    | ((with_reducible refine g_conv ?_); refine s_conv hE rfl rfl (by first | exact wrap_u64_in (by omega) ) ?_; clear hE a; intro a hE)
    )
  refine s_call hE rfl rfl rfl (put A c xs x 2 (by omega) (by omega) w0 hr hl) ?_
  rintro _ w ⟨A1, c1, rfl, hS⟩; clear hE a; intro a hE
  repeat' (first
    | (with_reducible refine wpList_nil ?_)
    | (with_reducible refine then_normal ?_)
    | (with_reducible refine wp_ret ?_)
    | ((with_reducible refine g_assign ?_); refine s_assign hE rfl rfl ?_; clear hE a; intro a hE)
    )
  exact ret1 hE rfl rfl ⟨A1, c1, rfl, hS⟩

theorem put32 (A : Option Addr) (c : Nat) (xs : List Nat) (x : Nat) (hx : x < 4294967296) (w0 : World) (hr : Rd w0 A (bys xs)) (hl : xs.length ≤ 140737488355000) :
    Fn Try.prog 94 [.slice A xs.length c, .int .u32 (x : Int)] w0 fun v w' => ∃ A' c', v = .slice A' (xs ++ beb 4 x).length c' ∧ St w0 w' [hRow 5 1 A' (xs ++ beb 4 x).length c' (bys (xs ++ beb 4 x))] := by
  refine enter 9 Try.func94 rfl rfl rfl ?_
  intro a hE
  have hS := St.start w0
  repeat' (first
    | (with_reducible refine wp_seq ?_)
    | (with_reducible refine c_region ?_)
    | (with_reducible refine wpList_nil ?_)
    | (with_reducible refine then_normal ?_)
    | ((with_reducible refine g_move ?_); refine s_move hE rfl rfl ?_; clear hE a; intro a hE)
    | ((with_reducible refine g_assign ?_); refine s_assign hE rfl rfl ?_; clear hE a; intro a hE)
    | ((with_reducible refine g_conv ?_); refine s_conv hE rfl rfl (by first | exact wrap_u64_in (by omega) ) ?_; clear hE a; intro a hE)
    )
  refine s_call hE rfl rfl rfl (put A c xs x 4 (by omega) (by omega) w0 hr hl) ?_
  rintro _ w ⟨A1, c1, rfl, hS⟩; clear hE a; intro a hE
  repeat' (first
    | (with_reducible refine wpList_nil ?_)
    | (with_reducible refine then_normal ?_)
    | (with_reducible refine wp_ret ?_)
    | ((with_reducible refine g_assign ?_); refine s_assign hE rfl rfl ?_; clear hE a; intro a hE)
    )
  exact ret1 hE rfl rfl ⟨A1, c1, rfl, hS⟩

theorem or_zero {a b : Nat} : a ||| b = 0 ↔ a = 0 ∧ b = 0 := by
  constructor
  · intro h
    have h1 : a ≤ a ||| b := Nat.left_le_or
    have h2 : b ≤ a ||| b := Nat.right_le_or
    omega
  · rintro ⟨rfl, rfl⟩; rfl
def orAll : List Nat → Nat
  | [] => 0
  | c :: l => c ||| orAll l
def zeroB (xs : List Nat) : Bool := xs.all (· == 0)
theorem zeroB_take_succ {xs : List Nat} {k : Nat} (h : k < xs.length) : zeroB (xs.take (k + 1)) = (zeroB (xs.take k) && xs[k] == 0) := by
  rw [List.take_succ_eq_append_getElem h]
  simp only [zeroB, List.all_append, List.all_cons, List.all_nil, Bool.and_true]
end Go.Proofs.Ytfoeelghehjanaa
