/-
  Contracts of record: a record's fields, what may be, what is the same.
-/
import Derived.Test.YtmfcffeoooegcaaOD
namespace Go.Proofs.Ytmfcffeoooegcaa
open Go.RowKit
set_option linter.unusedVariables false
set_option linter.unusedSimpArgs false
attribute [local irreducible] Rd hRow hBlk hRd hAll Fn

/-- a record as it lies in cells: numbers, and two rows of bytes -/
structure Rc where
  (l : Nat) (k : Int) (t b : Nat) (p s : Int) (o w : List Nat) (n : Nat) (A B : Option Addr) (c d : Nat)
def Rc.cells (r : Rc) : List Value := [.int .u64 (r.l : Int), .int .i64 r.k, .int .u64 (r.t : Int), .int .u64 (r.b : Int), .int .i64 r.p, .int .i64 r.s, .slice r.A r.o.length r.c, .slice r.B r.w.length r.d, .int .u64 (r.n : Int)]
def Rc.rd (r : Rc) (w : World) : Prop := Rd w r.A (bys r.o) ∧ Rd w r.B (bys r.w)
theorem Rc.rd_st {r : Rc} {w0 w : World} {L : List HP} (h : r.rd w0) (hS : St w0 w L) : r.rd w := ⟨h.1.st hS, h.2.st hS⟩
structure Rc.wf (r : Rc) : Prop where
  l : r.l < 18446744073709551616
  t : r.t < 18446744073709551616
  b : r.b < 18446744073709551616
  n : r.n < 18446744073709551616
  k : -9223372036854775808 ≤ r.k ∧ r.k ≤ 9223372036854775807
  p : -9223372036854775808 ≤ r.p ∧ r.p ≤ 9223372036854775807
  s : -9223372036854775808 ≤ r.s ∧ r.s ≤ 9223372036854775807
  o : Bs r.o
  w : Bs r.w
  ol : r.o.length ≤ r.c ∧ r.o.length ≤ 140737488351232
  wl : r.w.length ≤ r.d ∧ r.w.length ≤ 140737488351232
/-- may a record be? -/
def Rc.right (r : Rc) : Prop :=
  (1 ≤ r.k ∧ r.k ≤ 4) ∧ 0 < r.l ∧ 0 < r.t ∧ r.b < r.l ∧ r.n ≤ r.b ∧ (0 ≤ r.p ∧ r.p < 32) ∧ (0 ≤ r.s ∧ r.s < 4) ∧ r.o.length ≤ 52 ∧ r.w.length ≤ 52
  ∧ (r.k = 1 → r.n = 0 ∧ r.o ≠ r.w) ∧ (r.k = 2 → r.o.length = 0) ∧ (2 < r.k → r.p = 0 ∧ r.s = 0 ∧ r.o.length = 0 ∧ r.w.length = 0 ∧ r.n = 0)
instance (r : Rc) : Decidable r.right := by unfold Rc.right; infer_instance

theorem fields1 (w : World) : Fn Try.prog 31 [.int .i64 1] w fun v w' => v = .tuple #[.int .i64 7, .bool true] ∧ w' = w := by
  refine enter 12 Try.func31 rfl rfl rfl ?_
  intro a hE
  repeat' (first
    | (with_reducible refine wp_seq ?_)
    | (with_reducible refine c_region ?_)
    | (with_reducible refine wpList_nil ?_)
    | (with_reducible refine then_normal ?_)
    | (with_reducible refine wp_ret ?_)
    | (with_reducible refine then_ret ?_)
    | (with_reducible refine wp_block ?_)
    | (with_reducible refine block_ret ?_)
    | ((with_reducible refine g_move ?_); refine s_move hE rfl rfl ?_; clear hE a; intro a hE)
    | ((with_reducible refine g_assign ?_); refine s_assign hE rfl rfl ?_; clear hE a; intro a hE)
    | ((with_reducible refine g_bin .eql ?_); refine s_eql hE rfl rfl rfl ?_; clear hE a; intro a hE)
    | ((with_reducible refine g_cond ?_); refine c_true hE rfl ?_)
    )
  exact ret2 hE rfl rfl rfl ⟨rfl, rfl⟩
theorem fields2 (w : World) : Fn Try.prog 31 [.int .i64 2] w fun v w' => v = .tuple #[.int .i64 13, .bool true] ∧ w' = w := by
  refine enter 12 Try.func31 rfl rfl rfl ?_
  intro a hE
  repeat' (first
    | (with_reducible refine wp_seq ?_)
    | (with_reducible refine c_region ?_)
    | (with_reducible refine wpList_nil ?_)
    | (with_reducible refine then_normal ?_)
    | (with_reducible refine wp_ret ?_)
    | (with_reducible refine then_ret ?_)
    | (with_reducible refine wp_block ?_)
    | (with_reducible refine block_ret ?_)
    | ((with_reducible refine g_move ?_); refine s_move hE rfl rfl ?_; clear hE a; intro a hE)
    | ((with_reducible refine g_assign ?_); refine s_assign hE rfl rfl ?_; clear hE a; intro a hE)
    | ((with_reducible refine g_bin .eql ?_); refine s_eql hE rfl rfl rfl ?_; clear hE a; intro a hE)
    | ((with_reducible refine g_cond ?_); refine c_true hE rfl ?_)
    | ((with_reducible refine g_cond ?_); refine c_false hE rfl ?_)
    )
  exact ret2 hE rfl rfl rfl ⟨rfl, rfl⟩
theorem fields3 (w : World) : Fn Try.prog 31 [.int .i64 3] w fun v w' => v = .tuple #[.int .i64 0, .bool true] ∧ w' = w := by
  refine enter 12 Try.func31 rfl rfl rfl ?_
  intro a hE
  repeat' (first
    | (with_reducible refine wp_seq ?_)
    | (with_reducible refine c_region ?_)
    | (with_reducible refine wpList_nil ?_)
    | (with_reducible refine then_normal ?_)
    | (with_reducible refine wp_skip ?_)
    | (with_reducible refine wp_ret ?_)
    | (with_reducible refine then_ret ?_)
    | (with_reducible refine wp_block ?_)
    | (with_reducible refine block_ret ?_)
    | ((with_reducible refine g_move ?_); refine s_move hE rfl rfl ?_; clear hE a; intro a hE)
    | ((with_reducible refine g_assign ?_); refine s_assign hE rfl rfl ?_; clear hE a; intro a hE)
    | ((with_reducible refine g_bin .eql ?_); refine s_eql hE rfl rfl rfl ?_; clear hE a; intro a hE)
    | ((with_reducible refine g_cond ?_); refine c_true hE rfl ?_)
    | ((with_reducible refine g_cond ?_); refine c_false hE rfl ?_)
    )
  exact ret2 hE rfl rfl rfl ⟨rfl, rfl⟩
theorem fields4 (w : World) : Fn Try.prog 31 [.int .i64 4] w fun v w' => v = .tuple #[.int .i64 0, .bool true] ∧ w' = w := by
  refine enter 12 Try.func31 rfl rfl rfl ?_
  intro a hE
  repeat' (first
    | (with_reducible refine wp_seq ?_)
    | (with_reducible refine c_region ?_)
    | (with_reducible refine wpList_nil ?_)
    | (with_reducible refine then_normal ?_)
    | (with_reducible refine wp_ret ?_)
    | (with_reducible refine then_ret ?_)
    | (with_reducible refine wp_block ?_)
    | (with_reducible refine block_ret ?_)
    | ((with_reducible refine g_move ?_); refine s_move hE rfl rfl ?_; clear hE a; intro a hE)
    | ((with_reducible refine g_assign ?_); refine s_assign hE rfl rfl ?_; clear hE a; intro a hE)
    | ((with_reducible refine g_bin .eql ?_); refine s_eql hE rfl rfl rfl ?_; clear hE a; intro a hE)
    | ((with_reducible refine g_cond ?_); refine c_true hE rfl ?_)
    | ((with_reducible refine g_cond ?_); refine c_false hE rfl ?_)
    )
  exact ret2 hE rfl rfl rfl ⟨rfl, rfl⟩
theorem fields0 (k : Int) (w : World) (h : k < 1 ∨ 4 < k) : Fn Try.prog 31 [.int .i64 k] w fun v w' => v = .tuple #[.int .i64 0, .bool false] ∧ w' = w := by
  refine enter 12 Try.func31 rfl rfl rfl ?_
  intro a hE
  repeat' (first
    | (with_reducible refine wp_seq ?_)
    | (with_reducible refine c_region ?_)
    | (with_reducible refine wpList_nil ?_)
    | (with_reducible refine then_normal ?_)
    | (with_reducible refine wp_skip ?_)
    | (with_reducible refine wp_ret ?_)
    | (with_reducible refine wp_block ?_)
    | (with_reducible refine block_normal ?_)
    | ((with_reducible refine g_move ?_); refine s_move hE rfl rfl ?_; clear hE a; intro a hE)
    | ((with_reducible refine g_assign ?_); refine s_assign hE rfl rfl ?_; clear hE a; intro a hE)
    | ((with_reducible refine g_bin .eql ?_); refine s_eql hE rfl rfl rfl ?_; clear hE a; intro a hE)
    | ((with_reducible refine g_cond ?_); refine c_dec hE rfl (fun hc => ?_) (fun hc => ?_) <;> try omega)
    )
  exact ret2 hE rfl rfl rfl ⟨rfl, rfl⟩
theorem has (f g : Int) (b : Bool) (w : World) (h : decide (bits .and .i64 f g ≠ 0) = b) : Fn Try.prog 32 [.int .i64 f, .int .i64 g] w fun v w' => v = .bool b ∧ w' = w := by
  refine enter 9 Try.func32 rfl rfl rfl ?_
  intro a hE
  repeat' (first
    | (with_reducible refine wp_seq ?_)
    | (with_reducible refine c_region ?_)
    | (with_reducible refine wpList_nil ?_)
    | (with_reducible refine then_normal ?_)
    | (with_reducible refine wp_ret ?_)
    | ((with_reducible refine g_move ?_); refine s_move hE rfl rfl ?_; clear hE a; intro a hE)
    | ((with_reducible refine g_assign ?_); refine s_assign hE rfl rfl ?_; clear hE a; intro a hE)
    | ((with_reducible refine g_bin .neq ?_); refine s_neq hE rfl rfl rfl ?_; clear hE a; intro a hE)
    | ((with_reducible refine g_bin .and ?_); refine s_and hE rfl rfl rfl (by first | rfl) ?_; clear hE a; intro a hE)
    )
  exact ret1 hE rfl rfl ⟨by rw [h], rfl⟩

end Go.Proofs.Ytmfcffeoooegcaa
