/-
  Without a disk there is no log, and a nil one tells nothing.
-/
import Derived.Test.YtfoeelghehjanaaWQ
namespace Go.Proofs.Ytfoeelghehjanaa
open Go.RowKit
set_option linter.unusedVariables false
set_option linter.unusedSimpArgs false
attribute [local irreducible] Rd hRow hBlk hRd hRdr wrP hDk hWl Fn FnD hMarks
section
variable {H : List HP} {w0 w : World}
set_option maxHeartbeats 8000000
theorem fmtN (n : Int) (w0 : World) : Fn Try.prog 23 [.pointer none, .int .i64 n] w0 fun v w' => v = .tuple #[.pointer none, .int .i64 1] ∧ St w0 w' [] := by
  have hS := St.start w0
  refine enter 58 Try.func23 rfl rfl rfl ?_
  intro a hE
  repeat' (first

    | (with_reducible refine wp_seq ?_)
    | (with_reducible refine c_region ?_)
    | (with_reducible refine wpList_nil ?_)
    | (with_reducible refine then_normal ?_)
    | (with_reducible refine wp_ret ?_)
    | (with_reducible refine then_ret ?_)
    | (with_reducible refine wp_block ?_)
    | (with_reducible refine block_ret ?_)
    | ((with_reducible refine g_move ?_); refine s_move hE rfl rfl ?_; clear hE a; intro a hE)
    | ((with_reducible refine g_assign ?_); refine s_assign hE rfl rfl ?_; clear hE a; intro a hE)
    | ((with_reducible refine g_cond ?_); refine c_true hE rfl ?_)
    | ((with_reducible refine g_bin .eql ?_); refine s_val hE rfl rfl rfl (r_eqp hE rfl rfl) ?_; clear hE a; intro a hE)
    )
  exact ret2 hE rfl rfl rfl ⟨rfl, hS⟩
theorem opnN (w0 : World) : Fn Try.prog 24 [.pointer none] w0 fun v w' => v = .tuple #[.pointer none, .int .i64 1] ∧ St w0 w' [] := by
  have hS := St.start w0
  refine enter 135 Try.func24 rfl rfl rfl ?_
  intro a hE
  refine wp_seq ?_
  repeat' (first

    | (with_reducible refine c_region ?_)
    | (with_reducible refine wpList_nil ?_)
    | (with_reducible refine then_normal ?_)
    | ((with_reducible refine g_assign ?_); refine s_assign hE rfl rfl ?_; clear hE a; intro a hE)
    )
  refine wp_scope_straight ?_
  repeat' (first

    | (with_reducible refine wp_seq ?_)
    | (with_reducible refine c_region ?_)
    | (with_reducible refine wpList_nil ?_)
    | (with_reducible refine then_normal ?_)
    | (with_reducible refine wp_ret ?_)
    | (with_reducible refine then_ret ?_)
    | ((with_reducible refine g_move ?_); refine s_move hE rfl rfl ?_; clear hE a; intro a hE)
    | ((with_reducible refine g_assign ?_); refine s_assign hE rfl rfl ?_; clear hE a; intro a hE)
    | ((with_reducible refine g_cond ?_); refine c_true hE rfl ?_)
    | ((with_reducible refine g_bin .eql ?_); refine s_val hE rfl rfl rfl (r_eqp hE rfl rfl) ?_; clear hE a; intro a hE)
    )
  exact ret2 hE rfl rfl rfl ⟨rfl, hS⟩
theorem readyN (A : Option Addr) (n c : Nat) (w0 : World) : Fn Try.prog 50 [.pointer none, .slice A n c] w0 fun v w' => v = .int .i64 1 ∧ St w0 w' [] := by
  have hS := St.start w0
  refine enter 17 Try.func50 rfl rfl rfl ?_
  intro a hE
  repeat' (first

    | (with_reducible refine wp_seq ?_)
    | (with_reducible refine c_region ?_)
    | (with_reducible refine wpList_nil ?_)
    | (with_reducible refine then_normal ?_)
    | (with_reducible refine wp_ret ?_)
    | (with_reducible refine then_ret ?_)
    | (with_reducible refine wp_block ?_)
    | (with_reducible refine block_ret ?_)
    | ((with_reducible refine g_move ?_); refine s_move hE rfl rfl ?_; clear hE a; intro a hE)
    | ((with_reducible refine g_assign ?_); refine s_assign hE rfl rfl ?_; clear hE a; intro a hE)
    | ((with_reducible refine g_cond ?_); refine c_true hE rfl ?_)
    | ((with_reducible refine g_bin .eql ?_); refine s_val hE rfl rfl rfl (r_eqp hE rfl rfl) ?_; clear hE a; intro a hE)
    )
  exact ret1 hE rfl rfl ⟨rfl, hS⟩
theorem appN (A : Option Addr) (n c : Nat) (w0 : World) : Fn Try.prog 20 [.pointer none, .slice A n c] w0 fun v w' => v = .int .i64 1 ∧ St w0 w' [] := by
  have hS := St.start w0
  refine enterI 80 Try.func20 rfl rfl rfl ?_
  intro a hE
  refine i_seq ?_
  refine i_region rfl (fun _ _ h => h) ?_
  refine s_box1 hE hS rfl rfl rfl ?_
  clear hE a hS; intro g2 a w hE hS
  repeat' (first

    | (with_reducible refine wpList_nil ?_)
    | (with_reducible refine then_normal ?_)
    | (with_reducible refine i_seq ?_)
    | ((with_reducible refine ig_region ?_); refine i_region rfl (fun _ _ h => h) ?_)
    | ((with_reducible refine g_move ?_); refine s_move hE rfl rfl ?_; clear hE a; intro a hE)
    | ((with_reducible refine g_load ?_); (first | (refine s_loadB (k := 1) hS hE rfl rfl rfl rfl ?_) ); clear hE a; intro a hE)
    | ((with_reducible refine g_alloc ?_); refine s_alloc1 hE hS rfl rfl ?_; clear hE a hS; intro g a w hE hS)
    )
  refine s_call hE rfl rfl rfl (readyN A n c w) ?_
  rintro _ w ⟨rfl, hS1⟩; clear hE a; intro a hE; replace hS := hS.frame hS1; clear hS1; try simp only [List.cons_append, List.nil_append] at hS
  repeat' (first

    | (with_reducible refine wpList_nil ?_)
    | (with_reducible refine then_normal ?_)
    | (with_reducible refine then_ret ?_)
    | (with_reducible refine i_seq ?_)
    | (with_reducible refine i_ret ?_)
    | ((with_reducible refine ig_region ?_); refine i_region rfl (fun _ _ h => h) ?_)
    | ((with_reducible refine ig_cond ?_); refine i_true hE rfl ?_)
    | ((with_reducible refine g_move ?_); refine s_move hE rfl rfl ?_; clear hE a; intro a hE)
    | ((with_reducible refine g_assign ?_); refine s_assign hE rfl rfl ?_; clear hE a; intro a hE)
    | ((with_reducible refine g_bin .neq ?_); refine s_neq hE rfl rfl rfl ?_; clear hE a; intro a hE)
    | ((with_reducible refine g_store ?_); (first | (refine s_storeB (k := 0) hS hE rfl rfl rfl rfl rfl rfl ?_) ); clear hS; intro w hS; simp only [List.set_cons_zero, List.set_cons_succ, Nat.add_zero] at hS)
    )
  exact im_retG (vs := [_]) hE [] hS.marks0 rfl fun w' hS' => ⟨⟨⟨_, rfl, res_1 (k := 0) hS' rfl⟩, trivial⟩, rfl, hS'.nil⟩
theorem chkN (A : Option Addr) (n c : Nat) (w0 : World) : Fn Try.prog 18 [.pointer none, .slice A n c] w0 fun v w' => v = .int .i64 1 ∧ St w0 w' [] := by
  have hS := St.start w0
  refine enterI 78 Try.func18 rfl rfl rfl ?_
  intro a hE
  refine i_seq ?_
  refine i_region rfl (fun _ _ h => h) ?_
  refine s_box1 hE hS rfl rfl rfl ?_
  clear hE a hS; intro g2 a w hE hS
  repeat' (first

    | (with_reducible refine wpList_nil ?_)
    | (with_reducible refine then_normal ?_)
    | (with_reducible refine i_seq ?_)
    | ((with_reducible refine ig_region ?_); refine i_region rfl (fun _ _ h => h) ?_)
    | ((with_reducible refine g_move ?_); refine s_move hE rfl rfl ?_; clear hE a; intro a hE)
    | ((with_reducible refine g_load ?_); (first | (refine s_loadB (k := 1) hS hE rfl rfl rfl rfl ?_) ); clear hE a; intro a hE)
    | ((with_reducible refine g_alloc ?_); refine s_alloc1 hE hS rfl rfl ?_; clear hE a hS; intro g a w hE hS)
    )
  refine s_call hE rfl rfl rfl (readyN A n c w) ?_
  rintro _ w ⟨rfl, hS1⟩; clear hE a; intro a hE; replace hS := hS.frame hS1; clear hS1; try simp only [List.cons_append, List.nil_append] at hS
  repeat' (first

    | (with_reducible refine wpList_nil ?_)
    | (with_reducible refine then_normal ?_)
    | (with_reducible refine then_ret ?_)
    | (with_reducible refine i_seq ?_)
    | (with_reducible refine i_ret ?_)
    | ((with_reducible refine ig_region ?_); refine i_region rfl (fun _ _ h => h) ?_)
    | ((with_reducible refine ig_cond ?_); refine i_true hE rfl ?_)
    | ((with_reducible refine g_move ?_); refine s_move hE rfl rfl ?_; clear hE a; intro a hE)
    | ((with_reducible refine g_assign ?_); refine s_assign hE rfl rfl ?_; clear hE a; intro a hE)
    | ((with_reducible refine g_bin .neq ?_); refine s_neq hE rfl rfl rfl ?_; clear hE a; intro a hE)
    | ((with_reducible refine g_store ?_); (first | (refine s_storeB (k := 0) hS hE rfl rfl rfl rfl rfl rfl ?_) ); clear hS; intro w hS; simp only [List.set_cons_zero, List.set_cons_succ, Nat.add_zero] at hS)
    )
  exact im_retG (vs := [_]) hE [] hS.marks0 rfl fun w' hS' => ⟨⟨⟨_, rfl, res_1 (k := 0) hS' rfl⟩, trivial⟩, rfl, hS'.nil⟩
theorem lenN (w0 : World) : Fn Try.prog 27 [.pointer none] w0 fun v w' => v = .int .i64 0 ∧ St w0 w' [] := by
  have hS := St.start w0
  refine enter 11 Try.func27 rfl rfl rfl ?_
  intro a hE
  repeat' (first

    | (with_reducible refine wp_seq ?_)
    | (with_reducible refine c_region ?_)
    | (with_reducible refine wpList_nil ?_)
    | (with_reducible refine then_normal ?_)
    | (with_reducible refine wp_ret ?_)
    | (with_reducible refine then_ret ?_)
    | ((with_reducible refine g_move ?_); refine s_move hE rfl rfl ?_; clear hE a; intro a hE)
    | ((with_reducible refine g_assign ?_); refine s_assign hE rfl rfl ?_; clear hE a; intro a hE)
    | ((with_reducible refine g_cond ?_); refine c_true hE rfl ?_)
    | ((with_reducible refine g_bin .eql ?_); refine s_val hE rfl rfl rfl (r_eqp hE rfl rfl) ?_; clear hE a; intro a hE)
    )
  exact ret1 hE rfl rfl ⟨rfl, hS⟩
theorem leftN (w0 : World) : Fn Try.prog 12 [.pointer none] w0 fun v w' => v = .int .i64 0 ∧ St w0 w' [] := by
  have hS := St.start w0
  refine enter 14 Try.func12 rfl rfl rfl ?_
  intro a hE
  repeat' (first

    | (with_reducible refine wp_seq ?_)
    | (with_reducible refine c_region ?_)
    | (with_reducible refine wpList_nil ?_)
    | (with_reducible refine then_normal ?_)
    | (with_reducible refine wp_ret ?_)
    | (with_reducible refine then_ret ?_)
    | ((with_reducible refine g_move ?_); refine s_move hE rfl rfl ?_; clear hE a; intro a hE)
    | ((with_reducible refine g_assign ?_); refine s_assign hE rfl rfl ?_; clear hE a; intro a hE)
    | ((with_reducible refine g_cond ?_); refine c_true hE rfl ?_)
    | ((with_reducible refine g_bin .eql ?_); refine s_val hE rfl rfl rfl (r_eqp hE rfl rfl) ?_; clear hE a; intro a hE)
    )
  exact ret1 hE rfl rfl ⟨rfl, hS⟩
theorem turnN (w0 : World) : Fn Try.prog 28 [.pointer none] w0 fun v w' => v = .int .u32 0 ∧ St w0 w' [] := by
  have hS := St.start w0
  refine enter 9 Try.func28 rfl rfl rfl ?_
  intro a hE
  repeat' (first

    | (with_reducible refine wp_seq ?_)
    | (with_reducible refine c_region ?_)
    | (with_reducible refine wpList_nil ?_)
    | (with_reducible refine then_normal ?_)
    | (with_reducible refine wp_ret ?_)
    | (with_reducible refine then_ret ?_)
    | ((with_reducible refine g_move ?_); refine s_move hE rfl rfl ?_; clear hE a; intro a hE)
    | ((with_reducible refine g_assign ?_); refine s_assign hE rfl rfl ?_; clear hE a; intro a hE)
    | ((with_reducible refine g_cond ?_); refine c_true hE rfl ?_)
    | ((with_reducible refine g_bin .eql ?_); refine s_val hE rfl rfl rfl (r_eqp hE rfl rfl) ?_; clear hE a; intro a hE)
    )
  exact ret1 hE rfl rfl ⟨rfl, hS⟩
theorem diskN (w0 : World) : Fn Try.prog 29 [.pointer none] w0 fun v w' => v = .pointer none ∧ St w0 w' [] := by
  have hS := St.start w0
  refine enter 9 Try.func29 rfl rfl rfl ?_
  intro a hE
  repeat' (first

    | (with_reducible refine wp_seq ?_)
    | (with_reducible refine c_region ?_)
    | (with_reducible refine wpList_nil ?_)
    | (with_reducible refine then_normal ?_)
    | (with_reducible refine wp_ret ?_)
    | (with_reducible refine then_ret ?_)
    | ((with_reducible refine g_move ?_); refine s_move hE rfl rfl ?_; clear hE a; intro a hE)
    | ((with_reducible refine g_assign ?_); refine s_assign hE rfl rfl ?_; clear hE a; intro a hE)
    | ((with_reducible refine g_cond ?_); refine c_true hE rfl ?_)
    | ((with_reducible refine g_bin .eql ?_); refine s_val hE rfl rfl rfl (r_eqp hE rfl rfl) ?_; clear hE a; intro a hE)
    )
  exact ret1 hE rfl rfl ⟨rfl, hS⟩
theorem brokenN (w0 : World) : Fn Try.prog 22 [.pointer none] w0 fun v w' => v = .bool false ∧ St w0 w' [] := by
  have hS := St.start w0
  refine enter 11 Try.func22 rfl rfl rfl ?_
  intro a hE
  repeat' (first

    | (with_reducible refine wp_seq ?_)
    | (with_reducible refine c_region ?_)
    | (with_reducible refine wpList_nil ?_)
    | (with_reducible refine then_normal ?_)
    | (with_reducible refine wp_ret ?_)
    | ((with_reducible refine g_move ?_); refine s_move hE rfl rfl ?_; clear hE a; intro a hE)
    | ((with_reducible refine g_assign ?_); refine s_assign hE rfl rfl ?_; clear hE a; intro a hE)
    | ((with_reducible refine g_guard ?_); refine gd_no hE rfl rfl rfl rfl ?_; clear hE a; intro a hE)
    | ((with_reducible refine g_pick ?_); refine s_pickF hE rfl rfl rfl ?_; clear hE a; intro a hE)
    | ((with_reducible refine g_bin .neq ?_); refine s_val hE rfl rfl rfl (r_nep hE rfl rfl) ?_; clear hE a; intro a hE)
    )
  exact ret1 hE rfl rfl ⟨rfl, hS⟩
theorem snapN (w0 : World) : Fn Try.prog 26 [.pointer none] w0 fun v w' => v = .slice none 0 0 ∧ St w0 w' [] := by
  have hS := St.start w0
  refine enter 12 Try.func26 rfl rfl rfl ?_
  intro a hE
  repeat' (first

    | (with_reducible refine wp_seq ?_)
    | (with_reducible refine c_region ?_)
    | (with_reducible refine wpList_nil ?_)
    | (with_reducible refine then_normal ?_)
    | (with_reducible refine wp_ret ?_)
    | (with_reducible refine then_ret ?_)
    | ((with_reducible refine g_move ?_); refine s_move hE rfl rfl ?_; clear hE a; intro a hE)
    | ((with_reducible refine g_assign ?_); refine s_assign hE rfl rfl ?_; clear hE a; intro a hE)
    | ((with_reducible refine g_cond ?_); refine c_true hE rfl ?_)
    | ((with_reducible refine g_bin .eql ?_); refine s_val hE rfl rfl rfl (r_eqp hE rfl rfl) ?_; clear hE a; intro a hE)
    )
  exact ret1 hE rfl rfl ⟨rfl, hS⟩
theorem allN (w0 : World) : Fn Try.prog 25 [.pointer none] w0 fun v w' => ∃ g3, v = .func (.func 63) #[] #[.pointer (some ⟨g3, 0, none⟩)] ∧ St w0 w' (alBx g3 none 0 [] []) := by
  have hS := St.start w0
  refine enter 13 Try.func25 rfl rfl rfl ?_
  intro a hE
  repeat' (first

    | (with_reducible refine wp_seq ?_)
    | (with_reducible refine c_region ?_)
    | (with_reducible refine wpList_nil ?_)
    | (with_reducible refine then_normal ?_)
    | (with_reducible refine wp_skip ?_)
    | ((with_reducible refine g_move ?_); refine s_move hE rfl rfl ?_; clear hE a; intro a hE)
    | ((with_reducible refine g_assign ?_); refine s_assign hE rfl rfl ?_; clear hE a; intro a hE)
    | ((with_reducible refine g_cond ?_); refine c_false hE rfl ?_)
    | ((with_reducible refine g_bin .neq ?_); refine s_val hE rfl rfl rfl (r_nep hE rfl rfl) ?_; clear hE a; intro a hE)
    | ((with_reducible refine g_alloc ?_); refine s_alloc1 hE hS rfl rfl ?_; clear hE a hS; intro g a w hE hS)
    )
  refine s_val hE rfl rfl rfl (r_func (first := []) hE rfl rfl) ?_
  clear hE a; intro a hE
  repeat' (first

    | (with_reducible refine wpList_nil ?_)
    | (with_reducible refine then_normal ?_)
    | (with_reducible refine wp_ret ?_)
    | ((with_reducible refine g_assign ?_); refine s_assign hE rfl rfl ?_; clear hE a; intro a hE)
    )
  have h1 := wrP_nil (St.rowNil hS 34 1)
  exact ret1 hE rfl rfl ⟨g, rfl, (St.selD [2, 1, 0] 0 h1)⟩
theorem law_WalNone (A : Option Addr) (c : Nat) (xs : List Nat) (n : Int) (w0 : World) (hr : Rd w0 A (bys xs)) (hx : Bs xs) (hcp : xs.length ≤ c) (hz : xs.length ≤ 140737488351232) (hn : (Lit.int .i64 n).wf = true) :
    Fn Try.prog 4 [.slice A xs.length c, .int .i64 n] w0 fun v w' => v = .bool true ∧ St w0 w' [] := by
  have hS := St.start w0
  refine enterI 96 Try.func4 rfl rfl rfl ?_
  intro a hE
  repeat' (first

    | (with_reducible refine wpList_nil ?_)
    | (with_reducible refine then_normal ?_)
    | (with_reducible refine i_seq ?_)
    | ((with_reducible refine ig_region ?_); refine i_region rfl (fun _ _ h => h) ?_)
    | ((with_reducible refine g_alloc ?_); refine s_alloc1 hE hS rfl rfl ?_; clear hE a hS; intro g a w hE hS)
    )
  obtain ⟨g4, rfl⟩ : ∃ x, x = g := ⟨_, rfl⟩
  refine s_call hE rfl rfl rfl (wakes w) ?_
  rintro _ w ⟨rfl, hS1⟩; clear hE a; intro a hE; replace hS := hS.frame hS1; clear hS1; try simp only [List.cons_append, List.nil_append] at hS
  obtain ⟨ys, hys⟩ : ∃ ys, ys = xs.take 100 := ⟨_, rfl⟩
  have hmin : (if 100 < (xs.length : Int) then (100 : Int) else (xs.length : Int)) = (ys.length : Int) := by
    rw [hys, List.length_take]
    split <;> omega
  have hr2 : Rd w0 A (bys ys) := by
    rw [hys, bys_take]
    exact hr.take 100
  have hyl : ys.length ≤ 100 := by rw [hys, List.length_take]; omega
  have hyb : Bs ys := fun c hc => hx c (by rw [hys] at hc; exact List.mem_of_mem_take hc)
  clear hr hys
  repeat' (first
    | ((with_reducible refine g_blt .append ?_); refine s_appendAt0 (k := 0) hE hS rfl rfl rfl (hr2.st hS) (by rw [bys_length, Nat.mul_one, Int.toNat_natCast]) (bys_one _) (by omega) rfl rfl rfl rfl ?_; clear hE a hS; intro A5 c5 a w hE hS; simp only [List.set_cons_zero] at hS)
    | (with_reducible refine wpList_nil ?_)
    | (with_reducible refine then_normal ?_)
    | (with_reducible refine i_seq ?_)
    | (with_reducible refine i_skip ?_)
    | ((with_reducible refine ig_region ?_); refine i_region rfl (fun _ _ h => h) ?_)
    | ((with_reducible refine ig_cond ?_); refine i_false hE rfl ?_)
    | ((with_reducible refine g_move ?_); refine s_move hE rfl rfl ?_; clear hE a; intro a hE)
    | ((with_reducible refine g_assign ?_); refine s_assign hE rfl rfl ?_; clear hE a; intro a hE)
    | ((with_reducible refine g_un .not ?_); refine s_notb hE rfl rfl ?_; clear hE a; intro a hE)
    | ((with_reducible refine g_blt .len ?_); refine s_len hE rfl rfl ?_; clear hE a; intro a hE)
    | ((with_reducible refine g_blt .min ?_); refine s_min hE rfl rfl rfl (by first | exact hmin ) ?_; clear hE a; intro a hE)
    | ((with_reducible refine g_lit ?_); refine s_lit hE hS rfl rfl rfl rfl rfl (by first | (simp [Value.oneCell']; done)) rfl ?_; clear hE a hS; intro g a w hE hS)
    | ((with_reducible refine g_sliceH ?_); refine s_val hE rfl rfl rfl (r_cutH hE rfl rfl (by omega)) ?_; clear hE a; intro a hE)
    )
  rw [Int.toNat_natCast] at hS hE
  refine s_call hE rfl rfl rfl (fmtN n w) ?_
  rintro _ w ⟨rfl, hS1⟩; clear hE a; intro a hE; replace hS := hS.frame hS1; clear hS1; try simp only [List.cons_append, List.nil_append] at hS
  repeat' (first

    | (with_reducible refine wpList_nil ?_)
    | (with_reducible refine then_normal ?_)
    | (with_reducible refine i_seq ?_)
    | ((with_reducible refine ig_region ?_); refine i_region rfl (fun _ _ h => h) ?_)
    | ((with_reducible refine g_move ?_); refine s_move hE rfl rfl ?_; clear hE a; intro a hE)
    | ((with_reducible refine g_assign ?_); refine s_assign hE rfl rfl ?_; clear hE a; intro a hE)
    | ((with_reducible refine g_extract ?_); refine s_extract hE rfl rfl rfl ?_; clear hE a; intro a hE)
    )
  refine s_call hE rfl rfl rfl (opnN w) ?_
  rintro _ w ⟨rfl, hS1⟩; clear hE a; intro a hE; replace hS := hS.frame hS1; clear hS1; try simp only [List.cons_append, List.nil_append] at hS
  repeat' (first

    | (with_reducible refine wpList_nil ?_)
    | (with_reducible refine then_normal ?_)
    | (with_reducible refine i_seq ?_)
    | ((with_reducible refine ig_region ?_); refine i_region rfl (fun _ _ h => h) ?_)
    | ((with_reducible refine g_move ?_); refine s_move hE rfl rfl ?_; clear hE a; intro a hE)
    | ((with_reducible refine g_assign ?_); refine s_assign hE rfl rfl ?_; clear hE a; intro a hE)
    | ((with_reducible refine g_extract ?_); refine s_extract hE rfl rfl rfl ?_; clear hE a; intro a hE)
    )
  refine s_call hE rfl rfl rfl (allN w) ?_
  rintro _ w ⟨g3, rfl, hS1⟩; clear hE a; intro a hE; replace hS := hS.frame hS1; clear hS1
  repeat' (first

    | (with_reducible refine wpList_nil ?_)
    | (with_reducible refine then_normal ?_)
    | (with_reducible refine i_block ?_)
    )
  refine i_rangeF (ps := [32, 33]) hE rfl (all_iter g3 none 0 [] [] (by decide) (fun x hx => by cases hx) (fun x hx => by cases hx) w0)
    (fun pre => [hRow 5 1 A5 ys.length c5 (bys ys), hBlk g4 4 [.bool false]])
    (fun j xs => [hRow 5 1 A5 ys.length c5 (bys ys), hBlk g4 4 [.bool false]]) (own := []) hS (fun _ _ => rfl) (by decide)
    (Y := Nat) (fun pre x y => []) (fun pre x y => []) ?_ ?_ ?_ ?_
  · intro own pre x z w lp a hx hS hE
    obtain ⟨post, hx⟩ := hx
    exact absurd hx (by simp [alFull])
  · intro own pre x y w lp a hx hS hE
    obtain ⟨post, hx⟩ := hx
    exact absurd hx (by simp [alFull])
  · clear hS
    intro D w hS
    simp only [alBx, List.cons_append, List.nil_append] at hS
    have hS2 := (St.selD [4, 4, 0] 3 hS)
    clear hS; have hS := hS2; clear hS2
    repeat' (first

      | (with_reducible refine then_normal ?_)
      | (with_reducible refine block_normal ?_)
      | (with_reducible refine i_seq ?_)
      | ((with_reducible refine ig_region ?_); refine i_region rfl (fun _ _ h => h) ?_)
      | ((with_reducible refine g_move ?_); refine s_move hE rfl rfl ?_; clear hE a; intro a hE)
      | ((with_reducible refine g_bin .eql ?_); refine s_eql hE rfl rfl rfl ?_; clear hE a; intro a hE)
      | ((with_reducible refine g_guard ?_); refine gd_yes hE rfl rfl rfl ?_)
      | ((with_reducible refine g_pick ?_); refine s_pickT hE rfl rfl rfl ?_; clear hE a; intro a hE)
      | ((with_reducible refine g_bin .eql ?_); refine s_val hE rfl rfl rfl (r_eqp hE rfl rfl) ?_; clear hE a; intro a hE)
      )
    have hS2 : St w0 w [hBlk g4 4 [.bool false], hRow 5 1 A5 ys.length c5 (bys ys), hMarks [D]] := (St.selD [1, 0, 0] 0 hS)
    clear hS; have hS := hS2; clear hS2
    refine s_call hE rfl rfl rfl (appN A5 ys.length c5 w) ?_
    rintro _ w ⟨rfl, hS1⟩; clear hE a; intro a hE; replace hS := hS.frame hS1; clear hS1; try simp only [List.cons_append, List.nil_append] at hS
    repeat' (first

      | ((with_reducible refine g_move ?_); refine s_move hE rfl rfl ?_; clear hE a; intro a hE)
      | ((with_reducible refine g_bin .eql ?_); refine s_eql hE rfl rfl rfl ?_; clear hE a; intro a hE)
      | ((with_reducible refine g_guard ?_); refine gd_yes hE rfl rfl rfl ?_)
      | ((with_reducible refine g_pick ?_); refine s_pickT hE rfl rfl rfl ?_; clear hE a; intro a hE)
      )
    refine s_call hE rfl rfl rfl (chkN A5 ys.length c5 w) ?_
    rintro _ w ⟨rfl, hS1⟩; clear hE a; intro a hE; replace hS := hS.frame hS1; clear hS1; try simp only [List.cons_append, List.nil_append] at hS
    repeat' (first

      | ((with_reducible refine g_move ?_); refine s_move hE rfl rfl ?_; clear hE a; intro a hE)
      | ((with_reducible refine g_bin .eql ?_); refine s_eql hE rfl rfl rfl ?_; clear hE a; intro a hE)
      | ((with_reducible refine g_guard ?_); refine gd_yes hE rfl rfl rfl ?_)
      | ((with_reducible refine g_pick ?_); refine s_pickT hE rfl rfl rfl ?_; clear hE a; intro a hE)
      )
    refine s_call hE rfl rfl rfl (snapN w) ?_
    rintro _ w ⟨rfl, hS1⟩; clear hE a; intro a hE; replace hS := hS.frame hS1; clear hS1; try simp only [List.cons_append, List.nil_append] at hS
    repeat' (first

      | ((with_reducible refine g_move ?_); refine s_move hE rfl rfl ?_; clear hE a; intro a hE)
      | ((with_reducible refine g_bin .eql ?_); refine s_eql hE rfl rfl rfl ?_; clear hE a; intro a hE)
      | ((with_reducible refine g_blt .len ?_); refine s_len hE rfl rfl ?_; clear hE a; intro a hE)
      | ((with_reducible refine g_guard ?_); refine gd_yes hE rfl rfl rfl ?_)
      | ((with_reducible refine g_pick ?_); refine s_pickT hE rfl rfl rfl ?_; clear hE a; intro a hE)
      )
    refine s_call hE rfl rfl rfl (lenN w) ?_
    rintro _ w ⟨rfl, hS1⟩; clear hE a; intro a hE; replace hS := hS.frame hS1; clear hS1; try simp only [List.cons_append, List.nil_append] at hS
    repeat' (first

      | ((with_reducible refine g_move ?_); refine s_move hE rfl rfl ?_; clear hE a; intro a hE)
      | ((with_reducible refine g_bin .eql ?_); refine s_eql hE rfl rfl rfl ?_; clear hE a; intro a hE)
      | ((with_reducible refine g_guard ?_); refine gd_yes hE rfl rfl rfl ?_)
      | ((with_reducible refine g_pick ?_); refine s_pickT hE rfl rfl rfl ?_; clear hE a; intro a hE)
      )
    refine s_call hE rfl rfl rfl (leftN w) ?_
    rintro _ w ⟨rfl, hS1⟩; clear hE a; intro a hE; replace hS := hS.frame hS1; clear hS1; try simp only [List.cons_append, List.nil_append] at hS
    repeat' (first

      | ((with_reducible refine g_move ?_); refine s_move hE rfl rfl ?_; clear hE a; intro a hE)
      | ((with_reducible refine g_bin .eql ?_); refine s_eql hE rfl rfl rfl ?_; clear hE a; intro a hE)
      | ((with_reducible refine g_guard ?_); refine gd_yes hE rfl rfl rfl ?_)
      | ((with_reducible refine g_pick ?_); refine s_pickT hE rfl rfl rfl ?_; clear hE a; intro a hE)
      )
    refine s_call hE rfl rfl rfl (turnN w) ?_
    rintro _ w ⟨rfl, hS1⟩; clear hE a; intro a hE; replace hS := hS.frame hS1; clear hS1; try simp only [List.cons_append, List.nil_append] at hS
    repeat' (first

      | ((with_reducible refine g_move ?_); refine s_move hE rfl rfl ?_; clear hE a; intro a hE)
      | ((with_reducible refine g_bin .eql ?_); refine s_eql hE rfl rfl rfl ?_; clear hE a; intro a hE)
      | ((with_reducible refine g_guard ?_); refine gd_yes hE rfl rfl rfl ?_)
      | ((with_reducible refine g_pick ?_); refine s_pickT hE rfl rfl rfl ?_; clear hE a; intro a hE)
      )
    refine s_call hE rfl rfl rfl (brokenN w) ?_
    rintro _ w ⟨rfl, hS1⟩; clear hE a; intro a hE; replace hS := hS.frame hS1; clear hS1; try simp only [List.cons_append, List.nil_append] at hS
    repeat' (first

      | ((with_reducible refine g_move ?_); refine s_move hE rfl rfl ?_; clear hE a; intro a hE)
      | ((with_reducible refine g_un .not ?_); refine s_notb hE rfl rfl ?_; clear hE a; intro a hE)
      | ((with_reducible refine g_guard ?_); refine gd_yes hE rfl rfl rfl ?_)
      | ((with_reducible refine g_pick ?_); refine s_pickT hE rfl rfl rfl ?_; clear hE a; intro a hE)
      )
    refine s_call hE rfl rfl rfl (diskN w) ?_
    rintro _ w ⟨rfl, hS1⟩; clear hE a; intro a hE; replace hS := hS.frame hS1; clear hS1; try simp only [List.cons_append, List.nil_append] at hS
    repeat' (first

      | ((with_reducible refine g_move ?_); refine s_move hE rfl rfl ?_; clear hE a; intro a hE)
      | ((with_reducible refine g_guard ?_); refine gd_yes hE rfl rfl rfl ?_)
      | ((with_reducible refine g_pick ?_); refine s_pickT hE rfl rfl rfl ?_; clear hE a; intro a hE)
      | ((with_reducible refine g_bin .eql ?_); refine s_val hE rfl rfl rfl (r_eqp hE rfl rfl) ?_; clear hE a; intro a hE)
      )
    refine s_call hE rfl rfl rfl (bequal A5 A _ _ ys ys _ _ w (hS.rdAt (k := 1) rfl) (hr2.st hS) hyb hyb rfl rfl) ?_
    rintro _ w ⟨rfl, hS1⟩; clear hE a; intro a hE; replace hS := hS.frame hS1; clear hS1; try simp only [List.cons_append, List.nil_append] at hS
    rw [decide_eq_true (rfl : ys = ys)] at hE
    repeat' (first

      | (with_reducible refine wpList_nil ?_)
      | (with_reducible refine then_normal ?_)
      | (with_reducible refine i_ret ?_)
      | ((with_reducible refine g_pick ?_); refine s_pickT hE rfl rfl rfl ?_; clear hE a; intro a hE)
      | ((with_reducible refine g_store ?_); (first | (refine s_storeB (k := 0) hS hE rfl rfl rfl rfl rfl rfl ?_) ); clear hS; intro w hS; simp only [List.set_cons_zero, List.set_cons_succ, Nat.add_zero] at hS)
      )
    exact im_retG (vs := [_]) hE [D] (hS.focus (k := 2) rfl) rfl fun w' hS' => ⟨⟨⟨_, rfl, res_1 (k := 0) hS' rfl⟩, trivial⟩, rfl, hS'.nil⟩
  · intro j D pre x post w hx hS
    exact absurd hx (by simp [alFull])
end
end Go.Proofs.Ytfoeelghehjanaa
