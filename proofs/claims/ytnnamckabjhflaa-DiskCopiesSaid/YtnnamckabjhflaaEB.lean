/-
  Contracts of the document's disk: is an operation asked, is it done, what a sector holds, reading, arming, failing.
-/
import Derived.Test.YtnnamckabjhflaaEA
namespace Go.Proofs.Ytnnamckabjhflaa
open Go.RowKit
set_option linter.unusedVariables false
set_option linter.unusedSimpArgs false
attribute [local irreducible] Rd hRow hBlk hRd hAll Fn hMarks
attribute [local simp] Wr.cells Opn.cells

abbrev RM.cells (R : RM) (S : Option Addr) (c : Nat) (Q : Option Addr) (d : Nat) : List Value :=
  [.slice S R.safe.length c, .slice Q R.pend.length d, .bool R.dead, .int .i64 R.left, .int .i64 R.fails, .int .i64 R.ops]
section
variable {S : Option Addr} {c : Nat} {Q : Option Addr} {d : Nat} {R : RM} {H : List HP} {w0 w : World}
set_option maxHeartbeats 8000000
theorem rasked (hR : R.ok) (i : Int) (w0 : World) : Fn Try.prog 42 [.agg (R.cells S c Q d).toArray, .int .i64 i] w0 fun v w' => v = .tuple #[.agg ((R.asked i).1.cells S c Q d).toArray, .int .i64 (R.asked i).2] ∧ St w0 w' [] := by
  obtain ⟨h1, h2, h3, h4, h5, h6, h7⟩ := hR
  obtain ⟨sf, pd, de, lf, fl, op⟩ := R
  dsimp only [RM.cells]
  refine enter 36 Try.func42 rfl rfl rfl ?_
  dsimp only at h1 h2 h3 h4 h5 h6 h7
  intro a hE
  have hS := St.start w0
  cases de
  · by_cases hc : i < 0 ∨ (sf.length : Int) ≤ i
    · have e : RM.asked (⟨sf, pd, false, lf, fl, op⟩ : RM) i = ((⟨sf, pd, false, lf, fl, op⟩ : RM), 2) := by unfold RM.asked; dsimp only; rw [if_neg (show ¬ (false = true) by decide), if_pos hc]
      rw [e]
      repeat' (first

        | (with_reducible refine wp_seq ?_)
        | (with_reducible refine c_region ?_)
        | (with_reducible refine wpList_nil ?_)
        | (with_reducible refine then_normal ?_)
        | (with_reducible refine wp_ret ?_)
        | (with_reducible refine then_ret ?_)
        | (with_reducible refine wp_block ?_)
        | (with_reducible refine block_ret ?_)
        | ((with_reducible refine g_move ?_); refine s_move hE rfl rfl ?_; clear hE a; intro a hE)
        | ((with_reducible refine g_assign ?_); refine s_assign hE rfl rfl ?_; clear hE a; intro a hE)
        | ((with_reducible refine g_bin .lss ?_); refine s_lss hE rfl rfl rfl ?_; clear hE a; intro a hE)
        | ((with_reducible refine g_bin .geq ?_); refine s_geq hE rfl rfl rfl ?_; clear hE a; intro a hE)
        | ((with_reducible refine g_blt .len ?_); refine s_len hE rfl rfl ?_; clear hE a; intro a hE)
        | ((with_reducible refine g_fa ?_); refine s_fieldL hE rfl rfl rfl ?_; clear hE a; intro a hE)
        | ((with_reducible refine g_guard ?_); refine gd_yes hE rfl rfl rfl ?_)
        | ((with_reducible refine g_guard ?_); refine gd_no hE rfl rfl rfl rfl ?_; clear hE a; intro a hE)
        | ((with_reducible refine g_guard ?_); refine gd_dec hE rfl rfl (fun hc hE2 => ?_) (fun hc hE2 => ?_) <;> (try omega) <;> (replace hE := hE2; clear hE2))
        | ((with_reducible refine g_pick ?_); refine s_pickT hE rfl rfl rfl ?_; clear hE a; intro a hE)
        | ((with_reducible refine g_pick ?_); refine s_pickF hE rfl rfl rfl ?_; clear hE a; intro a hE)
        | ((with_reducible refine g_cond ?_); refine c_true hE rfl ?_)
        | ((with_reducible refine g_cond ?_); refine c_false hE rfl ?_)
        | ((with_reducible refine g_cond ?_); refine c_dec hE rfl (fun hc => ?_) (fun hc => ?_) <;> try omega)
        | ((with_reducible refine g_load ?_); (first | (refine s_loadB (k := 1) hS hE rfl rfl rfl rfl ?_) ); clear hE a; intro a hE)
        | ((with_reducible refine g_alloc ?_); refine s_allocS hE hS rfl rfl ?_; clear hE a hS; intro g a w hE hS)
        | ((with_reducible refine g_box ?_); refine s_boxS hE hS rfl rfl ?_; clear hE a hS; intro g a w hE hS)
        | ((with_reducible refine g_load ?_); (first | (refine s_loadW (k := 1) hS hE rfl rfl rfl rfl ?_) ); clear hE a; intro a hE)
        | ((with_reducible refine g_store ?_); (first | (refine s_storeW (k := 0) hS hE rfl rfl rfl rfl rfl (by first | (simp [Value.oneCell']; done)) ?_) ); clear hS; intro w hS; simp only [List.set_cons_zero, List.set_cons_succ, Nat.add_zero] at hS)
        )
      all_goals exact retG (vs := [_, _]) hE rfl ⟨⟨_, rfl, res_W (k := 0) hS rfl rfl⟩, rfl, trivial⟩ ⟨rfl, hS.nil⟩
    · by_cases hf : fl = 0
      · have e : RM.asked (⟨sf, pd, false, lf, fl, op⟩ : RM) i = ({ (⟨sf, pd, false, lf, fl, op⟩ : RM) with fails := -1 }, 8) := by unfold RM.asked; dsimp only; rw [if_neg (show ¬ (false = true) by decide), if_neg hc, if_pos hf]
        rw [e]
        repeat' (first

          | (with_reducible refine wp_seq ?_)
          | (with_reducible refine c_region ?_)
          | (with_reducible refine wpList_nil ?_)
          | (with_reducible refine then_normal ?_)
          | (with_reducible refine wp_ret ?_)
          | (with_reducible refine then_ret ?_)
          | (with_reducible refine wp_block ?_)
          | (with_reducible refine block_ret ?_)
          | ((with_reducible refine g_move ?_); refine s_move hE rfl rfl ?_; clear hE a; intro a hE)
          | ((with_reducible refine g_assign ?_); refine s_assign hE rfl rfl ?_; clear hE a; intro a hE)
          | ((with_reducible refine g_bin .lss ?_); refine s_lss hE rfl rfl rfl ?_; clear hE a; intro a hE)
          | ((with_reducible refine g_bin .geq ?_); refine s_geq hE rfl rfl rfl ?_; clear hE a; intro a hE)
          | ((with_reducible refine g_bin .eql ?_); refine s_eql hE rfl rfl rfl ?_; clear hE a; intro a hE)
          | ((with_reducible refine g_blt .len ?_); refine s_len hE rfl rfl ?_; clear hE a; intro a hE)
          | ((with_reducible refine g_fa ?_); refine s_fieldL hE rfl rfl rfl ?_; clear hE a; intro a hE)
          | ((with_reducible refine g_guard ?_); refine gd_yes hE rfl rfl rfl ?_)
          | ((with_reducible refine g_guard ?_); refine gd_dec hE rfl rfl (fun hc hE2 => ?_) (fun hc hE2 => ?_) <;> (try omega) <;> (replace hE := hE2; clear hE2))
          | ((with_reducible refine g_pick ?_); refine s_pickF hE rfl rfl rfl ?_; clear hE a; intro a hE)
          | ((with_reducible refine g_cond ?_); refine c_false hE rfl ?_)
          | ((with_reducible refine g_cond ?_); refine c_dec hE rfl (fun hc => ?_) (fun hc => ?_) <;> try omega)
          | ((with_reducible refine g_load ?_); (first | (refine s_loadB (k := 1) hS hE rfl rfl rfl rfl ?_) ); clear hE a; intro a hE)
          | ((with_reducible refine g_store ?_); (first | (refine s_storeB (k := 1) hS hE rfl rfl rfl rfl rfl rfl ?_) ); clear hS; intro w hS; simp only [List.set_cons_zero, List.set_cons_succ, Nat.add_zero] at hS)
          | ((with_reducible refine g_alloc ?_); refine s_allocS hE hS rfl rfl ?_; clear hE a hS; intro g a w hE hS)
          | ((with_reducible refine g_box ?_); refine s_boxS hE hS rfl rfl ?_; clear hE a hS; intro g a w hE hS)
          | ((with_reducible refine g_load ?_); (first | (refine s_loadW (k := 1) hS hE rfl rfl rfl rfl ?_) ); clear hE a; intro a hE)
          | ((with_reducible refine g_store ?_); (first | (refine s_storeW (k := 0) hS hE rfl rfl rfl rfl rfl (by first | (simp [Value.oneCell']; done)) ?_) ); clear hS; intro w hS; simp only [List.set_cons_zero, List.set_cons_succ, Nat.add_zero] at hS)
          )
        all_goals exact retG (vs := [_, _]) hE rfl ⟨⟨_, rfl, res_W (k := 0) hS rfl rfl⟩, rfl, trivial⟩ ⟨rfl, hS.nil⟩
      · by_cases hf2 : 0 < fl
        · have e : RM.asked (⟨sf, pd, false, lf, fl, op⟩ : RM) i = ({ (⟨sf, pd, false, lf, fl, op⟩ : RM) with fails := fl - 1 }, 0) := by unfold RM.asked; dsimp only; rw [if_neg (show ¬ (false = true) by decide), if_neg hc, if_neg hf, if_pos hf2]
          rw [e]
          repeat' (first

            | (with_reducible refine wp_seq ?_)
            | (with_reducible refine c_region ?_)
            | (with_reducible refine wpList_nil ?_)
            | (with_reducible refine then_normal ?_)
            | (with_reducible refine wp_ret ?_)
            | (with_reducible refine wp_block ?_)
            | (with_reducible refine block_normal ?_)
            | ((with_reducible refine g_move ?_); refine s_move hE rfl rfl ?_; clear hE a; intro a hE)
            | ((with_reducible refine g_assign ?_); refine s_assign hE rfl rfl ?_; clear hE a; intro a hE)
            | ((with_reducible refine g_bin .lss ?_); refine s_lss hE rfl rfl rfl ?_; clear hE a; intro a hE)
            | ((with_reducible refine g_bin .gtr ?_); refine s_gtr hE rfl rfl rfl ?_; clear hE a; intro a hE)
            | ((with_reducible refine g_bin .geq ?_); refine s_geq hE rfl rfl rfl ?_; clear hE a; intro a hE)
            | ((with_reducible refine g_bin .eql ?_); refine s_eql hE rfl rfl rfl ?_; clear hE a; intro a hE)
            | ((with_reducible refine g_bin .sub ?_); refine s_sub hE rfl rfl rfl (by first  | exact wrap64_in (by omega) ) ?_; clear hE a; intro a hE)
            | ((with_reducible refine g_blt .len ?_); refine s_len hE rfl rfl ?_; clear hE a; intro a hE)
            | ((with_reducible refine g_fa ?_); refine s_fieldL hE rfl rfl rfl ?_; clear hE a; intro a hE)
            | ((with_reducible refine g_guard ?_); refine gd_yes hE rfl rfl rfl ?_)
            | ((with_reducible refine g_guard ?_); refine gd_dec hE rfl rfl (fun hc hE2 => ?_) (fun hc hE2 => ?_) <;> (try omega) <;> (replace hE := hE2; clear hE2))
            | ((with_reducible refine g_pick ?_); refine s_pickF hE rfl rfl rfl ?_; clear hE a; intro a hE)
            | ((with_reducible refine g_cond ?_); refine c_false hE rfl ?_)
            | ((with_reducible refine g_cond ?_); refine c_dec hE rfl (fun hc => ?_) (fun hc => ?_) <;> try omega)
            | ((with_reducible refine g_load ?_); (first | (refine s_loadB (k := 1) hS hE rfl rfl rfl rfl ?_) ); clear hE a; intro a hE)
            | ((with_reducible refine g_store ?_); (first | (refine s_storeB (k := 1) hS hE rfl rfl rfl rfl rfl rfl ?_) ); clear hS; intro w hS; simp only [List.set_cons_zero, List.set_cons_succ, Nat.add_zero] at hS)
            | ((with_reducible refine g_alloc ?_); refine s_allocS hE hS rfl rfl ?_; clear hE a hS; intro g a w hE hS)
            | ((with_reducible refine g_box ?_); refine s_boxS hE hS rfl rfl ?_; clear hE a hS; intro g a w hE hS)
            | ((with_reducible refine g_load ?_); (first | (refine s_loadW (k := 1) hS hE rfl rfl rfl rfl ?_) ); clear hE a; intro a hE)
            | ((with_reducible refine g_store ?_); (first | (refine s_storeW (k := 0) hS hE rfl rfl rfl rfl rfl (by first | (simp [Value.oneCell']; done)) ?_) ); clear hS; intro w hS; simp only [List.set_cons_zero, List.set_cons_succ, Nat.add_zero] at hS)
            )
          all_goals exact retG (vs := [_, _]) hE rfl ⟨⟨_, rfl, res_W (k := 0) hS rfl rfl⟩, rfl, trivial⟩ ⟨rfl, hS.nil⟩
        · have e : RM.asked (⟨sf, pd, false, lf, fl, op⟩ : RM) i = ((⟨sf, pd, false, lf, fl, op⟩ : RM), 0) := by unfold RM.asked; dsimp only; rw [if_neg (show ¬ (false = true) by decide), if_neg hc, if_neg hf, if_neg hf2]
          rw [e]
          repeat' (first

            | (with_reducible refine wp_seq ?_)
            | (with_reducible refine c_region ?_)
            | (with_reducible refine wpList_nil ?_)
            | (with_reducible refine then_normal ?_)
            | (with_reducible refine wp_skip ?_)
            | (with_reducible refine wp_ret ?_)
            | (with_reducible refine wp_block ?_)
            | (with_reducible refine block_normal ?_)
            | ((with_reducible refine g_move ?_); refine s_move hE rfl rfl ?_; clear hE a; intro a hE)
            | ((with_reducible refine g_assign ?_); refine s_assign hE rfl rfl ?_; clear hE a; intro a hE)
            | ((with_reducible refine g_bin .lss ?_); refine s_lss hE rfl rfl rfl ?_; clear hE a; intro a hE)
            | ((with_reducible refine g_bin .gtr ?_); refine s_gtr hE rfl rfl rfl ?_; clear hE a; intro a hE)
            | ((with_reducible refine g_bin .geq ?_); refine s_geq hE rfl rfl rfl ?_; clear hE a; intro a hE)
            | ((with_reducible refine g_bin .eql ?_); refine s_eql hE rfl rfl rfl ?_; clear hE a; intro a hE)
            | ((with_reducible refine g_blt .len ?_); refine s_len hE rfl rfl ?_; clear hE a; intro a hE)
            | ((with_reducible refine g_fa ?_); refine s_fieldL hE rfl rfl rfl ?_; clear hE a; intro a hE)
            | ((with_reducible refine g_guard ?_); refine gd_yes hE rfl rfl rfl ?_)
            | ((with_reducible refine g_guard ?_); refine gd_dec hE rfl rfl (fun hc hE2 => ?_) (fun hc hE2 => ?_) <;> (try omega) <;> (replace hE := hE2; clear hE2))
            | ((with_reducible refine g_pick ?_); refine s_pickF hE rfl rfl rfl ?_; clear hE a; intro a hE)
            | ((with_reducible refine g_cond ?_); refine c_false hE rfl ?_)
            | ((with_reducible refine g_cond ?_); refine c_dec hE rfl (fun hc => ?_) (fun hc => ?_) <;> try omega)
            | ((with_reducible refine g_load ?_); (first | (refine s_loadB (k := 1) hS hE rfl rfl rfl rfl ?_) ); clear hE a; intro a hE)
            | ((with_reducible refine g_alloc ?_); refine s_allocS hE hS rfl rfl ?_; clear hE a hS; intro g a w hE hS)
            | ((with_reducible refine g_box ?_); refine s_boxS hE hS rfl rfl ?_; clear hE a hS; intro g a w hE hS)
            | ((with_reducible refine g_load ?_); (first | (refine s_loadW (k := 1) hS hE rfl rfl rfl rfl ?_) ); clear hE a; intro a hE)
            | ((with_reducible refine g_store ?_); (first | (refine s_storeW (k := 0) hS hE rfl rfl rfl rfl rfl (by first | (simp [Value.oneCell']; done)) ?_) ); clear hS; intro w hS; simp only [List.set_cons_zero, List.set_cons_succ, Nat.add_zero] at hS)
            )
          all_goals exact retG (vs := [_, _]) hE rfl ⟨⟨_, rfl, res_W (k := 0) hS rfl rfl⟩, rfl, trivial⟩ ⟨rfl, hS.nil⟩
  · have e : RM.asked (⟨sf, pd, true, lf, fl, op⟩ : RM) i = ((⟨sf, pd, true, lf, fl, op⟩ : RM), 9) := by rfl
    rw [e]
    repeat' (first

      | (with_reducible refine wp_seq ?_)
      | (with_reducible refine c_region ?_)
      | (with_reducible refine wpList_nil ?_)
      | (with_reducible refine then_normal ?_)
      | (with_reducible refine wp_ret ?_)
      | (with_reducible refine then_ret ?_)
      | (with_reducible refine wp_block ?_)
      | (with_reducible refine block_ret ?_)
      | ((with_reducible refine g_assign ?_); refine s_assign hE rfl rfl ?_; clear hE a; intro a hE)
      | ((with_reducible refine g_fa ?_); refine s_fieldL hE rfl rfl rfl ?_; clear hE a; intro a hE)
      | ((with_reducible refine g_cond ?_); refine c_true hE rfl ?_)
      | ((with_reducible refine g_load ?_); (first | (refine s_loadB (k := 1) hS hE rfl rfl rfl rfl ?_) ); clear hE a; intro a hE)
      | ((with_reducible refine g_alloc ?_); refine s_allocS hE hS rfl rfl ?_; clear hE a hS; intro g a w hE hS)
      | ((with_reducible refine g_box ?_); refine s_boxS hE hS rfl rfl ?_; clear hE a hS; intro g a w hE hS)
      | ((with_reducible refine g_load ?_); (first | (refine s_loadW (k := 1) hS hE rfl rfl rfl rfl ?_) ); clear hE a; intro a hE)
      | ((with_reducible refine g_store ?_); (first | (refine s_storeW (k := 0) hS hE rfl rfl rfl rfl rfl (by first | (simp [Value.oneCell']; done)) ?_) ); clear hS; intro w hS; simp only [List.set_cons_zero, List.set_cons_succ, Nat.add_zero] at hS)
      )
    all_goals exact retG (vs := [_, _]) hE rfl ⟨⟨_, rfl, res_W (k := 0) hS rfl rfl⟩, rfl, trivial⟩ ⟨rfl, hS.nil⟩
theorem rdone (hR : R.ok) (ho : R.ops < 4611686018427387904) (w0 : World) : Fn Try.prog 53 [.agg (R.cells S c Q d).toArray] w0 fun v w' => v = .tuple #[.agg (R.done.1.cells S c Q d).toArray, .bool R.done.2] ∧ St w0 w' [] := by
  obtain ⟨h1, h2, h3, h4, h5, h6, h7⟩ := hR
  obtain ⟨sf, pd, de, lf, fl, op⟩ := R
  dsimp only [RM.cells]
  refine enter 21 Try.func53 rfl rfl rfl ?_
  dsimp only at h1 h2 h3 h4 h5 h6 h7 ho
  intro a hE
  have hS := St.start w0
  by_cases h0 : lf = 0
  · have e : RM.done (⟨sf, pd, de, lf, fl, op⟩ : RM) = ({ (⟨sf, pd, de, lf, fl, op⟩ : RM) with dead := true }, false) := by unfold RM.done; dsimp only; rw [if_pos h0]
    rw [e]
    repeat' (first

      | (with_reducible refine wp_seq ?_)
      | (with_reducible refine c_region ?_)
      | (with_reducible refine wpList_nil ?_)
      | (with_reducible refine then_normal ?_)
      | (with_reducible refine wp_ret ?_)
      | (with_reducible refine then_ret ?_)
      | ((with_reducible refine g_assign ?_); refine s_assign hE rfl rfl ?_; clear hE a; intro a hE)
      | ((with_reducible refine g_bin .eql ?_); refine s_eql hE rfl rfl rfl ?_; clear hE a; intro a hE)
      | ((with_reducible refine g_fa ?_); refine s_fieldL hE rfl rfl rfl ?_; clear hE a; intro a hE)
      | ((with_reducible refine g_cond ?_); refine c_dec hE rfl (fun hc => ?_) (fun hc => ?_) <;> try omega)
      | ((with_reducible refine g_load ?_); (first | (refine s_loadB (k := 1) hS hE rfl rfl rfl rfl ?_) ); clear hE a; intro a hE)
      | ((with_reducible refine g_store ?_); (first | (refine s_storeB (k := 1) hS hE rfl rfl rfl rfl rfl rfl ?_) ); clear hS; intro w hS; simp only [List.set_cons_zero, List.set_cons_succ, Nat.add_zero] at hS)
      | ((with_reducible refine g_alloc ?_); refine s_allocS hE hS rfl rfl ?_; clear hE a hS; intro g a w hE hS)
      | ((with_reducible refine g_box ?_); refine s_boxS hE hS rfl rfl ?_; clear hE a hS; intro g a w hE hS)
      | ((with_reducible refine g_load ?_); (first | (refine s_loadW (k := 1) hS hE rfl rfl rfl rfl ?_) ); clear hE a; intro a hE)
      | ((with_reducible refine g_store ?_); (first | (refine s_storeW (k := 0) hS hE rfl rfl rfl rfl rfl (by first | (simp [Value.oneCell']; done)) ?_) ); clear hS; intro w hS; simp only [List.set_cons_zero, List.set_cons_succ, Nat.add_zero] at hS)
      )
    all_goals exact retG (vs := [_, _]) hE rfl ⟨⟨_, rfl, res_W (k := 0) hS rfl rfl⟩, rfl, trivial⟩ ⟨rfl, hS.nil⟩
  · by_cases h1 : 0 < lf
    · have e : RM.done (⟨sf, pd, de, lf, fl, op⟩ : RM) = ({ (⟨sf, pd, de, lf, fl, op⟩ : RM) with left := lf - 1, ops := op + 1 }, true) := by unfold RM.done; dsimp only; rw [if_neg h0, if_pos h1]
      rw [e]
      repeat' (first

        | (with_reducible refine wp_seq ?_)
        | (with_reducible refine c_region ?_)
        | (with_reducible refine wpList_nil ?_)
        | (with_reducible refine then_normal ?_)
        | (with_reducible refine wp_skip ?_)
        | (with_reducible refine wp_ret ?_)
        | ((with_reducible refine g_assign ?_); refine s_assign hE rfl rfl ?_; clear hE a; intro a hE)
        | ((with_reducible refine g_bin .gtr ?_); refine s_gtr hE rfl rfl rfl ?_; clear hE a; intro a hE)
        | ((with_reducible refine g_bin .eql ?_); refine s_eql hE rfl rfl rfl ?_; clear hE a; intro a hE)
        | ((with_reducible refine g_bin .add ?_); refine s_add hE rfl rfl rfl (by first  | exact wrap64_in (by omega) ) ?_; clear hE a; intro a hE)
        | ((with_reducible refine g_bin .sub ?_); refine s_sub hE rfl rfl rfl (by first  | exact wrap64_in (by omega) ) ?_; clear hE a; intro a hE)
        | ((with_reducible refine g_fa ?_); refine s_fieldL hE rfl rfl rfl ?_; clear hE a; intro a hE)
        | ((with_reducible refine g_cond ?_); refine c_dec hE rfl (fun hc => ?_) (fun hc => ?_) <;> try omega)
        | ((with_reducible refine g_load ?_); (first | (refine s_loadB (k := 1) hS hE rfl rfl rfl rfl ?_) ); clear hE a; intro a hE)
        | ((with_reducible refine g_store ?_); (first | (refine s_storeB (k := 1) hS hE rfl rfl rfl rfl rfl rfl ?_) ); clear hS; intro w hS; simp only [List.set_cons_zero, List.set_cons_succ, Nat.add_zero] at hS)
        | ((with_reducible refine g_alloc ?_); refine s_allocS hE hS rfl rfl ?_; clear hE a hS; intro g a w hE hS)
        | ((with_reducible refine g_box ?_); refine s_boxS hE hS rfl rfl ?_; clear hE a hS; intro g a w hE hS)
        | ((with_reducible refine g_load ?_); (first | (refine s_loadW (k := 1) hS hE rfl rfl rfl rfl ?_) ); clear hE a; intro a hE)
        | ((with_reducible refine g_store ?_); (first | (refine s_storeW (k := 0) hS hE rfl rfl rfl rfl rfl (by first | (simp [Value.oneCell']; done)) ?_) ); clear hS; intro w hS; simp only [List.set_cons_zero, List.set_cons_succ, Nat.add_zero] at hS)
        )
      all_goals exact retG (vs := [_, _]) hE rfl ⟨⟨_, rfl, res_W (k := 0) hS rfl rfl⟩, rfl, trivial⟩ ⟨rfl, hS.nil⟩
    · have e : RM.done (⟨sf, pd, de, lf, fl, op⟩ : RM) = ({ (⟨sf, pd, de, lf, fl, op⟩ : RM) with ops := op + 1 }, true) := by unfold RM.done; dsimp only; rw [if_neg h0, if_neg h1]
      rw [e]
      repeat' (first

        | (with_reducible refine wp_seq ?_)
        | (with_reducible refine c_region ?_)
        | (with_reducible refine wpList_nil ?_)
        | (with_reducible refine then_normal ?_)
        | (with_reducible refine wp_skip ?_)
        | (with_reducible refine wp_ret ?_)
        | ((with_reducible refine g_assign ?_); refine s_assign hE rfl rfl ?_; clear hE a; intro a hE)
        | ((with_reducible refine g_bin .gtr ?_); refine s_gtr hE rfl rfl rfl ?_; clear hE a; intro a hE)
        | ((with_reducible refine g_bin .eql ?_); refine s_eql hE rfl rfl rfl ?_; clear hE a; intro a hE)
        | ((with_reducible refine g_bin .add ?_); refine s_add hE rfl rfl rfl (by first  | exact wrap64_in (by omega) ) ?_; clear hE a; intro a hE)
        | ((with_reducible refine g_fa ?_); refine s_fieldL hE rfl rfl rfl ?_; clear hE a; intro a hE)
        | ((with_reducible refine g_cond ?_); refine c_dec hE rfl (fun hc => ?_) (fun hc => ?_) <;> try omega)
        | ((with_reducible refine g_load ?_); (first | (refine s_loadB (k := 1) hS hE rfl rfl rfl rfl ?_) ); clear hE a; intro a hE)
        | ((with_reducible refine g_store ?_); (first | (refine s_storeB (k := 1) hS hE rfl rfl rfl rfl rfl rfl ?_) ); clear hS; intro w hS; simp only [List.set_cons_zero, List.set_cons_succ, Nat.add_zero] at hS)
        | ((with_reducible refine g_alloc ?_); refine s_allocS hE hS rfl rfl ?_; clear hE a hS; intro g a w hE hS)
        | ((with_reducible refine g_box ?_); refine s_boxS hE hS rfl rfl ?_; clear hE a hS; intro g a w hE hS)
        | ((with_reducible refine g_load ?_); (first | (refine s_loadW (k := 1) hS hE rfl rfl rfl rfl ?_) ); clear hE a; intro a hE)
        | ((with_reducible refine g_store ?_); (first | (refine s_storeW (k := 0) hS hE rfl rfl rfl rfl rfl (by first | (simp [Value.oneCell']; done)) ?_) ); clear hS; intro w hS; simp only [List.set_cons_zero, List.set_cons_succ, Nat.add_zero] at hS)
        )
      all_goals exact retG (vs := [_, _]) hE rfl ⟨⟨_, rfl, res_W (k := 0) hS rfl rfl⟩, rfl, trivial⟩ ⟨rfl, hS.nil⟩
theorem rarm (n : Int) (hn : -9223372036854775808 ≤ n ∧ n ≤ 9223372036854775807) (w0 : World) : Fn Try.prog 37 [.agg (R.cells S c Q d).toArray, .int .i64 n] w0 fun v w' => v = .tuple #[.agg ((R.arm n).1.cells S c Q d).toArray, .int .i64 (R.arm n).2] ∧ St w0 w' [] := by
  obtain ⟨sf, pd, de, lf, fl, op⟩ := R
  dsimp only [RM.cells]
  refine enter 13 Try.func37 rfl rfl rfl ?_
  intro a hE
  have hS := St.start w0
  cases de
  · have e : RM.arm (⟨sf, pd, false, lf, fl, op⟩ : RM) n = ({ (⟨sf, pd, false, lf, fl, op⟩ : RM) with left := if n < -1 then -1 else n }, 0) := by rfl
    rw [e]
    repeat' (first

      | (with_reducible refine wp_seq ?_)
      | (with_reducible refine c_region ?_)
      | (with_reducible refine wpList_nil ?_)
      | (with_reducible refine then_normal ?_)
      | (with_reducible refine wp_skip ?_)
      | (with_reducible refine wp_ret ?_)
      | ((with_reducible refine g_move ?_); refine s_move hE rfl rfl ?_; clear hE a; intro a hE)
      | ((with_reducible refine g_assign ?_); refine s_assign hE rfl rfl ?_; clear hE a; intro a hE)
      | ((with_reducible refine g_blt .max ?_); refine s_max hE rfl rfl rfl (by first  | rfl) ?_; clear hE a; intro a hE)
      | ((with_reducible refine g_fa ?_); refine s_fieldL hE rfl rfl rfl ?_; clear hE a; intro a hE)
      | ((with_reducible refine g_cond ?_); refine c_false hE rfl ?_)
      | ((with_reducible refine g_load ?_); (first | (refine s_loadB (k := 1) hS hE rfl rfl rfl rfl ?_) ); clear hE a; intro a hE)
      | ((with_reducible refine g_store ?_); (first | (refine s_storeB (k := 1) hS hE rfl rfl rfl rfl rfl rfl ?_) ); clear hS; intro w hS; simp only [List.set_cons_zero, List.set_cons_succ, Nat.add_zero] at hS)
      | ((with_reducible refine g_alloc ?_); refine s_allocS hE hS rfl rfl ?_; clear hE a hS; intro g a w hE hS)
      | ((with_reducible refine g_box ?_); refine s_boxS hE hS rfl rfl ?_; clear hE a hS; intro g a w hE hS)
      | ((with_reducible refine g_load ?_); (first | (refine s_loadW (k := 1) hS hE rfl rfl rfl rfl ?_) ); clear hE a; intro a hE)
      | ((with_reducible refine g_store ?_); (first | (refine s_storeW (k := 0) hS hE rfl rfl rfl rfl rfl (by first | (simp [Value.oneCell']; done)) ?_) ); clear hS; intro w hS; simp only [List.set_cons_zero, List.set_cons_succ, Nat.add_zero] at hS)
      )
    all_goals exact retG (vs := [_, _]) hE rfl ⟨⟨_, rfl, res_W (k := 0) hS rfl rfl⟩, rfl, trivial⟩ ⟨rfl, hS.nil⟩
  · have e : RM.arm (⟨sf, pd, true, lf, fl, op⟩ : RM) n = ((⟨sf, pd, true, lf, fl, op⟩ : RM), 9) := by rfl
    rw [e]
    repeat' (first

      | (with_reducible refine wp_seq ?_)
      | (with_reducible refine c_region ?_)
      | (with_reducible refine wpList_nil ?_)
      | (with_reducible refine then_normal ?_)
      | (with_reducible refine wp_ret ?_)
      | (with_reducible refine then_ret ?_)
      | ((with_reducible refine g_assign ?_); refine s_assign hE rfl rfl ?_; clear hE a; intro a hE)
      | ((with_reducible refine g_fa ?_); refine s_fieldL hE rfl rfl rfl ?_; clear hE a; intro a hE)
      | ((with_reducible refine g_cond ?_); refine c_true hE rfl ?_)
      | ((with_reducible refine g_load ?_); (first | (refine s_loadB (k := 1) hS hE rfl rfl rfl rfl ?_) ); clear hE a; intro a hE)
      | ((with_reducible refine g_alloc ?_); refine s_allocS hE hS rfl rfl ?_; clear hE a hS; intro g a w hE hS)
      | ((with_reducible refine g_box ?_); refine s_boxS hE hS rfl rfl ?_; clear hE a hS; intro g a w hE hS)
      | ((with_reducible refine g_load ?_); (first | (refine s_loadW (k := 1) hS hE rfl rfl rfl rfl ?_) ); clear hE a; intro a hE)
      | ((with_reducible refine g_store ?_); (first | (refine s_storeW (k := 0) hS hE rfl rfl rfl rfl rfl (by first | (simp [Value.oneCell']; done)) ?_) ); clear hS; intro w hS; simp only [List.set_cons_zero, List.set_cons_succ, Nat.add_zero] at hS)
      )
    all_goals exact retG (vs := [_, _]) hE rfl ⟨⟨_, rfl, res_W (k := 0) hS rfl rfl⟩, rfl, trivial⟩ ⟨rfl, hS.nil⟩
theorem rfail (n : Int) (hn : -9223372036854775808 ≤ n ∧ n ≤ 9223372036854775807) (w0 : World) : Fn Try.prog 38 [.agg (R.cells S c Q d).toArray, .int .i64 n] w0 fun v w' => v = .tuple #[.agg ((R.fail n).1.cells S c Q d).toArray, .int .i64 (R.fail n).2] ∧ St w0 w' [] := by
  obtain ⟨sf, pd, de, lf, fl, op⟩ := R
  dsimp only [RM.cells]
  refine enter 13 Try.func38 rfl rfl rfl ?_
  intro a hE
  have hS := St.start w0
  cases de
  · have e : RM.fail (⟨sf, pd, false, lf, fl, op⟩ : RM) n = ({ (⟨sf, pd, false, lf, fl, op⟩ : RM) with fails := if n < -1 then -1 else n }, 0) := by rfl
    rw [e]
    repeat' (first

      | (with_reducible refine wp_seq ?_)
      | (with_reducible refine c_region ?_)
      | (with_reducible refine wpList_nil ?_)
      | (with_reducible refine then_normal ?_)
      | (with_reducible refine wp_skip ?_)
      | (with_reducible refine wp_ret ?_)
      | ((with_reducible refine g_move ?_); refine s_move hE rfl rfl ?_; clear hE a; intro a hE)
      | ((with_reducible refine g_assign ?_); refine s_assign hE rfl rfl ?_; clear hE a; intro a hE)
      | ((with_reducible refine g_blt .max ?_); refine s_max hE rfl rfl rfl (by first  | rfl) ?_; clear hE a; intro a hE)
      | ((with_reducible refine g_fa ?_); refine s_fieldL hE rfl rfl rfl ?_; clear hE a; intro a hE)
      | ((with_reducible refine g_cond ?_); refine c_false hE rfl ?_)
      | ((with_reducible refine g_load ?_); (first | (refine s_loadB (k := 1) hS hE rfl rfl rfl rfl ?_) ); clear hE a; intro a hE)
      | ((with_reducible refine g_store ?_); (first | (refine s_storeB (k := 1) hS hE rfl rfl rfl rfl rfl rfl ?_) ); clear hS; intro w hS; simp only [List.set_cons_zero, List.set_cons_succ, Nat.add_zero] at hS)
      | ((with_reducible refine g_alloc ?_); refine s_allocS hE hS rfl rfl ?_; clear hE a hS; intro g a w hE hS)
      | ((with_reducible refine g_box ?_); refine s_boxS hE hS rfl rfl ?_; clear hE a hS; intro g a w hE hS)
      | ((with_reducible refine g_load ?_); (first | (refine s_loadW (k := 1) hS hE rfl rfl rfl rfl ?_) ); clear hE a; intro a hE)
      | ((with_reducible refine g_store ?_); (first | (refine s_storeW (k := 0) hS hE rfl rfl rfl rfl rfl (by first | (simp [Value.oneCell']; done)) ?_) ); clear hS; intro w hS; simp only [List.set_cons_zero, List.set_cons_succ, Nat.add_zero] at hS)
      )
    all_goals exact retG (vs := [_, _]) hE rfl ⟨⟨_, rfl, res_W (k := 0) hS rfl rfl⟩, rfl, trivial⟩ ⟨rfl, hS.nil⟩
  · have e : RM.fail (⟨sf, pd, true, lf, fl, op⟩ : RM) n = ((⟨sf, pd, true, lf, fl, op⟩ : RM), 9) := by rfl
    rw [e]
    repeat' (first

      | (with_reducible refine wp_seq ?_)
      | (with_reducible refine c_region ?_)
      | (with_reducible refine wpList_nil ?_)
      | (with_reducible refine then_normal ?_)
      | (with_reducible refine wp_ret ?_)
      | (with_reducible refine then_ret ?_)
      | ((with_reducible refine g_assign ?_); refine s_assign hE rfl rfl ?_; clear hE a; intro a hE)
      | ((with_reducible refine g_fa ?_); refine s_fieldL hE rfl rfl rfl ?_; clear hE a; intro a hE)
      | ((with_reducible refine g_cond ?_); refine c_true hE rfl ?_)
      | ((with_reducible refine g_load ?_); (first | (refine s_loadB (k := 1) hS hE rfl rfl rfl rfl ?_) ); clear hE a; intro a hE)
      | ((with_reducible refine g_alloc ?_); refine s_allocS hE hS rfl rfl ?_; clear hE a hS; intro g a w hE hS)
      | ((with_reducible refine g_box ?_); refine s_boxS hE hS rfl rfl ?_; clear hE a hS; intro g a w hE hS)
      | ((with_reducible refine g_load ?_); (first | (refine s_loadW (k := 1) hS hE rfl rfl rfl rfl ?_) ); clear hE a; intro a hE)
      | ((with_reducible refine g_store ?_); (first | (refine s_storeW (k := 0) hS hE rfl rfl rfl rfl rfl (by first | (simp [Value.oneCell']; done)) ?_) ); clear hS; intro w hS; simp only [List.set_cons_zero, List.set_cons_succ, Nat.add_zero] at hS)
      )
    all_goals exact retG (vs := [_, _]) hE rfl ⟨⟨_, rfl, res_W (k := 0) hS rfl rfl⟩, rfl, trivial⟩ ⟨rfl, hS.nil⟩
end
end Go.Proofs.Ytnnamckabjhflaa
