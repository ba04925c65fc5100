/-
  Contracts: may a tuple be; a tuple's bytes.
-/
import Derived.Test.YtaiahigeejodaaaHA
import Derived.Test.YtaiahigeejodaaaK2
import Derived.Test.YtaiahigeejodaaaOD
namespace Go.Proofs.Ytaiahigeejodaaa
open Go.RowKit
set_option linter.unusedVariables false
set_option linter.unusedSimpArgs false
attribute [local irreducible] Rd hRow hBlk hRd hRdr Fn hMarks

abbrev TM.cells (t : TM) : List Value := [.int .u32 (t.r : Int), .int .u64 (t.a : Int), .int .u64 (t.b : Int), .int .i64 t.x0, .int .i64 t.x1, .int .i64 t.y0, .int .i64 t.y1, .int .i64 t.v]
theorem TM.cells_one (t : TM) : ∀ v ∈ t.cells, v.oneCell' = true := by
  intro v hv
  simp only [TM.cells, List.mem_cons, List.not_mem_nil, or_false] at hv
  rcases hv with rfl | rfl | rfl | rfl | rfl | rfl | rfl | rfl <;> rfl
section
variable {H : List HP} {w0 w : World}
set_option maxHeartbeats 8000000
theorem box (x0 x1 y0 y1 : Int) (w0 : World) : Fn Try.prog 50 [.agg [Value.int .i64 x0, .int .i64 x1, .int .i64 y0, .int .i64 y1].toArray] w0 fun v w' => v = .bool (decide (x0 ≤ x1 ∧ y0 ≤ y1)) ∧ St w0 w' [] := by
  refine enter 15 Try.func50 rfl rfl rfl ?_
  intro a hE
  have hS := St.start w0
  repeat' (first

    | (with_reducible refine wp_seq ?_)
    | (with_reducible refine c_region ?_)
    | (with_reducible refine wpList_nil ?_)
    | (with_reducible refine then_normal ?_)
    | (with_reducible refine wp_ret ?_)
    | ((with_reducible refine g_move ?_); refine s_move hE rfl rfl ?_; clear hE a; intro a hE)
    | ((with_reducible refine g_assign ?_); refine s_assign hE rfl rfl ?_; clear hE a; intro a hE)
    | ((with_reducible refine g_bin .leq ?_); refine s_leq hE rfl rfl rfl ?_; clear hE a; intro a hE)
    | ((with_reducible refine g_fa ?_); refine s_fieldL hE rfl rfl rfl ?_; clear hE a; intro a hE)
    | ((with_reducible refine g_guard ?_); refine gd_yes hE rfl rfl rfl ?_)
    | ((with_reducible refine g_guard ?_); refine gd_no hE rfl rfl rfl rfl ?_; clear hE a; intro a hE)
    | ((with_reducible refine g_guard ?_); refine gd_dec hE rfl rfl (fun hc hE2 => ?_) (fun hc hE2 => ?_) <;> (try omega) <;> (replace hE := hE2; clear hE2))
    | ((with_reducible refine g_pick ?_); refine s_pickT hE rfl rfl rfl ?_; clear hE a; intro a hE)
    | ((with_reducible refine g_pick ?_); refine s_pickF hE rfl rfl rfl ?_; clear hE a; intro a hE)
    | ((with_reducible refine g_load ?_); (first | (refine s_loadB (k := 0) hS hE rfl rfl rfl rfl ?_) ); clear hE a; intro a hE)
    | ((with_reducible refine g_box ?_); refine s_boxS hE hS rfl rfl ?_; clear hE a hS; intro g a w hE hS)
    )
  · rw [show decide (x0 ≤ x1 ∧ y0 ≤ y1) = decide (y0 ≤ y1) by simp; omega]
    exact ret1 hE rfl rfl ⟨rfl, hS.nil⟩
  · rw [decide_eq_false (show ¬ (x0 ≤ x1 ∧ y0 ≤ y1) by omega)]
    exact ret1 hE rfl rfl ⟨rfl, hS.nil⟩
theorem kcheck (x0 x1 y0 y1 : Int) (w0 : World) : Fn Try.prog 32 [.int .i64 1, .agg [Value.int .i64 x0, .int .i64 x1, .int .i64 y0, .int .i64 y1].toArray] w0 fun v w' => v = .int .i64 (if x0 ≤ x1 ∧ y0 ≤ y1 then 0 else 2) ∧ St w0 w' [] := by
  refine enter 43 Try.func32 rfl rfl rfl ?_
  intro a hE
  have hS := St.start w0
  repeat' (first

    | (with_reducible refine wp_seq ?_)
    | (with_reducible refine c_region ?_)
    | (with_reducible refine wpList_nil ?_)
    | (with_reducible refine then_normal ?_)
    | ((with_reducible refine g_assign ?_); refine s_assign hE rfl rfl ?_; clear hE a; intro a hE)
    | ((with_reducible refine g_box ?_); refine s_boxS hE hS rfl rfl ?_; clear hE a hS; intro g a w hE hS)
    | ((with_reducible refine g_load ?_); (first | (refine s_loadW (k := 0) hS hE rfl rfl rfl rfl ?_) ); clear hE a; intro a hE)
    )
  refine s_call hE rfl rfl rfl (box x0 x1 y0 y1 w) ?_
  rintro _ w ⟨rfl, hS1⟩; clear hE a; intro a hE; replace hS := hS.frame hS1; clear hS1; try simp only [List.cons_append, List.nil_append] at hS
  by_cases h : x0 ≤ x1 ∧ y0 ≤ y1
  · rw [decide_eq_true h] at hE
    rw [if_pos h]
    repeat' (first

      | (with_reducible refine wp_seq ?_)
      | (with_reducible refine c_region ?_)
      | (with_reducible refine wpList_nil ?_)
      | (with_reducible refine then_normal ?_)
      | (with_reducible refine wp_skip ?_)
      | (with_reducible refine wp_ret ?_)
      | (with_reducible refine wp_block ?_)
      | (with_reducible refine block_normal ?_)
      | ((with_reducible refine g_move ?_); refine s_move hE rfl rfl ?_; clear hE a; intro a hE)
      | ((with_reducible refine g_assign ?_); refine s_assign hE rfl rfl ?_; clear hE a; intro a hE)
      | ((with_reducible refine g_bin .eql ?_); refine s_eql hE rfl rfl rfl ?_; clear hE a; intro a hE)
      | ((with_reducible refine g_un .not ?_); refine s_notb hE rfl rfl ?_; clear hE a; intro a hE)
      | ((with_reducible refine g_cond ?_); refine c_true hE rfl ?_)
      | ((with_reducible refine g_cond ?_); refine c_false hE rfl ?_)
      )
    exact ret1 hE rfl rfl ⟨rfl, hS.nil⟩
  · rw [decide_eq_false h] at hE
    rw [if_neg h]
    repeat' (first

      | (with_reducible refine wp_seq ?_)
      | (with_reducible refine c_region ?_)
      | (with_reducible refine wpList_nil ?_)
      | (with_reducible refine then_normal ?_)
      | (with_reducible refine wp_skip ?_)
      | (with_reducible refine wp_ret ?_)
      | (with_reducible refine then_ret ?_)
      | (with_reducible refine wp_block ?_)
      | (with_reducible refine block_normal ?_)
      | ((with_reducible refine g_move ?_); refine s_move hE rfl rfl ?_; clear hE a; intro a hE)
      | ((with_reducible refine g_assign ?_); refine s_assign hE rfl rfl ?_; clear hE a; intro a hE)
      | ((with_reducible refine g_bin .eql ?_); refine s_eql hE rfl rfl rfl ?_; clear hE a; intro a hE)
      | ((with_reducible refine g_un .not ?_); refine s_notb hE rfl rfl ?_; clear hE a; intro a hE)
      | ((with_reducible refine g_cond ?_); refine c_true hE rfl ?_)
      )
    exact ret1 hE rfl rfl ⟨rfl, hS.nil⟩
theorem tcheck (t : TM) (w0 : World) : Fn Try.prog 10 [.agg t.cells.toArray] w0 fun v w' => v = .int .i64 (if t.right then 0 else 200) ∧ St w0 w' [] := by
  have hri : t.right = decide (1 ≤ t.r ∧ 1 ≤ t.a ∧ t.a ≤ 4294967295 ∧ t.b ≤ 4294967295 ∧ t.x0 ≤ t.x1 ∧ t.y0 ≤ t.y1) := rfl
  have hcl : t.cells.length = 8 := rfl
  refine enter 27 Try.func10 rfl rfl rfl ?_
  intro a hE
  have hS := St.start w0
  have hk : (t.cells.drop (0 + 3)).take 4 = [Value.int .i64 t.x0, .int .i64 t.x1, .int .i64 t.y0, .int .i64 t.y1] := rfl
  by_cases h : 1 ≤ t.r ∧ 1 ≤ t.a ∧ t.a ≤ 4294967295 ∧ t.b ≤ 4294967295
  · repeat' (first

      | (with_reducible refine wp_seq ?_)
      | (with_reducible refine c_region ?_)
      | (with_reducible refine wpList_nil ?_)
      | (with_reducible refine then_normal ?_)
      | ((with_reducible refine g_move ?_); refine s_move hE rfl rfl ?_; clear hE a; intro a hE)
      | ((with_reducible refine g_assign ?_); refine s_assign hE rfl rfl ?_; clear hE a; intro a hE)
      | ((with_reducible refine g_bin .gtr ?_); refine s_gtr hE rfl rfl rfl ?_; clear hE a; intro a hE)
      | ((with_reducible refine g_bin .eql ?_); refine s_eql hE rfl rfl rfl ?_; clear hE a; intro a hE)
      | ((with_reducible refine g_fa ?_); refine s_fieldL hE rfl rfl rfl ?_; clear hE a; intro a hE)
      | ((with_reducible refine g_guard ?_); refine gd_yes hE rfl rfl rfl ?_)
      | ((with_reducible refine g_guard ?_); refine gd_dec hE rfl rfl (fun hc hE2 => ?_) (fun hc hE2 => ?_) <;> (try omega) <;> (replace hE := hE2; clear hE2))
      | ((with_reducible refine g_pick ?_); refine s_pickF hE rfl rfl rfl ?_; clear hE a; intro a hE)
      | ((with_reducible refine g_load ?_); (first | (refine s_loadB (k := 0) hS hE rfl rfl rfl rfl ?_) ); clear hE a; intro a hE)
      | ((with_reducible refine g_box ?_); refine s_boxS hE hS rfl rfl ?_; clear hE a hS; intro g a w hE hS)
      | ((with_reducible refine g_load ?_); (first | (refine s_loadBs (k := 0) hS hE rfl rfl (by first | exact hk ) (by omega) rfl ?_) ); clear hE a; intro a hE)
      )
    refine s_call hE rfl rfl rfl (kcheck t.x0 t.x1 t.y0 t.y1 w) ?_
    rintro _ w ⟨rfl, hS1⟩; clear hE a; intro a hE; replace hS := hS.frame hS1; clear hS1; try simp only [List.cons_append, List.nil_append] at hS
    by_cases h2 : t.x0 ≤ t.x1 ∧ t.y0 ≤ t.y1
    · rw [if_pos h2] at hE
      rw [hri, decide_eq_true ⟨h.1, h.2.1, h.2.2.1, h.2.2.2, h2⟩, if_pos rfl]
      repeat' (first

        | (with_reducible refine wp_seq ?_)
        | (with_reducible refine c_region ?_)
        | (with_reducible refine wpList_nil ?_)
        | (with_reducible refine then_normal ?_)
        | (with_reducible refine wp_skip ?_)
        | (with_reducible refine wp_ret ?_)
        | ((with_reducible refine g_assign ?_); refine s_assign hE rfl rfl ?_; clear hE a; intro a hE)
        | ((with_reducible refine g_bin .neq ?_); refine s_neq hE rfl rfl rfl ?_; clear hE a; intro a hE)
        | ((with_reducible refine g_guard ?_); refine gd_yes hE rfl rfl rfl ?_)
        | ((with_reducible refine g_pick ?_); refine s_pickF hE rfl rfl rfl ?_; clear hE a; intro a hE)
        | ((with_reducible refine g_cond ?_); refine c_false hE rfl ?_)
        )
      exact ret1 hE rfl rfl ⟨rfl, hS.nil⟩
    · rw [if_neg h2] at hE
      rw [hri, decide_eq_false (fun h3 => h2 h3.2.2.2.2), if_neg (by decide)]
      repeat' (first

        | (with_reducible refine wp_seq ?_)
        | (with_reducible refine c_region ?_)
        | (with_reducible refine wpList_nil ?_)
        | (with_reducible refine then_normal ?_)
        | (with_reducible refine wp_ret ?_)
        | (with_reducible refine then_ret ?_)
        | ((with_reducible refine g_assign ?_); refine s_assign hE rfl rfl ?_; clear hE a; intro a hE)
        | ((with_reducible refine g_bin .neq ?_); refine s_neq hE rfl rfl rfl ?_; clear hE a; intro a hE)
        | ((with_reducible refine g_guard ?_); refine gd_yes hE rfl rfl rfl ?_)
        | ((with_reducible refine g_pick ?_); refine s_pickF hE rfl rfl rfl ?_; clear hE a; intro a hE)
        | ((with_reducible refine g_cond ?_); refine c_true hE rfl ?_)
        )
      exact ret1 hE rfl rfl ⟨rfl, hS.nil⟩
  · rw [hri, decide_eq_false (fun h3 => h ⟨h3.1, h3.2.1, h3.2.2.1, h3.2.2.2.1⟩), if_neg (by decide)]
    repeat' (first

      | (with_reducible refine wp_seq ?_)
      | (with_reducible refine c_region ?_)
      | (with_reducible refine wpList_nil ?_)
      | (with_reducible refine then_normal ?_)
      | (with_reducible refine wp_ret ?_)
      | (with_reducible refine then_ret ?_)
      | ((with_reducible refine g_move ?_); refine s_move hE rfl rfl ?_; clear hE a; intro a hE)
      | ((with_reducible refine g_assign ?_); refine s_assign hE rfl rfl ?_; clear hE a; intro a hE)
      | ((with_reducible refine g_bin .gtr ?_); refine s_gtr hE rfl rfl rfl ?_; clear hE a; intro a hE)
      | ((with_reducible refine g_bin .eql ?_); refine s_eql hE rfl rfl rfl ?_; clear hE a; intro a hE)
      | ((with_reducible refine g_fa ?_); refine s_fieldL hE rfl rfl rfl ?_; clear hE a; intro a hE)
      | ((with_reducible refine g_guard ?_); refine gd_yes hE rfl rfl rfl ?_)
      | ((with_reducible refine g_guard ?_); refine gd_no hE rfl rfl rfl rfl ?_; clear hE a; intro a hE)
      | ((with_reducible refine g_guard ?_); refine gd_dec hE rfl rfl (fun hc hE2 => ?_) (fun hc hE2 => ?_) <;> (try omega) <;> (replace hE := hE2; clear hE2))
      | ((with_reducible refine g_pick ?_); refine s_pickT hE rfl rfl rfl ?_; clear hE a; intro a hE)
      | ((with_reducible refine g_pick ?_); refine s_pickF hE rfl rfl rfl ?_; clear hE a; intro a hE)
      | ((with_reducible refine g_cond ?_); refine c_true hE rfl ?_)
      | ((with_reducible refine g_load ?_); (first | (refine s_loadB (k := 0) hS hE rfl rfl rfl rfl ?_) ); clear hE a; intro a hE)
      | ((with_reducible refine g_box ?_); refine s_boxS hE hS rfl rfl ?_; clear hE a hS; intro g a w hE hS)
      )
    all_goals exact ret1 hE rfl rfl ⟨rfl, hS.nil⟩
end
end Go.Proofs.Ytaiahigeejodaaa
