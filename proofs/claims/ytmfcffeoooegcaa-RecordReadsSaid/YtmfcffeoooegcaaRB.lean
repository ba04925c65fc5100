/-
  Contracts of record: which record may be (the code's word and the document's).
-/
import Derived.Test.YtmfcffeoooegcaaRA
namespace Go.Proofs.Ytmfcffeoooegcaa
open Go.RowKit
set_option linter.unusedVariables false
set_option linter.unusedSimpArgs false
attribute [local irreducible] Rd hRow hBlk hRd hAll Fn

theorem if_right {r : Rc} {x y : Int} {z : Int} (h : (r.right ∧ x = z) ∨ (¬ r.right ∧ y = z)) : (.int .i64 z : Value) = .int .i64 (if r.right then x else y) := by
  rcases h with ⟨h, rfl⟩ | ⟨h, rfl⟩
  · rw [if_pos h]
  · rw [if_neg h]
set_option maxHeartbeats 4000000 in
theorem check (r : Rc) (w0 : World) (hr : r.rd w0) (hw : r.wf) : Fn Try.prog 14 [.agg r.cells.toArray] w0 fun v w' => v = .int .i64 (if r.right then 0 else 150) ∧ St w0 w' [] := by
  obtain ⟨l, k, t, b, p, s, o, w, n, A, B, c, d⟩ := r
  obtain ⟨hrA, hrB⟩ := hr
  obtain ⟨h1, h2, h3, h4, h5, h6, h7, h8, h9, h10, h11⟩ := hw
  dsimp only at h1 h2 h3 h4 h5 h6 h7 h8 h9 h10 h11 hrA hrB
  dsimp only [Rc.cells]
  refine enter 130 Try.func14 rfl rfl rfl ?_
  intro a hE
  have hS := St.start w0
  have hk : k = 1 ∨ k = 2 ∨ k = 3 ∨ k = 4 ∨ (k < 1 ∨ 4 < k) := by omega
  rcases hk with rfl | rfl | rfl | rfl | hk
  all_goals
    repeat' (first
      | (with_reducible refine wp_seq ?_)
      | (with_reducible refine c_region ?_)
      | (with_reducible refine wpList_nil ?_)
      | (with_reducible refine then_normal ?_)
      | (with_reducible refine wp_skip ?_)
      | (with_reducible refine wp_ret ?_)
      | (with_reducible refine then_ret ?_)
      | ((with_reducible refine g_move ?_); refine s_move hE rfl rfl ?_; clear hE a; intro a hE)
      | ((with_reducible refine g_assign ?_); refine s_assign hE rfl rfl ?_; clear hE a; intro a hE)
      | ((with_reducible refine g_bin .lss ?_); refine s_lss hE rfl rfl rfl ?_; clear hE a; intro a hE)
      | ((with_reducible refine g_bin .leq ?_); refine s_leq hE rfl rfl rfl ?_; clear hE a; intro a hE)
      | ((with_reducible refine g_bin .gtr ?_); refine s_gtr hE rfl rfl rfl ?_; clear hE a; intro a hE)
      | ((with_reducible refine g_bin .geq ?_); refine s_geq hE rfl rfl rfl ?_; clear hE a; intro a hE)
      | ((with_reducible refine g_bin .eql ?_); refine s_eql hE rfl rfl rfl ?_; clear hE a; intro a hE)
      | ((with_reducible refine g_bin .neq ?_); refine s_neq hE rfl rfl rfl ?_; clear hE a; intro a hE)
      | ((with_reducible refine g_un .not ?_); refine s_not hE rfl rfl ?_; clear hE a; intro a hE)
      | ((with_reducible refine g_un .not ?_); refine s_notb hE rfl rfl ?_; clear hE a; intro a hE)
      | ((with_reducible refine g_blt .len ?_); refine s_len hE rfl rfl ?_; clear hE a; intro a hE)
      | ((with_reducible refine g_extract ?_); refine s_extract hE rfl rfl rfl ?_; clear hE a; intro a hE)
      | ((with_reducible refine g_fa ?_); refine s_fieldL hE rfl rfl rfl ?_; clear hE a; intro a hE)
      | ((with_reducible refine g_guard ?_); refine gd_yes hE rfl rfl rfl ?_)
      | ((with_reducible refine g_guard ?_); refine gd_no hE rfl rfl rfl rfl ?_; clear hE a; intro a hE)
      | ((with_reducible refine g_guard ?_); refine gd_un hE rfl rfl rfl ?_; clear hE a; intro a hE)
      | ((with_reducible refine g_guard ?_); refine gd_dec hE rfl rfl (fun hc hE2 => ?_) (fun hc hE2 => ?_) <;> (try omega) <;> (replace hE := hE2; clear hE2))
      | ((with_reducible refine g_pick ?_); refine s_pickT hE rfl rfl rfl ?_; clear hE a; intro a hE)
      | ((with_reducible refine g_pick ?_); refine s_pickF hE rfl rfl rfl ?_; clear hE a; intro a hE)
      | ((with_reducible refine g_cond ?_); refine c_true hE rfl ?_)
      | ((with_reducible refine g_cond ?_); refine c_false hE rfl ?_)
      | ((with_reducible refine g_cond ?_); refine c_dec hE rfl (fun hc => ?_) (fun hc => ?_) <;> try omega)
      | ((with_reducible refine g_load ?_); (first | (refine s_loadB (k := 0) hS hE rfl rfl rfl rfl ?_) ); clear hE a; intro a hE)
      | ((with_reducible refine g_box ?_); refine s_boxS hE hS rfl rfl ?_; clear hE a hS; intro g a w hE hS)
      | ((with_reducible refine g_call (f := 31) ?_); (first | (refine s_call hE rfl rfl rfl (fields1 _) ?_) | (refine s_call hE rfl rfl rfl (fields2 _) ?_) | (refine s_call hE rfl rfl rfl (fields3 _) ?_) | (refine s_call hE rfl rfl rfl (fields4 _) ?_) | (refine s_call hE rfl rfl rfl (fields0 _ _ (by omega)) ?_)); rintro _ w ⟨rfl, rfl⟩; clear hE a; intro a hE) | ((with_reducible refine g_call (f := 32) ?_); (first | (refine s_call hE rfl rfl rfl (has _ _ true _ (by decide +kernel)) ?_) | (refine s_call hE rfl rfl rfl (has _ _ false _ (by decide +kernel)) ?_)); rintro _ w ⟨rfl, rfl⟩; clear hE a; intro a hE) | ((with_reducible refine g_call (f := 29) ?_); refine s_call hE rfl rfl rfl (oequal _ _ _ _ _ _ _ (by first | exact Rd.st (by assumption) hS ) (by first | exact Rd.st (by assumption) hS ) (by first | omega ) (by first | omega )) ?_; rintro _ w ⟨rfl, hS1⟩; clear hE a; intro a hE; replace hS := hS.frame hS1; clear hS1; try simp only [List.cons_append, List.nil_append] at hS))
    all_goals refine ret1 hE rfl rfl ⟨if_right ?_, hS.nil⟩
    all_goals unfold Rc.right
    all_goals dsimp only
    all_goals first
      | (left; refine ⟨?_, rfl⟩; refine ⟨by omega, by omega, by omega, by omega, by omega, by omega, by omega, by omega, by omega, fun h => ⟨by omega, by first | exact Decidable.not_not.mp hc | omega⟩, by omega, by omega⟩)
      | (right; refine ⟨?_, rfl⟩; intro h; omega)
      | (right; refine ⟨?_, rfl⟩; intro h; exact hc (h.2.2.2.2.2.2.2.2.2.1 rfl).2)
end Go.Proofs.Ytmfcffeoooegcaa
