/-
  Contracts of record: the document's word on which record may be; which are the same.
-/
import Derived.Test.YtmfcffeoooegcaaRA
namespace Go.Proofs.Ytmfcffeoooegcaa
open Go.RowKit
set_option linter.unusedVariables false
set_option linter.unusedSimpArgs false
attribute [local irreducible] Rd hRow hBlk hRd hAll Fn

def Rc.same (r q : Rc) : Prop := r.l = q.l ∧ r.k = q.k ∧ r.t = q.t ∧ r.b = q.b ∧ r.p = q.p ∧ r.s = q.s ∧ r.o = q.o ∧ r.w = q.w ∧ r.n = q.n
instance (r q : Rc) : Decidable (r.same q) := by unfold Rc.same; infer_instance
theorem bool_iff {p : Prop} [Decidable p] {b : Bool} (h : p ↔ b = true) : (.bool b : Value) = .bool (decide p) := by
  congr 1
  cases b with
  | true => exact (decide_eq_true (h.mpr rfl)).symm
  | false => exact (decide_eq_false (fun hp => by simpa using h.mp hp)).symm
set_option maxHeartbeats 4000000 in
theorem rright (r : Rc) (w0 : World) (hr : r.rd w0) (hw : r.wf) : Fn Try.prog 13 [.agg r.cells.toArray] w0 fun v w' => v = .bool (decide r.right) ∧ St w0 w' [] := by
  obtain ⟨l, k, t, b, p, s, o, w, n, A, B, c, d⟩ := r
  obtain ⟨hrA, hrB⟩ := hr
  obtain ⟨h1, h2, h3, h4, h5, h6, h7, h8, h9, h10, h11⟩ := hw
  dsimp only at h1 h2 h3 h4 h5 h6 h7 h8 h9 h10 h11 hrA hrB
  dsimp only [Rc.cells]
  refine enter 111 Try.func13 rfl rfl rfl ?_
  intro a hE
  have hS := St.start w0
  repeat' (first
    | (with_reducible refine wp_seq ?_)
    | (with_reducible refine c_region ?_)
    | (with_reducible refine wpList_nil ?_)
    | (with_reducible refine then_normal ?_)
    | (with_reducible refine wp_skip ?_)
    | (with_reducible refine wp_ret ?_)
    | (with_reducible refine then_ret ?_)
    | ((with_reducible refine g_move ?_); refine s_move hE rfl rfl ?_; clear hE a; intro a hE)
    | ((with_reducible refine g_assign ?_); refine s_assign hE rfl rfl ?_; clear hE a; intro a hE)
    | ((with_reducible refine g_bin .lss ?_); refine s_lss hE rfl rfl rfl ?_; clear hE a; intro a hE)
    | ((with_reducible refine g_bin .gtr ?_); refine s_gtr hE rfl rfl rfl ?_; clear hE a; intro a hE)
    | ((with_reducible refine g_bin .geq ?_); refine s_geq hE rfl rfl rfl ?_; clear hE a; intro a hE)
    | ((with_reducible refine g_bin .eql ?_); refine s_eql hE rfl rfl rfl ?_; clear hE a; intro a hE)
    | ((with_reducible refine g_un .not ?_); refine s_not hE rfl rfl ?_; clear hE a; intro a hE)
    | ((with_reducible refine g_blt .len ?_); refine s_len hE rfl rfl ?_; clear hE a; intro a hE)
    | ((with_reducible refine g_fa ?_); refine s_fieldL hE rfl rfl rfl ?_; clear hE a; intro a hE)
    | ((with_reducible refine g_guard ?_); refine gd_yes hE rfl rfl rfl ?_)
    | ((with_reducible refine g_guard ?_); refine gd_no hE rfl rfl rfl rfl ?_; clear hE a; intro a hE)
    | ((with_reducible refine g_guard ?_); refine gd_dec hE rfl rfl (fun hc hE2 => ?_) (fun hc hE2 => ?_) <;> (try omega) <;> (replace hE := hE2; clear hE2))
    | ((with_reducible refine g_pick ?_); refine s_pickT hE rfl rfl rfl ?_; clear hE a; intro a hE)
    | ((with_reducible refine g_pick ?_); refine s_pickF hE rfl rfl rfl ?_; clear hE a; intro a hE)
    | ((with_reducible refine g_cond ?_); refine c_true hE rfl ?_)
    | ((with_reducible refine g_cond ?_); refine c_dec hE rfl (fun hc => ?_) (fun hc => ?_) <;> try omega)
    | ((with_reducible refine g_load ?_); (first | (refine s_loadB (k := 0) hS hE rfl rfl rfl rfl ?_) ); clear hE a; intro a hE)
    | ((with_reducible refine g_box ?_); refine s_boxS hE hS rfl rfl ?_; clear hE a hS; intro g a w hE hS)
    | ((with_reducible refine g_call (f := 15) ?_); refine s_call hE rfl rfl rfl (rsame _ _ _ _ _ _ _ (by first | exact Rd.st (by assumption) hS ) (by first | exact Rd.st (by assumption) hS ) (by first | omega ) (by first | omega )) ?_; rintro _ w ⟨rfl, hS1⟩; clear hE a; intro a hE; replace hS := hS.frame hS1; clear hS1; try simp only [List.cons_append, List.nil_append] at hS)
    )
  all_goals refine ret1 hE rfl rfl ⟨bool_iff ?_, hS.nil⟩
  all_goals unfold Rc.right
  all_goals dsimp only
  all_goals first
    | (refine ⟨fun h => ?_, fun h => absurd h (by decide)⟩; omega)
    | (simp only [decide_eq_true_eq]; refine ⟨fun h => ?_, fun h => ?_⟩; · omega
       · refine ⟨by omega, by omega, by omega, by omega, by omega, by omega, by omega, by omega, by omega, by omega, by omega, by omega⟩)
    | (simp only [decide_eq_true_eq]; refine ⟨fun h => ?_, fun h => ?_⟩; · exact (h.2.2.2.2.2.2.2.2.2.1 (by assumption)).2
       · refine ⟨by omega, by omega, by omega, by omega, by omega, by omega, by omega, by omega, by omega, fun _ => ⟨by omega, h⟩, by omega, by omega⟩)
set_option maxHeartbeats 4000000 in
theorem rsameR (r q : Rc) (w0 : World) (hr : r.rd w0) (hw : r.wf) (hr2 : q.rd w0) (hw2 : q.wf) : Fn Try.prog 19 [.agg r.cells.toArray, .agg q.cells.toArray] w0 fun v w' => v = .bool (decide (r.same q)) ∧ St w0 w' [] := by
  obtain ⟨l, k, t, b, p, s, o, w, n, A, B, c, d⟩ := r
  obtain ⟨l', k', t', b', p', s', o', w', n', A', B', c', d'⟩ := q
  obtain ⟨hrA, hrB⟩ := hr
  obtain ⟨hrA', hrB'⟩ := hr2
  obtain ⟨h1, h2, h3, h4, h5, h6, h7, h8, h9, h10, h11⟩ := hw
  obtain ⟨g1, g2, g3, g4, g5, g6, g7, g8, g9, g10, g11⟩ := hw2
  dsimp only at h1 h2 h3 h4 h5 h6 h7 h8 h9 h10 h11 hrA hrB g1 g2 g3 g4 g5 g6 g7 g8 g9 g10 g11 hrA' hrB'
  dsimp only [Rc.cells]
  refine enter 66 Try.func19 rfl rfl rfl ?_
  intro a hE
  have hS := St.start w0
  repeat' (first
    | (with_reducible refine wp_seq ?_)
    | (with_reducible refine c_region ?_)
    | (with_reducible refine wpList_nil ?_)
    | (with_reducible refine then_normal ?_)
    | (with_reducible refine wp_ret ?_)
    | ((with_reducible refine g_move ?_); refine s_move hE rfl rfl ?_; clear hE a; intro a hE)
    | ((with_reducible refine g_assign ?_); refine s_assign hE rfl rfl ?_; clear hE a; intro a hE)
    | ((with_reducible refine g_bin .eql ?_); refine s_eql hE rfl rfl rfl ?_; clear hE a; intro a hE)
    | ((with_reducible refine g_fa ?_); refine s_fieldL hE rfl rfl rfl ?_; clear hE a; intro a hE)
    | ((with_reducible refine g_guard ?_); refine gd_yes hE rfl rfl rfl ?_)
    | ((with_reducible refine g_guard ?_); refine gd_no hE rfl rfl rfl rfl ?_; clear hE a; intro a hE)
    | ((with_reducible refine g_guard ?_); refine gd_dec hE rfl rfl (fun hc hE2 => ?_) (fun hc hE2 => ?_) <;> (try omega) <;> (replace hE := hE2; clear hE2))
    | ((with_reducible refine g_pick ?_); refine s_pickT hE rfl rfl rfl ?_; clear hE a; intro a hE)
    | ((with_reducible refine g_pick ?_); refine s_pickF hE rfl rfl rfl ?_; clear hE a; intro a hE)
    | ((with_reducible refine g_load ?_); (first | (refine s_loadB (k := 0) hS hE rfl rfl rfl rfl ?_) | (refine s_loadB (k := 1) hS hE rfl rfl rfl rfl ?_) ); clear hE a; intro a hE)
    | ((with_reducible refine g_box ?_); refine s_boxS hE hS rfl rfl ?_; clear hE a hS; intro g a w hE hS)
    | ((with_reducible refine g_call (f := 15) ?_); refine s_call hE rfl rfl rfl (rsame _ _ _ _ _ _ _ (by first | exact Rd.st (by assumption) hS ) (by first | exact Rd.st (by assumption) hS ) (by first | omega ) (by first | omega )) ?_; rintro _ w ⟨rfl, hS1⟩; clear hE a; intro a hE; replace hS := hS.frame hS1; clear hS1; try simp only [List.cons_append, List.nil_append] at hS)
    )
  all_goals refine ret1 hE rfl rfl ⟨bool_iff ?_, hS.nil⟩
  all_goals unfold Rc.same
  all_goals dsimp only
  all_goals first
    | (refine ⟨fun h => ?_, fun h => absurd h (by decide)⟩; first | omega | exact absurd h.2.2.2.2.2.2.1 hc | exact absurd h.2.2.2.2.2.2.2.1 hc)
    | (simp only [decide_eq_true_eq]; refine ⟨fun h => ?_, fun h => ?_⟩; · first | exact h.2.2.2.2.2.2.2.1 | omega
       · refine ⟨by omega, by omega, by omega, by omega, by omega, by omega, by assumption, by assumption, by omega⟩)
set_option maxHeartbeats 4000000 in
theorem same (r q : Rc) (w0 : World) (hr : r.rd w0) (hw : r.wf) (hr2 : q.rd w0) (hw2 : q.wf) : Fn Try.prog 20 [.agg r.cells.toArray, .agg q.cells.toArray] w0 fun v w' => v = .bool (decide (r.same q)) ∧ St w0 w' [] := by
  obtain ⟨l, k, t, b, p, s, o, w, n, A, B, c, d⟩ := r
  obtain ⟨l', k', t', b', p', s', o', w', n', A', B', c', d'⟩ := q
  obtain ⟨hrA, hrB⟩ := hr
  obtain ⟨hrA', hrB'⟩ := hr2
  obtain ⟨h1, h2, h3, h4, h5, h6, h7, h8, h9, h10, h11⟩ := hw
  obtain ⟨g1, g2, g3, g4, g5, g6, g7, g8, g9, g10, g11⟩ := hw2
  dsimp only at h1 h2 h3 h4 h5 h6 h7 h8 h9 h10 h11 hrA hrB g1 g2 g3 g4 g5 g6 g7 g8 g9 g10 g11 hrA' hrB'
  dsimp only [Rc.cells]
  refine enter 66 Try.func20 rfl rfl rfl ?_
  intro a hE
  have hS := St.start w0
  repeat' (first
    | (with_reducible refine wp_seq ?_)
    | (with_reducible refine c_region ?_)
    | (with_reducible refine wpList_nil ?_)
    | (with_reducible refine then_normal ?_)
    | (with_reducible refine wp_ret ?_)
    | ((with_reducible refine g_move ?_); refine s_move hE rfl rfl ?_; clear hE a; intro a hE)
    | ((with_reducible refine g_assign ?_); refine s_assign hE rfl rfl ?_; clear hE a; intro a hE)
    | ((with_reducible refine g_bin .eql ?_); refine s_eql hE rfl rfl rfl ?_; clear hE a; intro a hE)
    | ((with_reducible refine g_fa ?_); refine s_fieldL hE rfl rfl rfl ?_; clear hE a; intro a hE)
    | ((with_reducible refine g_guard ?_); refine gd_yes hE rfl rfl rfl ?_)
    | ((with_reducible refine g_guard ?_); refine gd_no hE rfl rfl rfl rfl ?_; clear hE a; intro a hE)
    | ((with_reducible refine g_guard ?_); refine gd_dec hE rfl rfl (fun hc hE2 => ?_) (fun hc hE2 => ?_) <;> (try omega) <;> (replace hE := hE2; clear hE2))
    | ((with_reducible refine g_pick ?_); refine s_pickT hE rfl rfl rfl ?_; clear hE a; intro a hE)
    | ((with_reducible refine g_pick ?_); refine s_pickF hE rfl rfl rfl ?_; clear hE a; intro a hE)
    | ((with_reducible refine g_load ?_); (first | (refine s_loadB (k := 0) hS hE rfl rfl rfl rfl ?_) | (refine s_loadB (k := 1) hS hE rfl rfl rfl rfl ?_) ); clear hE a; intro a hE)
    | ((with_reducible refine g_box ?_); refine s_boxS hE hS rfl rfl ?_; clear hE a hS; intro g a w hE hS)
    | ((with_reducible refine g_call (f := 29) ?_); refine s_call hE rfl rfl rfl (oequal _ _ _ _ _ _ _ (by first | exact Rd.st (by assumption) hS ) (by first | exact Rd.st (by assumption) hS ) (by first | omega ) (by first | omega )) ?_; rintro _ w ⟨rfl, hS1⟩; clear hE a; intro a hE; replace hS := hS.frame hS1; clear hS1; try simp only [List.cons_append, List.nil_append] at hS)
    )
  all_goals refine ret1 hE rfl rfl ⟨bool_iff ?_, hS.nil⟩
  all_goals unfold Rc.same
  all_goals dsimp only
  all_goals first
    | (refine ⟨fun h => ?_, fun h => absurd h (by decide)⟩; first | omega | exact absurd h.2.2.2.2.2.2.1 hc | exact absurd h.2.2.2.2.2.2.2.1 hc)
    | (simp only [decide_eq_true_eq]; refine ⟨fun h => ?_, fun h => ?_⟩; · first | exact h.2.2.2.2.2.2.2.1 | omega
       · refine ⟨by omega, by omega, by omega, by omega, by omega, by omega, by assumption, by assumption, by omega⟩)
end Go.Proofs.Ytmfcffeoooegcaa
