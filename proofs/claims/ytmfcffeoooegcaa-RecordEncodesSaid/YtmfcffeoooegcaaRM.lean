/-
  The law RecordEncodes.
-/
import Derived.Test.YtmfcffeoooegcaaRN
namespace Go.Proofs.Ytmfcffeoooegcaa
open Go.RowKit
set_option linter.unusedVariables false
set_option linter.unusedSimpArgs false
attribute [local irreducible] Rd hRow hBlk hRd hAll Fn hRdr
attribute [local simp] Rc.cells

set_option maxHeartbeats 4000000 in
theorem encodes (r : Rc) (w0 : World) (hrd : r.rd w0) (hw : r.wf) : Fn Try.prog 3 [.agg r.cells.toArray] w0 fun v w' => v = .bool true ∧ St w0 w' [] := by
  have he := fun h : r.right => Rc.enc_length h
  refine enter 46 Try.func3 rfl rfl rfl ?_
  intro a hE
  have hS := St.start w0
  repeat' (first
    | (with_reducible refine wp_seq ?_)
    | (with_reducible refine c_region ?_)
    | (with_reducible refine wpList_nil ?_)
    | (with_reducible refine then_normal ?_)
    | (with_reducible refine wp_skip ?_)
    | ((with_reducible refine g_assign ?_); refine s_assign hE rfl rfl ?_; clear hE a; intro a hE)
    | ((with_reducible refine g_un .not ?_); refine s_notb hE rfl rfl ?_; clear hE a; intro a hE)
    | ((with_reducible refine g_cond ?_); refine c_false hE rfl ?_)
    | ((with_reducible refine g_call (f := 9) ?_); refine s_call hE rfl rfl rfl (wakes w) ?_; rintro _ w ⟨rfl, hS1⟩; clear hE a; intro a hE; replace hS := hS.frame hS1; clear hS1; try simp only [List.cons_append, List.nil_append] at hS)
    | ((with_reducible refine g_box ?_); refine s_boxS hE hS rfl rfl ?_; clear hE a hS; intro g a w hE hS)
    | ((with_reducible refine g_load ?_); (first | (refine s_loadW (k := 0) hS hE rfl rfl rfl rfl ?_) ); clear hE a; intro a hE)
    )
  refine s_litA hE hS rfl rfl rfl rfl rfl ?_
  clear hE a hS; intro g a w hE hS
  by_cases hR : r.right
  · have he := he hR
    repeat' (first
      | (with_reducible refine wp_seq ?_)
      | (with_reducible refine c_region ?_)
      | (with_reducible refine wpList_nil ?_)
      | (with_reducible refine then_normal ?_)
      | (with_reducible refine wp_skip ?_)
      | (with_reducible refine wp_ret ?_)
      | (with_reducible refine then_ret ?_)
      | ((with_reducible refine g_move ?_); refine s_move hE rfl rfl ?_; clear hE a; intro a hE)
      | ((with_reducible refine g_assign ?_); refine s_assign hE rfl rfl ?_; clear hE a; intro a hE)
      | ((with_reducible refine g_bin .eql ?_); refine s_eql hE rfl rfl rfl ?_; clear hE a; intro a hE)
      | ((with_reducible refine g_un .not ?_); refine s_not hE rfl rfl ?_; clear hE a; intro a hE)
      | ((with_reducible refine g_blt .len ?_); refine s_len hE rfl rfl ?_; clear hE a; intro a hE)
      | ((with_reducible refine g_extract ?_); refine s_extract hE rfl rfl rfl ?_; clear hE a; intro a hE)
      | ((with_reducible refine g_guard ?_); refine gd_yes hE rfl rfl rfl ?_)
      | ((with_reducible refine g_guard ?_); refine gd_no hE rfl rfl rfl rfl ?_; clear hE a; intro a hE)
      | ((with_reducible refine g_pick ?_); refine s_pickT hE rfl rfl rfl ?_; clear hE a; intro a hE)
      | ((with_reducible refine g_pick ?_); refine s_pickF hE rfl rfl rfl ?_; clear hE a; intro a hE)
      | ((with_reducible refine g_cond ?_); refine c_dec hE rfl (fun hc => ?_) (fun hc => ?_) <;> try omega)
      | ((with_reducible refine g_call (f := 10) ?_); refine s_call hE rfl rfl rfl (large _ _ [r] w (hS.rdAt (k := 0) rfl) (by show (1 : Nat) ≤ 9223372036854775806; decide)) ?_; rintro _ w ⟨rfl, hS1⟩; clear hE a; intro a hE; replace hS := hS.frame hS1; clear hS1; try simp only [List.cons_append, List.nil_append] at hS) | ((with_reducible refine g_call (f := 12) ?_); refine s_call hE rfl rfl rfl (copied r w (Rc.rd_st hrd hS) hw) ?_; rintro _ w ⟨_, _, _, _, rfl, hS1⟩; clear hE a; intro a hE; replace hS := hS.frame hS1; clear hS1; try simp only [List.cons_append, List.nil_append] at hS) | ((with_reducible refine g_call (f := 11) ?_); (first | (refine s_call hE rfl rfl rfl (encode_ok (r.at_ _ _ _ _) w ⟨hS.rdAt (k := 0) rfl, hS.rdAt (k := 1) rfl⟩ (Rc.at_wf hw (hS.lenAt (k := 0) rfl).2.1 (hS.lenAt (k := 1) rfl).2.1) hR) ?_; rintro _ w ⟨_, _, rfl, hS1⟩; clear hE a; intro a hE; replace hS := hS.frame hS1; clear hS1; try simp only [List.cons_append, List.nil_append] at hS) )) | ((with_reducible refine g_call (f := 14) ?_); (first | (refine s_call hE rfl rfl rfl (check_ok (r.at_ _ _ _ _) w ⟨hS.rdAt (k := 0) rfl, hS.rdAt (k := 1) rfl⟩ (Rc.at_wf hw (hS.lenAt (k := 0) rfl).2.1 (hS.lenAt (k := 1) rfl).2.1) hR) ?_) ); rintro _ w ⟨rfl, hS1⟩; clear hE a; intro a hE; replace hS := hS.frame hS1; clear hS1; try simp only [List.cons_append, List.nil_append] at hS) | ((with_reducible refine g_call (f := 13) ?_); refine s_call hE rfl rfl rfl (rright r w (Rc.rd_st hrd hS) hw) ?_; rintro _ w ⟨rfl, hS1⟩; clear hE a; intro a hE; replace hS := hS.frame hS1; clear hS1; try simp only [List.cons_append, List.nil_append] at hS) | ((with_reducible refine g_call (f := 16) ?_); refine s_call hE rfl rfl rfl (rbytes r w (Rc.rd_st hrd hS) hw hR) ?_; rintro _ w ⟨_, _, rfl, hS1⟩; clear hE a; intro a hE; replace hS := hS.frame hS1; clear hS1; try simp only [List.cons_append, List.nil_append] at hS) | ((with_reducible refine g_load ?_); (first | (refine s_loadW (k := 1) hS hE rfl rfl rfl rfl ?_) | (refine s_loadW (k := 4) hS hE rfl rfl rfl rfl ?_) | (refine s_loadW (k := 6) hS hE rfl rfl rfl rfl ?_) ); clear hE a; intro a hE)
      )
    · exact ret1 hE rfl rfl ⟨rfl, hS.nil⟩
    · exact absurd hR hc
    · refine s_call hE rfl rfl rfl (rsame _ _ _ _ r.enc r.enc w (hS.rdAt (k := 3) rfl) (hS.rdAt (k := 0) rfl) (by omega) (by omega)) ?_
      rintro _ w ⟨rfl, hS1⟩; clear hE a; intro a hE; replace hS := hS.frame hS1; clear hS1; try simp only [List.cons_append, List.nil_append] at hS
      repeat' (first
        | (with_reducible refine wpList_nil ?_)
        | (with_reducible refine then_normal ?_)
        | (with_reducible refine wp_ret ?_)
        | ((with_reducible refine g_assign ?_); refine s_assign hE rfl rfl ?_; clear hE a; intro a hE)
        | ((with_reducible refine g_pick ?_); refine s_pickT hE rfl rfl rfl ?_; clear hE a; intro a hE)
        )
      exact ret1 hE rfl rfl ⟨by rw [decide_eq_true rfl], hS.nil⟩
  · repeat' (first
      | (with_reducible refine wp_seq ?_)
      | (with_reducible refine c_region ?_)
      | (with_reducible refine wpList_nil ?_)
      | (with_reducible refine then_normal ?_)
      | (with_reducible refine wp_skip ?_)
      | (with_reducible refine wp_ret ?_)
      | (with_reducible refine then_ret ?_)
      | ((with_reducible refine g_move ?_); refine s_move hE rfl rfl ?_; clear hE a; intro a hE)
      | ((with_reducible refine g_assign ?_); refine s_assign hE rfl rfl ?_; clear hE a; intro a hE)
      | ((with_reducible refine g_bin .eql ?_); refine s_eql hE rfl rfl rfl ?_; clear hE a; intro a hE)
      | ((with_reducible refine g_un .not ?_); refine s_not hE rfl rfl ?_; clear hE a; intro a hE)
      | ((with_reducible refine g_blt .len ?_); refine s_len hE rfl rfl ?_; clear hE a; intro a hE)
      | ((with_reducible refine g_extract ?_); refine s_extract hE rfl rfl rfl ?_; clear hE a; intro a hE)
      | ((with_reducible refine g_guard ?_); refine gd_yes hE rfl rfl rfl ?_)
      | ((with_reducible refine g_guard ?_); refine gd_no hE rfl rfl rfl rfl ?_; clear hE a; intro a hE)
      | ((with_reducible refine g_pick ?_); refine s_pickT hE rfl rfl rfl ?_; clear hE a; intro a hE)
      | ((with_reducible refine g_pick ?_); refine s_pickF hE rfl rfl rfl ?_; clear hE a; intro a hE)
      | ((with_reducible refine g_cond ?_); refine c_dec hE rfl (fun hc => ?_) (fun hc => ?_) <;> try omega)
      | ((with_reducible refine g_call (f := 10) ?_); refine s_call hE rfl rfl rfl (large _ _ [r] w (hS.rdAt (k := 0) rfl) (by show (1 : Nat) ≤ 9223372036854775806; decide)) ?_; rintro _ w ⟨rfl, hS1⟩; clear hE a; intro a hE; replace hS := hS.frame hS1; clear hS1; try simp only [List.cons_append, List.nil_append] at hS) | ((with_reducible refine g_call (f := 12) ?_); refine s_call hE rfl rfl rfl (copied r w (Rc.rd_st hrd hS) hw) ?_; rintro _ w ⟨_, _, _, _, rfl, hS1⟩; clear hE a; intro a hE; replace hS := hS.frame hS1; clear hS1; try simp only [List.cons_append, List.nil_append] at hS) | ((with_reducible refine g_call (f := 11) ?_); (first | (refine s_call hE rfl rfl rfl (encode_no (r.at_ _ _ _ _) w ⟨hS.rdAt (k := 0) rfl, hS.rdAt (k := 1) rfl⟩ (Rc.at_wf hw (hS.lenAt (k := 0) rfl).2.1 (hS.lenAt (k := 1) rfl).2.1) hR) ?_; rintro _ w ⟨rfl, hS1⟩; clear hE a; intro a hE; replace hS := hS.frame hS1; clear hS1; try simp only [List.cons_append, List.nil_append] at hS))) | ((with_reducible refine g_call (f := 14) ?_); (first | (refine s_call hE rfl rfl rfl (check_no (r.at_ _ _ _ _) w ⟨hS.rdAt (k := 0) rfl, hS.rdAt (k := 1) rfl⟩ (Rc.at_wf hw (hS.lenAt (k := 0) rfl).2.1 (hS.lenAt (k := 1) rfl).2.1) hR) ?_)); rintro _ w ⟨rfl, hS1⟩; clear hE a; intro a hE; replace hS := hS.frame hS1; clear hS1; try simp only [List.cons_append, List.nil_append] at hS) | ((with_reducible refine g_call (f := 13) ?_); refine s_call hE rfl rfl rfl (rright r w (Rc.rd_st hrd hS) hw) ?_; rintro _ w ⟨rfl, hS1⟩; clear hE a; intro a hE; replace hS := hS.frame hS1; clear hS1; try simp only [List.cons_append, List.nil_append] at hS) | ((with_reducible refine g_load ?_); (first | (refine s_loadW (k := 1) hS hE rfl rfl rfl rfl ?_) | (refine s_loadW (k := 3) hS hE rfl rfl rfl rfl ?_) ); clear hE a; intro a hE)
      )
    · exact ret1 hE rfl rfl ⟨rfl, hS.nil⟩
    · exact ret1 hE rfl rfl ⟨rfl, hS.nil⟩
    · exact absurd hc (not_not_intro hR)
theorem law_RecordEncodes (y : RT) (w0 : World) (h : y.ok w0) : Fn Try.prog 3 [.agg y.cells.toArray] w0 fun v w' => v = .bool true ∧ St w0 w' [] := by
  rw [RT.cells_rc h]
  exact encodes y.rc w0 (RT.rc_rd h) (RT.rc_wf h)
end Go.Proofs.Ytmfcffeoooegcaa
