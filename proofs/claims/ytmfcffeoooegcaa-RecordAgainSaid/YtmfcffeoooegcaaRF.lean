/-
  Contracts of record: the document's bytes of a record.
-/
import Derived.Test.YtmfcffeoooegcaaRE
namespace Go.Proofs.Ytmfcffeoooegcaa
open Go.RowKit
set_option linter.unusedVariables false
set_option linter.unusedSimpArgs false
attribute [local irreducible] Rd hRow hBlk hRd hAll Fn

set_option maxHeartbeats 4000000 in
theorem rbytes (r : Rc) (w0 : World) (hr : r.rd w0) (hw : r.wf) (hR : r.right) :
    Fn Try.prog 16 [.agg r.cells.toArray] w0 fun v w' => ∃ A' c', v = .slice A' r.enc.length c' ∧ St w0 w' [hRow 5 1 A' r.enc.length c' (bys r.enc)] := by
  obtain ⟨l, k, t, b, p, s, o, y, n, A0, B, c0, d⟩ := r
  obtain ⟨hrA, hrB⟩ := hr
  obtain ⟨h1, h2, h3, h4, h5, h6, h7, h8, h9, h10, h11⟩ := hw
  unfold Rc.right at hR
  dsimp only at h1 h2 h3 h4 h5 h6 h7 h8 h9 h10 h11 hrA hrB hR
  obtain ⟨q1, q2, q3, q4, q5, q6, q7, q8, q9, q10, q11, q12⟩ := hR
  dsimp only [Rc.cells, Rc.enc]
  refine enter 68 Try.func16 rfl rfl rfl ?_
  intro a hE
  have hS := St.start w0
  have hk : k = 1 ∨ k = 2 ∨ k = 3 ∨ k = 4 := by omega
  rcases hk with rfl | rfl | rfl | rfl
  · repeat' (first
      | (with_reducible refine wp_seq ?_)
      | (with_reducible refine c_region ?_)
      | (with_reducible refine wpList_nil ?_)
      | (with_reducible refine then_normal ?_)
      | (with_reducible refine wp_skip ?_)
      | ((with_reducible refine g_move ?_); refine s_move hE rfl rfl ?_; clear hE a; intro a hE)
      | ((with_reducible refine g_assign ?_); refine s_assign hE rfl rfl ?_; clear hE a; intro a hE)
      | ((with_reducible refine g_bin .gtr ?_); refine s_gtr hE rfl rfl rfl ?_; clear hE a; intro a hE)
      | ((with_reducible refine g_bin .eql ?_); refine s_eql hE rfl rfl rfl ?_; clear hE a; intro a hE)
      | ((with_reducible refine g_conv ?_); refine s_conv hE rfl rfl (by first | exact wrap8_nat (by omega) ) ?_; clear hE a; intro a hE)
      | ((with_reducible refine g_fa ?_); refine s_fieldL hE rfl rfl rfl ?_; clear hE a; intro a hE)
      | ((with_reducible refine g_cond ?_); refine c_true hE rfl ?_)
      | ((with_reducible refine g_cond ?_); refine c_false hE rfl ?_)
      | ((with_reducible refine g_call (f := 34) ?_); refine s_call hE rfl rfl rfl (rhigh _ _ (by first | omega ) (by first | (simp only [List.length_append, List.length_nil, List.length_cons, beb_length]; omega)) _) ?_; rintro _ w ⟨_, _, rfl, hS1⟩; clear hE a; intro a hE; replace hS := hS.frame hS1; clear hS1; try simp only [List.cons_append, List.nil_append] at hS) | ((with_reducible refine g_lit ?_); (first | (refine s_litB [_] hE hS rfl rfl rfl rfl rfl rfl rfl ?_) | (refine s_litB [_, _] hE hS rfl rfl rfl rfl rfl rfl rfl ?_)); clear hE a hS; intro g a w hE hS) | ((with_reducible refine g_blt .append ?_); (first | (refine s_appendB (k := 1) hE hS rfl rfl rfl (by first | exact hS.rd ) (by first | exact bys2 _ _ ) rfl (by first | (simp only [List.length_append, List.length_nil, List.length_cons, beb_length]; omega)) rfl rfl rfl ?_) ); clear hE a hS; intro A c a w hE hS; simp only [List.set_cons_zero, List.set_cons_succ] at hS) | ((with_reducible refine g_call (f := 33) ?_); refine s_call hE rfl rfl rfl (rboth1 _ _ _ _ _ _ _ (by first | exact hS.rdAt (k := 1) rfl ) (by first | exact hS.rd ) (by first | (simp only [List.length_append, List.length_nil, List.length_cons, beb_length]; omega))) ?_; rintro _ w ⟨_, _, rfl, hS1⟩; clear hE a; intro a hE; replace hS := hS.frame hS1; clear hS1; try simp only [List.cons_append, List.nil_append] at hS)
      | ((with_reducible refine g_load ?_); (first | (refine s_loadB (k := 0) hS hE rfl rfl rfl rfl ?_) | (refine s_loadB (k := 1) hS hE rfl rfl rfl rfl ?_) | (refine s_loadB (k := 3) hS hE rfl rfl rfl rfl ?_) | (refine s_loadB (k := 5) hS hE rfl rfl rfl rfl ?_) | (refine s_loadB (k := 7) hS hE rfl rfl rfl rfl ?_) | (refine s_loadB (k := 8) hS hE rfl rfl rfl rfl ?_) ); clear hE a; intro a hE)
      | ((with_reducible refine g_box ?_); refine s_boxS hE hS rfl rfl ?_; clear hE a hS; intro g a w hE hS)
      )
    refine c_ordK hS 8 rfl 11 ((.rd 0 (.rd 1 (.rd 2 (.rd 3 (.rd 4 (.rd 7 (.rd 8 (.ef 5 (.ef 6 (.ef 9 (.rd 10 .done)))))))))))) mixed (by decide +kernel) ?_
    clear hS; intro w hF hS
    repeat' (first
      | (with_reducible refine o_rd rfl ?_)
      | ((with_reducible refine q_move ?_); refine d_val hE hS rfl (fun w hS => r_move hE rfl) ?_; clear hE a; intro a hE)
      | ((with_reducible refine q_conv ?_); refine d_val hE hS rfl (fun w hS => r_conv hE rfl (by first | with_reducible exact wrap8_len (by omega) )) ?_; clear hE a; intro a hE)
      | ((with_reducible refine q_blt .len ?_); refine d_val hE hS rfl (fun w hS => r_len hE rfl) ?_; clear hE a; intro a hE)
      | ((with_reducible refine q_fa ?_); refine d_val hE hS rfl (fun w hS => r_fieldL hE rfl rfl) ?_; clear hE a; intro a hE)
      | ((with_reducible refine q_load ?_); (first | (refine d_val hE hS rfl (fun w hS => r_loadB (k := 0) hS hE rfl rfl rfl) ?_) ); clear hE a; intro a hE)
      | ((with_reducible refine o_ef rfl ?_))
      )
    refine g_lit ?_
    refine s_litB [_] hE hF rfl rfl rfl rfl rfl rfl rfl ?_
    clear hE a hF; intro g5 a w hE hF
    refine wpList_nil ?_
    refine o_back _ (fun _ h => h) (hF.only 9 rfl) ?_
    clear hS
    have hS := hF.only 9 rfl
    repeat' (first
      | ((with_reducible refine o_ef rfl ?_))
      )
    refine g_blt .append ?_
    refine s_appendB (k := 2) hE hF rfl rfl rfl (by first | exact hF.rdAt (k := 0) rfl ) (by first | exact bys1 _ ) rfl (by first | (simp only [List.length_append, List.length_cons, List.length_nil, beb_length]; omega)) rfl rfl rfl ?_
    clear hE a hF; intro A5 c5 a w hE hF; simp only [List.set_cons_zero, List.set_cons_succ] at hF
    refine wpList_nil ?_
    refine o_back _ (fun _ h => h) (hF.only 9 rfl) ?_
    clear hS
    have hS := hF.only 9 rfl
    repeat' (first
      | ((with_reducible refine o_ef rfl ?_))
      )
    refine g_call (f := 33) ?_
    refine s_call hE rfl rfl rfl (rboth1 _ _ _ _ _ _ w (hF.rdAt (k := 2) rfl) (Rd.st (by assumption) hF) (by first | (simp only [List.length_append, List.length_cons, List.length_nil, beb_length]; omega))) ?_
    rintro _ w ⟨_, _, rfl, hS1⟩
    clear hE a; intro a hE; replace hF := hF.frame hS1; clear hS1; simp only [List.cons_append, List.nil_append] at hF
    refine wpList_nil ?_
    refine o_back _ (fun _ h => h) (hF.only 10 rfl) ?_
    clear hS
    have hS := hF.only 10 rfl
    repeat' (first
      | (with_reducible refine o_rd rfl ?_)
      | (with_reducible refine o_done ?_)
      | ((with_reducible refine q_assign ?_); refine d_val hE hS rfl (fun w hS => r_assign hE rfl) ?_; clear hE a; intro a hE)
      )
    clear hS
    have hS := hF.only2 10 0 rfl rfl
    clear hF
    repeat' (first
      | (with_reducible refine wp_seq ?_)
      | (with_reducible refine then_normal ?_)
      )
    refine c_ordK hS 1 rfl 11 ((.rd 0 (.rd 1 (.rd 2 (.rd 3 (.rd 4 (.rd 7 (.rd 8 (.ef 5 (.ef 6 (.ef 9 (.rd 10 .done)))))))))))) mixed (by decide +kernel) ?_
    clear hS; intro w hF hS
    repeat' (first
      | (with_reducible refine o_rd rfl ?_)
      | ((with_reducible refine q_move ?_); refine d_val hE hS rfl (fun w hS => r_move hE rfl) ?_; clear hE a; intro a hE)
      | ((with_reducible refine q_conv ?_); refine d_val hE hS rfl (fun w hS => r_conv hE rfl (by first | with_reducible exact wrap8_len (by omega) )) ?_; clear hE a; intro a hE)
      | ((with_reducible refine q_blt .len ?_); refine d_val hE hS rfl (fun w hS => r_len hE rfl) ?_; clear hE a; intro a hE)
      | ((with_reducible refine q_fa ?_); refine d_val hE hS rfl (fun w hS => r_fieldL hE rfl rfl) ?_; clear hE a; intro a hE)
      | ((with_reducible refine q_load ?_); (first | (refine d_val hE hS rfl (fun w hS => r_loadB (k := 0) hS hE rfl rfl rfl) ?_) ); clear hE a; intro a hE)
      | ((with_reducible refine o_ef rfl ?_))
      )
    refine g_lit ?_
    refine s_litB [_] hE hF rfl rfl rfl rfl rfl rfl rfl ?_
    clear hE a hF; intro g5 a w hE hF
    refine wpList_nil ?_
    refine o_back _ (fun _ h => h) (hF.only 2 rfl) ?_
    clear hS
    have hS := hF.only 2 rfl
    repeat' (first
      | ((with_reducible refine o_ef rfl ?_))
      )
    refine g_blt .append ?_
    refine s_appendB (k := 1) hE hF rfl rfl rfl (by first | exact hF.rdAt (k := 0) rfl ) (by first | exact bys1 _ ) rfl (by first | (simp only [List.length_append, List.length_cons, List.length_nil, beb_length]; omega)) rfl rfl rfl ?_
    clear hE a hF; intro A5 c5 a w hE hF; simp only [List.set_cons_zero, List.set_cons_succ] at hF
    refine wpList_nil ?_
    refine o_back _ (fun _ h => h) (hF.only 2 rfl) ?_
    clear hS
    have hS := hF.only 2 rfl
    repeat' (first
      | ((with_reducible refine o_ef rfl ?_))
      )
    refine g_call (f := 33) ?_
    refine s_call hE rfl rfl rfl (rboth1 _ _ _ _ _ _ w (hF.rdAt (k := 1) rfl) (Rd.st (by assumption) hF) (by first | (simp only [List.length_append, List.length_cons, List.length_nil, beb_length]; omega))) ?_
    rintro _ w ⟨_, _, rfl, hS1⟩
    clear hE a; intro a hE; replace hF := hF.frame hS1; clear hS1; simp only [List.cons_append, List.nil_append] at hF
    refine wpList_nil ?_
    refine o_back _ (fun _ h => h) (hF.only 3 rfl) ?_
    clear hS
    have hS := hF.only 3 rfl
    repeat' (first
      | (with_reducible refine o_rd rfl ?_)
      | (with_reducible refine o_done ?_)
      | ((with_reducible refine q_assign ?_); refine d_val hE hS rfl (fun w hS => r_assign hE rfl) ?_; clear hE a; intro a hE)
      )
    clear hS
    have hS := hF.only2 3 0 rfl rfl
    clear hF
    repeat' (first
      | (with_reducible refine wp_seq ?_)
      | (with_reducible refine c_region ?_)
      | (with_reducible refine wpList_nil ?_)
      | (with_reducible refine then_normal ?_)
      | (with_reducible refine wp_skip ?_)
      | (with_reducible refine wp_ret ?_)
      | ((with_reducible refine g_move ?_); refine s_move hE rfl rfl ?_; clear hE a; intro a hE)
      | ((with_reducible refine g_assign ?_); refine s_assign hE rfl rfl ?_; clear hE a; intro a hE)
      | ((with_reducible refine g_bin .eql ?_); refine s_eql hE rfl rfl rfl ?_; clear hE a; intro a hE)
      | ((with_reducible refine g_fa ?_); refine s_fieldL hE rfl rfl rfl ?_; clear hE a; intro a hE)
      | ((with_reducible refine g_cond ?_); refine c_false hE rfl ?_)
      | ((with_reducible refine g_load ?_); (first | (refine s_loadB (k := 1) hS hE rfl rfl rfl rfl ?_) ); clear hE a; intro a hE)
      )
    have hS2 := hS.only 0 rfl
    clear hS
    refine ret1 hE rfl rfl ?_
    rw [if_pos rfl]
    simp only [List.append_assoc, List.append_nil, List.singleton_append, List.cons_append, List.nil_append] at hS2 ⊢
    exact ⟨_, _, rfl, hS2⟩
  · repeat' (first
      | (with_reducible refine wp_seq ?_)
      | (with_reducible refine c_region ?_)
      | (with_reducible refine wpList_nil ?_)
      | (with_reducible refine then_normal ?_)
      | (with_reducible refine wp_skip ?_)
      | ((with_reducible refine g_move ?_); refine s_move hE rfl rfl ?_; clear hE a; intro a hE)
      | ((with_reducible refine g_assign ?_); refine s_assign hE rfl rfl ?_; clear hE a; intro a hE)
      | ((with_reducible refine g_bin .gtr ?_); refine s_gtr hE rfl rfl rfl ?_; clear hE a; intro a hE)
      | ((with_reducible refine g_bin .eql ?_); refine s_eql hE rfl rfl rfl ?_; clear hE a; intro a hE)
      | ((with_reducible refine g_conv ?_); refine s_conv hE rfl rfl (by first | exact wrap8_nat (by omega) ) ?_; clear hE a; intro a hE)
      | ((with_reducible refine g_fa ?_); refine s_fieldL hE rfl rfl rfl ?_; clear hE a; intro a hE)
      | ((with_reducible refine g_cond ?_); refine c_false hE rfl ?_)
      | ((with_reducible refine g_call (f := 34) ?_); refine s_call hE rfl rfl rfl (rhigh _ _ (by first | omega ) (by first | (simp only [List.length_append, List.length_nil, List.length_cons, beb_length]; omega)) _) ?_; rintro _ w ⟨_, _, rfl, hS1⟩; clear hE a; intro a hE; replace hS := hS.frame hS1; clear hS1; try simp only [List.cons_append, List.nil_append] at hS) | ((with_reducible refine g_lit ?_); (first | (refine s_litB [_] hE hS rfl rfl rfl rfl rfl rfl rfl ?_) | (refine s_litB [_, _] hE hS rfl rfl rfl rfl rfl rfl rfl ?_)); clear hE a hS; intro g a w hE hS) | ((with_reducible refine g_blt .append ?_); (first | (refine s_appendB (k := 1) hE hS rfl rfl rfl (by first | exact hS.rd ) (by first | exact bys2 _ _ ) rfl (by first | (simp only [List.length_append, List.length_nil, List.length_cons, beb_length]; omega)) rfl rfl rfl ?_) ); clear hE a hS; intro A c a w hE hS; simp only [List.set_cons_zero, List.set_cons_succ] at hS) | ((with_reducible refine g_call (f := 33) ?_); refine s_call hE rfl rfl rfl (rboth1 _ _ _ _ _ _ _ (by first | exact hS.rdAt (k := 1) rfl ) (by first | exact hS.rd ) (by first | (simp only [List.length_append, List.length_nil, List.length_cons, beb_length]; omega))) ?_; rintro _ w ⟨_, _, rfl, hS1⟩; clear hE a; intro a hE; replace hS := hS.frame hS1; clear hS1; try simp only [List.cons_append, List.nil_append] at hS)
      | ((with_reducible refine g_load ?_); (first | (refine s_loadB (k := 0) hS hE rfl rfl rfl rfl ?_) | (refine s_loadB (k := 1) hS hE rfl rfl rfl rfl ?_) | (refine s_loadB (k := 3) hS hE rfl rfl rfl rfl ?_) | (refine s_loadB (k := 5) hS hE rfl rfl rfl rfl ?_) | (refine s_loadB (k := 7) hS hE rfl rfl rfl rfl ?_) | (refine s_loadB (k := 8) hS hE rfl rfl rfl rfl ?_) ); clear hE a; intro a hE)
      | ((with_reducible refine g_box ?_); refine s_boxS hE hS rfl rfl ?_; clear hE a hS; intro g a w hE hS)
      )
    refine c_ordK hS 8 rfl 11 ((.rd 0 (.rd 1 (.rd 2 (.rd 3 (.rd 4 (.rd 7 (.rd 8 (.ef 5 (.ef 6 (.ef 9 (.rd 10 .done)))))))))))) mixed (by decide +kernel) ?_
    clear hS; intro w hF hS
    repeat' (first
      | (with_reducible refine o_rd rfl ?_)
      | ((with_reducible refine q_move ?_); refine d_val hE hS rfl (fun w hS => r_move hE rfl) ?_; clear hE a; intro a hE)
      | ((with_reducible refine q_conv ?_); refine d_val hE hS rfl (fun w hS => r_conv hE rfl (by first | with_reducible exact wrap8_len (by omega) )) ?_; clear hE a; intro a hE)
      | ((with_reducible refine q_blt .len ?_); refine d_val hE hS rfl (fun w hS => r_len hE rfl) ?_; clear hE a; intro a hE)
      | ((with_reducible refine q_fa ?_); refine d_val hE hS rfl (fun w hS => r_fieldL hE rfl rfl) ?_; clear hE a; intro a hE)
      | ((with_reducible refine q_load ?_); (first | (refine d_val hE hS rfl (fun w hS => r_loadB (k := 0) hS hE rfl rfl rfl) ?_) ); clear hE a; intro a hE)
      | ((with_reducible refine o_ef rfl ?_))
      )
    refine g_lit ?_
    refine s_litB [_] hE hF rfl rfl rfl rfl rfl rfl rfl ?_
    clear hE a hF; intro g5 a w hE hF
    refine wpList_nil ?_
    refine o_back _ (fun _ h => h) (hF.only 9 rfl) ?_
    clear hS
    have hS := hF.only 9 rfl
    repeat' (first
      | ((with_reducible refine o_ef rfl ?_))
      )
    refine g_blt .append ?_
    refine s_appendB (k := 2) hE hF rfl rfl rfl (by first | exact hF.rdAt (k := 0) rfl ) (by first | exact bys1 _ ) rfl (by first | (simp only [List.length_append, List.length_cons, List.length_nil, beb_length]; omega)) rfl rfl rfl ?_
    clear hE a hF; intro A5 c5 a w hE hF; simp only [List.set_cons_zero, List.set_cons_succ] at hF
    refine wpList_nil ?_
    refine o_back _ (fun _ h => h) (hF.only 9 rfl) ?_
    clear hS
    have hS := hF.only 9 rfl
    repeat' (first
      | ((with_reducible refine o_ef rfl ?_))
      )
    refine g_call (f := 33) ?_
    refine s_call hE rfl rfl rfl (rboth1 _ _ _ _ _ _ w (hF.rdAt (k := 2) rfl) (Rd.st (by assumption) hF) (by first | (simp only [List.length_append, List.length_cons, List.length_nil, beb_length]; omega))) ?_
    rintro _ w ⟨_, _, rfl, hS1⟩
    clear hE a; intro a hE; replace hF := hF.frame hS1; clear hS1; simp only [List.cons_append, List.nil_append] at hF
    refine wpList_nil ?_
    refine o_back _ (fun _ h => h) (hF.only 10 rfl) ?_
    clear hS
    have hS := hF.only 10 rfl
    repeat' (first
      | (with_reducible refine o_rd rfl ?_)
      | (with_reducible refine o_done ?_)
      | ((with_reducible refine q_assign ?_); refine d_val hE hS rfl (fun w hS => r_assign hE rfl) ?_; clear hE a; intro a hE)
      )
    clear hS
    have hS := hF.only2 10 0 rfl rfl
    clear hF
    repeat' (first
      | (with_reducible refine wp_seq ?_)
      | (with_reducible refine c_region ?_)
      | (with_reducible refine wpList_nil ?_)
      | (with_reducible refine then_normal ?_)
      | (with_reducible refine wp_ret ?_)
      | ((with_reducible refine g_move ?_); refine s_move hE rfl rfl ?_; clear hE a; intro a hE)
      | ((with_reducible refine g_assign ?_); refine s_assign hE rfl rfl ?_; clear hE a; intro a hE)
      | ((with_reducible refine g_bin .eql ?_); refine s_eql hE rfl rfl rfl ?_; clear hE a; intro a hE)
      | ((with_reducible refine g_fa ?_); refine s_fieldL hE rfl rfl rfl ?_; clear hE a; intro a hE)
      | ((with_reducible refine g_cond ?_); refine c_true hE rfl ?_)
      | ((with_reducible refine g_call (f := 34) ?_); refine s_call hE rfl rfl rfl (rhigh _ _ (by first | omega ) (by first | (simp only [List.length_append, List.length_nil, List.length_cons, beb_length]; omega)) _) ?_; rintro _ w ⟨_, _, rfl, hS1⟩; clear hE a; intro a hE; replace hS := hS.frame hS1; clear hS1; try simp only [List.cons_append, List.nil_append] at hS) | ((with_reducible refine g_call (f := 33) ?_); refine s_call hE rfl rfl rfl (rboth1 _ _ _ _ _ _ _ (by first | exact hS.rdAt (k := 1) rfl ) (by first | exact hS.rd ) (by first | (simp only [List.length_append, List.length_nil, List.length_cons, beb_length]; omega))) ?_; rintro _ w ⟨_, _, rfl, hS1⟩; clear hE a; intro a hE; replace hS := hS.frame hS1; clear hS1; try simp only [List.cons_append, List.nil_append] at hS)
      | ((with_reducible refine g_load ?_); (first | (refine s_loadB (k := 1) hS hE rfl rfl rfl rfl ?_) ); clear hE a; intro a hE)
      )
    have hS2 := hS.only 0 rfl
    clear hS
    refine ret1 hE rfl rfl ?_
    rw [if_neg (by decide), if_pos rfl]
    simp only [List.append_assoc, List.append_nil, List.singleton_append, List.cons_append, List.nil_append] at hS2 ⊢
    exact ⟨_, _, rfl, hS2⟩
  · repeat' (first
      | (with_reducible refine wp_seq ?_)
      | (with_reducible refine c_region ?_)
      | (with_reducible refine wpList_nil ?_)
      | (with_reducible refine then_normal ?_)
      | (with_reducible refine wp_ret ?_)
      | (with_reducible refine then_ret ?_)
      | ((with_reducible refine g_move ?_); refine s_move hE rfl rfl ?_; clear hE a; intro a hE)
      | ((with_reducible refine g_assign ?_); refine s_assign hE rfl rfl ?_; clear hE a; intro a hE)
      | ((with_reducible refine g_bin .gtr ?_); refine s_gtr hE rfl rfl rfl ?_; clear hE a; intro a hE)
      | ((with_reducible refine g_conv ?_); refine s_conv hE rfl rfl (by first | exact wrap8_nat (by omega) ) ?_; clear hE a; intro a hE)
      | ((with_reducible refine g_fa ?_); refine s_fieldL hE rfl rfl rfl ?_; clear hE a; intro a hE)
      | ((with_reducible refine g_cond ?_); refine c_true hE rfl ?_)
      | ((with_reducible refine g_call (f := 34) ?_); refine s_call hE rfl rfl rfl (rhigh _ _ (by first | omega ) (by first | (simp only [List.length_append, List.length_nil, List.length_cons, beb_length]; omega)) _) ?_; rintro _ w ⟨_, _, rfl, hS1⟩; clear hE a; intro a hE; replace hS := hS.frame hS1; clear hS1; try simp only [List.cons_append, List.nil_append] at hS) | ((with_reducible refine g_lit ?_); (first | (refine s_litB [_] hE hS rfl rfl rfl rfl rfl rfl rfl ?_) ); clear hE a hS; intro g a w hE hS) | ((with_reducible refine g_call (f := 33) ?_); refine s_call hE rfl rfl rfl (rboth1 _ _ _ _ _ _ _ (by first | exact hS.rdAt (k := 1) rfl ) (by first | exact hS.rd ) (by first | (simp only [List.length_append, List.length_nil, List.length_cons, beb_length]; omega))) ?_; rintro _ w ⟨_, _, rfl, hS1⟩; clear hE a; intro a hE; replace hS := hS.frame hS1; clear hS1; try simp only [List.cons_append, List.nil_append] at hS)
      | ((with_reducible refine g_load ?_); (first | (refine s_loadB (k := 0) hS hE rfl rfl rfl rfl ?_) | (refine s_loadB (k := 1) hS hE rfl rfl rfl rfl ?_) | (refine s_loadB (k := 3) hS hE rfl rfl rfl rfl ?_) | (refine s_loadB (k := 5) hS hE rfl rfl rfl rfl ?_) | (refine s_loadB (k := 7) hS hE rfl rfl rfl rfl ?_) ); clear hE a; intro a hE)
      | ((with_reducible refine g_box ?_); refine s_boxS hE hS rfl rfl ?_; clear hE a hS; intro g a w hE hS)
      )
    have hS2 := hS.only 0 rfl
    clear hS
    refine ret1 hE rfl rfl ?_
    rw [if_neg (by decide), if_neg (by decide)]
    simp only [List.append_assoc, List.append_nil, List.singleton_append, List.cons_append, List.nil_append] at hS2 ⊢
    exact ⟨_, _, rfl, hS2⟩
  · repeat' (first
      | (with_reducible refine wp_seq ?_)
      | (with_reducible refine c_region ?_)
      | (with_reducible refine wpList_nil ?_)
      | (with_reducible refine then_normal ?_)
      | (with_reducible refine wp_ret ?_)
      | (with_reducible refine then_ret ?_)
      | ((with_reducible refine g_move ?_); refine s_move hE rfl rfl ?_; clear hE a; intro a hE)
      | ((with_reducible refine g_assign ?_); refine s_assign hE rfl rfl ?_; clear hE a; intro a hE)
      | ((with_reducible refine g_bin .gtr ?_); refine s_gtr hE rfl rfl rfl ?_; clear hE a; intro a hE)
      | ((with_reducible refine g_conv ?_); refine s_conv hE rfl rfl (by first | exact wrap8_nat (by omega) ) ?_; clear hE a; intro a hE)
      | ((with_reducible refine g_fa ?_); refine s_fieldL hE rfl rfl rfl ?_; clear hE a; intro a hE)
      | ((with_reducible refine g_cond ?_); refine c_true hE rfl ?_)
      | ((with_reducible refine g_call (f := 34) ?_); refine s_call hE rfl rfl rfl (rhigh _ _ (by first | omega ) (by first | (simp only [List.length_append, List.length_nil, List.length_cons, beb_length]; omega)) _) ?_; rintro _ w ⟨_, _, rfl, hS1⟩; clear hE a; intro a hE; replace hS := hS.frame hS1; clear hS1; try simp only [List.cons_append, List.nil_append] at hS) | ((with_reducible refine g_lit ?_); (first | (refine s_litB [_] hE hS rfl rfl rfl rfl rfl rfl rfl ?_) ); clear hE a hS; intro g a w hE hS) | ((with_reducible refine g_call (f := 33) ?_); refine s_call hE rfl rfl rfl (rboth1 _ _ _ _ _ _ _ (by first | exact hS.rdAt (k := 1) rfl ) (by first | exact hS.rd ) (by first | (simp only [List.length_append, List.length_nil, List.length_cons, beb_length]; omega))) ?_; rintro _ w ⟨_, _, rfl, hS1⟩; clear hE a; intro a hE; replace hS := hS.frame hS1; clear hS1; try simp only [List.cons_append, List.nil_append] at hS)
      | ((with_reducible refine g_load ?_); (first | (refine s_loadB (k := 0) hS hE rfl rfl rfl rfl ?_) | (refine s_loadB (k := 1) hS hE rfl rfl rfl rfl ?_) | (refine s_loadB (k := 3) hS hE rfl rfl rfl rfl ?_) | (refine s_loadB (k := 5) hS hE rfl rfl rfl rfl ?_) | (refine s_loadB (k := 7) hS hE rfl rfl rfl rfl ?_) ); clear hE a; intro a hE)
      | ((with_reducible refine g_box ?_); refine s_boxS hE hS rfl rfl ?_; clear hE a hS; intro g a w hE hS)
      )
    have hS2 := hS.only 0 rfl
    clear hS
    refine ret1 hE rfl rfl ?_
    rw [if_neg (by decide), if_neg (by decide)]
    simp only [List.append_assoc, List.append_nil, List.singleton_append, List.cons_append, List.nil_append] at hS2 ⊢
    exact ⟨_, _, rfl, hS2⟩
end Go.Proofs.Ytmfcffeoooegcaa
