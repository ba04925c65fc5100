/-
  Contracts of record: a row's bytes.
-/
import Derived.Test.YtmfcffeoooegcaaTA
namespace Go.Proofs.Ytmfcffeoooegcaa
open Go.RowKit
set_option linter.unusedVariables false
set_option linter.unusedSimpArgs false
attribute [local irreducible] Rd hRow hBlk hRd hAll Fn hRdr hMarks hRcs
attribute [local simp] Rc.cells

theorem rowOk_right {rs : List Rc} (h : rowOk rs) {k : Nat} (hk : k < rs.length) : rs[k].right := by
  have := (h k hk).1
  rw [List.getD_eq_getElem?_getD, List.getElem?_eq_getElem hk] at this
  exact this
theorem rowE_zero {rs : List Rc} (h : rowE rs = 0) : rs.length ≤ 64 ∧ rowOk rs := by
  unfold rowE at h
  split at h
  · cases h
  · split at h
    · exact ⟨by omega, by assumption⟩
    · cases h
set_option maxHeartbeats 8000000 in
theorem encodeRow_no (A : Option Addr) (c : Nat) (rs : List Rc) (w0 : World) (hr : Rd w0 A (rs.flatMap Rc.cells)) (hl : rs.length ≤ 9223372036854775806) (hrd : ∀ r ∈ rs, r.rd w0) (hwf : ∀ r ∈ rs, r.wf) (hE0 : rowE rs ≠ 0) :
    Fn Try.prog 21 [.slice A rs.length c] w0 fun v w' => v = .tuple #[.slice none 0 0, .int .i64 (rowE rs)] ∧ St w0 w' [] := by
  refine enter 28 Try.func21 rfl rfl rfl ?_
  intro a hE
  have hS := St.start w0
  repeat' (first
    | (with_reducible refine wp_seq ?_)
    | (with_reducible refine c_region ?_)
    | (with_reducible refine wpList_nil ?_)
    | (with_reducible refine then_normal ?_)
    | ((with_reducible refine g_move ?_); refine s_move hE rfl rfl ?_; clear hE a; intro a hE)
    | ((with_reducible refine g_assign ?_); refine s_assign hE rfl rfl ?_; clear hE a; intro a hE)
    )
  refine s_call hE rfl rfl rfl (checkRow A c rs w0 hr hl hrd hwf) ?_
  rintro _ w ⟨rfl, hS1⟩; clear hE a; intro a hE; replace hS := hS.frame hS1; clear hS1; try simp only [List.cons_append, List.nil_append] at hS
  repeat' (first
    | (with_reducible refine wp_seq ?_)
    | (with_reducible refine c_region ?_)
    | (with_reducible refine wpList_nil ?_)
    | (with_reducible refine then_normal ?_)
    | (with_reducible refine wp_ret ?_)
    | (with_reducible refine then_ret ?_)
    | ((with_reducible refine g_move ?_); refine s_move hE rfl rfl ?_; clear hE a; intro a hE)
    | ((with_reducible refine g_assign ?_); refine s_assign hE rfl rfl ?_; clear hE a; intro a hE)
    | ((with_reducible refine g_bin .neq ?_); refine s_neq hE rfl rfl rfl ?_; clear hE a; intro a hE)
    | ((with_reducible refine g_cond ?_); refine c_dec hE rfl (fun hc => ?_) (fun hc => ?_) <;> try omega)
    )
  exact ret2 hE rfl rfl rfl ⟨rfl, hS⟩
set_option maxHeartbeats 8000000 in
theorem encodeRow_ok (A : Option Addr) (c : Nat) (rs : List Rc) (w0 : World) (hr : Rd w0 A (rs.flatMap Rc.cells)) (hrd : ∀ r ∈ rs, r.rd w0) (hwf : ∀ r ∈ rs, r.wf) (hE0 : rowE rs = 0) :
    Fn Try.prog 21 [.slice A rs.length c] w0 fun v w' => ∃ A' c', v = .tuple #[.slice A' (rowEnc rs).length c', .int .i64 0] ∧ St w0 w' [hRow 5 1 A' (rowEnc rs).length c' (bys (rowEnc rs))] := by
  obtain ⟨hl, hok⟩ := rowE_zero hE0
  refine enter 28 Try.func21 rfl rfl rfl ?_
  intro a hE
  have hS := St.start w0
  have hfl : (rs.flatMap Rc.cells).length = rs.length * 9 := flat_len (fun _ _ => rfl)
  repeat' (first
    | (with_reducible refine wp_seq ?_)
    | (with_reducible refine c_region ?_)
    | (with_reducible refine wpList_nil ?_)
    | (with_reducible refine then_normal ?_)
    | ((with_reducible refine g_move ?_); refine s_move hE rfl rfl ?_; clear hE a; intro a hE)
    | ((with_reducible refine g_assign ?_); refine s_assign hE rfl rfl ?_; clear hE a; intro a hE)
    )
  refine s_call hE rfl rfl rfl (checkRow A c rs w0 hr (by omega) hrd hwf) ?_
  rintro _ w ⟨rfl, hS1⟩; clear hE a; intro a hE; replace hS := hS.frame hS1; clear hS1; try simp only [List.cons_append, List.nil_append] at hS
  rw [hE0] at hE
  repeat' (first
    | (with_reducible refine wp_seq ?_)
    | (with_reducible refine c_region ?_)
    | (with_reducible refine wpList_nil ?_)
    | (with_reducible refine then_normal ?_)
    | (with_reducible refine wp_skip ?_)
    | ((with_reducible refine g_move ?_); refine s_move hE rfl rfl ?_; clear hE a; intro a hE)
    | ((with_reducible refine g_assign ?_); refine s_assign hE rfl rfl ?_; clear hE a; intro a hE)
    | ((with_reducible refine g_bin .neq ?_); refine s_neq hE rfl rfl rfl ?_; clear hE a; intro a hE)
    | ((with_reducible refine g_conv ?_); refine s_conv hE rfl rfl (by first | exact (wrap_u16_nat _).trans (by rw [Nat.mod_eq_of_lt (by omega)]) ) ?_; clear hE a; intro a hE)
    | ((with_reducible refine g_blt .len ?_); refine s_len hE rfl rfl ?_; clear hE a; intro a hE)
    | ((with_reducible refine g_cond ?_); refine c_false hE rfl ?_)
    )
  have h16 := put16 none 0 [] rs.length (by omega) w Rd.nil (by decide)
  simp only [List.nil_append, List.length_nil] at h16
  refine s_call hE rfl rfl rfl h16 ?_
  rintro _ w ⟨A1, c1, rfl, hS1⟩; clear hE a; intro a hE; replace hS := hS.frame hS1; clear hS1; try simp only [List.cons_append, List.nil_append] at hS
  repeat' (first
    | (with_reducible refine wp_seq ?_)
    | (with_reducible refine c_region ?_)
    | (with_reducible refine wpList_nil ?_)
    | (with_reducible refine then_normal ?_)
    | (with_reducible refine wp_block ?_)
    | ((with_reducible refine g_move ?_); refine s_move hE rfl rfl ?_; clear hE a; intro a hE)
    | ((with_reducible refine g_assign ?_); refine s_assign hE rfl rfl ?_; clear hE a; intro a hE)
    | ((with_reducible refine g_blt .len ?_); refine s_len hE rfl rfl ?_; clear hE a; intro a hE)
    )
  refine wp_loop_ghost (fun q a w => ∃ (k : Nat) (A' : Option Addr) (c' : Nat) (ys : List Nat), k + q = rs.length ∧ ys = beb 2 rs.length ++ (rs.take k).flatMap Rc.enc ∧ ys.length ≤ 2 + 140 * k ∧ St w0 w [hRow 5 1 A' ys.length c' (bys ys)] ∧
    Env 28 [(17, .slice A rs.length c), (18, .int .i64 (rs.length : Int)), (19, .int .i64 (k : Int)), (5, .slice A' ys.length c')] a) rs.length ⟨0, A1, c1, beb 2 rs.length, by omega, by simp, by rw [beb_length]; omega, hS, hE.sub ⟨rfl, rfl, rfl, rfl, trivial⟩⟩ ?_
  clear hE a hS
  rintro q a w ⟨k, A', c', ys, hk, hys, hyl, hS, hE⟩
  by_cases hk1 : k < rs.length
  · have hseg := flat_seg (c := Rc.cells) (size := 9) (l := rs) (fun _ _ => rfl) hk1
    have hR := rowOk_right hok hk1
    have hel := Rc.enc_length hR
    repeat' (first
      | (with_reducible refine wp_seq ?_)
      | (with_reducible refine c_region ?_)
      | (with_reducible refine wpList_nil ?_)
      | (with_reducible refine then_normal ?_)
      | (with_reducible refine wp_skip ?_)
      | (with_reducible refine wp_block ?_)
      | ((with_reducible refine g_move ?_); refine s_move hE rfl rfl ?_; clear hE a; intro a hE)
      | ((with_reducible refine g_bin .lss ?_); refine s_lss hE rfl rfl rfl ?_; clear hE a; intro a hE)
      | ((with_reducible refine g_cond ?_); refine c_dec hE rfl (fun hc => ?_) (fun hc => ?_) <;> try omega)
      | ((with_reducible refine g_ia ?_); refine s_idxR hE rfl rfl (by omega) (by omega) (by (first | exact Rd.st (by assumption) hS )) (by first | omega ) rfl ?_; clear hE a; intro a hE)
      | ((with_reducible refine g_alloc ?_); refine s_allocS hE hS rfl rfl ?_; clear hE a hS; intro g a w hE hS)
      | ((with_reducible refine g_load ?_); (first | (refine s_loadW (k := 0) hS hE rfl rfl rfl rfl ?_) ); clear hE a; intro a hE)
      | ((with_reducible refine g_store ?_); (first | (refine s_storeW (k := 0) hS hE rfl rfl rfl rfl rfl (by simp [Value.oneCell']) ?_) ); clear hS; intro w hS; simp only [List.set_cons_zero, List.set_cons_succ, Nat.add_zero] at hS)
      | ((with_reducible refine g_load ?_); refine s_elemR hE rfl (by (first | exact Rd.st (by assumption) hS )) (by first | exact hseg ) (by rfl) (by rfl) rfl ?_; clear hE a; intro a hE))
    have hput := put_ rs[k] A' c' ys [hBlk g 25 rs[k].cells] w0 w (hrd _ (List.getElem_mem hk1)) (hwf _ (List.getElem_mem hk1)) hR (by omega) hS.p1
    refine s_call hE rfl rfl rfl hput ?_
    rintro _ w ⟨A2, c2, rfl, hS⟩; clear hE a; intro a hE
    repeat' (first
      | (with_reducible refine c_region ?_)
      | (with_reducible refine wpList_nil ?_)
      | (with_reducible refine then_normal ?_)
      | (with_reducible refine block_normal ?_)
      | ((with_reducible refine g_move ?_); refine s_move hE rfl rfl ?_; clear hE a; intro a hE)
      | ((with_reducible refine g_assign ?_); refine s_assign hE rfl rfl ?_; clear hE a; intro a hE)
      | ((with_reducible refine g_bin .add ?_); refine s_add hE rfl rfl rfl (by first  | exact wrap64_in (by omega) ) ?_; clear hE a; intro a hE)
      )
    refine ⟨q - 1, by omega, k + 1, A2, c2, ys ++ rs[k].enc, by omega, ?_, by rw [List.length_append]; omega, hS.only 0 rfl, hE.sub ⟨rfl, rfl, rfl, rfl, trivial⟩⟩
    rw [hys, List.take_succ_eq_append_getElem hk1, List.flatMap_append, List.append_assoc]
    simp
  · obtain rfl : k = rs.length := by omega
    repeat' (first
      | (with_reducible refine wp_seq ?_)
      | (with_reducible refine c_region ?_)
      | (with_reducible refine wpList_nil ?_)
      | (with_reducible refine then_normal ?_)
      | (with_reducible refine wp_ret ?_)
      | (with_reducible refine wp_exit ?_)
      | (with_reducible refine then_exit ?_)
      | (with_reducible refine block_same ?_)
      | ((with_reducible refine g_move ?_); refine s_move hE rfl rfl ?_; clear hE a; intro a hE)
      | ((with_reducible refine g_assign ?_); refine s_assign hE rfl rfl ?_; clear hE a; intro a hE)
      | ((with_reducible refine g_bin .lss ?_); refine s_lss hE rfl rfl rfl ?_; clear hE a; intro a hE)
      | ((with_reducible refine g_cond ?_); refine c_dec hE rfl (fun hc => ?_) (fun hc => ?_) <;> try omega)
      )
    rw [List.take_length] at hys
    subst hys
    exact ret2 hE rfl rfl rfl ⟨_, _, rfl, hS⟩
set_option maxHeartbeats 8000000 in
theorem row_ (A : Option Addr) (c : Nat) (rs : List Rc) (w0 : World) (hr : Rd w0 A (rs.flatMap Rc.cells)) (hl : rs.length ≤ 64) (hrd : ∀ r ∈ rs, r.rd w0) (hwf : ∀ r ∈ rs, r.wf) (hok : rowOk rs) :
    Fn Try.prog 25 [.slice A rs.length c] w0 fun v w' => ∃ A' c', v = .slice A' (rowEnc rs).length c' ∧ St w0 w' [hRow 5 1 A' (rowEnc rs).length c' (bys (rowEnc rs))] := by
  refine enter 23 Try.func25 rfl rfl rfl ?_
  intro a hE
  have hS := St.start w0
  have hfl : (rs.flatMap Rc.cells).length = rs.length * 9 := flat_len (fun _ _ => rfl)
  repeat' (first
    | (with_reducible refine wp_seq ?_)
    | (with_reducible refine c_region ?_)
    | (with_reducible refine wpList_nil ?_)
    | (with_reducible refine then_normal ?_)
    | ((with_reducible refine g_move ?_); refine s_move hE rfl rfl ?_; clear hE a; intro a hE)
    | ((with_reducible refine g_assign ?_); refine s_assign hE rfl rfl ?_; clear hE a; intro a hE)
    | ((with_reducible refine g_conv ?_); refine s_conv hE rfl rfl (by first | exact wrap_u64_in (by omega) ) ?_; clear hE a; intro a hE)
    | ((with_reducible refine g_blt .len ?_); refine s_len hE rfl rfl ?_; clear hE a; intro a hE)
    )
  refine s_call hE rfl rfl rfl (rhigh rs.length 2 (by omega) (by decide) w0) ?_
  rintro _ w ⟨A1, c1, rfl, hS1⟩; clear hE a; intro a hE; replace hS := hS.frame hS1; clear hS1; try simp only [List.cons_append, List.nil_append] at hS
  repeat' (first
    | (with_reducible refine wp_seq ?_)
    | (with_reducible refine c_region ?_)
    | (with_reducible refine wpList_nil ?_)
    | (with_reducible refine then_normal ?_)
    | (with_reducible refine wp_block ?_)
    | ((with_reducible refine g_assign ?_); refine s_assign hE rfl rfl ?_; clear hE a; intro a hE)
    )
  refine wp_loop_ghost (fun q a w => ∃ (k : Nat) (A' : Option Addr) (c' : Nat) (ys : List Nat), k + q = rs.length ∧ ys = beb 2 rs.length ++ (rs.take k).flatMap Rc.enc ∧ ys.length ≤ 2 + 140 * k ∧ St w0 w [hRow 5 1 A' ys.length c' (bys ys)] ∧
    Env 23 [(0, .slice A rs.length c), (4, .int .i64 (k : Int)), (3, .slice A' ys.length c')] a) rs.length ⟨0, A1, c1, beb 2 rs.length, by omega, by simp, by rw [beb_length]; omega, hS, hE.sub ⟨rfl, rfl, rfl, trivial⟩⟩ ?_
  clear hE a hS
  rintro q a w ⟨k, A', c', ys, hk, hys, hyl, hS, hE⟩
  by_cases hk1 : k < rs.length
  · have hseg := flat_seg (c := Rc.cells) (size := 9) (l := rs) (fun _ _ => rfl) hk1
    have hR := rowOk_right hok hk1
    have hel := Rc.enc_length hR
    repeat' (first
      | (with_reducible refine wp_seq ?_)
      | (with_reducible refine c_region ?_)
      | (with_reducible refine wpList_nil ?_)
      | (with_reducible refine then_normal ?_)
      | (with_reducible refine wp_skip ?_)
      | (with_reducible refine wp_block ?_)
      | ((with_reducible refine g_move ?_); refine s_move hE rfl rfl ?_; clear hE a; intro a hE)
      | ((with_reducible refine g_bin .lss ?_); refine s_lss hE rfl rfl rfl ?_; clear hE a; intro a hE)
      | ((with_reducible refine g_blt .len ?_); refine s_len hE rfl rfl ?_; clear hE a; intro a hE)
      | ((with_reducible refine g_cond ?_); refine c_dec hE rfl (fun hc => ?_) (fun hc => ?_) <;> try omega)
      | ((with_reducible refine g_ia ?_); refine s_idxR hE rfl rfl (by omega) (by omega) (by (first | exact Rd.st (by assumption) hS )) (by first | omega ) rfl ?_; clear hE a; intro a hE)
      | ((with_reducible refine g_load ?_); refine s_elemR hE rfl (by (first | exact Rd.st (by assumption) hS )) (by first | exact hseg ) (by rfl) (by rfl) rfl ?_; clear hE a; intro a hE))
    refine s_call hE rfl rfl rfl (rbytes rs[k] w (Rc.rd_st (hrd _ (List.getElem_mem hk1)) hS) (hwf _ (List.getElem_mem hk1)) hR) ?_
    rintro _ w ⟨A2, c2, rfl, hS1⟩; clear hE a; intro a hE; replace hS := hS.frame hS1; clear hS1; try simp only [List.cons_append, List.nil_append] at hS
    refine s_call hE rfl rfl rfl (rboth1 _ _ _ _ ys rs[k].enc w (hS.rdAt (k := 1) rfl) (hS.rdAt (k := 0) rfl) (by omega)) ?_
    rintro _ w ⟨A3, c3, rfl, hS1⟩; clear hE a; intro a hE; replace hS := hS.frame hS1; clear hS1; try simp only [List.cons_append, List.nil_append] at hS
    repeat' (first
      | (with_reducible refine c_region ?_)
      | (with_reducible refine wpList_nil ?_)
      | (with_reducible refine then_normal ?_)
      | (with_reducible refine block_normal ?_)
      | ((with_reducible refine g_move ?_); refine s_move hE rfl rfl ?_; clear hE a; intro a hE)
      | ((with_reducible refine g_assign ?_); refine s_assign hE rfl rfl ?_; clear hE a; intro a hE)
      | ((with_reducible refine g_bin .add ?_); refine s_add hE rfl rfl rfl (by first  | exact wrap64_in (by omega) ) ?_; clear hE a; intro a hE)
      )
    refine ⟨q - 1, by omega, k + 1, A3, c3, ys ++ rs[k].enc, by omega, ?_, by rw [List.length_append]; omega, hS.only 0 rfl, hE.sub ⟨rfl, rfl, rfl, trivial⟩⟩
    rw [hys, List.take_succ_eq_append_getElem hk1, List.flatMap_append, List.append_assoc]
    simp
  · obtain rfl : k = rs.length := by omega
    repeat' (first
      | (with_reducible refine wp_seq ?_)
      | (with_reducible refine c_region ?_)
      | (with_reducible refine wpList_nil ?_)
      | (with_reducible refine then_normal ?_)
      | (with_reducible refine wp_ret ?_)
      | (with_reducible refine wp_exit ?_)
      | (with_reducible refine then_exit ?_)
      | (with_reducible refine block_same ?_)
      | ((with_reducible refine g_move ?_); refine s_move hE rfl rfl ?_; clear hE a; intro a hE)
      | ((with_reducible refine g_assign ?_); refine s_assign hE rfl rfl ?_; clear hE a; intro a hE)
      | ((with_reducible refine g_bin .lss ?_); refine s_lss hE rfl rfl rfl ?_; clear hE a; intro a hE)
      | ((with_reducible refine g_blt .len ?_); refine s_len hE rfl rfl ?_; clear hE a; intro a hE)
      | ((with_reducible refine g_cond ?_); refine c_dec hE rfl (fun hc => ?_) (fun hc => ?_) <;> try omega)
      )
    rw [List.take_length] at hys
    subst hys
    exact ret1 hE rfl rfl ⟨_, _, rfl, hS⟩
end Go.Proofs.Ytmfcffeoooegcaa
