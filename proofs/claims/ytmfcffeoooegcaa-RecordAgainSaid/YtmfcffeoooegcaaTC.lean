/-
  The law RecordRows.
-/
import Derived.Test.YtmfcffeoooegcaaTB
namespace Go.Proofs.Ytmfcffeoooegcaa
open Go.RowKit
set_option linter.unusedVariables false
set_option linter.unusedSimpArgs false
attribute [local irreducible] Rd hRow hBlk hRd hAll Fn hRdr hMarks hRcs
attribute [local simp] Rc.cells

/-- the bytes that a row is encoded into, or none -/
def encM (rs : List Rc) : List Nat := if rowE rs = 0 then rowEnc rs else []
theorem encM_of_core {rs ls : List Rc} (h : ls.map Rc.core = rs.map Rc.core) : encM ls = encM rs := by
  unfold encM; rw [rowE_of_core h, rowEnc_of_core h]
theorem encodeRow_ (A : Option Addr) (c : Nat) (rs : List Rc) (w0 : World) (hr : Rd w0 A (rs.flatMap Rc.cells)) (hl : rs.length ≤ 9223372036854775806) (hrd : ∀ r ∈ rs, r.rd w0) (hwf : ∀ r ∈ rs, r.wf) :
    Fn Try.prog 21 [.slice A rs.length c] w0 fun v w' => ∃ A' c', v = .tuple #[.slice A' (encM rs).length c', .int .i64 (rowE rs)] ∧ St w0 w' [hRow 5 1 A' (encM rs).length c' (bys (encM rs))] := by
  unfold encM
  by_cases h : rowE rs = 0
  · rw [if_pos h, h]
    exact encodeRow_ok A c rs w0 hr hrd hwf h
  · rw [if_neg h]
    refine (encodeRow_no A c rs w0 hr hl hrd hwf h).mono ?_
    rintro v w' ⟨rfl, hS⟩
    exact ⟨none, 0, rfl, hS.rowNil _ _⟩
theorem bigs_no {rs : List Rc} (h : ¬ largeM rs) : rs.length ≤ 200 := by
  unfold largeM at h
  omega
theorem same_refl (r : Rc) {A : Option Addr} {c : Nat} {B : Option Addr} {d : Nat} : r.same (r.at_ A c B d) := ⟨rfl, rfl, rfl, rfl, rfl, rfl, rfl, rfl, rfl⟩
theorem flat_enc_len1 : ∀ {rs : List Rc}, (∀ r ∈ rs, r.right) → (rs.flatMap Rc.enc).length ≤ 140 * rs.length
  | [], _ => by simp
  | r :: rs, h => by
    have h1 := Rc.enc_length (h r (by simp))
    have h2 := flat_enc_len1 (rs := rs) fun x hx => h x (by simp [hx])
    rw [List.flatMap_cons, List.length_append, List.length_cons]
    omega
theorem flat_enc_len {rs : List Rc} (h : rowOk rs) : (rowEnc rs).length ≤ 2 + 140 * rs.length := by
  unfold rowEnc
  rw [List.length_append, beb_length]
  have := flat_enc_len1 (rs := rs) fun r hr => by
    obtain ⟨k, hk, rfl⟩ := List.mem_iff_getElem.1 hr
    exact rowOk_right h hk
  omega
set_option maxHeartbeats 8000000 in
theorem rows (A : Option Addr) (c : Nat) (rs : List Rc) (w0 : World) (hr : Rd w0 A (rs.flatMap Rc.cells)) (hl : rs.length ≤ 9223372036854775806) (hrd : ∀ r ∈ rs, r.rd w0) (hwf : ∀ r ∈ rs, r.wf) :
    Fn Try.prog 6 [.slice A rs.length c] w0 fun v w' => v = .bool true ∧ St w0 w' [] := by
  refine enter 106 Try.func6 rfl rfl rfl ?_
  intro a hE
  have hS := St.start w0
  have hfl : (rs.flatMap Rc.cells).length = rs.length * 9 := flat_len (fun _ _ => rfl)
  repeat' (first
    | (with_reducible refine wp_seq ?_)
    | (with_reducible refine c_region ?_)
    | (with_reducible refine wpList_nil ?_)
    | (with_reducible refine then_normal ?_)
    | ((with_reducible refine g_assign ?_); refine s_assign hE rfl rfl ?_; clear hE a; intro a hE)
    )
  refine s_call hE rfl rfl rfl (wakes w0) ?_; rintro _ w ⟨rfl, hS1⟩; clear hE a; intro a hE; replace hS := hS.frame hS1; clear hS1; try simp only [List.cons_append, List.nil_append] at hS
  repeat' (first
    | (with_reducible refine wp_seq ?_)
    | (with_reducible refine c_region ?_)
    | (with_reducible refine wpList_nil ?_)
    | (with_reducible refine then_normal ?_)
    | (with_reducible refine wp_skip ?_)
    | ((with_reducible refine g_move ?_); refine s_move hE rfl rfl ?_; clear hE a; intro a hE)
    | ((with_reducible refine g_un .not ?_); refine s_notb hE rfl rfl ?_; clear hE a; intro a hE)
    | ((with_reducible refine g_cond ?_); refine c_false hE rfl ?_)
    )
  refine s_call hE rfl rfl rfl (large A c rs w (hr.st hS) hl) ?_; rintro _ w ⟨rfl, hS1⟩; clear hE a; intro a hE; replace hS := hS.frame hS1; clear hS1; try simp only [List.cons_append, List.nil_append] at hS
  repeat' (first
    | (with_reducible refine wp_seq ?_)
    | (with_reducible refine c_region ?_)
    | (with_reducible refine wpList_nil ?_)
    | (with_reducible refine then_normal ?_)
    | (with_reducible refine wp_skip ?_)
    | (with_reducible refine wp_ret ?_)
    | (with_reducible refine then_ret ?_)
    | ((with_reducible refine g_move ?_); refine s_move hE rfl rfl ?_; clear hE a; intro a hE)
    | ((with_reducible refine g_assign ?_); refine s_assign hE rfl rfl ?_; clear hE a; intro a hE)
    | ((with_reducible refine g_cond ?_); refine c_dec hE rfl (fun hc => ?_) (fun hc => ?_) <;> try omega)
    )
  · exact ret1 hE rfl rfl ⟨rfl, hS⟩
  have hlg : ¬ largeM rs := by assumption
  have hl2 := bigs_no hlg
  refine s_call hE rfl rfl rfl (all_ A c rs w (hr.st hS) (by omega) (fun r h => Rc.rd_st (hrd r h) hS) hwf) ?_
  rintro _ w ⟨A1, c1, ls, rfl, hc1, hw1, hS1⟩; clear hE a; intro a hE; replace hS := hS.frame hS1; clear hS1; try simp only [List.cons_append, List.nil_append] at hS
  have hn1 := core_len hc1
  have hen := encodeRow_ A1 c1 ls w (hS.rdAt (k := 0) rfl) (by omega) (hS.rcs (k := 1) rfl) hw1
  rw [encM_of_core hc1, rowE_of_core hc1] at hen
  refine s_call hE rfl rfl rfl hen ?_
  rintro _ w ⟨A2, c2, rfl, hS1⟩; clear hE a; intro a hE; replace hS := hS.frame hS1; clear hS1; try simp only [List.cons_append, List.nil_append] at hS
  repeat' (first
    | (with_reducible refine wp_seq ?_)
    | (with_reducible refine c_region ?_)
    | (with_reducible refine wpList_nil ?_)
    | (with_reducible refine then_normal ?_)
    | ((with_reducible refine g_move ?_); refine s_move hE rfl rfl ?_; clear hE a; intro a hE)
    | ((with_reducible refine g_assign ?_); refine s_assign hE rfl rfl ?_; clear hE a; intro a hE)
    | ((with_reducible refine g_extract ?_); refine s_extract hE rfl rfl rfl ?_; clear hE a; intro a hE)
    )
  refine s_call hE rfl rfl rfl (all_ A c rs w (hr.st hS) (by omega) (fun r h => Rc.rd_st (hrd r h) hS) hwf) ?_
  rintro _ w ⟨A3, c3, ls2, rfl, hc2, hw2, hS1⟩; clear hE a; intro a hE; replace hS := hS.frame hS1; clear hS1; try simp only [List.cons_append, List.nil_append] at hS
  have hck := checkRow A3 c3 ls2 w (hS.rdAt (k := 0) rfl) (by rw [core_len hc2]; omega) (hS.rcs (k := 1) rfl) hw2
  rw [rowE_of_core hc2] at hck
  refine s_call hE rfl rfl rfl hck ?_
  rintro _ w ⟨rfl, hS1⟩; clear hE a; intro a hE; replace hS := hS.frame hS1; clear hS1; try simp only [List.cons_append, List.nil_append] at hS
  repeat' (first
    | (with_reducible refine wp_seq ?_)
    | (with_reducible refine c_region ?_)
    | (with_reducible refine wpList_nil ?_)
    | (with_reducible refine then_normal ?_)
    | (with_reducible refine wp_block ?_)
    | ((with_reducible refine g_move ?_); refine s_move hE rfl rfl ?_; clear hE a; intro a hE)
    | ((with_reducible refine g_assign ?_); refine s_assign hE rfl rfl ?_; clear hE a; intro a hE)
    | ((with_reducible refine g_blt .len ?_); refine s_len hE rfl rfl ?_; clear hE a; intro a hE)
    )
  replace hS := hS.only 2 rfl
  generalize hys : encM rs = ys at hS hE
  refine wp_loop_ghost (fun q a w => ∃ (k : Nat), k + q = rs.length ∧ St w0 w [hRow 5 1 A2 ys.length c2 (bys ys)] ∧ Env 106 [(0, .slice A rs.length c), (3, .slice A2 ys.length c2), (4, .int .i64 (rowE rs)), (5, .int .i64 (rowE rs)), (21, .int .i64 (rs.length : Int)), (22, .int .i64 (k : Int))] a) rs.length ⟨0, by omega, hS, hE.sub ⟨rfl, rfl, rfl, rfl, rfl, rfl, trivial⟩⟩ ?_
  clear hE a hS
  rintro q a w ⟨k, hk, hS, hE⟩
  by_cases hk1 : k < rs.length
  · have hseg := flat_seg (c := Rc.cells) (size := 9) (l := rs) (fun _ _ => rfl) hk1
    have hrk := hrd _ (List.getElem_mem hk1)
    have hwk := hwf _ (List.getElem_mem hk1)
    repeat' (first
      | (with_reducible refine wp_seq ?_)
      | (with_reducible refine c_region ?_)
      | (with_reducible refine wpList_nil ?_)
      | (with_reducible refine then_normal ?_)
      | (with_reducible refine wp_skip ?_)
      | (with_reducible refine wp_block ?_)
      | ((with_reducible refine g_move ?_); refine s_move hE rfl rfl ?_; clear hE a; intro a hE)
      | ((with_reducible refine g_assign ?_); refine s_assign hE rfl rfl ?_; clear hE a; intro a hE)
      | ((with_reducible refine g_bin .lss ?_); refine s_lss hE rfl rfl rfl ?_; clear hE a; intro a hE)
      | ((with_reducible refine g_cond ?_); refine c_dec hE rfl (fun hc => ?_) (fun hc => ?_) <;> try omega)
      )
    rcases Nat.eq_zero_or_pos k with h0 | h0
    · subst h0
      refine c_ordS hS 38 ((.rd 0 (.rd 1 (.rd 2 (.rd 3 (.rd 4 (.rd 5 (.rd 6 (.rd 7 (.ef 8 (.ef 9 (.rd 10 (.rd 11 (.rd 12 (.rd 13 (.rd 14 (.rd 15 (.rd 16 (.rd 17 (.rd 18 (.rd 19 (.rd 20 (.rd 21 (.rd 22 (.rd 23 (.rd 25 (.rd 26 (.rd 27 (.rd 28 (.rd 29 (.rd 30 (.rd 31 (.rd 32 (.rd 33 (.ef 24 (.ef 34 (.rd 35 (.rd 36 (.rd 37 .done))))))))))))))))))))))))))))))))))))))) mixed (by decide +kernel) ?_
      clear hS; intro w hS
      repeat' (first
        | (with_reducible refine o_rd rfl ?_)
        | ((with_reducible refine q_move ?_); refine d_val hE hS rfl (fun w hS => r_move hE rfl) ?_; clear hE a; intro a hE)
        | ((with_reducible refine q_ia ?_); refine d_val hE hS rfl (fun w hS => r_idxR hE rfl rfl (by omega) (by omega) (by (first | exact Rd.st (by assumption) hS )) (by first | omega )) ?_; clear hE a; intro a hE)
        | ((with_reducible refine o_ef rfl ?_))
        | ((with_reducible refine q_load ?_); refine d_val hE hS rfl (fun w hS => r_elemR hE rfl (by first | exact Rd.st (by assumption) hS ) (by first | exact hseg) (by rfl) rfl) ?_; clear hE a; intro a hE)
        )
      refine s_call hE rfl rfl rfl (copied rs[0] w (Rc.rd_st hrk hS) hwk) ?_
      rintro _ w ⟨A4, c4, B4, d4, rfl, hS1⟩; clear hE a; intro a hE; replace hS := hS.frame hS1; clear hS1; try simp only [List.cons_append, List.nil_append] at hS
      repeat' (first
        | (with_reducible refine wpList_nil ?_)
        )
      have hF := hS
      replace hS := hS.tail.tail
      refine o_same hS ?_
      repeat' (first
        | ((with_reducible refine o_ef rfl ?_))
        )
      refine s_call hE rfl rfl rfl (same rs[0] (rs[0].at_ A4 c4 B4 d4) w (Rc.rd_st hrk hS) hwk ⟨hF.rdAt (k := 0) rfl, hF.rdAt (k := 1) rfl⟩ (Rc.at_wf hwk (hF.lenAt (k := 0) rfl).2.1 (hF.lenAt (k := 1) rfl).2.1)) ?_
      clear hF
      rintro _ w ⟨rfl, hS1⟩; clear hE a; intro a hE; replace hS := hS.frame hS1; clear hS1; try simp only [List.cons_append, List.nil_append] at hS
      rw [decide_eq_true (same_refl rs[0])] at hE
      repeat' (first
        | (with_reducible refine wpList_nil ?_)
        )
      refine o_same hS ?_
      repeat' (first
        | (with_reducible refine o_rd rfl ?_)
        | ((with_reducible refine q_move ?_); refine d_val hE hS rfl (fun w hS => r_move hE rfl) ?_; clear hE a; intro a hE)
        | ((with_reducible refine q_bin .gtr ?_); refine d_val hE hS rfl (fun w hS => r_gtr hE rfl rfl) ?_; clear hE a; intro a hE)
        | ((with_reducible refine q_un .not ?_); refine d_val hE hS rfl (fun w hS => r_notb hE rfl) ?_; clear hE a; intro a hE)
        | ((with_reducible refine q_guard ?_); refine d_yes hE rfl rfl rfl ?_)
        | ((with_reducible refine q_guard ?_); refine d_no hE hS rfl rfl rfl rfl ?_; clear hE a; intro a hE)
        | ((with_reducible refine o_ef rfl ?_))
        )
      repeat' (first
        | (with_reducible refine wpList_nil ?_)
        | ((with_reducible refine g_guard ?_); refine gd_no hE rfl rfl rfl rfl ?_; clear hE a; intro a hE)
        )
      refine o_same hS ?_
      repeat' (first
        | ((with_reducible refine o_ef rfl ?_))
        )
      repeat' (first
        | (with_reducible refine wpList_nil ?_)
        | ((with_reducible refine g_guard ?_); refine gd_no hE rfl rfl rfl rfl ?_; clear hE a; intro a hE)
        )
      refine o_same hS ?_
      repeat' (first
        | (with_reducible refine o_rd rfl ?_)
        | (with_reducible refine o_done ?_)
        | ((with_reducible refine q_guard ?_); refine d_yes hE rfl rfl rfl ?_)
        | ((with_reducible refine q_guard ?_); refine d_no hE hS rfl rfl rfl rfl ?_; clear hE a; intro a hE)
        | ((with_reducible refine q_pick ?_); refine d_val hE hS rfl (fun w hS => r_pickF hE rfl rfl) ?_; clear hE a; intro a hE)
        )
      repeat' (first
        | (with_reducible refine c_region ?_)
        | (with_reducible refine wpList_nil ?_)
        | (with_reducible refine then_normal ?_)
        | (with_reducible refine wp_skip ?_)
        | (with_reducible refine block_normal ?_)
        | ((with_reducible refine g_move ?_); refine s_move hE rfl rfl ?_; clear hE a; intro a hE)
        | ((with_reducible refine g_bin .add ?_); refine s_add hE rfl rfl rfl (by first  | exact wrap64_in (by omega) ) ?_; clear hE a; intro a hE)
        | ((with_reducible refine g_cond ?_); refine c_false hE rfl ?_)
        )
      exact ⟨q - 1, by omega, 0 + 1, by omega, hS, hE.sub ⟨rfl, rfl, rfl, rfl, rfl, rfl, trivial⟩⟩
    · have hk2 : k - 1 < rs.length := by omega
      have hsegp : ((rs.flatMap Rc.cells).drop (((k : Int) - 1).toNat * 9)).take 9 = rs[k - 1].cells := by
        rw [show ((k : Int) - 1).toNat = k - 1 by omega]
        exact flat_seg (c := Rc.cells) (size := 9) (l := rs) (fun _ _ => rfl) hk2
      have hrp := hrd _ (List.getElem_mem hk2)
      have hwp := hwf _ (List.getElem_mem hk2)
      refine c_ordS hS 38 ((.rd 0 (.rd 1 (.rd 2 (.rd 3 (.rd 4 (.rd 5 (.rd 6 (.rd 7 (.ef 8 (.ef 9 (.rd 10 (.rd 11 (.rd 12 (.rd 13 (.rd 14 (.rd 15 (.rd 16 (.rd 17 (.rd 18 (.rd 19 (.rd 20 (.rd 21 (.rd 22 (.rd 23 (.rd 25 (.rd 26 (.rd 27 (.rd 28 (.rd 29 (.rd 30 (.rd 31 (.rd 32 (.rd 33 (.ef 24 (.ef 34 (.rd 35 (.rd 36 (.rd 37 .done))))))))))))))))))))))))))))))))))))))) mixed (by decide +kernel) ?_
      clear hS; intro w hS
      repeat' (first
        | (with_reducible refine o_rd rfl ?_)
        | ((with_reducible refine q_move ?_); refine d_val hE hS rfl (fun w hS => r_move hE rfl) ?_; clear hE a; intro a hE)
        | ((with_reducible refine q_ia ?_); refine d_val hE hS rfl (fun w hS => r_idxR hE rfl rfl (by omega) (by omega) (by (first | exact Rd.st (by assumption) hS )) (by first | omega )) ?_; clear hE a; intro a hE)
        | ((with_reducible refine o_ef rfl ?_))
        | ((with_reducible refine q_load ?_); refine d_val hE hS rfl (fun w hS => r_elemR hE rfl (by first | exact Rd.st (by assumption) hS ) (by first | exact hseg) (by rfl) rfl) ?_; clear hE a; intro a hE)
        )
      refine s_call hE rfl rfl rfl (copied rs[k] w (Rc.rd_st hrk hS) hwk) ?_
      rintro _ w ⟨A4, c4, B4, d4, rfl, hS1⟩; clear hE a; intro a hE; replace hS := hS.frame hS1; clear hS1; try simp only [List.cons_append, List.nil_append] at hS
      repeat' (first
        | (with_reducible refine wpList_nil ?_)
        )
      have hF := hS
      replace hS := hS.tail.tail
      refine o_same hS ?_
      repeat' (first
        | ((with_reducible refine o_ef rfl ?_))
        )
      refine s_call hE rfl rfl rfl (same rs[k] (rs[k].at_ A4 c4 B4 d4) w (Rc.rd_st hrk hS) hwk ⟨hF.rdAt (k := 0) rfl, hF.rdAt (k := 1) rfl⟩ (Rc.at_wf hwk (hF.lenAt (k := 0) rfl).2.1 (hF.lenAt (k := 1) rfl).2.1)) ?_
      clear hF
      rintro _ w ⟨rfl, hS1⟩; clear hE a; intro a hE; replace hS := hS.frame hS1; clear hS1; try simp only [List.cons_append, List.nil_append] at hS
      rw [decide_eq_true (same_refl rs[k])] at hE
      repeat' (first
        | (with_reducible refine wpList_nil ?_)
        )
      refine o_same hS ?_
      repeat' (first
        | (with_reducible refine o_rd rfl ?_)
        | ((with_reducible refine q_move ?_); refine d_val hE hS rfl (fun w hS => r_move hE rfl) ?_; clear hE a; intro a hE)
        | ((with_reducible refine q_bin .gtr ?_); refine d_val hE hS rfl (fun w hS => r_gtr hE rfl rfl) ?_; clear hE a; intro a hE)
        | ((with_reducible refine q_bin .sub ?_); refine d_val hE hS rfl (fun w hS => r_sub hE rfl rfl (by first | exact wrap64_in (by omega) )) ?_; clear hE a; intro a hE)
        | ((with_reducible refine q_un .not ?_); refine d_val hE hS rfl (fun w hS => r_notb hE rfl) ?_; clear hE a; intro a hE)
        | ((with_reducible refine q_guard ?_); refine d_yes hE rfl rfl rfl ?_)
        | ((with_reducible refine q_guard ?_); refine d_dec hE rfl rfl (fun hc hE2 => ?_) (fun hc hE2 => ?_) <;> (try omega) <;> (replace hE := hE2; clear hE2))
        | ((with_reducible refine q_ia ?_); refine d_val hE hS rfl (fun w hS => r_idxR hE rfl rfl (by omega) (by omega) (by (first | exact Rd.st (by assumption) hS )) (by first | omega )) ?_; clear hE a; intro a hE)
        | ((with_reducible refine o_ef rfl ?_))
        | ((with_reducible refine q_load ?_); refine d_val hE hS rfl (fun w hS => r_elemR hE rfl (by first | exact Rd.st (by assumption) hS ) (by first | exact hseg | exact hsegp) (by rfl) rfl) ?_; clear hE a; intro a hE)
        )
      repeat' (first
        | ((with_reducible refine g_guard ?_); refine gd_yes hE rfl rfl rfl ?_)
        )
      refine s_call hE rfl rfl rfl (same rs[k] rs[k - 1] w (Rc.rd_st hrk hS) hwk (Rc.rd_st hrp hS) hwp) ?_
      rintro _ w ⟨rfl, hS1⟩; clear hE a; intro a hE; replace hS := hS.frame hS1; clear hS1; try simp only [List.cons_append, List.nil_append] at hS
      repeat' (first
        | (with_reducible refine wpList_nil ?_)
        )
      refine o_same hS ?_
      repeat' (first
        | ((with_reducible refine o_ef rfl ?_))
        )
      repeat' (first
        | ((with_reducible refine g_guard ?_); refine gd_yes hE rfl rfl rfl ?_)
        )
      refine s_call hE rfl rfl rfl (rsameR rs[k] rs[k - 1] w (Rc.rd_st hrk hS) hwk (Rc.rd_st hrp hS) hwp) ?_
      rintro _ w ⟨rfl, hS1⟩; clear hE a; intro a hE; replace hS := hS.frame hS1; clear hS1; try simp only [List.cons_append, List.nil_append] at hS
      repeat' (first
        | (with_reducible refine wpList_nil ?_)
        )
      refine o_same hS ?_
      repeat' (first
        | (with_reducible refine o_rd rfl ?_)
        | (with_reducible refine o_done ?_)
        | ((with_reducible refine q_bin .neq ?_); refine d_val hE hS rfl (fun w hS => r_neb hE rfl rfl) ?_; clear hE a; intro a hE)
        | ((with_reducible refine q_guard ?_); refine d_yes hE rfl rfl rfl ?_)
        | ((with_reducible refine q_pick ?_); refine d_val hE hS rfl (fun w hS => r_pickT hE rfl rfl) ?_; clear hE a; intro a hE)
        | ((with_reducible refine q_pick ?_); refine d_val hE hS rfl (fun w hS => r_pickF hE rfl rfl) ?_; clear hE a; intro a hE)
        )
      repeat' (first
        | (with_reducible refine wp_seq ?_)
        | (with_reducible refine c_region ?_)
        | (with_reducible refine wpList_nil ?_)
        | (with_reducible refine then_normal ?_)
        | (with_reducible refine wp_skip ?_)
        | (with_reducible refine wp_ret ?_)
        | (with_reducible refine then_ret ?_)
        | (with_reducible refine block_normal ?_)
        | (with_reducible refine block_ret ?_)
        | ((with_reducible refine g_move ?_); refine s_move hE rfl rfl ?_; clear hE a; intro a hE)
        | ((with_reducible refine g_assign ?_); refine s_assign hE rfl rfl ?_; clear hE a; intro a hE)
        | ((with_reducible refine g_bin .add ?_); refine s_add hE rfl rfl rfl (by first  | exact wrap64_in (by omega) ) ?_; clear hE a; intro a hE)
        | ((with_reducible refine g_cond ?_); refine c_bool hE rfl (fun hc => ?_) (fun hc => ?_))

        )
      · simp at hc
      · exact ⟨q - 1, by omega, k + 1, by omega, hS, hE.sub ⟨rfl, rfl, rfl, rfl, rfl, rfl, trivial⟩⟩
  · obtain rfl : k = rs.length := by omega
    by_cases h64 : 64 < rs.length
    · have e3 : rowE rs = 3 := by unfold rowE; rw [if_pos h64]
      have ey : ys = [] := by rw [← hys]; unfold encM; rw [e3, if_neg (by decide)]
      subst ey
      rw [e3] at hE
      repeat' (first
        | (with_reducible refine wp_seq ?_)
        | (with_reducible refine c_region ?_)
        | (with_reducible refine wpList_nil ?_)
        | (with_reducible refine then_normal ?_)
        | (with_reducible refine wp_ret ?_)
        | (with_reducible refine then_ret ?_)
        | (with_reducible refine wp_block ?_)
        | (with_reducible refine block_ret ?_)
        | (with_reducible refine wp_exit ?_)
        | (with_reducible refine then_exit ?_)
        | (with_reducible refine block_same ?_)
        | ((with_reducible refine g_move ?_); refine s_move hE rfl rfl ?_; clear hE a; intro a hE)
        | ((with_reducible refine g_assign ?_); refine s_assign hE rfl rfl ?_; clear hE a; intro a hE)
        | ((with_reducible refine g_bin .lss ?_); refine s_lss hE rfl rfl rfl ?_; clear hE a; intro a hE)
        | ((with_reducible refine g_bin .gtr ?_); refine s_gtr hE rfl rfl rfl ?_; clear hE a; intro a hE)
        | ((with_reducible refine g_bin .eql ?_); refine s_eql hE rfl rfl rfl ?_; clear hE a; intro a hE)
        | ((with_reducible refine g_blt .len ?_); refine s_len hE rfl rfl ?_; clear hE a; intro a hE)
        | ((with_reducible refine g_guard ?_); refine gd_yes hE rfl rfl rfl ?_)
        | ((with_reducible refine g_pick ?_); refine s_pickT hE rfl rfl rfl ?_; clear hE a; intro a hE)
        | ((with_reducible refine g_cond ?_); refine c_dec hE rfl (fun hc => ?_) (fun hc => ?_) <;> try omega)
        )
      exact ret1 hE rfl rfl ⟨rfl, hS.nil⟩
    · repeat' (first
        | (with_reducible refine wp_seq ?_)
        | (with_reducible refine c_region ?_)
        | (with_reducible refine wpList_nil ?_)
        | (with_reducible refine then_normal ?_)
        | (with_reducible refine wp_block ?_)
        | (with_reducible refine wp_exit ?_)
        | (with_reducible refine then_exit ?_)
        | (with_reducible refine block_same ?_)
        | ((with_reducible refine g_move ?_); refine s_move hE rfl rfl ?_; clear hE a; intro a hE)
        | ((with_reducible refine g_assign ?_); refine s_assign hE rfl rfl ?_; clear hE a; intro a hE)
        | ((with_reducible refine g_bin .lss ?_); refine s_lss hE rfl rfl rfl ?_; clear hE a; intro a hE)
        | ((with_reducible refine g_bin .gtr ?_); refine s_gtr hE rfl rfl rfl ?_; clear hE a; intro a hE)
        | ((with_reducible refine g_blt .len ?_); refine s_len hE rfl rfl ?_; clear hE a; intro a hE)
        | ((with_reducible refine g_cond ?_); refine c_dec hE rfl (fun hc => ?_) (fun hc => ?_) <;> try omega)
        )
      refine s_call hE rfl rfl rfl (rightRow A c rs w (hr.st hS) hl (fun r h => Rc.rd_st (hrd r h) hS) hwf) ?_
      rintro _ w ⟨rfl, hS1⟩; clear hE a; intro a hE; replace hS := hS.frame hS1; clear hS1; try simp only [List.cons_append, List.nil_append] at hS
      by_cases hok : rowOk rs
      · have e3 : rowE rs = 0 := by unfold rowE; rw [if_neg h64, if_pos hok]
        have ey : ys = rowEnc rs := by rw [← hys]; unfold encM; rw [e3, if_pos rfl]
        subst ey
        rw [e3, decide_eq_true hok] at hE
        repeat' (first
          | (with_reducible refine wp_seq ?_)
          | (with_reducible refine c_region ?_)
          | (with_reducible refine wpList_nil ?_)
          | (with_reducible refine then_normal ?_)
          | (with_reducible refine wp_skip ?_)
          | (with_reducible refine block_normal ?_)
          | ((with_reducible refine g_move ?_); refine s_move hE rfl rfl ?_; clear hE a; intro a hE)
          | ((with_reducible refine g_assign ?_); refine s_assign hE rfl rfl ?_; clear hE a; intro a hE)
          | ((with_reducible refine g_bin .eql ?_); refine s_eql hE rfl rfl rfl ?_; clear hE a; intro a hE)
          | ((with_reducible refine g_un .not ?_); refine s_notb hE rfl rfl ?_; clear hE a; intro a hE)
          | ((with_reducible refine g_guard ?_); refine gd_yes hE rfl rfl rfl ?_)
          | ((with_reducible refine g_pick ?_); refine s_pickT hE rfl rfl rfl ?_; clear hE a; intro a hE)
          | ((with_reducible refine g_cond ?_); refine c_false hE rfl ?_)
          )
        refine s_call hE rfl rfl rfl (row_ A c rs w (hr.st hS) (by omega) (fun r h => Rc.rd_st (hrd r h) hS) hwf hok) ?_
        rintro _ w ⟨A4, c4, rfl, hS1⟩; clear hE a; intro a hE; replace hS := hS.frame hS1; clear hS1; try simp only [List.cons_append, List.nil_append] at hS
        repeat' (first
          | ((with_reducible refine g_guard ?_); refine gd_yes hE rfl rfl rfl ?_)
          )
        have hlen := flat_enc_len hok
        refine s_call hE rfl rfl rfl (rsame _ _ _ _ (rowEnc rs) (rowEnc rs) w (hS.rdAt (k := 1) rfl) (hS.rdAt (k := 0) rfl) (by omega) (by omega)) ?_
        rintro _ w ⟨rfl, hS1⟩; clear hE a; intro a hE; replace hS := hS.frame hS1; clear hS1; try simp only [List.cons_append, List.nil_append] at hS
        repeat' (first
          | (with_reducible refine wpList_nil ?_)
          | (with_reducible refine then_normal ?_)
          | (with_reducible refine wp_ret ?_)
          | ((with_reducible refine g_assign ?_); refine s_assign hE rfl rfl ?_; clear hE a; intro a hE)
          | ((with_reducible refine g_pick ?_); refine s_pickT hE rfl rfl rfl ?_; clear hE a; intro a hE)
          )
        exact ret1 hE rfl rfl ⟨by rw [decide_eq_true rfl], hS.nil⟩
      · have e3 : rowE rs = 150 := by unfold rowE; rw [if_neg h64, if_neg hok]
        have ey : ys = [] := by rw [← hys]; unfold encM; rw [e3, if_neg (by decide)]
        subst ey
        rw [e3, decide_eq_false hok] at hE
        repeat' (first
          | (with_reducible refine wp_seq ?_)
          | (with_reducible refine c_region ?_)
          | (with_reducible refine wpList_nil ?_)
          | (with_reducible refine then_normal ?_)
          | (with_reducible refine wp_ret ?_)
          | (with_reducible refine then_ret ?_)
          | (with_reducible refine block_ret ?_)
          | ((with_reducible refine g_move ?_); refine s_move hE rfl rfl ?_; clear hE a; intro a hE)
          | ((with_reducible refine g_assign ?_); refine s_assign hE rfl rfl ?_; clear hE a; intro a hE)
          | ((with_reducible refine g_bin .eql ?_); refine s_eql hE rfl rfl rfl ?_; clear hE a; intro a hE)
          | ((with_reducible refine g_un .not ?_); refine s_notb hE rfl rfl ?_; clear hE a; intro a hE)
          | ((with_reducible refine g_blt .len ?_); refine s_len hE rfl rfl ?_; clear hE a; intro a hE)
          | ((with_reducible refine g_guard ?_); refine gd_yes hE rfl rfl rfl ?_)
          | ((with_reducible refine g_pick ?_); refine s_pickT hE rfl rfl rfl ?_; clear hE a; intro a hE)
          | ((with_reducible refine g_cond ?_); refine c_true hE rfl ?_)
          )
        exact ret1 hE rfl rfl ⟨rfl, hS.nil⟩
/-! ## Rows as arguments -/
abbrev YT := Option Addr × Nat × List RT
def YT.ok (W : World) (q : YT) : Prop := Rd W q.1 (q.2.2.flatMap RT.cells) ∧ q.2.2.length ≤ q.2.1 ∧ q.2.1 ≤ maxLen ∧ q.2.2.length * 104 ≤ 140737488351232 ∧ ∀ y ∈ q.2.2, RT.ok W y ∧ (RT.cells y).length = 9
def YT.rcs (q : YT) : List Rc := q.2.2.map RT.rc
theorem YT.len (q : YT) : q.rcs.length = q.2.2.length := by simp [YT.rcs]
theorem YT.rd {W : World} {q : YT} (h : q.ok W) : Rd W q.1 (q.rcs.flatMap Rc.cells) := by
  have key : ∀ l : List RT, (∀ y ∈ l, RT.ok W y ∧ (RT.cells y).length = 9) → l.flatMap RT.cells = (l.map RT.rc).flatMap Rc.cells := by
    intro l
    induction l with
    | nil => intro _; rfl
    | cons y l ih =>
      intro h
      rw [List.flatMap_cons, List.map_cons, List.flatMap_cons, ih fun z hz => h z (by simp [hz]), RT.cells_rc (h y (by simp)).1]
  have := h.1
  rw [key _ h.2.2.2.2] at this
  exact this
theorem YT.rds {W : World} {q : YT} (h : q.ok W) : ∀ r ∈ q.rcs, r.rd W := by
  intro r hr
  obtain ⟨y, hy, rfl⟩ := List.mem_map.1 hr
  exact RT.rc_rd (h.2.2.2.2 y hy).1
theorem YT.wfs {W : World} {q : YT} (h : q.ok W) : ∀ r ∈ q.rcs, r.wf := by
  intro r hr
  obtain ⟨y, hy, rfl⟩ := List.mem_map.1 hr
  exact RT.rc_wf (h.2.2.2.2 y hy).1
theorem law_RecordRows (y : YT) (w0 : World) (h : y.ok w0) : Fn Try.prog 6 [.slice y.1 y.2.2.length y.2.1] w0 fun v w' => v = .bool true ∧ St w0 w' [] := by
  rw [← YT.len]
  have hb := h.2.2.2.1
  rw [← YT.len] at hb
  exact rows y.1 y.2.1 y.rcs w0 (YT.rd h) (by omega) (YT.rds h) (YT.wfs h)
end Go.Proofs.Ytmfcffeoooegcaa
