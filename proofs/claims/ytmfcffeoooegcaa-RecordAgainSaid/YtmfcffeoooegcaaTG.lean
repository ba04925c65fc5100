/-
  The laws RecordReads and RecordAgain.
-/
import Derived.Test.YtmfcffeoooegcaaTE
import Derived.Test.YtmfcffeoooegcaaTF
import Derived.Test.YtmfcffeoooegcaaRV
namespace Go.Proofs.Ytmfcffeoooegcaa
open Go.RowKit
set_option linter.unusedVariables false
set_option linter.unusedSimpArgs false
attribute [local irreducible] Rd hRow hBlk hAll Fn hRdr hMarks hRcs
attribute [local simp] Rc.cells

theorem decN_len : ∀ (n : Nat) (ys : List Nat) (acc : List Rc), (decN n ys acc).1.1.length ≤ acc.length + n
  | 0, ys, acc => by simp [decN]
  | n + 1, ys, acc => by
    by_cases h : (decM ys).2.2 = 0
    · rw [decN_yes h]
      have := decN_len n (ys.drop (decM ys).2.1) (acc ++ [(decM ys).1])
      rw [List.length_append, List.length_singleton] at this
      omega
    · rw [decN_no h]
      exact Nat.zero_le _
theorem decRow_len (xs : List Nat) : (decRow xs).1.length ≤ 64 := by
  unfold decRow
  split
  · exact Nat.zero_le _
  · split
    · exact Nat.zero_le _
    · split
      · split
        · have := decN_len (bnum 0 (xs.take 2)) (xs.drop 2) []
          simp only [List.length_nil] at this
          show (decN (bnum 0 (xs.take 2)) (xs.drop 2) []).1.1.length ≤ 64
          omega
        · exact Nat.zero_le _
      · exact Nat.zero_le _
theorem decRow_none {xs : List Nat} (h : (decRow xs).2 ≠ 0) : (decRow xs).1 = [] := by
  unfold decRow at h ⊢
  split
  · rfl
  · rename_i h1
    rw [if_neg h1] at h
    split
    · rfl
    · rename_i h2
      rw [if_neg h2] at h
      split
      · rename_i h3
        rw [if_pos h3] at h
        split
        · rename_i h4; rw [if_pos h4] at h; exact absurd rfl h
        · rfl
      · rfl
set_option maxHeartbeats 8000000 in
theorem law_RecordReads (A : Option Addr) (c : Nat) (xs : List Nat) (w0 : World) (hr : Rd w0 A (bys xs)) (hx : Bs xs) (hcap : xs.length ≤ c) (hl : xs.length ≤ 140737488351232) : Fn Try.prog 7 [.slice A xs.length c] w0 fun v w' => v = .bool true ∧ St w0 w' [] := by
  refine enter 32 Try.func7 rfl rfl rfl ?_
  intro a hE
  have hS := St.start w0
  repeat' (first
    | (with_reducible refine wp_seq ?_)
    | (with_reducible refine c_region ?_)
    | (with_reducible refine wpList_nil ?_)
    | (with_reducible refine then_normal ?_)
    | ((with_reducible refine g_assign ?_); refine s_assign hE rfl rfl ?_; clear hE a; intro a hE)
    )
  refine s_call hE rfl rfl rfl (wakes w0) ?_; rintro _ w ⟨rfl, hS1⟩; clear hE a; intro a hE; replace hS := hS.frame hS1; clear hS1; try simp only [List.cons_append, List.nil_append] at hS
  repeat' (first
    | (with_reducible refine wp_seq ?_)
    | (with_reducible refine c_region ?_)
    | (with_reducible refine wpList_nil ?_)
    | (with_reducible refine then_normal ?_)
    | (with_reducible refine wp_skip ?_)
    | (with_reducible refine wp_ret ?_)
    | (with_reducible refine then_ret ?_)
    | ((with_reducible refine g_move ?_); refine s_move hE rfl rfl ?_; clear hE a; intro a hE)
    | ((with_reducible refine g_assign ?_); refine s_assign hE rfl rfl ?_; clear hE a; intro a hE)
    | ((with_reducible refine g_bin .gtr ?_); refine s_gtr hE rfl rfl rfl ?_; clear hE a; intro a hE)
    | ((with_reducible refine g_un .not ?_); refine s_notb hE rfl rfl ?_; clear hE a; intro a hE)
    | ((with_reducible refine g_blt .len ?_); refine s_len hE rfl rfl ?_; clear hE a; intro a hE)
    | ((with_reducible refine g_cond ?_); refine c_false hE rfl ?_)
    | ((with_reducible refine g_cond ?_); refine c_dec hE rfl (fun hc => ?_) (fun hc => ?_) <;> try omega)
    | ((with_reducible refine g_lit ?_); refine s_lit hE hS rfl rfl rfl rfl rfl (by simp [Value.oneCell']) rfl ?_; clear hE a hS; intro g a w hE hS)
    | ((with_reducible refine g_blt .append ?_); (first | (refine s_appendAt0 (k := 0) hE hS rfl rfl rfl (by (first | exact Rd.st (by assumption) hS )) (by (first | (rw [bys_length, Nat.mul_one]))) (by (first | exact bys_one _ )) (by omega) rfl rfl rfl rfl ?_) ); clear hE a hS; intro A c a w hE hS; simp only [List.set_cons_zero, List.set_cons_succ, Nat.add_zero] at hS)
    )
  · exact ret1 hE rfl rfl ⟨rfl, hS.nil⟩
  refine s_call hE rfl rfl rfl (decodeRow _ _ xs w (hS.rdAt (k := 0) rfl) hx hl) ?_
  rintro _ w ⟨A1, c1, ls, rfl, hc1, hw1, hS1⟩; clear hE a; intro a hE; replace hS := hS.frame hS1; clear hS1; try simp only [List.cons_append, List.nil_append] at hS
  repeat' (first
    | (with_reducible refine wp_seq ?_)
    | (with_reducible refine c_region ?_)
    | (with_reducible refine wpList_nil ?_)
    | (with_reducible refine then_normal ?_)
    | ((with_reducible refine g_move ?_); refine s_move hE rfl rfl ?_; clear hE a; intro a hE)
    | ((with_reducible refine g_assign ?_); refine s_assign hE rfl rfl ?_; clear hE a; intro a hE)
    | ((with_reducible refine g_extract ?_); refine s_extract hE rfl rfl rfl ?_; clear hE a; intro a hE)
    )
  refine s_call hE rfl rfl rfl (rdecodeRow _ _ xs w (hr.st hS) hx hcap hl) ?_
  rintro _ w ⟨A2, c2, ms, rfl, hc2, hw2, hrd2, hS1⟩; clear hE a; intro a hE; replace hS := hS.frame hS1; clear hS1; try simp only [List.cons_append, List.nil_append] at hS
  have hn := decRow_len xs
  have hn1 := core_len hc1
  repeat' (first
    | (with_reducible refine wp_seq ?_)
    | (with_reducible refine c_region ?_)
    | (with_reducible refine wpList_nil ?_)
    | (with_reducible refine then_normal ?_)
    | ((with_reducible refine g_move ?_); refine s_move hE rfl rfl ?_; clear hE a; intro a hE)
    | ((with_reducible refine g_assign ?_); refine s_assign hE rfl rfl ?_; clear hE a; intro a hE)
    | ((with_reducible refine g_bin .eql ?_); refine s_eql hE rfl rfl rfl ?_; clear hE a; intro a hE)
    | ((with_reducible refine g_extract ?_); refine s_extract hE rfl rfl rfl ?_; clear hE a; intro a hE)
    | ((with_reducible refine g_guard ?_); refine gd_yes hE rfl rfl rfl ?_)
    | ((with_reducible refine g_guard ?_); refine gd_dec hE rfl rfl (fun hc hE2 => ?_) (fun hc hE2 => ?_) <;> (try omega) <;> (replace hE := hE2; clear hE2))
    )
  refine s_call hE rfl rfl rfl (sameRow A1 A2 c1 c2 ls ms w (hS.focus (k := 1) rfl).rd2 hS.rd2 (by omega) (hS.rcs (k := 2) rfl) (hrd2 w (hr.st hS)) hw1 hw2 (hc1.trans hc2.symm)) ?_
  rintro _ w ⟨rfl, hS1⟩; clear hE a; intro a hE; replace hS := hS.frame hS1; clear hS1; try simp only [List.cons_append, List.nil_append] at hS
  repeat' (first
    | (with_reducible refine wpList_nil ?_)
    | (with_reducible refine then_normal ?_)
    | (with_reducible refine wp_ret ?_)
    | ((with_reducible refine g_assign ?_); refine s_assign hE rfl rfl ?_; clear hE a; intro a hE)
    | ((with_reducible refine g_pick ?_); refine s_pickT hE rfl rfl rfl ?_; clear hE a; intro a hE)
    )
  exact ret1 hE rfl rfl ⟨rfl, hS.nil⟩
set_option maxHeartbeats 8000000 in
theorem again (A : Option Addr) (c : Nat) (rs : List Rc) (B : Option Addr) (d : Nat) (xs : List Nat) (w0 : World) (hr : Rd w0 A (rs.flatMap Rc.cells)) (hl : rs.length ≤ 9223372036854775806) (hrd : ∀ r ∈ rs, r.rd w0) (hwf : ∀ r ∈ rs, r.wf) (hr2 : Rd w0 B (bys xs)) (hx : Bs xs) (hcap : xs.length ≤ d) (hl2 : xs.length ≤ 140737488351232) :
    Fn Try.prog 8 [.slice A rs.length c, .slice B xs.length d] w0 fun v w' => v = .bool true ∧ St w0 w' [] := by
  refine enter 82 Try.func8 rfl rfl rfl ?_
  intro a hE
  have hS := St.start w0
  have hfl : (rs.flatMap Rc.cells).length = rs.length * 9 := flat_len (fun _ _ => rfl)
  repeat' (first
    | (with_reducible refine wp_seq ?_)
    | (with_reducible refine c_region ?_)
    | (with_reducible refine wpList_nil ?_)
    | (with_reducible refine then_normal ?_)
    | ((with_reducible refine g_assign ?_); refine s_assign hE rfl rfl ?_; clear hE a; intro a hE)
    )
  refine s_call hE rfl rfl rfl (wakes w0) ?_; rintro _ w ⟨rfl, hS1⟩; clear hE a; intro a hE; replace hS := hS.frame hS1; clear hS1; try simp only [List.cons_append, List.nil_append] at hS
  repeat' (first
    | (with_reducible refine wp_seq ?_)
    | (with_reducible refine c_region ?_)
    | (with_reducible refine wpList_nil ?_)
    | (with_reducible refine then_normal ?_)
    | (with_reducible refine wp_skip ?_)
    | ((with_reducible refine g_move ?_); refine s_move hE rfl rfl ?_; clear hE a; intro a hE)
    | ((with_reducible refine g_un .not ?_); refine s_notb hE rfl rfl ?_; clear hE a; intro a hE)
    | ((with_reducible refine g_cond ?_); refine c_false hE rfl ?_)
    )
  refine s_call hE rfl rfl rfl (large A c rs w (hr.st hS) hl) ?_; rintro _ w ⟨rfl, hS1⟩; clear hE a; intro a hE; replace hS := hS.frame hS1; clear hS1; try simp only [List.cons_append, List.nil_append] at hS
  repeat' (first
    | (with_reducible refine wp_seq ?_)
    | (with_reducible refine c_region ?_)
    | (with_reducible refine wpList_nil ?_)
    | (with_reducible refine then_normal ?_)
    | (with_reducible refine wp_skip ?_)
    | (with_reducible refine wp_ret ?_)
    | (with_reducible refine then_ret ?_)
    | ((with_reducible refine g_move ?_); refine s_move hE rfl rfl ?_; clear hE a; intro a hE)
    | ((with_reducible refine g_assign ?_); refine s_assign hE rfl rfl ?_; clear hE a; intro a hE)
    | ((with_reducible refine g_bin .gtr ?_); refine s_gtr hE rfl rfl rfl ?_; clear hE a; intro a hE)
    | ((with_reducible refine g_blt .len ?_); refine s_len hE rfl rfl ?_; clear hE a; intro a hE)
    | ((with_reducible refine g_guard ?_); refine gd_yes hE rfl rfl rfl ?_)
    | ((with_reducible refine g_guard ?_); refine gd_no hE rfl rfl rfl rfl ?_; clear hE a; intro a hE)
    | ((with_reducible refine g_guard ?_); refine gd_dec hE rfl rfl (fun hc hE2 => ?_) (fun hc hE2 => ?_) <;> (try omega) <;> (replace hE := hE2; clear hE2))
    | ((with_reducible refine g_pick ?_); refine s_pickT hE rfl rfl rfl ?_; clear hE a; intro a hE)
    | ((with_reducible refine g_pick ?_); refine s_pickF hE rfl rfl rfl ?_; clear hE a; intro a hE)
    | ((with_reducible refine g_cond ?_); refine c_true hE rfl ?_)
    | ((with_reducible refine g_cond ?_); refine c_dec hE rfl (fun hc => ?_) (fun hc => ?_) <;> try omega)
    )
  · exact ret1 hE rfl rfl ⟨rfl, hS⟩
  · exact ret1 hE rfl rfl ⟨rfl, hS⟩
  have hlg : ¬ largeM rs := by assumption
  have hlr := bigs_no hlg
  refine s_call hE rfl rfl rfl (encodeRow_ A c rs w (hr.st hS) hl (fun r h => Rc.rd_st (hrd r h) hS) hwf) ?_
  rintro _ w ⟨A1, c1, rfl, hS1⟩; clear hE a; intro a hE; replace hS := hS.frame hS1; clear hS1; try simp only [List.cons_append, List.nil_append] at hS
  repeat' (first
    | (with_reducible refine wp_seq ?_)
    | (with_reducible refine c_region ?_)
    | (with_reducible refine wpList_nil ?_)
    | (with_reducible refine then_normal ?_)
    | (with_reducible refine wp_skip ?_)
    | ((with_reducible refine g_move ?_); refine s_move hE rfl rfl ?_; clear hE a; intro a hE)
    | ((with_reducible refine g_assign ?_); refine s_assign hE rfl rfl ?_; clear hE a; intro a hE)
    | ((with_reducible refine g_bin .eql ?_); refine s_eql hE rfl rfl rfl ?_; clear hE a; intro a hE)
    | ((with_reducible refine g_extract ?_); refine s_extract hE rfl rfl rfl ?_; clear hE a; intro a hE)
    | ((with_reducible refine g_cond ?_); refine c_dec hE rfl (fun hc => ?_) (fun hc => ?_) <;> try omega)
    )
  · have hZ : rowE rs = 0 := by assumption
    have e1 : encM rs = rowEnc rs := by unfold encM; rw [if_pos hZ]
    have e2 := decRow_back hwf hZ
    have hbs : Bs (rowEnc rs) := by
      intro x hx
      unfold rowEnc at hx
      rcases List.mem_append.1 hx with hx | hx
      · exact beb_bs _ _ x hx
      · obtain ⟨r, hr, hx⟩ := List.mem_flatMap.1 hx
        obtain ⟨k, hk, rfl⟩ := List.mem_iff_getElem.1 hr
        exact rec_enc_bs (hwf _ (List.getElem_mem hk)) (rowOk_right (rowE_zero hZ).2 hk) x hx
    have hlen := flat_enc_len (rowE_zero hZ).2
    rw [e1] at hS hE
    have hdec := decodeRow A1 c1 (rowEnc rs) w (hS.rdAt (k := 0) rfl) hbs (by omega)
    rw [e2] at hdec
    refine s_call hE rfl rfl rfl hdec ?_
    rintro _ w ⟨A2, c2, ms, rfl, hc2, hw2, hS1⟩; clear hE a; intro a hE; replace hS := hS.frame hS1; clear hS1; try simp only [List.cons_append, List.nil_append] at hS
    have hn2 := core_len hc2
    rw [List.length_map] at hn2
    rw [hn2] at hE
    repeat' (first
      | (with_reducible refine wp_seq ?_)
      | (with_reducible refine c_region ?_)
      | (with_reducible refine wpList_nil ?_)
      | (with_reducible refine then_normal ?_)
      | (with_reducible refine wp_skip ?_)
      | (with_reducible refine wp_block ?_)
      | ((with_reducible refine g_move ?_); refine s_move hE rfl rfl ?_; clear hE a; intro a hE)
      | ((with_reducible refine g_assign ?_); refine s_assign hE rfl rfl ?_; clear hE a; intro a hE)
      | ((with_reducible refine g_bin .neq ?_); refine s_neq hE rfl rfl rfl ?_; clear hE a; intro a hE)
      | ((with_reducible refine g_blt .len ?_); refine s_len hE rfl rfl ?_; clear hE a; intro a hE)
      | ((with_reducible refine g_extract ?_); refine s_extract hE rfl rfl rfl ?_; clear hE a; intro a hE)
      | ((with_reducible refine g_guard ?_); refine gd_yes hE rfl rfl rfl ?_)
      | ((with_reducible refine g_pick ?_); refine s_pickF hE rfl rfl rfl ?_; clear hE a; intro a hE)
      | ((with_reducible refine g_cond ?_); refine c_dec hE rfl (fun hc => ?_) (fun hc => ?_) <;> try omega)
      )
    refine wp_loop_ghost (fun q a w => ∃ (k : Nat), k + q = rs.length ∧ St w0 w [hRd A2 (ms.flatMap Rc.cells), hRcs ms] ∧ Env 82 [(0, .slice A rs.length c), (1, .slice B xs.length d), (7, .slice A2 rs.length c2), (45, .int .i64 (rs.length : Int)), (46, .int .i64 (k : Int))] a) rs.length ⟨0, by omega, hS.keep2, hE.sub ⟨rfl, rfl, rfl, rfl, rfl, trivial⟩⟩ ?_
    clear hE a hS
    rintro q a w ⟨k, hk, hS, hE⟩
    by_cases hk1 : k < rs.length
    · have hk2 : k < ms.length := by omega
      have hseg := flat_seg (c := Rc.cells) (size := 9) (l := rs) (fun _ _ => rfl) hk1
      have hseg2 := flat_seg (c := Rc.cells) (size := 9) (l := ms) (fun _ _ => rfl) hk2
      have hfl2 : (ms.flatMap Rc.cells).length = ms.length * 9 := flat_len (fun _ _ => rfl)
      have hs : rs[k].same ms[k] := by
        have h1 : (ms.map Rc.core)[k]? = ((rs.map Rc.core).map Rc.core)[k]? := by rw [hc2]
        rw [List.getElem?_map, List.getElem?_map, List.getElem?_map, List.getElem?_eq_getElem hk1, List.getElem?_eq_getElem hk2] at h1
        have h2 : ms[k].core = rs[k].core := Option.some.inj h1
        have h3 : rs[k].same rs[k].core := ⟨rfl, rfl, rfl, rfl, rfl, rfl, rfl, rfl, rfl⟩
        rw [← h2] at h3
        exact h3
      repeat' (first
        | (with_reducible refine wp_seq ?_)
        | (with_reducible refine c_region ?_)
        | (with_reducible refine wpList_nil ?_)
        | (with_reducible refine then_normal ?_)
        | (with_reducible refine wp_skip ?_)
        | (with_reducible refine wp_block ?_)
        | ((with_reducible refine g_move ?_); refine s_move hE rfl rfl ?_; clear hE a; intro a hE)
        | ((with_reducible refine g_assign ?_); refine s_assign hE rfl rfl ?_; clear hE a; intro a hE)
        | ((with_reducible refine g_bin .lss ?_); refine s_lss hE rfl rfl rfl ?_; clear hE a; intro a hE)
        | ((with_reducible refine g_cond ?_); refine c_dec hE rfl (fun hc => ?_) (fun hc => ?_) <;> try omega)
        )
      refine c_ordS hS 10 ((.rd 0 (.rd 1 (.rd 2 (.rd 3 (.rd 4 (.rd 5 (.rd 6 (.rd 7 (.ef 8 (.rd 9 .done))))))))))) mixed (by decide +kernel) ?_
      clear hS; intro w hS
      repeat' (first
        | (with_reducible refine o_rd rfl ?_)
        | ((with_reducible refine q_move ?_); refine d_val hE hS rfl (fun w hS => r_move hE rfl) ?_; clear hE a; intro a hE)
        | ((with_reducible refine q_ia ?_); refine d_val hE hS rfl (fun w hS => r_idxR hE rfl rfl (by omega) (by omega) (by (first | exact hS.rd2 | exact Rd.st (by assumption) hS )) (by first | omega )) ?_; clear hE a; intro a hE)
        | ((with_reducible refine o_ef rfl ?_))
        | ((with_reducible refine q_load ?_); refine d_val hE hS rfl (fun w hS => r_elemR hE rfl (by first | exact hS.rd2 | exact Rd.st (by assumption) hS ) (by first | exact hseg | exact hseg2) (by rfl) rfl) ?_; clear hE a; intro a hE)
        )
      refine s_call hE rfl rfl rfl (same rs[k] ms[k] w (Rc.rd_st (hrd _ (List.getElem_mem hk1)) hS) (hwf _ (List.getElem_mem hk1)) (hS.rcs (k := 1) rfl _ (List.getElem_mem hk2)) (hw2 _ (List.getElem_mem hk2))) ?_
      rintro _ w ⟨rfl, hS1⟩; clear hE a; intro a hE; replace hS := hS.frame hS1; clear hS1; try simp only [List.cons_append, List.nil_append] at hS
      rw [decide_eq_true hs] at hE
      repeat' (first
        | (with_reducible refine wpList_nil ?_)
        )
      refine o_same hS ?_
      repeat' (first
        | (with_reducible refine o_rd rfl ?_)
        | (with_reducible refine o_done ?_)
        | ((with_reducible refine q_un .not ?_); refine d_val hE hS rfl (fun w hS => r_notb hE rfl) ?_; clear hE a; intro a hE)
        )
      repeat' (first
        | (with_reducible refine c_region ?_)
        | (with_reducible refine wpList_nil ?_)
        | (with_reducible refine then_normal ?_)
        | (with_reducible refine wp_skip ?_)
        | (with_reducible refine block_normal ?_)
        | ((with_reducible refine g_move ?_); refine s_move hE rfl rfl ?_; clear hE a; intro a hE)
        | ((with_reducible refine g_bin .add ?_); refine s_add hE rfl rfl rfl (by first  | exact wrap64_in (by omega) ) ?_; clear hE a; intro a hE)
        | ((with_reducible refine g_cond ?_); refine c_false hE rfl ?_)
        )
      exact ⟨q - 1, by omega, k + 1, by omega, hS, hE.sub ⟨rfl, rfl, rfl, rfl, rfl, trivial⟩⟩
    · obtain rfl : k = rs.length := by omega
      repeat' (first
        | (with_reducible refine wp_seq ?_)
        | (with_reducible refine c_region ?_)
        | (with_reducible refine wpList_nil ?_)
        | (with_reducible refine then_normal ?_)
        | (with_reducible refine wp_exit ?_)
        | (with_reducible refine then_exit ?_)
        | (with_reducible refine block_same ?_)
        | ((with_reducible refine g_move ?_); refine s_move hE rfl rfl ?_; clear hE a; intro a hE)
        | ((with_reducible refine g_bin .lss ?_); refine s_lss hE rfl rfl rfl ?_; clear hE a; intro a hE)
        | ((with_reducible refine g_cond ?_); refine c_dec hE rfl (fun hc => ?_) (fun hc => ?_) <;> try omega)
        )
      refine s_call hE rfl rfl rfl (decodeRow B d xs w (hr2.st hS) hx hl2) ?_
      rintro _ w ⟨A5, c5, ms, rfl, hc5, hw5, hS1⟩; clear hE a; intro a hE; replace hS := hS.frame hS1; clear hS1; try simp only [List.cons_append, List.nil_append] at hS
      have hn5 := core_len hc5
      have hle5 := decRow_len xs
      repeat' (first
        | (with_reducible refine wp_seq ?_)
        | (with_reducible refine c_region ?_)
        | (with_reducible refine wpList_nil ?_)
        | (with_reducible refine then_normal ?_)
        | (with_reducible refine wp_skip ?_)
        | (with_reducible refine wp_ret ?_)
        | (with_reducible refine then_ret ?_)
        | ((with_reducible refine g_move ?_); refine s_move hE rfl rfl ?_; clear hE a; intro a hE)
        | ((with_reducible refine g_assign ?_); refine s_assign hE rfl rfl ?_; clear hE a; intro a hE)
        | ((with_reducible refine g_bin .eql ?_); refine s_eql hE rfl rfl rfl ?_; clear hE a; intro a hE)
        | ((with_reducible refine g_bin .neq ?_); refine s_neq hE rfl rfl rfl ?_; clear hE a; intro a hE)
        | ((with_reducible refine g_blt .len ?_); refine s_len hE rfl rfl ?_; clear hE a; intro a hE)
        | ((with_reducible refine g_extract ?_); refine s_extract hE rfl rfl rfl ?_; clear hE a; intro a hE)
        | ((with_reducible refine g_cond ?_); refine c_dec hE rfl (fun hc => ?_) (fun hc => ?_) <;> try omega)
        )
      · have e5 := decRow_none (xs := xs) (by assumption)
        have hm0 : ms.length = 0 := by rw [hn5, e5]; rfl
        rw [hm0] at hE
        skip
        exact ret1 hE rfl rfl ⟨rfl, hS.nil⟩
      · have e5 := decRow_enc hx (by omega)
        refine s_call hE rfl rfl rfl (encodeRow_ A5 c5 ms w hS.rd2 (by omega) (hS.rcs (k := 1) rfl) hw5) ?_
        rintro _ w ⟨A6, c6, rfl, hS1⟩; clear hE a; intro a hE; replace hS := hS.frame hS1; clear hS1; try simp only [List.cons_append, List.nil_append] at hS
        have e6 : encM ms = xs := by rw [encM_of_core hc5]; unfold encM; rw [if_pos e5.1]; exact e5.2
        rw [rowE_of_core hc5, e5.1, e6] at hE
        rw [e6] at hS
        repeat' (first
          | (with_reducible refine wp_seq ?_)
          | (with_reducible refine c_region ?_)
          | (with_reducible refine wpList_nil ?_)
          | (with_reducible refine then_normal ?_)
          | ((with_reducible refine g_move ?_); refine s_move hE rfl rfl ?_; clear hE a; intro a hE)
          | ((with_reducible refine g_assign ?_); refine s_assign hE rfl rfl ?_; clear hE a; intro a hE)
          | ((with_reducible refine g_bin .eql ?_); refine s_eql hE rfl rfl rfl ?_; clear hE a; intro a hE)
          | ((with_reducible refine g_extract ?_); refine s_extract hE rfl rfl rfl ?_; clear hE a; intro a hE)
          | ((with_reducible refine g_guard ?_); refine gd_yes hE rfl rfl rfl ?_)
          )
        refine s_call hE rfl rfl rfl (oequal _ _ _ _ xs xs w (hS.rdAt (k := 0) rfl) (hr2.st hS) (by omega) (by omega)) ?_
        rintro _ w ⟨rfl, hS1⟩; clear hE a; intro a hE; replace hS := hS.frame hS1; clear hS1; try simp only [List.cons_append, List.nil_append] at hS
        rw [decide_eq_true rfl] at hE
        repeat' (first
          | (with_reducible refine wpList_nil ?_)
          | (with_reducible refine then_normal ?_)
          | (with_reducible refine wp_ret ?_)
          | ((with_reducible refine g_assign ?_); refine s_assign hE rfl rfl ?_; clear hE a; intro a hE)
          | ((with_reducible refine g_pick ?_); refine s_pickT hE rfl rfl rfl ?_; clear hE a; intro a hE)
          )
        exact ret1 hE rfl rfl ⟨rfl, hS.nil⟩
  · refine s_call hE rfl rfl rfl (decodeRow B d xs w (hr2.st hS) hx hl2) ?_
    rintro _ w ⟨A5, c5, ms, rfl, hc5, hw5, hS1⟩; clear hE a; intro a hE; replace hS := hS.frame hS1; clear hS1; try simp only [List.cons_append, List.nil_append] at hS
    have hn5 := core_len hc5
    have hle5 := decRow_len xs
    repeat' (first
      | (with_reducible refine wp_seq ?_)
      | (with_reducible refine c_region ?_)
      | (with_reducible refine wpList_nil ?_)
      | (with_reducible refine then_normal ?_)
      | (with_reducible refine wp_skip ?_)
      | (with_reducible refine wp_ret ?_)
      | (with_reducible refine then_ret ?_)
      | ((with_reducible refine g_move ?_); refine s_move hE rfl rfl ?_; clear hE a; intro a hE)
      | ((with_reducible refine g_assign ?_); refine s_assign hE rfl rfl ?_; clear hE a; intro a hE)
      | ((with_reducible refine g_bin .eql ?_); refine s_eql hE rfl rfl rfl ?_; clear hE a; intro a hE)
      | ((with_reducible refine g_bin .neq ?_); refine s_neq hE rfl rfl rfl ?_; clear hE a; intro a hE)
      | ((with_reducible refine g_blt .len ?_); refine s_len hE rfl rfl ?_; clear hE a; intro a hE)
      | ((with_reducible refine g_extract ?_); refine s_extract hE rfl rfl rfl ?_; clear hE a; intro a hE)
      | ((with_reducible refine g_cond ?_); refine c_dec hE rfl (fun hc => ?_) (fun hc => ?_) <;> try omega)
      )
    · have e5 := decRow_none (xs := xs) (by assumption)
      have hm0 : ms.length = 0 := by rw [hn5, e5]; rfl
      rw [hm0] at hE
      skip
      exact ret1 hE rfl rfl ⟨rfl, hS.nil⟩
    · have e5 := decRow_enc hx (by omega)
      refine s_call hE rfl rfl rfl (encodeRow_ A5 c5 ms w hS.rd2 (by omega) (hS.rcs (k := 1) rfl) hw5) ?_
      rintro _ w ⟨A6, c6, rfl, hS1⟩; clear hE a; intro a hE; replace hS := hS.frame hS1; clear hS1; try simp only [List.cons_append, List.nil_append] at hS
      have e6 : encM ms = xs := by rw [encM_of_core hc5]; unfold encM; rw [if_pos e5.1]; exact e5.2
      rw [rowE_of_core hc5, e5.1, e6] at hE
      rw [e6] at hS
      repeat' (first
        | (with_reducible refine wp_seq ?_)
        | (with_reducible refine c_region ?_)
        | (with_reducible refine wpList_nil ?_)
        | (with_reducible refine then_normal ?_)
        | ((with_reducible refine g_move ?_); refine s_move hE rfl rfl ?_; clear hE a; intro a hE)
        | ((with_reducible refine g_assign ?_); refine s_assign hE rfl rfl ?_; clear hE a; intro a hE)
        | ((with_reducible refine g_bin .eql ?_); refine s_eql hE rfl rfl rfl ?_; clear hE a; intro a hE)
        | ((with_reducible refine g_extract ?_); refine s_extract hE rfl rfl rfl ?_; clear hE a; intro a hE)
        | ((with_reducible refine g_guard ?_); refine gd_yes hE rfl rfl rfl ?_)
        )
      refine s_call hE rfl rfl rfl (oequal _ _ _ _ xs xs w (hS.rdAt (k := 0) rfl) (hr2.st hS) (by omega) (by omega)) ?_
      rintro _ w ⟨rfl, hS1⟩; clear hE a; intro a hE; replace hS := hS.frame hS1; clear hS1; try simp only [List.cons_append, List.nil_append] at hS
      rw [decide_eq_true rfl] at hE
      repeat' (first
        | (with_reducible refine wpList_nil ?_)
        | (with_reducible refine then_normal ?_)
        | (with_reducible refine wp_ret ?_)
        | ((with_reducible refine g_assign ?_); refine s_assign hE rfl rfl ?_; clear hE a; intro a hE)
        | ((with_reducible refine g_pick ?_); refine s_pickT hE rfl rfl rfl ?_; clear hE a; intro a hE)
        )
      exact ret1 hE rfl rfl ⟨rfl, hS.nil⟩
theorem law_RecordAgain (y : YT) (B : Option Addr) (d : Nat) (xs : List Nat) (w0 : World) (h : y.ok w0) (hr : Rd w0 B (bys xs)) (hx : Bs xs) (hcap : xs.length ≤ d) (hl : xs.length ≤ 140737488351232) : Fn Try.prog 8 [.slice y.1 y.2.2.length y.2.1, .slice B xs.length d] w0 fun v w' => v = .bool true ∧ St w0 w' [] := by
  rw [← YT.len]
  have hb := h.2.2.2.1
  rw [← YT.len] at hb
  exact again y.1 y.2.1 y.rcs B d xs w0 (YT.rd h) (by omega) (YT.rds h) (YT.wfs h) hr hx hcap hl
end Go.Proofs.Ytmfcffeoooegcaa
