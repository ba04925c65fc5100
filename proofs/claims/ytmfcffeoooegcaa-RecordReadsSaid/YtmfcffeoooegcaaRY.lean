/-
  Contracts of record: the document's word on which rows may be.
-/
import Derived.Test.YtmfcffeoooegcaaRX
namespace Go.Proofs.Ytmfcffeoooegcaa
open Go.RowKit
set_option linter.unusedVariables false
set_option linter.unusedSimpArgs false
attribute [local irreducible] Rd hRow hBlk hRd hAll Fn hRdr hMarks
attribute [local simp] Rc.cells

/-- the number of the last record ahead of a place that is of a transaction; 0: none -/
def lastM (rs : List Rc) (k t : Nat) : Nat := ((aheadM rs k t).head?.map Rc.l).getD 0
theorem lastM_zero (rs : List Rc) (t : Nat) : lastM rs 0 t = 0 := by simp [lastM, aheadM]
theorem lastM_yes {rs : List Rc} {k t : Nat} (hk : k < rs.length) (h : rs[k].t = t) : lastM rs (k + 1) t = rs[k].l := by
  unfold lastM; rw [aheadM_step hk, if_pos h]; simp
theorem lastM_no {rs : List Rc} {k t : Nat} (hk : k < rs.length) (h : ¬ rs[k].t = t) : lastM rs (k + 1) t = lastM rs k t := by
  unfold lastM; rw [aheadM_step hk, if_neg h]; simp
theorem backOk_iff {rs : List Rc} {k : Nat} (h0 : 0 < (rs.getD 0 Rc.zero).l) : backOk rs k ↔ ¬ ((rs.getD 0 Rc.zero).l ≤ (rs.getD k Rc.zero).b ∧ (rs.getD k Rc.zero).b ≠ lastM rs k (rs.getD k Rc.zero).t) := by
  unfold backOk lastM
  generalize (aheadM rs k (rs.getD k Rc.zero).t).head?.map Rc.l = o
  generalize (rs.getD k Rc.zero).b = y
  generalize (rs.getD 0 Rc.zero).l = z at h0
  cases o with
  | none =>
    simp only [Option.getD_none]
    refine ⟨fun h => ?_, fun h => .inl (by omega)⟩
    rcases h with h | h
    · omega
    · cases h
  | some x =>
    simp only [Option.getD_some, Option.some.injEq]
    omega
set_option maxHeartbeats 8000000 in
theorem rightRow (A : Option Addr) (c : Nat) (rs : List Rc) (w0 : World) (hr : Rd w0 A (rs.flatMap Rc.cells)) (hl : rs.length ≤ 9223372036854775806) (hrd : ∀ r ∈ rs, r.rd w0) (hwf : ∀ r ∈ rs, r.wf) :
    Fn Try.prog 24 [.slice A rs.length c] w0 fun v w' => v = .bool (decide (rowOk rs)) ∧ St w0 w' [] := by
  refine enter 72 Try.func24 rfl rfl rfl ?_
  intro a hE
  have hS := St.start w0
  have hfl : (rs.flatMap Rc.cells).length = rs.length * 9 := flat_len (fun _ _ => rfl)
  repeat' (first
    | (with_reducible refine wp_seq ?_)
    | (with_reducible refine c_region ?_)
    | (with_reducible refine wpList_nil ?_)
    | (with_reducible refine then_normal ?_)
    | (with_reducible refine wp_block ?_)
    | ((with_reducible refine g_assign ?_); refine s_assign hE rfl rfl ?_; clear hE a; intro a hE)
    )
  refine wp_loop_ghost (fun q a w => ∃ (k : Nat), k + q = rs.length ∧ (∀ j, j < k → okAt rs j) ∧ St w0 w [] ∧ Env 72 [(0, .slice A rs.length c), (3, .int .i64 (k : Int))] a) rs.length ⟨0, by omega, fun j hj => absurd hj (by omega), hS, hE.sub ⟨rfl, rfl, trivial⟩⟩ ?_
  clear hE a hS
  rintro q a w ⟨k, hk, hall, hS, hE⟩
  by_cases hk1 : k < rs.length
  · have hseg := flat_seg (c := Rc.cells) (size := 9) (l := rs) (fun _ _ => rfl) hk1
    have hrk := hrd _ (List.getElem_mem hk1)
    have hwk := hwf _ (List.getElem_mem hk1)
    have hD : rs.getD k Rc.zero = rs[k] := by simp [List.getD_eq_getElem?_getD, hk1]
    have h0l : (rs.flatMap Rc.cells)[0]? = some (.int .u64 ((rs.getD 0 Rc.zero).l : Int)) := by
      have := cellAt (rs := rs) (k := 0) (j := 0) (by omega) (by decide)
      have e : rs.getD 0 Rc.zero = rs[0] := by simp [List.getD_eq_getElem?_getD, show 0 < rs.length by omega]
      rw [e]
      simpa using this
    repeat' (first
      | (with_reducible refine wp_seq ?_)
      | (with_reducible refine c_region ?_)
      | (with_reducible refine wpList_nil ?_)
      | (with_reducible refine then_normal ?_)
      | (with_reducible refine wp_skip ?_)
      | (with_reducible refine wp_block ?_)
      | ((with_reducible refine g_move ?_); refine s_move hE rfl rfl ?_; clear hE a; intro a hE)
      | ((with_reducible refine g_bin .lss ?_); refine s_lss hE rfl rfl rfl ?_; clear hE a; intro a hE)
      | ((with_reducible refine g_blt .len ?_); refine s_len hE rfl rfl ?_; clear hE a; intro a hE)
      | ((with_reducible refine g_cond ?_); refine c_dec hE rfl (fun hc => ?_) (fun hc => ?_) <;> try omega)
      | ((with_reducible refine g_ia ?_); refine s_idxR hE rfl rfl (by omega) (by omega) (by (first | exact Rd.st (by assumption) hS )) (by first | omega ) rfl ?_; clear hE a; intro a hE)
      | ((with_reducible refine g_alloc ?_); refine s_allocS hE hS rfl rfl ?_; clear hE a hS; intro g a w hE hS)
      | ((with_reducible refine g_store ?_); (first | (refine s_storeW (k := 0) hS hE rfl rfl rfl rfl rfl (by simp [Value.oneCell']) ?_) ); clear hS; intro w hS; simp only [List.set_cons_zero, List.set_cons_succ, Nat.add_zero] at hS)
      | ((with_reducible refine g_load ?_); refine s_elemR hE rfl (by (first | exact Rd.st (by assumption) hS )) (by first | exact hseg ) (by rfl) (by rfl) rfl ?_; clear hE a; intro a hE))
    obtain ⟨g4, rfl⟩ : ∃ x, x = g := ⟨g, rfl⟩
    refine wp_mono (Q := fun e a w => e = .normal ∧ St w0 w [hBlk g4 25 rs[k].cells] ∧ ∃ b, (b = false → rs[k].right ∧ prevOk rs k) ∧ (b = true → ¬ okAt rs k) ∧ Env 72 [(40, .bool b), (0, .slice A rs.length c), (3, .int .i64 (k : Int)), (4, .pointer (some ⟨g4, 0, none⟩))] a) ?_ ?_
    · refine c_ordS hS 24 ((.rd 0 (.ef 1 (.rd 2 (.rd 3 (.rd 4 (.rd 5 (.rd 6 (.rd 7 (.rd 8 (.rd 9 (.rd 10 (.rd 11 (.rd 12 (.rd 13 (.rd 14 (.rd 15 (.rd 16 (.rd 17 (.rd 18 (.rd 19 (.rd 20 (.rd 21 (.rd 22 (.rd 23 .done))))))))))))))))))))))))) mixed (by decide +kernel) ?_
      clear hS; intro w hS
      by_cases hR : rs[k].right
      · rcases Nat.eq_zero_or_pos k with h0 | h0
        · subst h0
          repeat' (first
            | (with_reducible refine o_rd rfl ?_)
            | ((with_reducible refine q_load ?_); (first | (refine d_val hE hS rfl (fun w hS => r_loadW (k := 0) hS hE rfl rfl rfl) ?_) ); clear hE a; intro a hE)
            | ((with_reducible refine o_ef rfl ?_))
            )
          refine s_call hE rfl rfl rfl (rright rs[0] w (Rc.rd_st hrk hS) hwk) ?_
          rintro _ w ⟨rfl, hS1⟩; clear hE a; intro a hE; replace hS := hS.frame hS1; clear hS1; try simp only [List.cons_append, List.nil_append] at hS
          rw [decide_eq_true hR] at hE
          repeat' (first
            | (with_reducible refine wpList_nil ?_)
            )
          refine o_same hS ?_
          repeat' (first
            | (with_reducible refine o_rd rfl ?_)
            | (with_reducible refine o_done ?_)
            | ((with_reducible refine q_move ?_); refine d_val hE hS rfl (fun w hS => r_move hE rfl) ?_; clear hE a; intro a hE)
            | ((with_reducible refine q_bin .gtr ?_); refine d_val hE hS rfl (fun w hS => r_gtr hE rfl rfl) ?_; clear hE a; intro a hE)
            | ((with_reducible refine q_un .not ?_); refine d_val hE hS rfl (fun w hS => r_notb hE rfl) ?_; clear hE a; intro a hE)
            | ((with_reducible refine q_guard ?_); refine d_yes hE rfl rfl rfl ?_)
            | ((with_reducible refine q_guard ?_); refine d_no hE hS rfl rfl rfl rfl ?_; clear hE a; intro a hE)
            | ((with_reducible refine q_guard ?_); refine d_un hE hS rfl rfl rfl ?_; clear hE a; intro a hE)
            | ((with_reducible refine q_pick ?_); refine d_val hE hS rfl (fun w hS => r_pickF hE rfl rfl) ?_; clear hE a; intro a hE)
            )
          exact ⟨rfl, hS, _, fun _ => ⟨hR, .inl rfl⟩, fun h => (by cases h), hE.sub ⟨rfl, rfl, rfl, rfl, trivial⟩⟩
        · have hk2 : k - 1 < rs.length := by omega
          have hDp : rs.getD (k - 1) Rc.zero = rs[k - 1] := by simp [List.getD_eq_getElem?_getD, hk2]
          have hlp : (rs.flatMap Rc.cells)[((k : Int) - 1).toNat * 9 + 0]? = some (.int .u64 (rs[k - 1].l : Int)) := by
            rw [show ((k : Int) - 1).toNat = k - 1 by omega]
            exact cellAt (j := 0) hk2 (by decide)
          have hwp := (hwf _ (List.getElem_mem hk2)).l
          have hll := hR.2.1
          have hll2 := hwk.l
          repeat' (first
            | (with_reducible refine o_rd rfl ?_)
            | ((with_reducible refine q_load ?_); (first | (refine d_val hE hS rfl (fun w hS => r_loadW (k := 0) hS hE rfl rfl rfl) ?_) ); clear hE a; intro a hE)
            | ((with_reducible refine o_ef rfl ?_))
            )
          refine s_call hE rfl rfl rfl (rright rs[k] w (Rc.rd_st hrk hS) hwk) ?_
          rintro _ w ⟨rfl, hS1⟩; clear hE a; intro a hE; replace hS := hS.frame hS1; clear hS1; try simp only [List.cons_append, List.nil_append] at hS
          rw [decide_eq_true hR] at hE
          repeat' (first
            | (with_reducible refine wpList_nil ?_)
            )
          refine o_same hS ?_
          repeat' (first
            | (with_reducible refine o_rd rfl ?_)
            | (with_reducible refine o_done ?_)
            | ((with_reducible refine q_move ?_); refine d_val hE hS rfl (fun w hS => r_move hE rfl) ?_; clear hE a; intro a hE)
            | ((with_reducible refine q_bin .gtr ?_); refine d_val hE hS rfl (fun w hS => r_gtr hE rfl rfl) ?_; clear hE a; intro a hE)
            | ((with_reducible refine q_bin .eql ?_); refine d_val hE hS rfl (fun w hS => r_eql hE rfl rfl) ?_; clear hE a; intro a hE)
            | ((with_reducible refine q_bin .neq ?_); refine d_val hE hS rfl (fun w hS => r_neq hE rfl rfl) ?_; clear hE a; intro a hE)
            | ((with_reducible refine q_bin .sub ?_); refine d_val hE hS rfl (fun w hS => r_sub hE rfl rfl (by first | exact wrap64_in (by omega) | exact wrap_u64_in (by omega) )) ?_; clear hE a; intro a hE)
            | ((with_reducible refine q_un .not ?_); refine d_val hE hS rfl (fun w hS => r_notb hE rfl) ?_; clear hE a; intro a hE)
            | ((with_reducible refine q_fa ?_); refine d_val hE hS rfl (fun w hS => r_fieldL hE rfl rfl) ?_; clear hE a; intro a hE)
            | ((with_reducible refine q_fa ?_); refine d_val hE hS rfl (fun w hS => r_fieldR hE rfl rfl) ?_; clear hE a; intro a hE)
            | ((with_reducible refine q_guard ?_); refine d_yes hE rfl rfl rfl ?_)
            | ((with_reducible refine q_guard ?_); refine d_dec hE rfl rfl (fun hc hE2 => ?_) (fun hc hE2 => ?_) <;> (try omega) <;> (replace hE := hE2; clear hE2))
            | ((with_reducible refine q_pick ?_); refine d_val hE hS rfl (fun w hS => r_pickT hE rfl rfl) ?_; clear hE a; intro a hE)
            | ((with_reducible refine q_pick ?_); refine d_val hE hS rfl (fun w hS => r_pickF hE rfl rfl) ?_; clear hE a; intro a hE)
            | ((with_reducible refine q_ia ?_); refine d_val hE hS rfl (fun w hS => r_idxR hE rfl rfl (by omega) (by omega) (by (first | exact Rd.st (by assumption) hS )) (by first | omega )) ?_; clear hE a; intro a hE)
            | ((with_reducible refine q_load ?_); refine d_val hE hS rfl (fun w hS => r_loadR hE rfl (by (first | exact Rd.st (by assumption) hS )) (by first | exact hlp)) ?_; clear hE a; intro a hE)
            | ((with_reducible refine q_load ?_); (first | (refine d_val hE hS rfl (fun w hS => r_loadB (k := 0) hS hE rfl rfl rfl) ?_) ); clear hE a; intro a hE)
            )
          refine ⟨rfl, hS, _, fun h => ⟨hR, .inr ?_⟩, fun h hk => ?_, hE.sub ⟨rfl, rfl, rfl, rfl, trivial⟩⟩
          · have h2 := Decidable.not_not.mp (of_decide_eq_false h)
            rw [hD, hDp]
            omega
          · have h2 := of_decide_eq_true h
            rcases hk.2.1 with h3 | h3
            · omega
            · rw [hD, hDp] at h3
              omega
      · repeat' (first
          | (with_reducible refine o_rd rfl ?_)
          | ((with_reducible refine q_load ?_); (first | (refine d_val hE hS rfl (fun w hS => r_loadW (k := 0) hS hE rfl rfl rfl) ?_) ); clear hE a; intro a hE)
          | ((with_reducible refine o_ef rfl ?_))
          )
        refine s_call hE rfl rfl rfl (rright rs[k] w (Rc.rd_st hrk hS) hwk) ?_
        rintro _ w ⟨rfl, hS1⟩; clear hE a; intro a hE; replace hS := hS.frame hS1; clear hS1; try simp only [List.cons_append, List.nil_append] at hS
        rw [decide_eq_false hR] at hE
        repeat' (first
          | (with_reducible refine wpList_nil ?_)
          )
        refine o_same hS ?_
        repeat' (first
          | (with_reducible refine o_rd rfl ?_)
          | (with_reducible refine o_done ?_)
          | ((with_reducible refine q_move ?_); refine d_val hE hS rfl (fun w hS => r_move hE rfl) ?_; clear hE a; intro a hE)
          | ((with_reducible refine q_un .not ?_); refine d_val hE hS rfl (fun w hS => r_notb hE rfl) ?_; clear hE a; intro a hE)
          | ((with_reducible refine q_guard ?_); refine d_no hE hS rfl rfl rfl rfl ?_; clear hE a; intro a hE)
          | ((with_reducible refine q_guard ?_); refine d_un hE hS rfl rfl rfl ?_; clear hE a; intro a hE)
          | ((with_reducible refine q_pick ?_); refine d_val hE hS rfl (fun w hS => r_pickT hE rfl rfl) ?_; clear hE a; intro a hE)
          )
        exact ⟨rfl, hS, _, fun h => (by cases h), fun _ h => hR (by rw [← hD]; exact h.1), hE.sub ⟨rfl, rfl, rfl, rfl, trivial⟩⟩
    rintro e a w ⟨rfl, hS, b, hb1, hb2, hE⟩
    cases b with
    | true =>
      repeat' (first
        | (with_reducible refine wp_seq ?_)
        | (with_reducible refine c_region ?_)
        | (with_reducible refine wpList_nil ?_)
        | (with_reducible refine then_normal ?_)
        | (with_reducible refine wp_ret ?_)
        | (with_reducible refine then_ret ?_)
        | (with_reducible refine block_ret ?_)
        | ((with_reducible refine g_assign ?_); refine s_assign hE rfl rfl ?_; clear hE a; intro a hE)
        | ((with_reducible refine g_cond ?_); refine c_true hE rfl ?_)
        )
      exact ret1 hE rfl rfl ⟨by rw [decide_eq_false (fun h : rowOk rs => hb2 rfl (h k hk1))], hS.nil⟩
    | false =>
      obtain ⟨hR, hP⟩ := hb1 rfl
      have hz : 0 < (rs.getD 0 Rc.zero).l := by
        rcases Nat.eq_zero_or_pos k with h0 | h0
        · subst h0; rw [hD]; exact hR.2.1
        · exact (hall 0 h0).1.2.1
      repeat' (first
        | (with_reducible refine wp_seq ?_)
        | (with_reducible refine c_region ?_)
        | (with_reducible refine wpList_nil ?_)
        | (with_reducible refine then_normal ?_)
        | (with_reducible refine wp_skip ?_)
        | (with_reducible refine wp_block ?_)
        | ((with_reducible refine g_assign ?_); refine s_assign hE rfl rfl ?_; clear hE a; intro a hE)
        | ((with_reducible refine g_cond ?_); refine c_false hE rfl ?_)
        )
      refine wp_loop_ghost (fun q a w => ∃ (j : Nat), j + q = k ∧ St w0 w [hBlk g4 25 rs[k].cells] ∧ Env 72 [(0, .slice A rs.length c), (3, .int .i64 (k : Int)), (4, .pointer (some ⟨g4, 0, none⟩)), (5, .int .u64 (lastM rs j rs[k].t : Int)), (6, .int .i64 (j : Int))] a) k ⟨0, by omega, hS, by rw [lastM_zero]; exact hE.sub ⟨rfl, rfl, rfl, rfl, rfl, trivial⟩⟩ ?_
      clear hE a hS
      rintro q2 a w ⟨j, hj, hS, hE⟩
      by_cases hj1 : j < k
      · have hj2 : j < rs.length := by omega
        have hjt : (rs.flatMap Rc.cells)[j * 9 + 2]? = some (.int .u64 (rs[j].t : Int)) := cellAt (j := 2) hj2 (by decide)
        have hjl : (rs.flatMap Rc.cells)[j * 9 + 0]? = some (.int .u64 (rs[j].l : Int)) := cellAt (j := 0) hj2 (by decide)
        repeat' (first
          | (with_reducible refine wp_seq ?_)
          | (with_reducible refine c_region ?_)
          | (with_reducible refine wpList_nil ?_)
          | (with_reducible refine then_normal ?_)
          | (with_reducible refine wp_skip ?_)
          | (with_reducible refine wp_block ?_)
          | ((with_reducible refine g_move ?_); refine s_move hE rfl rfl ?_; clear hE a; intro a hE)
          | ((with_reducible refine g_bin .lss ?_); refine s_lss hE rfl rfl rfl ?_; clear hE a; intro a hE)
          | ((with_reducible refine g_cond ?_); refine c_dec hE rfl (fun hc => ?_) (fun hc => ?_) <;> try omega)
          )
        refine c_ordS hS 8 ((.rd 0 (.rd 1 (.rd 2 (.rd 3 (.rd 4 (.rd 5 (.rd 6 (.rd 7 .done))))))))) mixed (by decide +kernel) ?_
        clear hS; intro w hS
        repeat' (first
          | (with_reducible refine o_rd rfl ?_)
          | (with_reducible refine o_done ?_)
          | ((with_reducible refine q_move ?_); refine d_val hE hS rfl (fun w hS => r_move hE rfl) ?_; clear hE a; intro a hE)
          | ((with_reducible refine q_bin .eql ?_); refine d_val hE hS rfl (fun w hS => r_eql hE rfl rfl) ?_; clear hE a; intro a hE)
          | ((with_reducible refine q_fa ?_); refine d_val hE hS rfl (fun w hS => r_fieldL hE rfl rfl) ?_; clear hE a; intro a hE)
          | ((with_reducible refine q_fa ?_); refine d_val hE hS rfl (fun w hS => r_fieldR hE rfl rfl) ?_; clear hE a; intro a hE)
          | ((with_reducible refine q_ia ?_); refine d_val hE hS rfl (fun w hS => r_idxR hE rfl rfl (by omega) (by omega) (by (first | exact Rd.st (by assumption) hS )) (by first | omega )) ?_; clear hE a; intro a hE)
          | ((with_reducible refine q_load ?_); refine d_val hE hS rfl (fun w hS => r_loadR hE rfl (by (first | exact Rd.st (by assumption) hS )) (by first | exact hjt)) ?_; clear hE a; intro a hE)
          | ((with_reducible refine q_load ?_); (first | (refine d_val hE hS rfl (fun w hS => r_loadB (k := 0) hS hE rfl rfl rfl) ?_) ); clear hE a; intro a hE)
          )
        repeat' (first
          | (with_reducible refine c_region ?_)
          | (with_reducible refine wpList_nil ?_)
          | (with_reducible refine then_normal ?_)
          | (with_reducible refine wp_skip ?_)
          | (with_reducible refine block_normal ?_)
          | ((with_reducible refine g_move ?_); refine s_move hE rfl rfl ?_; clear hE a; intro a hE)
          | ((with_reducible refine g_assign ?_); refine s_assign hE rfl rfl ?_; clear hE a; intro a hE)
          | ((with_reducible refine g_bin .add ?_); refine s_add hE rfl rfl rfl (by first | exact wrap64_in (by omega) ) ?_; clear hE a; intro a hE)
          | ((with_reducible refine g_fa ?_); refine s_val hE rfl rfl rfl (r_fieldR hE rfl rfl) ?_; clear hE a; intro a hE)
          | ((with_reducible refine g_cond ?_); refine c_dec hE rfl (fun hc => ?_) (fun hc => ?_) <;> try omega)
          | ((with_reducible refine g_ia ?_); refine s_idxR hE rfl rfl (by omega) (by omega) (by (first | exact Rd.st (by assumption) hS )) (by first | omega ) rfl ?_; clear hE a; intro a hE)
          | ((with_reducible refine g_load ?_); refine s_loadR hE rfl (by (first | exact Rd.st (by assumption) hS )) (by first | exact hjl ) rfl ?_; clear hE a; intro a hE)
          )
        · refine ⟨q2 - 1, by omega, j + 1, by omega, hS, ?_⟩
          rw [lastM_yes hj2 (by omega)]
          exact hE.sub ⟨rfl, rfl, rfl, rfl, rfl, trivial⟩
        · refine ⟨q2 - 1, by omega, j + 1, by omega, hS, ?_⟩
          rw [lastM_no hj2 (by omega)]
          exact hE.sub ⟨rfl, rfl, rfl, rfl, rfl, trivial⟩
      · obtain rfl : j = k := by omega
        repeat' (first
          | (with_reducible refine wp_seq ?_)
          | (with_reducible refine c_region ?_)
          | (with_reducible refine wpList_nil ?_)
          | (with_reducible refine then_normal ?_)
          | (with_reducible refine wp_exit ?_)
          | (with_reducible refine then_exit ?_)
          | (with_reducible refine block_same ?_)
          | ((with_reducible refine g_move ?_); refine s_move hE rfl rfl ?_; clear hE a; intro a hE)
          | ((with_reducible refine g_bin .lss ?_); refine s_lss hE rfl rfl rfl ?_; clear hE a; intro a hE)
          | ((with_reducible refine g_cond ?_); refine c_dec hE rfl (fun hc => ?_) (fun hc => ?_) <;> try omega)
          )
        refine c_ordS hS 13 ((.rd 0 (.rd 1 (.rd 2 (.rd 3 (.rd 4 (.rd 5 (.rd 6 (.rd 7 (.rd 8 (.rd 9 (.rd 10 (.rd 11 (.rd 12 .done)))))))))))))) mixed (by decide +kernel) ?_
        clear hS; intro w hS
        repeat' (first
          | (with_reducible refine o_rd rfl ?_)
          | (with_reducible refine o_done ?_)
          | ((with_reducible refine q_move ?_); refine d_val hE hS rfl (fun w hS => r_move hE rfl) ?_; clear hE a; intro a hE)
          | ((with_reducible refine q_bin .geq ?_); refine d_val hE hS rfl (fun w hS => r_geq hE rfl rfl) ?_; clear hE a; intro a hE)
          | ((with_reducible refine q_bin .neq ?_); refine d_val hE hS rfl (fun w hS => r_neq hE rfl rfl) ?_; clear hE a; intro a hE)
          | ((with_reducible refine q_fa ?_); refine d_val hE hS rfl (fun w hS => r_fieldL hE rfl rfl) ?_; clear hE a; intro a hE)
          | ((with_reducible refine q_fa ?_); refine d_val hE hS rfl (fun w hS => r_fieldR hE rfl rfl) ?_; clear hE a; intro a hE)
          | ((with_reducible refine q_guard ?_); refine d_yes hE rfl rfl rfl ?_)
          | ((with_reducible refine q_guard ?_); refine d_no hE hS rfl rfl rfl rfl ?_; clear hE a; intro a hE)
          | ((with_reducible refine q_guard ?_); refine d_dec hE rfl rfl (fun hc hE2 => ?_) (fun hc hE2 => ?_) <;> (try omega) <;> (replace hE := hE2; clear hE2))
          | ((with_reducible refine q_pick ?_); refine d_val hE hS rfl (fun w hS => r_pickT hE rfl rfl) ?_; clear hE a; intro a hE)
          | ((with_reducible refine q_pick ?_); refine d_val hE hS rfl (fun w hS => r_pickF hE rfl rfl) ?_; clear hE a; intro a hE)
          | ((with_reducible refine q_ia ?_); refine d_val hE hS rfl (fun w hS => r_idxR hE rfl rfl (by omega) (by omega) (by (first | exact Rd.st (by assumption) hS )) (by first | omega )) ?_; clear hE a; intro a hE)
          | ((with_reducible refine q_load ?_); refine d_val hE hS rfl (fun w hS => r_loadR hE rfl (by (first | exact Rd.st (by assumption) hS )) (by first | exact h0l)) ?_; clear hE a; intro a hE)
          | ((with_reducible refine q_load ?_); (first | (refine d_val hE hS rfl (fun w hS => r_loadB (k := 0) hS hE rfl rfl rfl) ?_) ); clear hE a; intro a hE)
          )
        repeat' (first
          | (with_reducible refine wp_seq ?_)
          | (with_reducible refine c_region ?_)
          | (with_reducible refine wpList_nil ?_)
          | (with_reducible refine then_normal ?_)
          | (with_reducible refine wp_skip ?_)
          | (with_reducible refine wp_ret ?_)
          | (with_reducible refine then_ret ?_)
          | (with_reducible refine block_normal ?_)
          | (with_reducible refine block_ret ?_)
          | ((with_reducible refine g_move ?_); refine s_move hE rfl rfl ?_; clear hE a; intro a hE)
          | ((with_reducible refine g_assign ?_); refine s_assign hE rfl rfl ?_; clear hE a; intro a hE)
          | ((with_reducible refine g_bin .add ?_); refine s_add hE rfl rfl rfl (by first  | exact wrap64_in (by omega) ) ?_; clear hE a; intro a hE)
          | ((with_reducible refine g_cond ?_); refine c_false hE rfl ?_)
          | ((with_reducible refine g_cond ?_); refine c_dec hE rfl (fun hc => ?_) (fun hc => ?_) <;> try omega)
          )
        · refine ret1 hE rfl rfl ⟨?_, hS.nil⟩
          rw [decide_eq_false (fun h : rowOk rs => ?_)]
          have h2 := (backOk_iff hz).1 (h j hk1).2.2
          rw [hD] at h2
          exact h2 ⟨by omega, by omega⟩
        · exact ⟨q - 1, by omega, j + 1, by omega, fun i hi => (by
            rcases Nat.lt_or_ge i j with h | h
            · exact hall i h
            · obtain rfl : i = j := by omega
              exact ⟨by rw [hD]; exact hR, hP, (backOk_iff hz).2 (by rw [hD]; omega)⟩), hS.nil, hE.sub ⟨rfl, rfl, trivial⟩⟩
        · exact ⟨q - 1, by omega, j + 1, by omega, fun i hi => (by
            rcases Nat.lt_or_ge i j with h | h
            · exact hall i h
            · obtain rfl : i = j := by omega
              exact ⟨by rw [hD]; exact hR, hP, (backOk_iff hz).2 (by rw [hD]; omega)⟩), hS.nil, hE.sub ⟨rfl, rfl, trivial⟩⟩
  · obtain rfl : k = rs.length := by omega
    repeat' (first
      | (with_reducible refine wp_seq ?_)
      | (with_reducible refine c_region ?_)
      | (with_reducible refine wpList_nil ?_)
      | (with_reducible refine then_normal ?_)
      | (with_reducible refine wp_ret ?_)
      | (with_reducible refine wp_exit ?_)
      | (with_reducible refine then_exit ?_)
      | (with_reducible refine block_same ?_)
      | ((with_reducible refine g_move ?_); refine s_move hE rfl rfl ?_; clear hE a; intro a hE)
      | ((with_reducible refine g_assign ?_); refine s_assign hE rfl rfl ?_; clear hE a; intro a hE)
      | ((with_reducible refine g_bin .lss ?_); refine s_lss hE rfl rfl rfl ?_; clear hE a; intro a hE)
      | ((with_reducible refine g_blt .len ?_); refine s_len hE rfl rfl ?_; clear hE a; intro a hE)
      | ((with_reducible refine g_cond ?_); refine c_dec hE rfl (fun hc => ?_) (fun hc => ?_) <;> try omega)
      )
    exact ret1 hE rfl rfl ⟨by rw [decide_eq_true (show rowOk rs from fun i hi => hall i hi)], hS⟩
end Go.Proofs.Ytmfcffeoooegcaa
