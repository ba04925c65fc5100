/-
  Contracts of record: may a row of records be?
-/
import Derived.Test.YtmfcffeoooegcaaRW
namespace Go.Proofs.Ytmfcffeoooegcaa
open Go.RowKit
set_option linter.unusedVariables false
set_option linter.unusedSimpArgs false
attribute [local irreducible] Rd hRow hBlk hRd hAll Fn hRdr hMarks
attribute [local simp] Rc.cells

def prevOk (rs : List Rc) (i : Nat) : Prop := i = 0 ∨ (rs.getD (i - 1) Rc.zero).l + 1 = (rs.getD i Rc.zero).l
def backOk (rs : List Rc) (i : Nat) : Prop := (rs.getD i Rc.zero).b < (rs.getD 0 Rc.zero).l ∨ ((aheadM rs i (rs.getD i Rc.zero).t).head?.map Rc.l) = some (rs.getD i Rc.zero).b
def okAt (rs : List Rc) (i : Nat) : Prop := (rs.getD i Rc.zero).right ∧ prevOk rs i ∧ backOk rs i
def rowOk (rs : List Rc) : Prop := ∀ i, i < rs.length → okAt rs i
instance (rs : List Rc) (i : Nat) : Decidable (prevOk rs i) := by unfold prevOk; infer_instance
instance (rs : List Rc) (i : Nat) : Decidable (backOk rs i) := by unfold backOk; infer_instance
instance (rs : List Rc) (i : Nat) : Decidable (okAt rs i) := by unfold okAt; infer_instance
instance (rs : List Rc) : Decidable (rowOk rs) := by unfold rowOk; infer_instance
def rowE (rs : List Rc) : Int := if 64 < rs.length then 3 else if rowOk rs then 0 else 150
theorem wrapS (l : Nat) : IntKind.u64.wrap ((l : Int) + 1) = (((l + 1) % 18446744073709551616 : Nat) : Int) := wrap_u64_nat (l + 1)
theorem rowE_no {rs : List Rc} {i : Nat} (h : ¬ 64 < rs.length) (hi : i < rs.length) (hn : ¬ okAt rs i) : rowE rs = 150 := by
  unfold rowE
  rw [if_neg h, if_neg (fun hr => hn (hr i hi))]
set_option maxHeartbeats 8000000 in
theorem checkRow (A : Option Addr) (c : Nat) (rs : List Rc) (w0 : World) (hr : Rd w0 A (rs.flatMap Rc.cells)) (hl : rs.length ≤ 9223372036854775806) (hrd : ∀ r ∈ rs, r.rd w0) (hwf : ∀ r ∈ rs, r.wf) :
    Fn Try.prog 23 [.slice A rs.length c] w0 fun v w' => v = .int .i64 (rowE rs) ∧ St w0 w' [] := by
  refine enterI 57 Try.func23 rfl rfl rfl ?_
  intro a hE
  have hS := St.start w0
  have hfl : (rs.flatMap Rc.cells).length = rs.length * 9 := flat_len (fun _ _ => rfl)
  repeat' (first
    | (with_reducible refine wpList_nil ?_)
    | (with_reducible refine then_normal ?_)
    | (with_reducible refine then_ret ?_)
    | (with_reducible refine i_seq ?_)
    | (with_reducible refine i_skip ?_)
    | (with_reducible refine i_ret ?_)
    | (with_reducible refine i_block ?_)
    | ((with_reducible refine ig_region ?_); refine i_region rfl (fun _ _ h => h) ?_)
    | ((with_reducible refine ig_cond ?_); refine i_dec hE rfl (fun hc => ?_) (fun hc => ?_) <;> try omega)
    | ((with_reducible refine g_move ?_); refine s_move hE rfl rfl ?_; clear hE a; intro a hE)
    | ((with_reducible refine g_assign ?_); refine s_assign hE rfl rfl ?_; clear hE a; intro a hE)
    | ((with_reducible refine g_bin .gtr ?_); refine s_gtr hE rfl rfl rfl ?_; clear hE a; intro a hE)
    | ((with_reducible refine g_blt .len ?_); refine s_len hE rfl rfl ?_; clear hE a; intro a hE)
    )
  · exact i_ret1 hE rfl rfl ⟨by unfold rowE; rw [if_pos (by omega)], hS.nil⟩
  replace hS := hS.marks0
  refine i_loop (fun q ds a w => ∃ (k : Nat) (Ds : List Nat), ds = Ds.map mark ∧ k + q = rs.length ∧ (∀ j, j < k → okAt rs j) ∧ St w0 w [hMarks Ds] ∧ Env 57 [(0, .slice A rs.length c), (10, .slice A rs.length c), (11, .int .i64 (rs.length : Int)), (12, .int .i64 (k : Int))] a) rs.length ⟨0, [], rfl, by omega, fun j hj => absurd hj (by omega), hS, hE.sub ⟨rfl, rfl, rfl, rfl, trivial⟩⟩ ?_
  clear hE a hS
  rintro q ds a w ⟨k, Ds, rfl, hk, hall, hS, hE⟩
  by_cases hk1 : k < rs.length
  · have hseg := flat_seg (c := Rc.cells) (size := 9) (l := rs) (fun _ _ => rfl) hk1
    have hrk := hrd _ (List.getElem_mem hk1)
    have hwk := hwf _ (List.getElem_mem hk1)
    have hD : rs.getD k Rc.zero = rs[k] := by simp [List.getD_eq_getElem?_getD, hk1]
    have h0l : (rs.flatMap Rc.cells)[0]? = some (.int .u64 ((rs.getD 0 Rc.zero).l : Int)) := by
      have := cellAt (rs := rs) (k := 0) (j := 0) (by omega) (by decide)
      have e : rs.getD 0 Rc.zero = rs[0] := by simp [List.getD_eq_getElem?_getD, show 0 < rs.length by omega]
      rw [e]
      simpa using this
    repeat' (first
      | (with_reducible refine wpList_nil ?_)
      | (with_reducible refine then_normal ?_)
      | (with_reducible refine i_seq ?_)
      | (with_reducible refine i_skip ?_)
      | (with_reducible refine i_block ?_)
      | ((with_reducible refine ig_region ?_); refine i_region rfl (fun _ _ h => h) ?_)
      | ((with_reducible refine ig_cond ?_); refine i_dec hE rfl (fun hc => ?_) (fun hc => ?_) <;> try omega)
      | ((with_reducible refine g_move ?_); refine s_move hE rfl rfl ?_; clear hE a; intro a hE)
      | ((with_reducible refine g_assign ?_); refine s_assign hE rfl rfl ?_; clear hE a; intro a hE)
      | ((with_reducible refine g_bin .lss ?_); refine s_lss hE rfl rfl rfl ?_; clear hE a; intro a hE)
      | ((with_reducible refine g_ia ?_); refine s_idxR hE rfl rfl (by omega) (by omega) (by (first | exact Rd.st (by assumption) hS )) (by first | omega ) rfl ?_; clear hE a; intro a hE)
      | ((with_reducible refine g_alloc ?_); refine s_allocS hE hS rfl rfl ?_; clear hE a hS; intro g a w hE hS)
      | ((with_reducible refine g_store ?_); (first | (refine s_storeW (k := 0) hS hE rfl rfl rfl rfl rfl (by simp [Value.oneCell']) ?_) ); clear hS; intro w hS; simp only [List.set_cons_zero, List.set_cons_succ, Nat.add_zero] at hS)
      | ((with_reducible refine g_load ?_); refine s_elemR hE rfl (by (first | exact Rd.st (by assumption) hS )) (by first | exact hseg ) (by rfl) (by rfl) rfl ?_; clear hE a; intro a hE))
    obtain ⟨g4, rfl⟩ : ∃ x, x = g := ⟨g, rfl⟩
    refine WI.mono (Q := fun ds e a w => e = .normal ∧ ds = Ds.map mark ∧ St w0 w [hBlk g4 25 rs[k].cells, hMarks Ds] ∧ ∃ b, (b = false → rs[k].right ∧ prevOk rs k) ∧ (b = true → ¬ okAt rs k) ∧ Env 57 [(35, .bool b), (0, .slice A rs.length c), (3, .int .i64 (k : Int)), (4, .pointer (some ⟨g4, 0, none⟩)), (10, .slice A rs.length c), (11, .int .i64 (rs.length : Int)), (12, .int .i64 (k : Int))] a) ?_ ?_
    · refine i_ordS hS 19 ((.rd 0 (.ef 1 (.rd 2 (.rd 3 (.rd 4 (.rd 5 (.rd 6 (.rd 7 (.rd 8 (.rd 9 (.rd 10 (.rd 11 (.rd 12 (.rd 13 (.rd 14 (.rd 15 (.rd 16 (.rd 17 (.rd 18 .done)))))))))))))))))))) mixed (by decide +kernel) (by decide +kernel) ?_
      clear hS; intro w hS
      by_cases hR : rs[k].right
      · rcases Nat.eq_zero_or_pos k with h0 | h0
        · subst h0
          repeat' (first
            | (with_reducible refine o_rd rfl ?_)
            | ((with_reducible refine q_load ?_); (first | (refine d_val hE hS rfl (fun w hS => r_loadW (k := 0) hS hE rfl rfl rfl) ?_) ); clear hE a; intro a hE)
            | ((with_reducible refine o_ef rfl ?_))
            )
          repeat' (first
            | (with_reducible refine wpList_nil ?_)
            | ((with_reducible refine g_call (f := 14) ?_); (first | (refine s_call hE rfl rfl rfl (check_ok _ w (Rc.rd_st (by assumption) hS) (by assumption) (by assumption)) ?_) ); rintro _ w ⟨rfl, hS1⟩; clear hE a; intro a hE; replace hS := hS.frame hS1; clear hS1; try simp only [List.cons_append, List.nil_append] at hS)
            )
          refine o_same hS ?_
          repeat' (first
            | (with_reducible refine o_rd rfl ?_)
            | (with_reducible refine o_done ?_)
            | ((with_reducible refine q_move ?_); refine d_val hE hS rfl (fun w hS => r_move hE rfl) ?_; clear hE a; intro a hE)
            | ((with_reducible refine q_bin .gtr ?_); refine d_val hE hS rfl (fun w hS => r_gtr hE rfl rfl) ?_; clear hE a; intro a hE)
            | ((with_reducible refine q_bin .neq ?_); refine d_val hE hS rfl (fun w hS => r_neq hE rfl rfl) ?_; clear hE a; intro a hE)
            | ((with_reducible refine q_guard ?_); refine d_yes hE rfl rfl rfl ?_)
            | ((with_reducible refine q_guard ?_); refine d_no hE hS rfl rfl rfl rfl ?_; clear hE a; intro a hE)
            | ((with_reducible refine q_pick ?_); refine d_val hE hS rfl (fun w hS => r_pickF hE rfl rfl) ?_; clear hE a; intro a hE)
            )
          exact ⟨rfl, rfl, hS, _, fun _ => ⟨hR, .inl rfl⟩, fun h => (by cases h), hE.sub ⟨rfl, rfl, rfl, rfl, rfl, rfl, rfl, trivial⟩⟩
        · have hk2 : k - 1 < rs.length := by omega
          have hDp : rs.getD (k - 1) Rc.zero = rs[k - 1] := by simp [List.getD_eq_getElem?_getD, hk2]
          have hlp : (rs.flatMap Rc.cells)[((k : Int) - 1).toNat * 9 + 0]? = some (.int .u64 (rs[k - 1].l : Int)) := by
            rw [show ((k : Int) - 1).toNat = k - 1 by omega]
            exact cellAt (j := 0) hk2 (by decide)
          have hwp := (hwf _ (List.getElem_mem hk2)).l
          repeat' (first
            | (with_reducible refine o_rd rfl ?_)
            | ((with_reducible refine q_load ?_); (first | (refine d_val hE hS rfl (fun w hS => r_loadW (k := 0) hS hE rfl rfl rfl) ?_) ); clear hE a; intro a hE)
            | ((with_reducible refine o_ef rfl ?_))
            )
          repeat' (first
            | (with_reducible refine wpList_nil ?_)
            | ((with_reducible refine g_call (f := 14) ?_); (first | (refine s_call hE rfl rfl rfl (check_ok _ w (Rc.rd_st (by assumption) hS) (by assumption) (by assumption)) ?_) ); rintro _ w ⟨rfl, hS1⟩; clear hE a; intro a hE; replace hS := hS.frame hS1; clear hS1; try simp only [List.cons_append, List.nil_append] at hS)
            )
          refine o_same hS ?_
          repeat' (first
            | (with_reducible refine o_rd rfl ?_)
            | (with_reducible refine o_done ?_)
            | ((with_reducible refine q_move ?_); refine d_val hE hS rfl (fun w hS => r_move hE rfl) ?_; clear hE a; intro a hE)
            | ((with_reducible refine q_bin .gtr ?_); refine d_val hE hS rfl (fun w hS => r_gtr hE rfl rfl) ?_; clear hE a; intro a hE)
            | ((with_reducible refine q_bin .neq ?_); refine d_val hE hS rfl (fun w hS => r_neq hE rfl rfl) ?_; clear hE a; intro a hE)
            | ((with_reducible refine q_bin .add ?_); refine d_val hE hS rfl (fun w hS => r_add hE rfl rfl (by first | exact wrapS _ )) ?_; clear hE a; intro a hE)
            | ((with_reducible refine q_bin .sub ?_); refine d_val hE hS rfl (fun w hS => r_sub hE rfl rfl (by first | exact wrap64_in (by omega) )) ?_; clear hE a; intro a hE)
            | ((with_reducible refine q_fa ?_); refine d_val hE hS rfl (fun w hS => r_fieldL hE rfl rfl) ?_; clear hE a; intro a hE)
            | ((with_reducible refine q_fa ?_); refine d_val hE hS rfl (fun w hS => r_fieldR hE rfl rfl) ?_; clear hE a; intro a hE)
            | ((with_reducible refine q_guard ?_); refine d_yes hE rfl rfl rfl ?_)
            | ((with_reducible refine q_guard ?_); refine d_dec hE rfl rfl (fun hc hE2 => ?_) (fun hc hE2 => ?_) <;> (try omega) <;> (replace hE := hE2; clear hE2))
            | ((with_reducible refine q_pick ?_); refine d_val hE hS rfl (fun w hS => r_pickT hE rfl rfl) ?_; clear hE a; intro a hE)
            | ((with_reducible refine q_pick ?_); refine d_val hE hS rfl (fun w hS => r_pickF hE rfl rfl) ?_; clear hE a; intro a hE)
            | ((with_reducible refine q_ia ?_); refine d_val hE hS rfl (fun w hS => r_idxR hE rfl rfl (by omega) (by omega) (by (first | exact Rd.st (by assumption) hS )) (by first | omega )) ?_; clear hE a; intro a hE)
            | ((with_reducible refine q_load ?_); refine d_val hE hS rfl (fun w hS => r_loadR hE rfl (by (first | exact Rd.st (by assumption) hS )) (by first | exact hlp)) ?_; clear hE a; intro a hE)
            | ((with_reducible refine q_load ?_); (first | (refine d_val hE hS rfl (fun w hS => r_loadB (k := 0) hS hE rfl rfl rfl) ?_) ); clear hE a; intro a hE)
            )
          refine ⟨rfl, rfl, hS, _, fun h => ⟨hR, .inr ?_⟩, fun h hk => ?_, hE.sub ⟨rfl, rfl, rfl, rfl, rfl, rfl, rfl, trivial⟩⟩
          · have h2 := Decidable.not_not.mp (of_decide_eq_false h)
            have h3 := hR.2.1
            rw [hD, hDp]
            omega
          · have h2 := of_decide_eq_true h
            rcases hk.2.1 with h3 | h3
            · omega
            · rw [hD, hDp] at h3
              have h4 := hwk.l
              omega
      · repeat' (first
          | (with_reducible refine o_rd rfl ?_)
          | ((with_reducible refine q_load ?_); (first | (refine d_val hE hS rfl (fun w hS => r_loadW (k := 0) hS hE rfl rfl rfl) ?_) ); clear hE a; intro a hE)
          | ((with_reducible refine o_ef rfl ?_))
          )
        repeat' (first
          | (with_reducible refine wpList_nil ?_)
          | ((with_reducible refine g_call (f := 14) ?_); (first | (refine s_call hE rfl rfl rfl (check_no _ w (Rc.rd_st (by assumption) hS) (by assumption) (by assumption)) ?_)); rintro _ w ⟨rfl, hS1⟩; clear hE a; intro a hE; replace hS := hS.frame hS1; clear hS1; try simp only [List.cons_append, List.nil_append] at hS)
          )
        refine o_same hS ?_
        repeat' (first
          | (with_reducible refine o_rd rfl ?_)
          | (with_reducible refine o_done ?_)
          | ((with_reducible refine q_move ?_); refine d_val hE hS rfl (fun w hS => r_move hE rfl) ?_; clear hE a; intro a hE)
          | ((with_reducible refine q_bin .neq ?_); refine d_val hE hS rfl (fun w hS => r_neq hE rfl rfl) ?_; clear hE a; intro a hE)
          | ((with_reducible refine q_guard ?_); refine d_no hE hS rfl rfl rfl rfl ?_; clear hE a; intro a hE)
          | ((with_reducible refine q_guard ?_); refine d_un hE hS rfl rfl rfl ?_; clear hE a; intro a hE)
          | ((with_reducible refine q_pick ?_); refine d_val hE hS rfl (fun w hS => r_pickT hE rfl rfl) ?_; clear hE a; intro a hE)
          )
        exact ⟨rfl, rfl, hS, _, fun h => (by cases h), fun _ h => hR (by rw [← hD]; exact h.1), hE.sub ⟨rfl, rfl, rfl, rfl, rfl, rfl, rfl, trivial⟩⟩
    rintro ds e a w ⟨rfl, rfl, hS, b, hb1, hb2, hE⟩
    cases b with
    | true =>
      repeat' (first
        | (with_reducible refine wpList_nil ?_)
        | (with_reducible refine then_normal ?_)
        | (with_reducible refine then_ret ?_)
        | (with_reducible refine block_ret ?_)
        | (with_reducible refine i_seq ?_)
        | (with_reducible refine i_ret ?_)
        | ((with_reducible refine ig_region ?_); refine i_region rfl (fun _ _ h => h) ?_)
        | ((with_reducible refine ig_cond ?_); refine i_true hE rfl ?_)
        | ((with_reducible refine g_assign ?_); refine s_assign hE rfl rfl ?_; clear hE a; intro a hE)
        )
      exact im_ret1 hE _ hS.tail rfl rfl fun w' hS' => ⟨by rw [rowE_no (by omega) hk1 (hb2 rfl)], hS'⟩
    | false =>
      obtain ⟨hR, hP⟩ := hb1 rfl
      repeat' (first
        | (with_reducible refine then_normal ?_)
        | (with_reducible refine i_seq ?_)
        | (with_reducible refine i_skip ?_)
        | ((with_reducible refine ig_cond ?_); refine i_false hE rfl ?_)
        )
      refine i_ordS hS 7 ((.rd 0 (.rd 1 (.rd 2 (.rd 3 (.rd 4 (.rd 5 (.rd 6 .done)))))))) mixed (by decide +kernel) (by decide +kernel) ?_
      clear hS; intro w hS
      repeat' (first
        | (with_reducible refine o_rd rfl ?_)
        | (with_reducible refine o_done ?_)
        | ((with_reducible refine q_move ?_); refine d_val hE hS rfl (fun w hS => r_move hE rfl) ?_; clear hE a; intro a hE)
        | ((with_reducible refine q_bin .lss ?_); refine d_val hE hS rfl (fun w hS => r_lss hE rfl rfl) ?_; clear hE a; intro a hE)
        | ((with_reducible refine q_fa ?_); refine d_val hE hS rfl (fun w hS => r_fieldL hE rfl rfl) ?_; clear hE a; intro a hE)
        | ((with_reducible refine q_fa ?_); refine d_val hE hS rfl (fun w hS => r_fieldR hE rfl rfl) ?_; clear hE a; intro a hE)
        | ((with_reducible refine q_ia ?_); refine d_val hE hS rfl (fun w hS => r_idxR hE rfl rfl (by omega) (by omega) (by (first | exact Rd.st (by assumption) hS )) (by first | omega )) ?_; clear hE a; intro a hE)
        | ((with_reducible refine q_load ?_); refine d_val hE hS rfl (fun w hS => r_loadR hE rfl (by (first | exact Rd.st (by assumption) hS )) (by first | exact h0l)) ?_; clear hE a; intro a hE)
        | ((with_reducible refine q_load ?_); (first | (refine d_val hE hS rfl (fun w hS => r_loadB (k := 0) hS hE rfl rfl rfl) ?_) ); clear hE a; intro a hE)
        )
      repeat' (first
        | (with_reducible refine wpList_nil ?_)
        | (with_reducible refine then_normal ?_)
        | (with_reducible refine then_exit ?_)
        | (with_reducible refine block_same ?_)
        | (with_reducible refine i_seq ?_)
        | (with_reducible refine i_skip ?_)
        | (with_reducible refine i_exit ?_)
        | ((with_reducible refine ig_region ?_); refine i_region rfl (fun _ _ h => h) ?_)
        | ((with_reducible refine ig_cond ?_); refine i_dec hE rfl (fun hc => ?_) (fun hc => ?_) <;> try omega)
        | ((with_reducible refine g_move ?_); refine s_move hE rfl rfl ?_; clear hE a; intro a hE)
        | ((with_reducible refine g_bin .add ?_); refine s_add hE rfl rfl rfl (by first  | exact wrap64_in (by omega) ) ?_; clear hE a; intro a hE)
        | ((with_reducible refine g_fa ?_); refine s_fieldL hE rfl rfl rfl ?_; clear hE a; intro a hE)
        | ((with_reducible refine g_load ?_); (first | (refine s_loadB (k := 1) hS hE rfl rfl rfl rfl ?_) ); clear hE a; intro a hE)
        | ((with_reducible refine g_store ?_); (first | (refine s_storeB (k := 0) hS hE rfl rfl rfl rfl rfl rfl ?_) ); clear hS; intro w hS; simp only [List.set_cons_zero, List.set_cons_succ, Nat.add_zero] at hS)
        | ((with_reducible refine g_alloc ?_); refine s_alloc1 hE hS rfl rfl ?_; clear hE a hS; intro g a w hE hS)
        )
      · exact ⟨q - 1, by omega, k + 1, Ds, rfl, by omega, fun j hj => (by
          rcases Nat.lt_or_ge j k with h | h
          · exact hall j h
          · obtain rfl : j = k := by omega
            exact ⟨by rw [hD]; exact hR, hP, .inl (by rw [hD]; omega)⟩), hS.tail, hE.sub ⟨rfl, rfl, rfl, rfl, trivial⟩⟩
      · refine s_call hE rfl rfl rfl (ahead A c rs.length (k : Int) rs[k].t w) ?_
        rintro _ w ⟨b3, b4, b5, rfl, hS1⟩; clear hE a; intro a hE; replace hS := hS.frame hS1; clear hS1; try simp only [List.cons_append, List.nil_append] at hS
        repeat' (first
          | (with_reducible refine wpList_nil ?_)
          | (with_reducible refine then_normal ?_)
          | (with_reducible refine i_block ?_)
          )
        refine i_range hE rfl (ahead_iter A c rs k rs[k].t b3 b4 b5 w0 hr hl (by omega)) (fun pre => [hPure (pre = []), hBlk g 4 [.bool false], hBlk g4 25 rs[k].cells]) (fun j xs => [hPure (j = some 2 ∧ xs.length = 1), hBlk g 4 [.bool (decide ((xs.getLastD Rc.zero).l = rs[k].b))], hBlk g4 25 rs[k].cells]) (own := [hMarks Ds]) ?_ (fun _ => rfl) (by decide)
          (Y := Nat) (fun pre x y => [(6, .pointer (some ⟨y, 0, none⟩)), (5, .pointer (some ⟨g, 0, none⟩)), (4, .pointer (some ⟨g4, 0, none⟩))]) (fun pre x y => [hBlk y 25 x.cells, hPure (pre = []), hBlk g 4 [.bool false], hBlk g4 25 rs[k].cells]) ?_ ?_ ?_ ?_
        · exact (hS.pureI (p := ([] : List Rc) = []) rfl).perm (List.perm_middle (l₁ := aheadBx A c rs.length k rs[k].t b3 b4 b5)).symm
        · clear hS hE a
          intro own pre x w l a hx hS hE
          simp only [List.cons_append, List.nil_append] at hS
          repeat' (first
            | (with_reducible refine wpList_nil ?_)
            | ((with_reducible refine ig_region ?_); refine i_region rfl (fun _ _ h => absurd h.1 (by simp)) ?_)
            | ((with_reducible refine g_alloc ?_); refine s_allocS hE hS rfl rfl ?_; clear hE a hS; intro g a w hE hS)
            | ((with_reducible refine g_store ?_); (first | (refine s_storeW (k := 0) hS hE rfl rfl rfl rfl rfl (by simp [Value.oneCell']) ?_) ); clear hS; intro w hS; simp only [List.set_cons_zero, List.set_cons_succ, Nat.add_zero] at hS)
            )
          exact ⟨rfl, rfl, _, hE.sub ⟨rfl, rfl, rfl, trivial⟩, hS.perm (List.perm_middle (l₁ := aheadBx A c rs.length k rs[k].t b3 b4 b5)).symm⟩
        · clear hS hE a
          intro own pre x y w l a hx hS hE
          simp only [List.cons_append, List.nil_append] at hS
          repeat' (first
            | (with_reducible refine wpList_nil ?_)
            | (with_reducible refine then_normal ?_)
            | ((with_reducible refine block_other ?_ ?_); rfl)
            | (with_reducible refine i_seq ?_)
            | (with_reducible refine i_exit ?_)
            | (with_reducible refine i_block ?_)
            | ((with_reducible refine ig_region ?_); refine i_region rfl (fun _ _ h => h) ?_)
            | ((with_reducible refine g_bin .eql ?_); refine s_eql hE rfl rfl rfl ?_; clear hE a; intro a hE)
            | ((with_reducible refine g_fa ?_); refine s_fieldL hE rfl rfl rfl ?_; clear hE a; intro a hE)
            | ((with_reducible refine g_load ?_); (first | (refine s_loadB (k := 3) hS hE rfl rfl rfl rfl ?_) | (refine s_loadB (k := 6) hS hE rfl rfl rfl rfl ?_) ); clear hE a; intro a hE)
            | ((with_reducible refine g_store ?_); (first | (refine s_storeB (k := 5) hS hE rfl rfl rfl rfl rfl rfl ?_) ); clear hS; intro w hS; simp only [List.set_cons_zero, List.set_cons_succ, Nat.add_zero] at hS)
            )
          have hp : pre = [] := (hS.focus (k := 4) rfl).pure
          subst hp
          have e1 : decide ((x.l : Int) = (rs[k].b : Int)) = decide (x.l = rs[k].b) := decide_eq_decide.2 (by omega)
          rw [e1] at hS
          exact (hS.drop 3).convAt (k := 3) (h' := hPure (some 2 = some 2 ∧ ([] ++ [x]).length = 1)) rfl fun _ _ => ⟨rfl, rfl⟩
        · clear hS
          intro D w hS
          simp only [List.cons_append, List.nil_append] at hS
          have hp : aheadM rs k rs[k].t = [] := (hS.focus (k := 4) rfl).pure
          repeat' (first
            | (with_reducible refine wpList_nil ?_)
            | (with_reducible refine then_normal ?_)
            | (with_reducible refine then_ret ?_)
            | (with_reducible refine block_normal ?_)
            | (with_reducible refine block_ret ?_)
            | (with_reducible refine i_seq ?_)
            | (with_reducible refine i_ret ?_)
            | ((with_reducible refine ig_region ?_); refine i_region rfl (fun _ _ h => h) ?_)
            | ((with_reducible refine ig_cond ?_); refine i_true hE rfl ?_)
            | ((with_reducible refine g_assign ?_); refine s_assign hE rfl rfl ?_; clear hE a; intro a hE)
            | ((with_reducible refine g_un .not ?_); refine s_notb hE rfl rfl ?_; clear hE a; intro a hE)
            | ((with_reducible refine g_load ?_); (first | (refine s_loadB (k := 5) hS hE rfl rfl rfl rfl ?_) ); clear hE a; intro a hE)
            )
          refine im_ret1 hE (D :: Ds) (hS.focus (k := 7) rfl).p1.marks2 rfl rfl fun w' hS' => ⟨?_, hS'.nil⟩
          rw [rowE_no (by omega) hk1]
          rintro ⟨_, _, h | h⟩
          · rw [hD] at h; omega
          · rw [hD, hp] at h; cases h
        · clear hS
          intro j D pre x post w hx hS
          simp only [List.cons_append, List.nil_append] at hS
          obtain ⟨rfl, hl1⟩ := (hS.focus (k := 4) rfl).pure
          obtain rfl : pre = [] := List.length_eq_zero_iff.mp (by simpa using hl1)
          have e1 : backOk rs k ↔ x.l = rs[k].b := by
            unfold backOk
            rw [hD, ← hx]
            simp only [List.nil_append, List.head?_cons, Option.map_some, Option.some.injEq]
            exact ⟨fun h => h.resolve_left (by omega), .inr⟩
          show Exit.inBlock 2 _ (.exit 2) a w
          repeat' (first
            | (with_reducible refine wpList_nil ?_)
            | (with_reducible refine then_normal ?_)
            | (with_reducible refine then_ret ?_)
            | (with_reducible refine block_normal ?_)
            | (with_reducible refine block_ret ?_)
            | (with_reducible refine block_same ?_)
            | (with_reducible refine i_seq ?_)
            | (with_reducible refine i_skip ?_)
            | (with_reducible refine i_ret ?_)
            | ((with_reducible refine ig_region ?_); refine i_region rfl (fun _ _ h => h) ?_)
            | ((with_reducible refine ig_cond ?_); refine i_dec hE rfl (fun hc => ?_) (fun hc => ?_) <;> try omega)
            | ((with_reducible refine g_move ?_); refine s_move hE rfl rfl ?_; clear hE a; intro a hE)
            | ((with_reducible refine g_assign ?_); refine s_assign hE rfl rfl ?_; clear hE a; intro a hE)
            | ((with_reducible refine g_bin .add ?_); refine s_add hE rfl rfl rfl (by first  | exact wrap64_in (by omega) ) ?_; clear hE a; intro a hE)
            | ((with_reducible refine g_un .not ?_); refine s_not hE rfl rfl ?_; clear hE a; intro a hE)
            | ((with_reducible refine g_load ?_); (first | (refine s_loadB (k := 5) hS hE rfl rfl rfl rfl ?_) ); clear hE a; intro a hE)
            )
          · refine im_ret1 hE (D :: Ds) (hS.focus (k := 7) rfl).p1.marks2 rfl rfl fun w' hS' => ⟨?_, hS'.nil⟩
            rw [rowE_no (by omega) hk1]
            exact fun h => hc (e1.1 h.2.2)
          · exact ⟨q - 1, by omega, k + 1, D :: Ds, rfl, by omega, fun j hj => (by
              rcases Nat.lt_or_ge j k with h | h
              · exact hall j h
              · obtain rfl : j = k := by omega
                exact ⟨by rw [hD]; exact hR, hP, e1.2 (Decidable.not_not.mp hc)⟩), (hS.focus (k := 7) rfl).p1.marks2.only 0 rfl, hE.sub ⟨rfl, rfl, rfl, rfl, trivial⟩⟩
  · obtain rfl : k = rs.length := by omega
    repeat' (first
      | (with_reducible refine wpList_nil ?_)
      | (with_reducible refine then_normal ?_)
      | (with_reducible refine then_exit ?_)
      | (with_reducible refine block_same ?_)
      | (with_reducible refine i_seq ?_)
      | (with_reducible refine i_ret ?_)
      | (with_reducible refine i_exit ?_)
      | ((with_reducible refine ig_region ?_); refine i_region rfl (fun _ _ h => h) ?_)
      | ((with_reducible refine ig_cond ?_); refine i_dec hE rfl (fun hc => ?_) (fun hc => ?_) <;> try omega)
      | ((with_reducible refine g_assign ?_); refine s_assign hE rfl rfl ?_; clear hE a; intro a hE)
      | ((with_reducible refine g_bin .lss ?_); refine s_lss hE rfl rfl rfl ?_; clear hE a; intro a hE)
      )
    refine im_ret1 hE _ hS rfl rfl fun w' hS' => ⟨?_, hS'⟩
    unfold rowE
    rw [if_neg (by omega), if_pos (show rowOk rs from fun i hi => hall i hi)]
end Go.Proofs.Ytmfcffeoooegcaa
