/-
  The law HeapRows.
-/
import Derived.Test.YtaiahigeejodaaaHN
namespace Go.Proofs.Ytaiahigeejodaaa
open Go.RowKit
set_option linter.unusedVariables false
set_option linter.unusedSimpArgs false
attribute [local irreducible] Rd hRow hBlk hRd hRdr rowsP hPs Fn hMarks

section
variable {H : List HP} {w0 w : World}
set_option maxHeartbeats 8000000
theorem law_HeapRows (y : LPT) (w0 : World) (h : y.ok w0) : Fn Try.prog 5 [.slice y.1 y.2.2.length y.2.1] w0 fun v w' => v = .bool true ∧ St w0 w' [] := by
  rw [← LPT.len]
  have hr := LPT.rd h
  have hall := LPT.all h
  have hbig : y.pgs.length ≤ 140737488351232 := by have := h.2.2.2.1; rw [LPT.len]; omega
  generalize y.pgs = l at hr hall hbig
  generalize y.1 = A at hr
  generalize y.2.1 = c
  clear h
  refine enter 83 Try.func5 rfl rfl rfl ?_
  intro a hE
  have hS := St.start w0
  repeat' (first

    | (with_reducible refine wp_seq ?_)
    | (with_reducible refine c_region ?_)
    | (with_reducible refine wpList_nil ?_)
    | (with_reducible refine then_normal ?_)
    | ((with_reducible refine g_assign ?_); refine s_assign hE rfl rfl ?_; clear hE a; intro a hE)
    )
  refine s_call hE rfl rfl rfl (hwakes w0) ?_
  rintro _ w ⟨rfl, hS1⟩; clear hE a; intro a hE; replace hS := hS.frame hS1; clear hS1; try simp only [List.cons_append, List.nil_append] at hS
  repeat' (first

    | (with_reducible refine wp_seq ?_)
    | (with_reducible refine c_region ?_)
    | (with_reducible refine wpList_nil ?_)
    | (with_reducible refine then_normal ?_)
    | (with_reducible refine wp_skip ?_)
    | ((with_reducible refine g_move ?_); refine s_move hE rfl rfl ?_; clear hE a; intro a hE)
    | ((with_reducible refine g_un .not ?_); refine s_notb hE rfl rfl ?_; clear hE a; intro a hE)
    | ((with_reducible refine g_cond ?_); refine c_false hE rfl ?_)
    )
  refine s_call hE rfl rfl rfl (hshortL l A c l.length rfl w hbig (fun p hp => ⟨(hall p hp).1, (hall p hp).2.st hS⟩) (hr.st hS)) ?_
  rintro _ w ⟨Aq, cq, qs, rfl, hqm, hqw, hS1⟩; clear hE a; intro a hE; replace hS := hS.frame hS1; clear hS1; try simp only [List.cons_append, List.nil_append] at hS
  have hql : qs.length ≤ 33 := by
    have := congrArg List.length hqm
    simp only [List.length_map, List.length_take] at this
    omega
  clear hqm hr hall hbig
  repeat' (first

    | (with_reducible refine wp_seq ?_)
    | (with_reducible refine c_region ?_)
    | (with_reducible refine wpList_nil ?_)
    | (with_reducible refine then_normal ?_)
    | ((with_reducible refine g_move ?_); refine s_move hE rfl rfl ?_; clear hE a; intro a hE)
    | ((with_reducible refine g_assign ?_); refine s_assign hE rfl rfl ?_; clear hE a; intro a hE)
    )
  refine s_call hE rfl rfl rfl (items qs Aq cq qs.length rfl w (by omega) hqw (hS.rdAt (k := 0) rfl) (hPs_rdAt hS (k := 1) rfl)) ?_
  rintro _ w ⟨A5, c5, rfl, hS1⟩; clear hE a; intro a hE; replace hS := hS.frame hS1; clear hS1; try simp only [List.cons_append, List.nil_append] at hS
  by_cases he : wrongM (qs.map Pg.m) = 0
  · rw [he] at hE
    repeat' (first

      | (with_reducible refine wp_seq ?_)
      | (with_reducible refine c_region ?_)
      | (with_reducible refine wpList_nil ?_)
      | (with_reducible refine then_normal ?_)
      | (with_reducible refine wp_skip ?_)
      | ((with_reducible refine g_move ?_); refine s_move hE rfl rfl ?_; clear hE a; intro a hE)
      | ((with_reducible refine g_assign ?_); refine s_assign hE rfl rfl ?_; clear hE a; intro a hE)
      | ((with_reducible refine g_bin .neq ?_); refine s_neq hE rfl rfl rfl ?_; clear hE a; intro a hE)
      | ((with_reducible refine g_extract ?_); refine s_extract hE rfl rfl rfl ?_; clear hE a; intro a hE)
      | ((with_reducible refine g_cond ?_); refine c_false hE rfl ?_)
      )
    have hnx := next qs Aq cq qs.length rfl w (by omega) hqw (hS.rdAt (k := 1) rfl) (hPs_rdAt hS (k := 2) rfl)
    have hle := filterMap_le hqw (by omega)
    have hmx := topR_le (l := itemsM (qs.map Pg.m))
    have hlt := topR_lt (itemsM_ok hqw)
    unfold nextM at hnx
    rw [if_pos he] at hnx
    by_cases hn : topR (itemsM (qs.map Pg.m)) = 4294967295
    · rw [if_pos hn] at hnx
      refine s_call hE rfl rfl rfl hnx ?_
      rintro _ w ⟨rfl, hS1⟩; clear hE a; intro a hE; replace hS := hS.frame hS1; clear hS1; try simp only [List.cons_append, List.nil_append] at hS
      repeat' (first

        | (with_reducible refine wp_seq ?_)
        | (with_reducible refine c_region ?_)
        | (with_reducible refine wpList_nil ?_)
        | (with_reducible refine then_normal ?_)
        | (with_reducible refine wp_ret ?_)
        | (with_reducible refine then_ret ?_)
        | ((with_reducible refine g_move ?_); refine s_move hE rfl rfl ?_; clear hE a; intro a hE)
        | ((with_reducible refine g_assign ?_); refine s_assign hE rfl rfl ?_; clear hE a; intro a hE)
        | ((with_reducible refine g_bin .eql ?_); refine s_eql hE rfl rfl rfl ?_; clear hE a; intro a hE)
        | ((with_reducible refine g_bin .neq ?_); refine s_neq hE rfl rfl rfl ?_; clear hE a; intro a hE)
        | ((with_reducible refine g_extract ?_); refine s_extract hE rfl rfl rfl ?_; clear hE a; intro a hE)
        | ((with_reducible refine g_guard ?_); refine gd_yes hE rfl rfl rfl ?_)
        | ((with_reducible refine g_pick ?_); refine s_pickT hE rfl rfl rfl ?_; clear hE a; intro a hE)
        | ((with_reducible refine g_cond ?_); refine c_true hE rfl ?_)
        )
      exact ret1 hE rfl rfl ⟨rfl, hS.nil⟩
    · rw [if_neg hn] at hnx
      refine s_call hE rfl rfl rfl hnx ?_
      rintro _ w ⟨rfl, hS1⟩; clear hE a; intro a hE; replace hS := hS.frame hS1; clear hS1; try simp only [List.cons_append, List.nil_append] at hS
      clear hnx
      repeat' (first

        | (with_reducible refine wp_seq ?_)
        | (with_reducible refine c_region ?_)
        | (with_reducible refine wpList_nil ?_)
        | (with_reducible refine then_normal ?_)
        | (with_reducible refine wp_skip ?_)
        | ((with_reducible refine g_move ?_); refine s_move hE rfl rfl ?_; clear hE a; intro a hE)
        | ((with_reducible refine g_assign ?_); refine s_assign hE rfl rfl ?_; clear hE a; intro a hE)
        | ((with_reducible refine g_bin .neq ?_); refine s_neq hE rfl rfl rfl ?_; clear hE a; intro a hE)
        | ((with_reducible refine g_extract ?_); refine s_extract hE rfl rfl rfl ?_; clear hE a; intro a hE)
        | ((with_reducible refine g_cond ?_); refine c_false hE rfl ?_)
        )
      refine s_call hE rfl rfl rfl (versions qs Aq cq qs.length rfl (topR (itemsM (qs.map Pg.m)) + 1) w (by omega) hqw (hS.rdAt (k := 1) rfl) (hPs_rdAt hS (k := 2) rfl)) ?_
      rintro _ w ⟨A6, c6, rfl, hS1⟩; clear hE a; intro a hE; replace hS := hS.frame hS1; clear hS1; try simp only [List.cons_append, List.nil_append] at hS
      have hv0 : verM (qs.map Pg.m) (topR (itemsM (qs.map Pg.m)) + 1) = [] := by
        unfold verM
        rw [List.filter_eq_nil_iff]
        intro x hx
        have := hmx x hx
        simp only [decide_eq_true_eq]
        omega
      rw [hv0, he] at hE
      have hS2 := hS.drop 0
      simp only [List.eraseIdx_cons_zero] at hS2
      clear hS; have hS := hS2; clear hS2 hv0
      have hmem : ∀ x ∈ itemsM (qs.map Pg.m), (verM (qs.map Pg.m) x.2.r).length ≠ 0 := by
        intro x hx
        have : x ∈ verM (qs.map Pg.m) x.2.r := by
          unfold verM
          exact List.mem_filter.2 ⟨hx, by simp⟩
        have := List.length_pos_of_mem this
        omega
      generalize itemsM (qs.map Pg.m) = its at hE hS hle hmx hlt hn hmem
      generalize topR its = n at hE hmx hlt hn
      have hfl : (its.flatMap stc).length = its.length * 10 := flat_len fun x _ => stc_len x
      repeat' (first

        | (with_reducible refine wp_seq ?_)
        | (with_reducible refine c_region ?_)
        | (with_reducible refine wpList_nil ?_)
        | (with_reducible refine then_normal ?_)
        | (with_reducible refine wp_skip ?_)
        | (with_reducible refine wp_block ?_)
        | ((with_reducible refine g_move ?_); refine s_move hE rfl rfl ?_; clear hE a; intro a hE)
        | ((with_reducible refine g_assign ?_); refine s_assign hE rfl rfl ?_; clear hE a; intro a hE)
        | ((with_reducible refine g_bin .eql ?_); refine s_eql hE rfl rfl rfl ?_; clear hE a; intro a hE)
        | ((with_reducible refine g_bin .neq ?_); refine s_neq hE rfl rfl rfl ?_; clear hE a; intro a hE)
        | ((with_reducible refine g_blt .len ?_); refine s_len hE rfl rfl ?_; clear hE a; intro a hE)
        | ((with_reducible refine g_extract ?_); refine s_extract hE rfl rfl rfl ?_; clear hE a; intro a hE)
        | ((with_reducible refine g_guard ?_); refine gd_yes hE rfl rfl rfl ?_)
        | ((with_reducible refine g_pick ?_); refine s_pickF hE rfl rfl rfl ?_; clear hE a; intro a hE)
        | ((with_reducible refine g_cond ?_); refine c_false hE rfl ?_)
        )
      refine wp_loop_ghost (fun q a w => ∃ (k : Nat), k + q = its.length ∧ St w0 w [hRow 56 10 A5 its.length c5 (its.flatMap stc), hRow 74 6 Aq qs.length cq (qs.flatMap Pg.cells), hPs qs] ∧ Env 83 [(3, .slice Aq qs.length cq), (6, .int .u32 ((n + 1 : Nat) : Int)), (54, .slice A5 its.length c5), (55, .int .i64 (its.length : Int)), (56, .int .i64 (k : Int))] a) its.length ⟨0, by omega, hS, hE.sub ⟨rfl, rfl, rfl, rfl, rfl, trivial⟩⟩ ?_
      clear hE a hS
      rintro q a w ⟨k, hk, hS, hE⟩
      by_cases hk1 : k < its.length
      · have hseg := flat_seg (c := stc) (size := 10) (l := its) (fun x _ => stc_len x) hk1
        have hx1 := hmx _ (List.getElem_mem hk1)
        have hx2 := hmem _ (List.getElem_mem hk1)
        generalize (its[k]'hk1) = x at hseg hx1 hx2
        have hone := stc_one x
        have hcl := stc_len x
        repeat' (first

          | (with_reducible refine wp_seq ?_)
          | (with_reducible refine c_region ?_)
          | (with_reducible refine wpList_nil ?_)
          | (with_reducible refine then_normal ?_)
          | (with_reducible refine wp_skip ?_)
          | (with_reducible refine wp_block ?_)
          | ((with_reducible refine g_move ?_); refine s_move hE rfl rfl ?_; clear hE a; intro a hE)
          | ((with_reducible refine g_bin .lss ?_); refine s_lss hE rfl rfl rfl ?_; clear hE a; intro a hE)
          | ((with_reducible refine g_fa ?_); refine s_fieldL hE rfl rfl rfl ?_; clear hE a; intro a hE)
          | ((with_reducible refine g_cond ?_); refine c_dec hE rfl (fun hc => ?_) (fun hc => ?_) <;> try omega)
          | ((with_reducible refine g_ia ?_); refine s_idxR hE rfl rfl (by omega) (by omega) (by (first | exact hS.rd )) (by first | omega ) rfl ?_; clear hE a; intro a hE)
          | ((with_reducible refine g_load ?_); (first | (refine s_loadB (k := 0) hS hE rfl rfl rfl rfl ?_) ); clear hE a; intro a hE)
          | ((with_reducible refine g_alloc ?_); refine s_allocS hE hS rfl rfl ?_; clear hE a hS; intro g a w hE hS)
          | ((with_reducible refine g_store ?_); (first | (refine s_storeW (k := 0) hS hE rfl rfl rfl rfl rfl (by first | assumption ) ?_) ); clear hS; intro w hS; simp only [List.set_cons_zero, List.set_cons_succ, Nat.add_zero] at hS)
          | ((with_reducible refine g_load ?_); refine s_elemR hE rfl (by (first | exact hS.rd )) (by first | exact hseg ) (by first | rfl ) (by rfl) rfl ?_; clear hE a; intro a hE))
        refine s_call hE rfl rfl rfl (versions qs Aq cq qs.length rfl x.2.r w (by omega) hqw (hS.rdAt (k := 2) rfl) (hPs_rdAt hS (k := 3) rfl)) ?_
        rintro _ w ⟨A6, c6, rfl, hS1⟩; clear hE a; intro a hE; replace hS := hS.frame hS1; clear hS1; try simp only [List.cons_append, List.nil_append] at hS
        rw [he] at hE
        generalize hV : verM (qs.map Pg.m) x.2.r = V at hE hS hx2
        repeat' (first

          | (with_reducible refine wp_seq ?_)
          | (with_reducible refine c_region ?_)
          | (with_reducible refine wpList_nil ?_)
          | (with_reducible refine then_normal ?_)
          | (with_reducible refine wp_skip ?_)
          | (with_reducible refine block_normal ?_)
          | ((with_reducible refine g_move ?_); refine s_move hE rfl rfl ?_; clear hE a; intro a hE)
          | ((with_reducible refine g_assign ?_); refine s_assign hE rfl rfl ?_; clear hE a; intro a hE)
          | ((with_reducible refine g_bin .geq ?_); refine s_geq hE rfl rfl rfl ?_; clear hE a; intro a hE)
          | ((with_reducible refine g_bin .eql ?_); refine s_eql hE rfl rfl rfl ?_; clear hE a; intro a hE)
          | ((with_reducible refine g_bin .neq ?_); refine s_neq hE rfl rfl rfl ?_; clear hE a; intro a hE)
          | ((with_reducible refine g_bin .add ?_); refine s_add hE rfl rfl rfl (by first  | exact wrap64_in (by omega) ) ?_; clear hE a; intro a hE)
          | ((with_reducible refine g_blt .len ?_); refine s_len hE rfl rfl ?_; clear hE a; intro a hE)
          | ((with_reducible refine g_extract ?_); refine s_extract hE rfl rfl rfl ?_; clear hE a; intro a hE)
          | ((with_reducible refine g_fa ?_); refine s_fieldL hE rfl rfl rfl ?_; clear hE a; intro a hE)
          | ((with_reducible refine g_guard ?_); refine gd_yes hE rfl rfl rfl ?_)
          | ((with_reducible refine g_guard ?_); refine gd_dec hE rfl rfl (fun hc hE2 => ?_) (fun hc hE2 => ?_) <;> (try omega) <;> (replace hE := hE2; clear hE2))
          | ((with_reducible refine g_pick ?_); refine s_pickF hE rfl rfl rfl ?_; clear hE a; intro a hE)
          | ((with_reducible refine g_cond ?_); refine c_dec hE rfl (fun hc => ?_) (fun hc => ?_) <;> try omega)
          | ((with_reducible refine g_load ?_); (first | (refine s_loadB (k := 1) hS hE rfl rfl rfl rfl ?_) ); clear hE a; intro a hE)
          )
        exact ⟨q - 1, by omega, k + 1, by omega, (hS.drop 0).drop 0, hE.sub ⟨rfl, rfl, rfl, rfl, rfl, trivial⟩⟩
      · obtain rfl : k = its.length := by omega
        repeat' (first

          | (with_reducible refine wp_seq ?_)
          | (with_reducible refine c_region ?_)
          | (with_reducible refine wpList_nil ?_)
          | (with_reducible refine then_normal ?_)
          | (with_reducible refine wp_ret ?_)
          | (with_reducible refine wp_exit ?_)
          | (with_reducible refine then_exit ?_)
          | (with_reducible refine block_same ?_)
          | ((with_reducible refine g_assign ?_); refine s_assign hE rfl rfl ?_; clear hE a; intro a hE)
          | ((with_reducible refine g_bin .lss ?_); refine s_lss hE rfl rfl rfl ?_; clear hE a; intro a hE)
          | ((with_reducible refine g_cond ?_); refine c_dec hE rfl (fun hc => ?_) (fun hc => ?_) <;> try omega)
          )
        exact ret1 hE rfl rfl ⟨rfl, hS.nil⟩
  · generalize wrongM (qs.map Pg.m) = e at hE he
    repeat' (first

      | (with_reducible refine wp_seq ?_)
      | (with_reducible refine c_region ?_)
      | (with_reducible refine wpList_nil ?_)
      | (with_reducible refine then_normal ?_)
      | (with_reducible refine wp_ret ?_)
      | (with_reducible refine then_ret ?_)
      | ((with_reducible refine g_move ?_); refine s_move hE rfl rfl ?_; clear hE a; intro a hE)
      | ((with_reducible refine g_assign ?_); refine s_assign hE rfl rfl ?_; clear hE a; intro a hE)
      | ((with_reducible refine g_bin .neq ?_); refine s_neq hE rfl rfl rfl ?_; clear hE a; intro a hE)
      | ((with_reducible refine g_extract ?_); refine s_extract hE rfl rfl rfl ?_; clear hE a; intro a hE)
      | ((with_reducible refine g_cond ?_); refine c_dec hE rfl (fun hc => ?_) (fun hc => ?_) <;> try omega)
      )
    exact ret1 hE rfl rfl ⟨rfl, hS.nil⟩
end
end Go.Proofs.Ytaiahigeejodaaa
