/-
  Rows of tuples and of bytes handed in; the law HeapTuples.
-/
import Derived.Test.YtaiahigeejodaaaHK
import Derived.Test.YtaiahigeejodaaaHL
namespace Go.Proofs.Ytaiahigeejodaaa
open Go.RowKit
set_option linter.unusedVariables false
set_option linter.unusedSimpArgs false
attribute [local irreducible] Rd hRow hBlk hRd hRdr rowsP Fn hMarks

abbrev LTT := Option Addr × Nat × List TT
def LTT.ok (W : World) (q : LTT) : Prop := Rd W q.1 (q.2.2.flatMap TT.cells) ∧ q.2.2.length ≤ q.2.1 ∧ q.2.1 ≤ maxLen ∧ q.2.2.length * 64 ≤ 140737488351232 ∧ ∀ y ∈ q.2.2, TT.ok W y ∧ (TT.cells y).length = 8
def LTT.tms (q : LTT) : List TM := q.2.2.map TT.tm
theorem LTT.len (q : LTT) : q.tms.length = q.2.2.length := by simp [LTT.tms]
theorem tms_flat {W : World} : ∀ {l : List TT}, (∀ y ∈ l, TT.ok W y) → l.flatMap TT.cells = (l.map TT.tm).flatMap TM.cells
  | [], _ => rfl
  | y :: l, h => by
    rw [List.flatMap_cons, List.map_cons, List.flatMap_cons, TT.cells_tm (h y (List.mem_cons_self ..)), tms_flat (l := l) fun y hy => h y (List.mem_cons_of_mem _ hy)]
theorem LTT.rd {W : World} {q : LTT} (h : q.ok W) : Rd W q.1 (q.tms.flatMap TM.cells) := by
  have h1 := h.1
  rw [tms_flat fun y hy => (h.2.2.2.2 y hy).1] at h1
  exact h1
theorem LTT.all {W : World} {q : LTT} (h : q.ok W) : ∀ r ∈ q.tms, r.ok := by
  intro r hr
  obtain ⟨y, hy, rfl⟩ := List.mem_map.1 hr
  exact TT.tm_ok (h.2.2.2.2 y hy).1
abbrev LBT := Option Addr × Nat × List BT
def LBT.ok (W : World) (q : LBT) : Prop := Rd W q.1 (q.2.2.flatMap fun q : BT => [Value.slice q.1 q.2.2.length q.2.1]) ∧ q.2.2.length ≤ q.2.1 ∧ q.2.1 ≤ maxLen ∧ q.2.2.length * 24 ≤ 140737488351232 ∧ ∀ y ∈ q.2.2, BT.ok W y ∧ [Value.slice y.1 y.2.2.length y.2.1].length = 1
def LBT.sls (q : LBT) : List Sl := q.2.2.map BT.sl
theorem LBT.len (q : LBT) : q.sls.length = q.2.2.length := by simp [LBT.sls]
theorem sls_flat : ∀ l : List BT, (l.flatMap fun q : BT => [Value.slice q.1 q.2.2.length q.2.1]) = (l.map BT.sl).map Sl.v
  | [] => rfl
  | q :: l => by
    rw [List.flatMap_cons, List.map_cons, List.map_cons, sls_flat l]
    show [Value.slice q.1 q.2.2.length q.2.1] ++ _ = Value.slice q.1 (q.2.2.map Int.toNat).length q.2.1 :: _
    rw [List.length_map]
    rfl
theorem LBT.rd {W : World} {q : LBT} (h : q.ok W) : Rd W q.1 (q.sls.map Sl.v) := by
  have h1 := h.1
  rw [sls_flat] at h1
  exact h1
theorem LBT.all {W : World} {q : LBT} (h : q.ok W) : ∀ r ∈ q.sls, r.b.length ≤ r.c ∧ r.b.length ≤ 140737488355328 ∧ Bs r.b ∧ Rd W r.A (bys r.b) := by
  intro r hr
  obtain ⟨y, hy, rfl⟩ := List.mem_map.1 hr
  have h1 := (h.2.2.2.2 y hy).1
  have hr := BT.rd h1
  have hb := BT.bs h1
  obtain ⟨a1, a2, a3, a4, a5⟩ := h1
  refine ⟨?_, ?_, hb, hr⟩
  · show (y.2.2.map Int.toNat).length ≤ y.2.1
    rw [List.length_map]; exact a2
  · show (y.2.2.map Int.toNat).length ≤ _
    rw [List.length_map]; omega
section
variable {H : List HP} {w0 w : World}
set_option maxHeartbeats 8000000
theorem law_HeapTuples (y : LTT) (z : LBT) (w0 : World) (h : y.ok w0) (h2 : z.ok w0) : Fn Try.prog 3 [.slice y.1 y.2.2.length y.2.1, .slice z.1 z.2.2.length z.2.1] w0 fun v w' => v = .bool true ∧ St w0 w' [] := by
  rw [← LTT.len, ← LBT.len]
  have hr := LTT.rd h
  have hall := LTT.all h
  have hcap : y.tms.length ≤ y.2.1 := by rw [LTT.len]; exact h.2.1
  have hbig : y.tms.length ≤ 140737488351232 := by have := h.2.2.2.1; rw [LTT.len]; omega
  generalize y.tms = l at hr hall hcap hbig
  generalize y.1 = A at hr
  generalize y.2.1 = c at hcap
  have hr2 := LBT.rd h2
  have hall2 := LBT.all h2
  have hcap2 : z.sls.length ≤ z.2.1 := by rw [LBT.len]; exact h2.2.1
  have hbig2 : z.sls.length ≤ 140737488351232 := by have := h2.2.2.2.1; rw [LBT.len]; omega
  generalize z.sls = l2 at hr2 hall2 hcap2 hbig2
  generalize z.1 = A2 at hr2
  generalize z.2.1 = c2 at hcap2
  clear h h2
  have hls : ∀ r ∈ l, (TM.cells r).length = 8 := fun r hr => rfl
  have hfl : (l.flatMap TM.cells).length = l.length * 8 := flat_len hls
  refine enter 116 Try.func3 rfl rfl rfl ?_
  intro a hE
  have hS := St.start w0
  repeat' (first

    | (with_reducible refine wp_seq ?_)
    | (with_reducible refine c_region ?_)
    | (with_reducible refine wpList_nil ?_)
    | (with_reducible refine then_normal ?_)
    | ((with_reducible refine g_assign ?_); refine s_assign hE rfl rfl ?_; clear hE a; intro a hE)
    )
  refine s_call hE rfl rfl rfl (hwakes w0) ?_
  rintro _ w ⟨rfl, hS1⟩; clear hE a; intro a hE; replace hS := hS.frame hS1; clear hS1; try simp only [List.cons_append, List.nil_append] at hS
  repeat' (first

    | (with_reducible refine wp_seq ?_)
    | (with_reducible refine c_region ?_)
    | (with_reducible refine wpList_nil ?_)
    | (with_reducible refine then_normal ?_)
    | (with_reducible refine wp_skip ?_)
    | (with_reducible refine wp_block ?_)
    | ((with_reducible refine g_move ?_); refine s_move hE rfl rfl ?_; clear hE a; intro a hE)
    | ((with_reducible refine g_un .not ?_); refine s_notb hE rfl rfl ?_; clear hE a; intro a hE)
    | ((with_reducible refine g_blt .len ?_); refine s_len hE rfl rfl ?_; clear hE a; intro a hE)
    | ((with_reducible refine g_cond ?_); refine c_false hE rfl ?_)
    )
  refine wp_mono (?_ : Code.wp _ _ (fun e a w => e = .exit 0 ∧ St w0 w [] ∧ Env 116 [(1, .slice A2 l2.length c2)] a) _ _) ?_
  · refine wp_loop_ghost (fun q a w => ∃ (k : Nat), k + q = l.length ∧ St w0 w [] ∧ Env 116 [(1, .slice A2 l2.length c2), (19, .slice A l.length c), (20, .int .i64 (l.length : Int)), (21, .int .i64 (k : Int))] a) l.length ⟨0, by omega, hS, hE.sub ⟨rfl, rfl, rfl, rfl, trivial⟩⟩ ?_
    clear hE a hS
    rintro q a w ⟨k, hk, hS, hE⟩
    by_cases hk1 : k < l.length
    · have hseg := flat_seg (c := TM.cells) (size := 8) (l := l) hls hk1
      have hto := hall _ (List.getElem_mem hk1)
      have hfl2 := hfl
      by_cases hk20 : k = 20
      · subst hk20
        have hone := TM.cells_one (l[20]'hk1)
        have hcl : (TM.cells (l[20]'hk1)).length = 8 := rfl
        repeat' (first

          | (with_reducible refine wp_seq ?_)
          | (with_reducible refine c_region ?_)
          | (with_reducible refine wpList_nil ?_)
          | (with_reducible refine then_normal ?_)
          | (with_reducible refine wp_skip ?_)
          | (with_reducible refine wp_block ?_)
          | (with_reducible refine wp_exit ?_)
          | (with_reducible refine then_exit ?_)
          | ((with_reducible refine block_other ?_ ?_); rfl)
          | ((with_reducible refine g_move ?_); refine s_move hE rfl rfl ?_; clear hE a; intro a hE)
          | ((with_reducible refine g_assign ?_); refine s_assign hE rfl rfl ?_; clear hE a; intro a hE)
          | ((with_reducible refine g_bin .lss ?_); refine s_lss hE rfl rfl rfl ?_; clear hE a; intro a hE)
          | ((with_reducible refine g_bin .eql ?_); refine s_eql hE rfl rfl rfl ?_; clear hE a; intro a hE)
          | ((with_reducible refine g_cond ?_); refine c_true hE rfl ?_)
          | ((with_reducible refine g_cond ?_); refine c_dec hE rfl (fun hc => ?_) (fun hc => ?_) <;> try omega)
          | ((with_reducible refine g_ia ?_); refine s_idxR hE rfl rfl (by omega) (by omega) (by (first | exact Rd.st (by assumption) hS )) (by first | omega ) rfl ?_; clear hE a; intro a hE)
          | ((with_reducible refine g_alloc ?_); refine s_allocS hE hS rfl rfl ?_; clear hE a hS; intro g a w hE hS)
          | ((with_reducible refine g_store ?_); (first | (refine s_storeW (k := 0) hS hE rfl rfl rfl rfl rfl (by first | assumption ) ?_) ); clear hS; intro w hS; simp only [List.set_cons_zero, List.set_cons_succ, Nat.add_zero] at hS)
          | ((with_reducible refine g_load ?_); refine s_elemR hE rfl (by (first | exact Rd.st (by assumption) hS )) (by first | exact hseg ) (by first | rfl ) (by rfl) rfl ?_; clear hE a; intro a hE))
        exact ⟨rfl, hS.nil, hE.sub ⟨rfl, trivial⟩⟩
      · generalize (l[k]'hk1) = t at hseg hto
        have hone := TM.cells_one t
        have hcl : t.cells.length = 8 := rfl
        repeat' (first

          | (with_reducible refine wp_seq ?_)
          | (with_reducible refine c_region ?_)
          | (with_reducible refine wpList_nil ?_)
          | (with_reducible refine then_normal ?_)
          | (with_reducible refine wp_skip ?_)
          | (with_reducible refine wp_block ?_)
          | ((with_reducible refine g_move ?_); refine s_move hE rfl rfl ?_; clear hE a; intro a hE)
          | ((with_reducible refine g_assign ?_); refine s_assign hE rfl rfl ?_; clear hE a; intro a hE)
          | ((with_reducible refine g_bin .lss ?_); refine s_lss hE rfl rfl rfl ?_; clear hE a; intro a hE)
          | ((with_reducible refine g_bin .eql ?_); refine s_eql hE rfl rfl rfl ?_; clear hE a; intro a hE)
          | ((with_reducible refine g_cond ?_); refine c_dec hE rfl (fun hc => ?_) (fun hc => ?_) <;> try omega)
          | ((with_reducible refine g_ia ?_); refine s_idxR hE rfl rfl (by omega) (by omega) (by (first | exact Rd.st (by assumption) hS )) (by first | omega ) rfl ?_; clear hE a; intro a hE)
          | ((with_reducible refine g_alloc ?_); refine s_allocS hE hS rfl rfl ?_; clear hE a hS; intro g a w hE hS)
          | ((with_reducible refine g_load ?_); (first | (refine s_loadW (k := 0) hS hE rfl rfl rfl rfl ?_) ); clear hE a; intro a hE)
          | ((with_reducible refine g_store ?_); (first | (refine s_storeW (k := 0) hS hE rfl rfl rfl rfl rfl (by first | assumption ) ?_) ); clear hS; intro w hS; simp only [List.set_cons_zero, List.set_cons_succ, Nat.add_zero] at hS)
          | ((with_reducible refine g_load ?_); refine s_elemR hE rfl (by (first | exact Rd.st (by assumption) hS )) (by first | exact hseg ) (by first | rfl ) (by rfl) rfl ?_; clear hE a; intro a hE))
        by_cases hri : t.right = true
        · refine s_call hE rfl rfl rfl (hencode_ok t hto hri w) ?_
          rintro _ w ⟨A5, c5, rfl, hS1⟩; clear hE a; intro a hE; replace hS := hS.frame hS1; clear hS1; try simp only [List.cons_append, List.nil_append] at hS
          repeat' (first

            | (with_reducible refine wp_seq ?_)
            | (with_reducible refine c_region ?_)
            | (with_reducible refine wpList_nil ?_)
            | (with_reducible refine then_normal ?_)
            | ((with_reducible refine g_move ?_); refine s_move hE rfl rfl ?_; clear hE a; intro a hE)
            | ((with_reducible refine g_assign ?_); refine s_assign hE rfl rfl ?_; clear hE a; intro a hE)
            | ((with_reducible refine g_extract ?_); refine s_extract hE rfl rfl rfl ?_; clear hE a; intro a hE)
            | ((with_reducible refine g_load ?_); (first | (refine s_loadW (k := 1) hS hE rfl rfl rfl rfl ?_) ); clear hE a; intro a hE)
            )
          refine s_call hE rfl rfl rfl (tcheck t w) ?_
          rintro _ w ⟨rfl, hS1⟩; clear hE a; intro a hE; replace hS := hS.frame hS1; clear hS1; try simp only [List.cons_append, List.nil_append] at hS
          rw [hri, if_pos rfl] at hE
          repeat' (first

            | (with_reducible refine wp_seq ?_)
            | (with_reducible refine c_region ?_)
            | (with_reducible refine wpList_nil ?_)
            | (with_reducible refine then_normal ?_)
            | ((with_reducible refine g_assign ?_); refine s_assign hE rfl rfl ?_; clear hE a; intro a hE)
            | ((with_reducible refine g_load ?_); (first | (refine s_loadW (k := 1) hS hE rfl rfl rfl rfl ?_) ); clear hE a; intro a hE)
            )
          refine s_call hE rfl rfl rfl (xright t w) ?_
          rintro _ w ⟨rfl, hS1⟩; clear hE a; intro a hE; replace hS := hS.frame hS1; clear hS1; try simp only [List.cons_append, List.nil_append] at hS
          rw [hri] at hE
          repeat' (first

            | (with_reducible refine wp_seq ?_)
            | (with_reducible refine c_region ?_)
            | (with_reducible refine wpList_nil ?_)
            | (with_reducible refine then_normal ?_)
            | ((with_reducible refine g_move ?_); refine s_move hE rfl rfl ?_; clear hE a; intro a hE)
            | ((with_reducible refine g_bin .neq ?_); refine s_neq hE rfl rfl rfl ?_; clear hE a; intro a hE)
            | ((with_reducible refine g_un .not ?_); refine s_notb hE rfl rfl ?_; clear hE a; intro a hE)
            | ((with_reducible refine g_guard ?_); refine gd_yes hE rfl rfl rfl ?_)
            | ((with_reducible refine g_pick ?_); refine s_pickF hE rfl rfl rfl ?_; clear hE a; intro a hE)
            | ((with_reducible refine g_cond ?_); refine c_false hE rfl ?_)
            | ((with_reducible refine g_load ?_); (first | (refine s_loadW (k := 1) hS hE rfl rfl rfl rfl ?_) ); clear hE a; intro a hE)
            )
          refine s_call hE rfl rfl rfl (xbytes t hto w) ?_
          rintro _ w ⟨A6, c6, rfl, hS1⟩; clear hE a; intro a hE; replace hS := hS.frame hS1; clear hS1; try simp only [List.cons_append, List.nil_append] at hS
          repeat' (first

            | ((with_reducible refine g_guard ?_); refine gd_yes hE rfl rfl rfl ?_)
            )
          refine s_call hE rfl rfl rfl (bequal A5 A6 c5 c6 t.enc t.enc 52 t.enc.length w (hS.rdAt (k := 1) rfl) (hS.rdAt (k := 0) rfl) (tenc_bs t) (tenc_bs t) (tenc_len t).symm rfl) ?_
          rintro _ w ⟨rfl, hS1⟩; clear hE a; intro a hE; replace hS := hS.frame hS1; clear hS1; try simp only [List.cons_append, List.nil_append] at hS
          rw [decide_eq_true rfl] at hE
          repeat' (first

            | (with_reducible refine c_region ?_)
            | (with_reducible refine wpList_nil ?_)
            | (with_reducible refine then_normal ?_)
            | (with_reducible refine wp_skip ?_)
            | (with_reducible refine block_normal ?_)
            | ((with_reducible refine g_move ?_); refine s_move hE rfl rfl ?_; clear hE a; intro a hE)
            | ((with_reducible refine g_bin .add ?_); refine s_add hE rfl rfl rfl (by first  | exact wrap64_in (by omega) ) ?_; clear hE a; intro a hE)
            | ((with_reducible refine g_un .not ?_); refine s_notb hE rfl rfl ?_; clear hE a; intro a hE)
            | ((with_reducible refine g_guard ?_); refine gd_yes hE rfl rfl rfl ?_)
            | ((with_reducible refine g_pick ?_); refine s_pickF hE rfl rfl rfl ?_; clear hE a; intro a hE)
            | ((with_reducible refine g_cond ?_); refine c_false hE rfl ?_)
            )
          exact ⟨q - 1, by omega, k + 1, by omega, hS.nil, hE.sub ⟨rfl, rfl, rfl, rfl, trivial⟩⟩
        · have hri : t.right = false := by simpa using hri
          refine s_call hE rfl rfl rfl (hencode_no t hri w) ?_
          rintro _ w ⟨rfl, hS1⟩; clear hE a; intro a hE; replace hS := hS.frame hS1; clear hS1; try simp only [List.cons_append, List.nil_append] at hS
          repeat' (first

            | (with_reducible refine wp_seq ?_)
            | (with_reducible refine c_region ?_)
            | (with_reducible refine wpList_nil ?_)
            | (with_reducible refine then_normal ?_)
            | ((with_reducible refine g_move ?_); refine s_move hE rfl rfl ?_; clear hE a; intro a hE)
            | ((with_reducible refine g_assign ?_); refine s_assign hE rfl rfl ?_; clear hE a; intro a hE)
            | ((with_reducible refine g_extract ?_); refine s_extract hE rfl rfl rfl ?_; clear hE a; intro a hE)
            | ((with_reducible refine g_load ?_); (first | (refine s_loadW (k := 0) hS hE rfl rfl rfl rfl ?_) ); clear hE a; intro a hE)
            )
          refine s_call hE rfl rfl rfl (tcheck t w) ?_
          rintro _ w ⟨rfl, hS1⟩; clear hE a; intro a hE; replace hS := hS.frame hS1; clear hS1; try simp only [List.cons_append, List.nil_append] at hS
          rw [hri, if_neg (by decide)] at hE
          repeat' (first

            | (with_reducible refine wp_seq ?_)
            | (with_reducible refine c_region ?_)
            | (with_reducible refine wpList_nil ?_)
            | (with_reducible refine then_normal ?_)
            | ((with_reducible refine g_assign ?_); refine s_assign hE rfl rfl ?_; clear hE a; intro a hE)
            | ((with_reducible refine g_load ?_); (first | (refine s_loadW (k := 0) hS hE rfl rfl rfl rfl ?_) ); clear hE a; intro a hE)
            )
          refine s_call hE rfl rfl rfl (xright t w) ?_
          rintro _ w ⟨rfl, hS1⟩; clear hE a; intro a hE; replace hS := hS.frame hS1; clear hS1; try simp only [List.cons_append, List.nil_append] at hS
          rw [hri] at hE
          repeat' (first

            | (with_reducible refine wp_seq ?_)
            | (with_reducible refine c_region ?_)
            | (with_reducible refine wpList_nil ?_)
            | (with_reducible refine then_normal ?_)
            | (with_reducible refine wp_skip ?_)
            | (with_reducible refine block_normal ?_)
            | ((with_reducible refine g_move ?_); refine s_move hE rfl rfl ?_; clear hE a; intro a hE)
            | ((with_reducible refine g_bin .neq ?_); refine s_neq hE rfl rfl rfl ?_; clear hE a; intro a hE)
            | ((with_reducible refine g_bin .add ?_); refine s_add hE rfl rfl rfl (by first  | exact wrap64_in (by omega) ) ?_; clear hE a; intro a hE)
            | ((with_reducible refine g_un .not ?_); refine s_notb hE rfl rfl ?_; clear hE a; intro a hE)
            | ((with_reducible refine g_blt .len ?_); refine s_len hE rfl rfl ?_; clear hE a; intro a hE)
            | ((with_reducible refine g_guard ?_); refine gd_yes hE rfl rfl rfl ?_)
            | ((with_reducible refine g_pick ?_); refine s_pickF hE rfl rfl rfl ?_; clear hE a; intro a hE)
            | ((with_reducible refine g_cond ?_); refine c_true hE rfl ?_)
            | ((with_reducible refine g_cond ?_); refine c_false hE rfl ?_)
            )
          exact ⟨q - 1, by omega, k + 1, by omega, hS.nil, hE.sub ⟨rfl, rfl, rfl, rfl, trivial⟩⟩
    · obtain rfl : k = l.length := by omega
      repeat' (first

        | (with_reducible refine wp_seq ?_)
        | (with_reducible refine c_region ?_)
        | (with_reducible refine wpList_nil ?_)
        | (with_reducible refine then_normal ?_)
        | (with_reducible refine wp_exit ?_)
        | (with_reducible refine then_exit ?_)
        | ((with_reducible refine g_bin .lss ?_); refine s_lss hE rfl rfl rfl ?_; clear hE a; intro a hE)
        | ((with_reducible refine g_cond ?_); refine c_dec hE rfl (fun hc => ?_) (fun hc => ?_) <;> try omega)
        )
      exact ⟨rfl, hS, hE.sub ⟨rfl, trivial⟩⟩
  clear hS hE a
  rintro _ a w ⟨rfl, hS, hE⟩
  repeat' (first

    | (with_reducible refine wp_seq ?_)
    | (with_reducible refine c_region ?_)
    | (with_reducible refine wpList_nil ?_)
    | (with_reducible refine then_normal ?_)
    | (with_reducible refine wp_block ?_)
    | (with_reducible refine block_same ?_)
    | ((with_reducible refine g_move ?_); refine s_move hE rfl rfl ?_; clear hE a; intro a hE)
    | ((with_reducible refine g_blt .len ?_); refine s_len hE rfl rfl ?_; clear hE a; intro a hE)
    )
  refine wp_loop_ghost (fun q a w => ∃ (k : Nat), k + q = l2.length ∧ St w0 w [] ∧ Env 116 [(63, .slice A2 l2.length c2), (64, .int .i64 (l2.length : Int)), (65, .int .i64 (k : Int))] a) l2.length ⟨0, by omega, hS, hE.sub ⟨rfl, rfl, rfl, trivial⟩⟩ ?_
  clear hE a hS
  rintro q a w ⟨k, hk, hS, hE⟩
  have hml : (l2.map Sl.v).length = l2.length := List.length_map ..
  by_cases hk1 : k < l2.length
  · have hg := map_at Sl.v hk1
    obtain ⟨hx1, hx2, hx4, hxr⟩ := hall2 _ (List.getElem_mem hk1)
    generalize (l2[k]'hk1) = x at hg hx1 hx2 hx4 hxr
    have hg2 : (l2.map Sl.v)[((k : Nat) : Int).toNat * 1]? = some (.slice x.A x.b.length x.c) := hg
    by_cases hk20 : k = 20
    · subst hk20
      repeat' (first

        | (with_reducible refine wp_seq ?_)
        | (with_reducible refine c_region ?_)
        | (with_reducible refine wpList_nil ?_)
        | (with_reducible refine then_normal ?_)
        | (with_reducible refine wp_skip ?_)
        | (with_reducible refine wp_ret ?_)
        | (with_reducible refine wp_block ?_)
        | (with_reducible refine wp_exit ?_)
        | (with_reducible refine then_exit ?_)
        | (with_reducible refine block_same ?_)
        | ((with_reducible refine block_other ?_ ?_); rfl)
        | ((with_reducible refine g_move ?_); refine s_move hE rfl rfl ?_; clear hE a; intro a hE)
        | ((with_reducible refine g_assign ?_); refine s_assign hE rfl rfl ?_; clear hE a; intro a hE)
        | ((with_reducible refine g_bin .lss ?_); refine s_lss hE rfl rfl rfl ?_; clear hE a; intro a hE)
        | ((with_reducible refine g_bin .eql ?_); refine s_eql hE rfl rfl rfl ?_; clear hE a; intro a hE)
        | ((with_reducible refine g_cond ?_); refine c_true hE rfl ?_)
        | ((with_reducible refine g_cond ?_); refine c_dec hE rfl (fun hc => ?_) (fun hc => ?_) <;> try omega)
        | ((with_reducible refine g_ia ?_); refine s_idxR hE rfl rfl (by omega) (by omega) (by (first | exact Rd.st (by assumption) hS )) (by first | omega ) rfl ?_; clear hE a; intro a hE)
        | ((with_reducible refine g_load ?_); refine s_loadR hE rfl (by (first | exact Rd.st (by assumption) hS )) (by first | exact hg2 ) rfl ?_; clear hE a; intro a hE)
        )
      exact ret1 hE rfl rfl ⟨rfl, hS.nil⟩
    · have hmin : (if (60 : Int) < (x.b.length : Int) then (60 : Int) else (x.b.length : Int)) = ((x.b.take 60).length : Int) := by
        rw [List.length_take]; split <;> omega
      have hb60 : (x.b.take 60).length ≤ 60 ∧ (x.b.take 60).length ≤ x.b.length := by rw [List.length_take]; omega
      have hrb : Rd w0 x.A (bys (x.b.take 60)) := by
        have := hxr.take 60
        have e : bys (x.b.take 60) = (bys x.b).take 60 := List.map_take
        rw [e]; exact this
      have hbb : Bs (x.b.take 60) := fun c hc => hx4 c (List.mem_of_mem_take hc)
      have hbl1 : (bys (x.b.take 60)).length = (x.b.take 60).length * 1 := by rw [bys_length, Nat.mul_one]
      repeat' (first
        | ((with_reducible refine g_blt .append ?_); refine s_appendAt0 (k := 0) (size := 1) (bytes := 1) hE hS rfl rfl rfl (by first | exact hrb.st hS) hbl1 (bys_one _) (by omega) rfl rfl rfl rfl ?_; clear hE a hS; intro A5 c5 a w hE hS; simp only [List.set_cons_zero] at hS)
        | (with_reducible refine wp_seq ?_)
        | (with_reducible refine c_region ?_)
        | (with_reducible refine wpList_nil ?_)
        | (with_reducible refine then_normal ?_)
        | (with_reducible refine wp_skip ?_)
        | (with_reducible refine wp_block ?_)
        | ((with_reducible refine g_move ?_); refine s_move hE rfl rfl ?_; clear hE a; intro a hE)
        | ((with_reducible refine g_assign ?_); refine s_assign hE rfl rfl ?_; clear hE a; intro a hE)
        | ((with_reducible refine g_bin .lss ?_); refine s_lss hE rfl rfl rfl ?_; clear hE a; intro a hE)
        | ((with_reducible refine g_bin .eql ?_); refine s_eql hE rfl rfl rfl ?_; clear hE a; intro a hE)
        | ((with_reducible refine g_blt .len ?_); refine s_len hE rfl rfl ?_; clear hE a; intro a hE)
        | ((with_reducible refine g_blt .min ?_); refine s_min hE rfl rfl rfl (by first | exact hmin ) ?_; clear hE a; intro a hE)
        | ((with_reducible refine g_cond ?_); refine c_dec hE rfl (fun hc => ?_) (fun hc => ?_) <;> try omega)
        | ((with_reducible refine g_ia ?_); refine s_idxR hE rfl rfl (by omega) (by omega) (by (first | exact Rd.st (by assumption) hS )) (by first | omega ) rfl ?_; clear hE a; intro a hE)
        | ((with_reducible refine g_load ?_); refine s_loadR hE rfl (by (first | exact Rd.st (by assumption) hS )) (by first | exact hg2 ) rfl ?_; clear hE a; intro a hE)
        | ((with_reducible refine g_lit ?_); refine s_lit hE hS rfl rfl rfl rfl rfl (by first | (simp [Value.oneCell']; done)) rfl ?_; clear hE a hS; intro g a w hE hS)
        | ((with_reducible refine g_sliceH ?_); refine s_val hE rfl rfl rfl (r_cutH hE rfl rfl (by omega)) ?_; clear hE a; intro a hE)
        )
      rw [Int.toNat_natCast] at hE hS
      generalize x.b.take 60 = b at hE hS hb60 hbb hrb
      obtain ⟨_, hc0, _⟩ := hS.lenAt (k := 0) rfl
      refine s_call hE rfl rfl rfl (hdecode _ _ b b.length rfl (hS.rdAt (k := 0) rfl) hbb (by omega)) ?_
      rintro _ w ⟨rfl, hS1⟩; clear hE a; intro a hE; replace hS := hS.frame hS1; clear hS1; try simp only [List.cons_append, List.nil_append] at hS
      have hone := TM.cells_one (decR b)
      have hcl : (decR b).cells.length = 8 := rfl
      repeat' (first

        | (with_reducible refine wp_seq ?_)
        | (with_reducible refine c_region ?_)
        | (with_reducible refine wpList_nil ?_)
        | (with_reducible refine then_normal ?_)
        | ((with_reducible refine g_move ?_); refine s_move hE rfl rfl ?_; clear hE a; intro a hE)
        | ((with_reducible refine g_assign ?_); refine s_assign hE rfl rfl ?_; clear hE a; intro a hE)
        | ((with_reducible refine g_extract ?_); refine s_extract hE rfl rfl rfl ?_; clear hE a; intro a hE)
        | ((with_reducible refine g_alloc ?_); refine s_allocS hE hS rfl rfl ?_; clear hE a hS; intro g a w hE hS)
        | ((with_reducible refine g_store ?_); (first | (refine s_storeW (k := 0) hS hE rfl rfl rfl rfl rfl (by first | assumption ) ?_) ); clear hS; intro w hS; simp only [List.set_cons_zero, List.set_cons_succ, Nat.add_zero] at hS)
        )
      refine s_call hE rfl rfl rfl (xdecode _ _ b b.length rfl w (hS.rdAt (k := 1) rfl) hbb (by omega) (by omega)) ?_
      rintro _ w ⟨rfl, hS1⟩; clear hE a; intro a hE; replace hS := hS.frame hS1; clear hS1; try simp only [List.cons_append, List.nil_append] at hS
      repeat' (first

        | (with_reducible refine wp_seq ?_)
        | (with_reducible refine c_region ?_)
        | (with_reducible refine wpList_nil ?_)
        | (with_reducible refine then_normal ?_)
        | ((with_reducible refine g_move ?_); refine s_move hE rfl rfl ?_; clear hE a; intro a hE)
        | ((with_reducible refine g_assign ?_); refine s_assign hE rfl rfl ?_; clear hE a; intro a hE)
        | ((with_reducible refine g_extract ?_); refine s_extract hE rfl rfl rfl ?_; clear hE a; intro a hE)
        | ((with_reducible refine g_alloc ?_); refine s_allocS hE hS rfl rfl ?_; clear hE a hS; intro g a w hE hS)
        | ((with_reducible refine g_load ?_); (first | (refine s_loadW (k := 0) hS hE rfl rfl rfl rfl ?_) | (refine s_loadW (k := 1) hS hE rfl rfl rfl rfl ?_) ); clear hE a; intro a hE)
        | ((with_reducible refine g_store ?_); (first | (refine s_storeW (k := 0) hS hE rfl rfl rfl rfl rfl (by first | assumption ) ?_) ); clear hS; intro w hS; simp only [List.set_cons_zero, List.set_cons_succ, Nat.add_zero] at hS)
        )
      refine s_val hE rfl rfl rfl (r_neT hE rfl rfl (eq_tuple 9997 (decR b) (decR b))) ?_
      clear hE a; intro a hE
      rw [decide_eq_true rfl] at hE
      cases hd : decT b with
      | none =>
        rw [hd] at hE
        repeat' (first

          | ((with_reducible refine g_move ?_); refine s_move hE rfl rfl ?_; clear hE a; intro a hE)
          | ((with_reducible refine g_bin .eql ?_); refine s_eql hE rfl rfl rfl ?_; clear hE a; intro a hE)
          | ((with_reducible refine g_bin .neq ?_); refine s_neq hE rfl rfl rfl ?_; clear hE a; intro a hE)
          | ((with_reducible refine g_un .not ?_); refine s_notb hE rfl rfl ?_; clear hE a; intro a hE)
          | ((with_reducible refine g_blt .len ?_); refine s_len hE rfl rfl ?_; clear hE a; intro a hE)
          | ((with_reducible refine g_bin .neq ?_); refine s_neb hE rfl rfl rfl ?_; clear hE a; intro a hE)
          | ((with_reducible refine g_guard ?_); refine gd_yes hE rfl rfl rfl ?_)
          | ((with_reducible refine g_pick ?_); refine s_pickT hE rfl rfl rfl ?_; clear hE a; intro a hE)
          | ((with_reducible refine g_pick ?_); refine s_pickF hE rfl rfl rfl ?_; clear hE a; intro a hE)
          | ((with_reducible refine g_sliceH ?_); refine s_val hE rfl rfl rfl (r_cutH hE rfl rfl (by omega)) ?_; clear hE a; intro a hE)
          )
        rw [Int.toNat_natCast] at hE
        refine s_call hE rfl rfl rfl (bequal A5 x.A c5 x.c b b b.length b.length w (hS.rdAt (k := 2) rfl) (hrb.st hS) hbb hbb rfl rfl) ?_
        rintro _ w ⟨rfl, hS1⟩; clear hE a; intro a hE; replace hS := hS.frame hS1; clear hS1; try simp only [List.cons_append, List.nil_append] at hS
        rw [decide_eq_true rfl] at hE
        repeat' (first

          | (with_reducible refine c_region ?_)
          | (with_reducible refine wpList_nil ?_)
          | (with_reducible refine then_normal ?_)
          | (with_reducible refine wp_skip ?_)
          | (with_reducible refine block_normal ?_)
          | ((with_reducible refine g_move ?_); refine s_move hE rfl rfl ?_; clear hE a; intro a hE)
          | ((with_reducible refine g_bin .add ?_); refine s_add hE rfl rfl rfl (by first  | exact wrap64_in (by omega) ) ?_; clear hE a; intro a hE)
          | ((with_reducible refine g_un .not ?_); refine s_notb hE rfl rfl ?_; clear hE a; intro a hE)
          | ((with_reducible refine g_guard ?_); refine gd_yes hE rfl rfl rfl ?_)
          | ((with_reducible refine g_pick ?_); refine s_pickF hE rfl rfl rfl ?_; clear hE a; intro a hE)
          | ((with_reducible refine g_cond ?_); refine c_false hE rfl ?_)
          )
        exact ⟨q - 1, by omega, k + 1, by omega, hS.nil, hE.sub ⟨rfl, rfl, rfl, trivial⟩⟩
      | some t =>
        rw [hd] at hE
        repeat' (first

          | ((with_reducible refine g_move ?_); refine s_move hE rfl rfl ?_; clear hE a; intro a hE)
          | ((with_reducible refine g_bin .eql ?_); refine s_eql hE rfl rfl rfl ?_; clear hE a; intro a hE)
          | ((with_reducible refine g_un .not ?_); refine s_notb hE rfl rfl ?_; clear hE a; intro a hE)
          | ((with_reducible refine g_blt .len ?_); refine s_len hE rfl rfl ?_; clear hE a; intro a hE)
          | ((with_reducible refine g_bin .neq ?_); refine s_neb hE rfl rfl rfl ?_; clear hE a; intro a hE)
          | ((with_reducible refine g_guard ?_); refine gd_yes hE rfl rfl rfl ?_)
          | ((with_reducible refine g_guard ?_); refine gd_no hE rfl rfl rfl rfl ?_; clear hE a; intro a hE)
          | ((with_reducible refine g_pick ?_); refine s_pickF hE rfl rfl rfl ?_; clear hE a; intro a hE)
          | ((with_reducible refine g_sliceH ?_); refine s_val hE rfl rfl rfl (r_cutH hE rfl rfl (by omega)) ?_; clear hE a; intro a hE)
          )
        rw [Int.toNat_natCast] at hE
        refine s_call hE rfl rfl rfl (bequal A5 x.A c5 x.c b b b.length b.length w (hS.rdAt (k := 2) rfl) (hrb.st hS) hbb hbb rfl rfl) ?_
        rintro _ w ⟨rfl, hS1⟩; clear hE a; intro a hE; replace hS := hS.frame hS1; clear hS1; try simp only [List.cons_append, List.nil_append] at hS
        rw [decide_eq_true rfl] at hE
        repeat' (first

          | (with_reducible refine c_region ?_)
          | (with_reducible refine wpList_nil ?_)
          | (with_reducible refine then_normal ?_)
          | (with_reducible refine wp_skip ?_)
          | (with_reducible refine block_normal ?_)
          | ((with_reducible refine g_move ?_); refine s_move hE rfl rfl ?_; clear hE a; intro a hE)
          | ((with_reducible refine g_bin .add ?_); refine s_add hE rfl rfl rfl (by first  | exact wrap64_in (by omega) ) ?_; clear hE a; intro a hE)
          | ((with_reducible refine g_un .not ?_); refine s_notb hE rfl rfl ?_; clear hE a; intro a hE)
          | ((with_reducible refine g_guard ?_); refine gd_yes hE rfl rfl rfl ?_)
          | ((with_reducible refine g_pick ?_); refine s_pickF hE rfl rfl rfl ?_; clear hE a; intro a hE)
          | ((with_reducible refine g_cond ?_); refine c_false hE rfl ?_)
          )
        exact ⟨q - 1, by omega, k + 1, by omega, hS.nil, hE.sub ⟨rfl, rfl, rfl, trivial⟩⟩
  · obtain rfl : k = l2.length := by omega
    repeat' (first

      | (with_reducible refine wp_seq ?_)
      | (with_reducible refine c_region ?_)
      | (with_reducible refine wpList_nil ?_)
      | (with_reducible refine then_normal ?_)
      | (with_reducible refine wp_ret ?_)
      | (with_reducible refine wp_exit ?_)
      | (with_reducible refine then_exit ?_)
      | (with_reducible refine block_same ?_)
      | ((with_reducible refine g_assign ?_); refine s_assign hE rfl rfl ?_; clear hE a; intro a hE)
      | ((with_reducible refine g_bin .lss ?_); refine s_lss hE rfl rfl rfl ?_; clear hE a; intro a hE)
      | ((with_reducible refine g_cond ?_); refine c_dec hE rfl (fun hc => ?_) (fun hc => ?_) <;> try omega)
      )
    exact ret1 hE rfl rfl ⟨rfl, hS.nil⟩
end
end Go.Proofs.Ytaiahigeejodaaa
