/-
  The law HeapPages.
-/
import Derived.Test.YtaiahigeejodaaaHR
namespace Go.Proofs.Ytaiahigeejodaaa
open Go.RowKit
set_option linter.unusedVariables false
set_option linter.unusedSimpArgs false
attribute [local irreducible] Rd hRow hBlk hRd hRdr rowsP hPs Fn hMarks

/-- what follows is shown once, for whatever leads to it -/
theorem cutW {P : Program} {ops : Array Oper} {Q : Exit → Act → World → Prop} {rest : List Oper} {G : Prop} (M : Act → World → Prop) (main : (∀ a w, M a w → wpList P ops Q rest a w) → G) (tail : ∀ a w, M a w → wpList P ops Q rest a w) : G := main tail
abbrev L32 := Option Addr × Nat × List Int
def L32.ok (W : World) (q : L32) : Prop := Rd W q.1 (q.2.2.flatMap fun n : Int => [Value.int .u32 n]) ∧ q.2.2.length ≤ q.2.1 ∧ q.2.1 ≤ maxLen ∧ q.2.2.length * 4 ≤ 140737488351232 ∧ ∀ y ∈ q.2.2, (Lit.int .u32 y).wf = true ∧ [Value.int .u32 y].length = 1
def L32.us (q : L32) : List Nat := q.2.2.map Int.toNat
theorem L32.len (q : L32) : q.us.length = q.2.2.length := by simp [L32.us]
theorem us_flat : ∀ {l : List Int}, (∀ y ∈ l, (Lit.int .u32 y).wf = true) → (l.flatMap fun n : Int => [Value.int .u32 n]) = (l.map Int.toNat).map fun n : Nat => Value.int .u32 (n : Int)
  | [], _ => rfl
  | y :: l, h => by
    have h1 := wf_u32 (h y (List.mem_cons_self ..))
    rw [List.flatMap_cons, List.map_cons, List.map_cons, us_flat (l := l) fun y hy => h y (List.mem_cons_of_mem _ hy), Int.toNat_of_nonneg h1.1]
    rfl
theorem L32.rd {W : World} {q : L32} (h : q.ok W) : Rd W q.1 (q.us.map fun n : Nat => Value.int .u32 (n : Int)) := by
  have h1 := h.1
  rw [us_flat fun y hy => (h.2.2.2.2 y hy).1] at h1
  exact h1
theorem itR_le {l : List Pg} (hwf : ∀ p ∈ l, p.wf) (hl : l.length ≤ 100000) : (itR (l.map Pg.m)).length ≤ 400000 := by
  unfold itR
  rw [← spots_m]
  have h1 := List.length_filterMap_le itM1 ((spotsM l).map SpT.m)
  have h2 := spotsM_len hwf
  rw [List.length_map] at h1
  omega
theorem want_ver {M : List PM} {u : Nat} : (itR M).filter (fun x => decide (x.2.r = u ∧ wrongM M = 0)) = verM M u := by
  unfold verM
  by_cases h : wrongM M = 0
  · rw [its_ok h]
    congr 1
    funext x
    exact decide_eq_decide.2 ⟨fun q => q.1, fun q => ⟨q, h⟩⟩
  · rw [show itemsM M = [] from if_neg h, List.filter_nil, List.filter_eq_nil_iff]
    intro x _
    simp [h]
section
variable {H : List HP} {w0 w : World}
set_option maxHeartbeats 16000000
theorem law_HeapPages (y : LPT) (z : L32) (w0 : World) (h : y.ok w0) (h2 : z.ok w0) : Fn Try.prog 6 [.slice y.1 y.2.2.length y.2.1, .slice z.1 z.2.2.length z.2.1] w0 fun v w' => v = .bool true ∧ St w0 w' [] := by
  rw [← LPT.len, ← L32.len]
  have hr := LPT.rd h
  have hall := LPT.all h
  have hbig : y.pgs.length ≤ 140737488351232 := by have := h.2.2.2.1; rw [LPT.len]; omega
  generalize y.pgs = l at hr hall hbig
  generalize y.1 = A at hr
  generalize y.2.1 = c
  have hru := L32.rd h2
  have hbigu : z.us.length ≤ 140737488351232 := by have := h2.2.2.2.1; rw [L32.len]; omega
  generalize z.us = us at hru hbigu
  generalize z.1 = Au at hru
  generalize z.2.1 = cu
  clear h h2
  refine enter 233 Try.func6 rfl rfl rfl ?_
  intro a hE
  have hS := St.start w0
  repeat' (first

    | (with_reducible refine wp_seq ?_)
    | (with_reducible refine c_region ?_)
    | (with_reducible refine wpList_nil ?_)
    | (with_reducible refine then_normal ?_)
    | ((with_reducible refine g_assign ?_); refine s_assign hE rfl rfl ?_; clear hE a; intro a hE)
    )
  refine s_call hE rfl rfl rfl (hwakes w0) ?_
  rintro _ w ⟨rfl, hS1⟩; clear hE a; intro a hE; replace hS := hS.frame hS1; clear hS1; try simp only [List.cons_append, List.nil_append] at hS
  repeat' (first

    | (with_reducible refine wp_seq ?_)
    | (with_reducible refine c_region ?_)
    | (with_reducible refine wpList_nil ?_)
    | (with_reducible refine then_normal ?_)
    | (with_reducible refine wp_skip ?_)
    | ((with_reducible refine g_move ?_); refine s_move hE rfl rfl ?_; clear hE a; intro a hE)
    | ((with_reducible refine g_un .not ?_); refine s_notb hE rfl rfl ?_; clear hE a; intro a hE)
    | ((with_reducible refine g_cond ?_); refine c_false hE rfl ?_)
    )
  refine s_call hE rfl rfl rfl (hshortL l A c l.length rfl w hbig (fun p hp => ⟨(hall p hp).1, (hall p hp).2.st hS⟩) (hr.st hS)) ?_
  rintro _ w ⟨Ap, cp, ps, rfl, hpm, hpw, hS1⟩; clear hE a; intro a hE; replace hS := hS.frame hS1; clear hS1; try simp only [List.cons_append, List.nil_append] at hS
  repeat' (first

    | ((with_reducible refine g_move ?_); refine s_move hE rfl rfl ?_; clear hE a; intro a hE)
    )
  refine s_call hE rfl rfl rfl (hshortL l A c l.length rfl w hbig (fun p hp => ⟨(hall p hp).1, (hall p hp).2.st hS⟩) (hr.st hS)) ?_
  rintro _ w ⟨Aw, cw, ws, rfl, hwm, hww, hS1⟩; clear hE a; intro a hE; replace hS := hS.frame hS1; clear hS1; try simp only [List.cons_append, List.nil_append] at hS
  have heq : ps.map Pg.m = ws.map Pg.m := hpm.trans hwm.symm
  have hpl : ps.length ≤ 33 := by
    have := congrArg List.length hpm
    simp only [List.length_map, List.length_take] at this
    omega
  have hwl : ws.length ≤ 33 := by
    have := congrArg List.length hwm
    simp only [List.length_map, List.length_take] at this
    omega
  obtain ⟨_, hpc, _⟩ := hS.lenAt (k := 2) rfl
  clear hpm hwm hr hall hbig
  have hle := filterMap_le hpw (by omega)
  have hM33 : (ps.map Pg.m).length ≤ 33 := by rw [List.length_map]; exact hpl
  have hiR := itR_le hww (by omega)
  have hlt := topR_lt (itemsM_ok hpw)
  have cW := fun w0 => xwrong ws Aw cw ws.length rfl w0 (by omega) hww
  have cP := fun w0 => place ps Ap cp ps.length rfl w0 (by omega) hpw
  have cR := fun w0 => room ps Ap cp ps.length rfl hpc w0 (by omega) hpw
  have cI := fun w0 => items ps Ap cp ps.length rfl w0 (by omega) hpw
  have cN := fun w0 => next ps Ap cp ps.length rfl w0 (by omega) hpw
  have cV := fun r w0 => versions ps Ap cp ps.length rfl r w0 (by omega) hpw
  have cXI := fun w0 => xitems ws Aw cw ws.length rfl w0 (by omega) hww
  have cXP := fun w0 => xplace ws Aw cw ws.length rfl w0 (by omega) hww
  have cXR := fun w0 => xroom ws Aw cw ws.length rfl w0 (by omega) hww
  have cH := fun w0 => whole ps ws Ap Aw cp cw ps.length ws.length rfl rfl heq w0 (by omega) hpw hww
  rw [← heq] at cW cXI cXP cXR hiR
  generalize ps.map Pg.m = M at cW cP cR cI cN cV cXI cXP cXR hle hlt hiR hM33
  repeat' (first

    | (with_reducible refine wp_seq ?_)
    | (with_reducible refine c_region ?_)
    | (with_reducible refine wpList_nil ?_)
    | (with_reducible refine then_normal ?_)
    | ((with_reducible refine g_move ?_); refine s_move hE rfl rfl ?_; clear hE a; intro a hE)
    | ((with_reducible refine g_assign ?_); refine s_assign hE rfl rfl ?_; clear hE a; intro a hE)
    )
  refine s_call hE rfl rfl rfl (cW w (hS.rdAt (k := 0) rfl) (hPs_rdAt hS (k := 1) rfl)) ?_
  rintro _ w ⟨rfl, hS1⟩; clear hE a; intro a hE; replace hS := hS.frame hS1; clear hS1; try simp only [List.cons_append, List.nil_append] at hS
  repeat' (first

    | (with_reducible refine wp_seq ?_)
    | (with_reducible refine c_region ?_)
    | (with_reducible refine wpList_nil ?_)
    | (with_reducible refine then_normal ?_)
    | ((with_reducible refine g_move ?_); refine s_move hE rfl rfl ?_; clear hE a; intro a hE)
    | ((with_reducible refine g_assign ?_); refine s_assign hE rfl rfl ?_; clear hE a; intro a hE)
    )
  refine s_call hE rfl rfl rfl (cP w (hS.rdAt (k := 2) rfl) (hPs_rdAt hS (k := 3) rfl)) ?_
  rintro _ w ⟨rfl, hS1⟩; clear hE a; intro a hE; replace hS := hS.frame hS1; clear hS1; try simp only [List.cons_append, List.nil_append] at hS
  repeat' (first

    | (with_reducible refine wp_seq ?_)
    | (with_reducible refine c_region ?_)
    | (with_reducible refine wpList_nil ?_)
    | (with_reducible refine then_normal ?_)
    | ((with_reducible refine g_move ?_); refine s_move hE rfl rfl ?_; clear hE a; intro a hE)
    | ((with_reducible refine g_assign ?_); refine s_assign hE rfl rfl ?_; clear hE a; intro a hE)
    | ((with_reducible refine g_extract ?_); refine s_extract hE rfl rfl rfl ?_; clear hE a; intro a hE)
    | ((with_reducible refine g_alloc ?_); refine s_allocS hE hS rfl rfl ?_; clear hE a hS; intro g a w hE hS)
    | ((with_reducible refine g_store ?_); (first | (refine s_storeW (k := 0) hS hE rfl rfl rfl rfl rfl (by first | (simp [Value.oneCell']; done)) ?_) ); clear hS; intro w hS; simp only [List.set_cons_zero, List.set_cons_succ, Nat.add_zero] at hS)
    )
  obtain ⟨g8, rfl⟩ : ∃ x, x = g := ⟨g, rfl⟩
  refine s_call hE rfl rfl rfl (cR w (hS.rdAt (k := 3) rfl) (hPs_rdAt hS (k := 4) rfl)) ?_
  rintro _ w ⟨Ar, cr, rfl, hS1⟩; clear hE a; intro a hE; replace hS := hS.frame hS1; clear hS1; try simp only [List.cons_append, List.nil_append] at hS
  repeat' (first

    | (with_reducible refine wp_seq ?_)
    | (with_reducible refine c_region ?_)
    | (with_reducible refine wpList_nil ?_)
    | (with_reducible refine then_normal ?_)
    | ((with_reducible refine g_move ?_); refine s_move hE rfl rfl ?_; clear hE a; intro a hE)
    | ((with_reducible refine g_assign ?_); refine s_assign hE rfl rfl ?_; clear hE a; intro a hE)
    | ((with_reducible refine g_extract ?_); refine s_extract hE rfl rfl rfl ?_; clear hE a; intro a hE)
    )
  refine s_call hE rfl rfl rfl (cI w (hS.rdAt (k := 4) rfl) (hPs_rdAt hS (k := 5) rfl)) ?_
  rintro _ w ⟨Ai, ci, rfl, hS1⟩; clear hE a; intro a hE; replace hS := hS.frame hS1; clear hS1; try simp only [List.cons_append, List.nil_append] at hS
  repeat' (first

    | (with_reducible refine wp_seq ?_)
    | (with_reducible refine c_region ?_)
    | (with_reducible refine wpList_nil ?_)
    | (with_reducible refine then_normal ?_)
    | ((with_reducible refine g_move ?_); refine s_move hE rfl rfl ?_; clear hE a; intro a hE)
    | ((with_reducible refine g_assign ?_); refine s_assign hE rfl rfl ?_; clear hE a; intro a hE)
    | ((with_reducible refine g_extract ?_); refine s_extract hE rfl rfl rfl ?_; clear hE a; intro a hE)
    )
  refine s_call hE rfl rfl rfl (cN w (hS.rdAt (k := 5) rfl) (hPs_rdAt hS (k := 6) rfl)) ?_
  rintro _ w ⟨rfl, hS1⟩; clear hE a; intro a hE; replace hS := hS.frame hS1; clear hS1; try simp only [List.cons_append, List.nil_append] at hS
  repeat' (first

    | (with_reducible refine wp_seq ?_)
    | (with_reducible refine c_region ?_)
    | (with_reducible refine wpList_nil ?_)
    | (with_reducible refine then_normal ?_)
    | ((with_reducible refine g_move ?_); refine s_move hE rfl rfl ?_; clear hE a; intro a hE)
    | ((with_reducible refine g_assign ?_); refine s_assign hE rfl rfl ?_; clear hE a; intro a hE)
    | ((with_reducible refine g_extract ?_); refine s_extract hE rfl rfl rfl ?_; clear hE a; intro a hE)
    )
  refine s_call hE rfl rfl rfl (cH w (hS.rdAt (k := 5) rfl) (hS.rdAt (k := 3) rfl) (hPs_rdAt hS (k := 6) rfl) (hPs_rdAt hS (k := 4) rfl)) ?_
  rintro _ w ⟨rfl, hS1⟩; clear hE a; intro a hE; replace hS := hS.frame hS1; clear hS1; try simp only [List.cons_append, List.nil_append] at hS
  repeat' (first

    | (with_reducible refine wp_seq ?_)
    | (with_reducible refine c_region ?_)
    | (with_reducible refine wpList_nil ?_)
    | (with_reducible refine then_normal ?_)
    | (with_reducible refine wp_skip ?_)
    | (with_reducible refine wp_block ?_)
    | ((with_reducible refine g_move ?_); refine s_move hE rfl rfl ?_; clear hE a; intro a hE)
    | ((with_reducible refine g_un .not ?_); refine s_notb hE rfl rfl ?_; clear hE a; intro a hE)
    | ((with_reducible refine g_blt .len ?_); refine s_len hE rfl rfl ?_; clear hE a; intro a hE)
    | ((with_reducible refine g_cond ?_); refine c_false hE rfl ?_)
    )
  have hml : (us.map fun n : Nat => Value.int .u32 (n : Int)).length = us.length := List.length_map ..
  refine wp_mono (?_ : Code.wp _ _ (fun e a w => e = .exit 0 ∧ St w0 w [hRow 56 10 Ai (itemsM M).length ci ((itemsM M).flatMap stc), hRow 3 1 Ar (roomM M).length cr (ints (roomM M)), hBlk g8 54 [.int .i64 (placeM M).1.1, .int .i64 ((placeM M).1.2 : Int)], hRow 74 6 Aw ws.length cw (ws.flatMap Pg.cells), hPs ws, hRow 74 6 Ap ps.length cp (ps.flatMap Pg.cells), hPs ps] ∧ Env 233 [(6, .slice Aw ws.length cw), (7, .int .i64 (wrongM M)), (8, .pointer (some ⟨g8, 0, none⟩)), (9, .int .i64 (placeM M).2), (10, .slice Ar (roomM M).length cr), (11, .int .i64 (wrongM M)), (12, .slice Ai (itemsM M).length ci), (13, .int .i64 (wrongM M)), (14, .int .u32 ((nextM M).1 : Int)), (15, .int .i64 (nextM M).2)] a) _ _) ?_
  · refine wp_loop_ghost (fun q a w => ∃ (k : Nat), k + q = us.length ∧ St w0 w [hRow 56 10 Ai (itemsM M).length ci ((itemsM M).flatMap stc), hRow 3 1 Ar (roomM M).length cr (ints (roomM M)), hBlk g8 54 [.int .i64 (placeM M).1.1, .int .i64 ((placeM M).1.2 : Int)], hRow 74 6 Aw ws.length cw (ws.flatMap Pg.cells), hPs ws, hRow 74 6 Ap ps.length cp (ps.flatMap Pg.cells), hPs ps] ∧ Env 233 [(62, .slice Au us.length cu), (63, .int .i64 (us.length : Int)), (64, .int .i64 (k : Int)), (5, .slice Ap ps.length cp), (6, .slice Aw ws.length cw), (7, .int .i64 (wrongM M)), (8, .pointer (some ⟨g8, 0, none⟩)), (9, .int .i64 (placeM M).2), (10, .slice Ar (roomM M).length cr), (11, .int .i64 (wrongM M)), (12, .slice Ai (itemsM M).length ci), (13, .int .i64 (wrongM M)), (14, .int .u32 ((nextM M).1 : Int)), (15, .int .i64 (nextM M).2)] a) us.length ⟨0, by omega, hS, hE.sub ⟨rfl, rfl, rfl, rfl, rfl, rfl, rfl, rfl, rfl, rfl, rfl, rfl, rfl, rfl, trivial⟩⟩ ?_
    clear hE a hS
    rintro q a w ⟨k, hk, hS, hE⟩
    by_cases hk1 : k < us.length
    · have hg := map_at (fun n : Nat => Value.int .u32 (n : Int)) hk1
      by_cases hk8 : k = 8
      · subst hk8
        repeat' (first

          | (with_reducible refine wp_seq ?_)
          | (with_reducible refine c_region ?_)
          | (with_reducible refine wpList_nil ?_)
          | (with_reducible refine then_normal ?_)
          | (with_reducible refine wp_skip ?_)
          | (with_reducible refine wp_block ?_)
          | (with_reducible refine wp_exit ?_)
          | (with_reducible refine then_exit ?_)
          | ((with_reducible refine block_other ?_ ?_); rfl)
          | ((with_reducible refine g_move ?_); refine s_move hE rfl rfl ?_; clear hE a; intro a hE)
          | ((with_reducible refine g_assign ?_); refine s_assign hE rfl rfl ?_; clear hE a; intro a hE)
          | ((with_reducible refine g_bin .lss ?_); refine s_lss hE rfl rfl rfl ?_; clear hE a; intro a hE)
          | ((with_reducible refine g_bin .eql ?_); refine s_eql hE rfl rfl rfl ?_; clear hE a; intro a hE)
          | ((with_reducible refine g_cond ?_); refine c_true hE rfl ?_)
          | ((with_reducible refine g_cond ?_); refine c_dec hE rfl (fun hc => ?_) (fun hc => ?_) <;> try omega)
          | ((with_reducible refine g_ia ?_); refine s_idxR hE rfl rfl (by omega) (by omega) (by (first | exact Rd.st (by assumption) hS )) (by first | omega ) rfl ?_; clear hE a; intro a hE)
          | ((with_reducible refine g_load ?_); refine s_loadR hE rfl (by (first | exact Rd.st (by assumption) hS )) (by first | exact hg ) rfl ?_; clear hE a; intro a hE)
          )
        exact ⟨rfl, hS, hE.sub ⟨rfl, rfl, rfl, rfl, rfl, rfl, rfl, rfl, rfl, rfl, trivial⟩⟩
      · generalize (us[k]'hk1) = u at hg
        repeat' (first

          | (with_reducible refine wp_seq ?_)
          | (with_reducible refine c_region ?_)
          | (with_reducible refine wpList_nil ?_)
          | (with_reducible refine then_normal ?_)
          | (with_reducible refine wp_skip ?_)
          | (with_reducible refine wp_block ?_)
          | ((with_reducible refine g_move ?_); refine s_move hE rfl rfl ?_; clear hE a; intro a hE)
          | ((with_reducible refine g_assign ?_); refine s_assign hE rfl rfl ?_; clear hE a; intro a hE)
          | ((with_reducible refine g_bin .lss ?_); refine s_lss hE rfl rfl rfl ?_; clear hE a; intro a hE)
          | ((with_reducible refine g_bin .eql ?_); refine s_eql hE rfl rfl rfl ?_; clear hE a; intro a hE)
          | ((with_reducible refine g_cond ?_); refine c_dec hE rfl (fun hc => ?_) (fun hc => ?_) <;> try omega)
          | ((with_reducible refine g_ia ?_); refine s_idxR hE rfl rfl (by omega) (by omega) (by (first | exact Rd.st (by assumption) hS )) (by first | omega ) rfl ?_; clear hE a; intro a hE)
          | ((with_reducible refine g_load ?_); refine s_loadR hE rfl (by (first | exact Rd.st (by assumption) hS )) (by first | exact hg ) rfl ?_; clear hE a; intro a hE)
          )
        refine s_call hE rfl rfl rfl (cV u w (hS.rdAt (k := 5) rfl) (hPs_rdAt hS (k := 6) rfl)) ?_
        rintro _ w ⟨Av, cv, rfl, hS1⟩; clear hE a; intro a hE; replace hS := hS.frame hS1; clear hS1; try simp only [List.cons_append, List.nil_append] at hS
        repeat' (first

          | (with_reducible refine wp_seq ?_)
          | (with_reducible refine c_region ?_)
          | (with_reducible refine wpList_nil ?_)
          | (with_reducible refine then_normal ?_)
          | ((with_reducible refine g_move ?_); refine s_move hE rfl rfl ?_; clear hE a; intro a hE)
          | ((with_reducible refine g_assign ?_); refine s_assign hE rfl rfl ?_; clear hE a; intro a hE)
          | ((with_reducible refine g_extract ?_); refine s_extract hE rfl rfl rfl ?_; clear hE a; intro a hE)
          )
        refine s_call hE rfl rfl rfl (cXI w (hS.rdAt (k := 4) rfl) (hPs_rdAt hS (k := 5) rfl)) ?_
        rintro _ w ⟨Ax, cx, rfl, hS1⟩; clear hE a; intro a hE; replace hS := hS.frame hS1; clear hS1; try simp only [List.cons_append, List.nil_append] at hS
        repeat' (first

          | (with_reducible refine wpList_nil ?_)
          | (with_reducible refine then_normal ?_)
          | (with_reducible refine wp_block ?_)
          | ((with_reducible refine g_move ?_); refine s_move hE rfl rfl ?_; clear hE a; intro a hE)
          | ((with_reducible refine g_blt .len ?_); refine s_len hE rfl rfl ?_; clear hE a; intro a hE)
          )
        have hwv := want_ver (M := M) (u := u)
        have hfl : ((itR M).flatMap stc).length = (itR M).length * 10 := flat_len fun x _ => stc_len x
        generalize itR M = xs at hE hS hwv hfl hiR
        have hS2 : St w0 w _ := St.rowNil hS 56 10
        refine wp_mono (?_ : Code.wp _ _ (fun e a w => e = .exit 2 ∧ ∃ (A1 : Option Addr) (c1 : Nat), St w0 w [hRow 56 10 A1 (verM M u).length c1 ((verM M u).flatMap stc), hRow 56 10 Ax xs.length cx (xs.flatMap stc), hRow 56 10 Av (verM M u).length cv ((verM M u).flatMap stc), hRow 56 10 Ai (itemsM M).length ci ((itemsM M).flatMap stc), hRow 3 1 Ar (roomM M).length cr (ints (roomM M)), hBlk g8 54 [.int .i64 (placeM M).1.1, .int .i64 ((placeM M).1.2 : Int)], hRow 74 6 Aw ws.length cw (ws.flatMap Pg.cells), hPs ws, hRow 74 6 Ap ps.length cp (ps.flatMap Pg.cells), hPs ps] ∧ Env 233 [(18, .slice Av (verM M u).length cv), (19, .int .i64 (wrongM M)), (20, .slice A1 (verM M u).length c1), (62, .slice Au us.length cu), (63, .int .i64 (us.length : Int)), (64, .int .i64 (k : Int)), (5, .slice Ap ps.length cp), (6, .slice Aw ws.length cw), (7, .int .i64 (wrongM M)), (8, .pointer (some ⟨g8, 0, none⟩)), (9, .int .i64 (placeM M).2), (10, .slice Ar (roomM M).length cr), (11, .int .i64 (wrongM M)), (12, .slice Ai (itemsM M).length ci), (13, .int .i64 (wrongM M)), (14, .int .u32 ((nextM M).1 : Int)), (15, .int .i64 (nextM M).2)] a) _ _) ?_
        · refine wp_loop_ghost (fun q2 a w => ∃ (j : Nat) (ys : List StM) (A1 : Option Addr) (c1 : Nat), j + q2 = xs.length ∧ ys = (xs.take j).filter (fun x => decide (x.2.r = u ∧ wrongM M = 0)) ∧ St w0 w [hRow 56 10 A1 ys.length c1 (ys.flatMap stc), hRow 56 10 Ax xs.length cx (xs.flatMap stc), hRow 56 10 Av (verM M u).length cv ((verM M u).flatMap stc), hRow 56 10 Ai (itemsM M).length ci ((itemsM M).flatMap stc), hRow 3 1 Ar (roomM M).length cr (ints (roomM M)), hBlk g8 54 [.int .i64 (placeM M).1.1, .int .i64 ((placeM M).1.2 : Int)], hRow 74 6 Aw ws.length cw (ws.flatMap Pg.cells), hPs ws, hRow 74 6 Ap ps.length cp (ps.flatMap Pg.cells), hPs ps] ∧ Env 233 [(78, .slice Ax xs.length cx), (79, .int .i64 (xs.length : Int)), (80, .int .i64 (j : Int)), (17, .int .u32 (u : Int)), (18, .slice Av (verM M u).length cv), (19, .int .i64 (wrongM M)), (20, .slice A1 ys.length c1), (62, .slice Au us.length cu), (63, .int .i64 (us.length : Int)), (64, .int .i64 (k : Int)), (5, .slice Ap ps.length cp), (6, .slice Aw ws.length cw), (7, .int .i64 (wrongM M)), (8, .pointer (some ⟨g8, 0, none⟩)), (9, .int .i64 (placeM M).2), (10, .slice Ar (roomM M).length cr), (11, .int .i64 (wrongM M)), (12, .slice Ai (itemsM M).length ci), (13, .int .i64 (wrongM M)), (14, .int .u32 ((nextM M).1 : Int)), (15, .int .i64 (nextM M).2)] a) xs.length ⟨0, [], none, 0, by omega, rfl, hS2, hE.sub ⟨rfl, rfl, rfl, rfl, rfl, rfl, rfl, rfl, rfl, rfl, rfl, rfl, rfl, rfl, rfl, rfl, rfl, rfl, rfl, rfl, rfl, trivial⟩⟩ ?_
          clear hE a hS hS2
          rintro q2 a w ⟨j, ys, A1, c1, hj, hys, hS, hE⟩
          by_cases hj1 : j < xs.length
          · have hseg := flat_seg (c := stc) (size := 10) (l := xs) (fun x _ => stc_len x) hj1
            have hst : (xs.take (j + 1)).filter (fun x => decide (x.2.r = u ∧ wrongM M = 0)) = ys ++ [xs[j]'hj1].filter (fun x => decide (x.2.r = u ∧ wrongM M = 0)) := by
              rw [List.take_succ_eq_append_getElem hj1, List.filter_append, ← hys]
            have hyl : ys.length ≤ j := by
              rw [hys]
              refine Nat.le_trans (List.length_filter_le ..) ?_
              rw [List.length_take]; omega
            generalize (xs[j]'hj1) = x at hseg hst
            have hone := stc_one x
            have hcl := stc_len x
            by_cases hx : x.2.r = u ∧ wrongM M = 0
            · rw [List.filter_cons_of_pos (by simpa using hx), List.filter_nil] at hst
              have hx1 := hx.1
              have hx2 := hx.2
              repeat' (first

                | (with_reducible refine wp_seq ?_)
                | (with_reducible refine c_region ?_)
                | (with_reducible refine wpList_nil ?_)
                | (with_reducible refine then_normal ?_)
                | (with_reducible refine wp_skip ?_)
                | (with_reducible refine wp_block ?_)
                | ((with_reducible refine g_move ?_); refine s_move hE rfl rfl ?_; clear hE a; intro a hE)
                | ((with_reducible refine g_bin .lss ?_); refine s_lss hE rfl rfl rfl ?_; clear hE a; intro a hE)
                | ((with_reducible refine g_bin .eql ?_); refine s_eql hE rfl rfl rfl ?_; clear hE a; intro a hE)
                | ((with_reducible refine g_fa ?_); refine s_fieldL hE rfl rfl rfl ?_; clear hE a; intro a hE)
                | ((with_reducible refine g_guard ?_); refine gd_yes hE rfl rfl rfl ?_)
                | ((with_reducible refine g_guard ?_); refine gd_dec hE rfl rfl (fun hc hE2 => ?_) (fun hc hE2 => ?_) <;> (try omega) <;> (replace hE := hE2; clear hE2))
                | ((with_reducible refine g_pick ?_); refine s_pickT hE rfl rfl rfl ?_; clear hE a; intro a hE)
                | ((with_reducible refine g_cond ?_); refine c_dec hE rfl (fun hc => ?_) (fun hc => ?_) <;> try omega)
                | ((with_reducible refine g_ia ?_); refine s_idxR hE rfl rfl (by omega) (by omega) (by (first | exact hS.rdAt (k := 1) rfl )) (by first | omega ) rfl ?_; clear hE a; intro a hE)
                | ((with_reducible refine g_load ?_); (first | (refine s_loadB (k := 0) hS hE rfl rfl rfl rfl ?_) ); clear hE a; intro a hE)
                | ((with_reducible refine g_alloc ?_); refine s_allocS hE hS rfl rfl ?_; clear hE a hS; intro g a w hE hS)
                | ((with_reducible refine g_load ?_); (first | (refine s_loadW (k := 0) hS hE rfl rfl rfl rfl ?_) ); clear hE a; intro a hE)
                | ((with_reducible refine g_store ?_); (first | (refine s_storeW (k := 0) hS hE rfl rfl rfl rfl rfl (by first | assumption ) ?_) ); clear hS; intro w hS; simp only [List.set_cons_zero, List.set_cons_succ, Nat.add_zero] at hS)
                | ((with_reducible refine g_load ?_); refine s_elemR hE rfl (by (first | exact hS.rdAt (k := 1) rfl )) (by first | exact hseg ) (by first | rfl ) (by rfl) rfl ?_; clear hE a; intro a hE))
              refine s_litA (vs := stc x) hE hS rfl rfl rfl rfl rfl ?_
              clear hE a hS; intro gl a w hE hS
              refine s_appendAt (k := 2) (size := 10) (bytes := 80) hE hS rfl rfl rfl (hS.rdAt (k := 0) rfl) rfl (stc_one _) (by omega) rfl rfl rfl rfl ?_
              clear hE a hS; intro A6 c6 a w hE hS
              simp only [List.set_cons_succ, List.set_cons_zero] at hS
              have e2 : ys.flatMap stc ++ stc x = (ys ++ [x]).flatMap stc := by rw [List.flatMap_append]; simp
              have e3 : ys.length + 1 = (ys ++ [x]).length := by simp
              rw [e2, e3] at hS
              rw [e3] at hE
              repeat' (first

                | (with_reducible refine c_region ?_)
                | (with_reducible refine wpList_nil ?_)
                | (with_reducible refine then_normal ?_)
                | (with_reducible refine block_normal ?_)
                | ((with_reducible refine g_move ?_); refine s_move hE rfl rfl ?_; clear hE a; intro a hE)
                | ((with_reducible refine g_assign ?_); refine s_assign hE rfl rfl ?_; clear hE a; intro a hE)
                | ((with_reducible refine g_bin .add ?_); refine s_add hE rfl rfl rfl (by first  | exact wrap64_in (by omega) ) ?_; clear hE a; intro a hE)
                )
              exact ⟨q2 - 1, by omega, j + 1, ys ++ [x], A6, c6, by omega, hst.symm, (hS.drop 0).drop 0, hE.sub ⟨rfl, rfl, rfl, rfl, rfl, rfl, rfl, rfl, rfl, rfl, rfl, rfl, rfl, rfl, rfl, rfl, rfl, rfl, rfl, rfl, rfl, trivial⟩⟩
            · rw [List.filter_cons_of_neg (by simpa using hx), List.filter_nil, List.append_nil] at hst
              by_cases hx1 : x.2.r = u
              · have hx2 : ¬ wrongM M = 0 := fun h => hx ⟨hx1, h⟩
                repeat' (first

                  | (with_reducible refine wp_seq ?_)
                  | (with_reducible refine c_region ?_)
                  | (with_reducible refine wpList_nil ?_)
                  | (with_reducible refine then_normal ?_)
                  | (with_reducible refine wp_skip ?_)
                  | (with_reducible refine wp_block ?_)
                  | (with_reducible refine block_normal ?_)
                  | ((with_reducible refine g_move ?_); refine s_move hE rfl rfl ?_; clear hE a; intro a hE)
                  | ((with_reducible refine g_bin .lss ?_); refine s_lss hE rfl rfl rfl ?_; clear hE a; intro a hE)
                  | ((with_reducible refine g_bin .eql ?_); refine s_eql hE rfl rfl rfl ?_; clear hE a; intro a hE)
                  | ((with_reducible refine g_bin .add ?_); refine s_add hE rfl rfl rfl (by first | exact wrap64_in (by omega) ) ?_; clear hE a; intro a hE)
                  | ((with_reducible refine g_fa ?_); refine s_fieldL hE rfl rfl rfl ?_; clear hE a; intro a hE)
                  | ((with_reducible refine g_guard ?_); refine gd_yes hE rfl rfl rfl ?_)
                  | ((with_reducible refine g_guard ?_); refine gd_dec hE rfl rfl (fun hc hE2 => ?_) (fun hc hE2 => ?_) <;> (try omega) <;> (replace hE := hE2; clear hE2))
                  | ((with_reducible refine g_pick ?_); refine s_pickT hE rfl rfl rfl ?_; clear hE a; intro a hE)
                  | ((with_reducible refine g_cond ?_); refine c_dec hE rfl (fun hc => ?_) (fun hc => ?_) <;> try omega)
                  | ((with_reducible refine g_ia ?_); refine s_idxR hE rfl rfl (by omega) (by omega) (by (first | exact hS.rdAt (k := 1) rfl )) (by first | omega ) rfl ?_; clear hE a; intro a hE)
                  | ((with_reducible refine g_load ?_); (first | (refine s_loadB (k := 0) hS hE rfl rfl rfl rfl ?_) ); clear hE a; intro a hE)
                  | ((with_reducible refine g_alloc ?_); refine s_allocS hE hS rfl rfl ?_; clear hE a hS; intro g a w hE hS)
                  | ((with_reducible refine g_store ?_); (first | (refine s_storeW (k := 0) hS hE rfl rfl rfl rfl rfl (by first | assumption ) ?_) ); clear hS; intro w hS; simp only [List.set_cons_zero, List.set_cons_succ, Nat.add_zero] at hS)
                  | ((with_reducible refine g_load ?_); refine s_elemR hE rfl (by (first | exact hS.rdAt (k := 1) rfl )) (by first | exact hseg ) (by first | rfl ) (by rfl) rfl ?_; clear hE a; intro a hE))
                exact ⟨q2 - 1, by omega, j + 1, ys, A1, c1, by omega, hst.symm, hS.drop 0, hE.sub ⟨rfl, rfl, rfl, rfl, rfl, rfl, rfl, rfl, rfl, rfl, rfl, rfl, rfl, rfl, rfl, rfl, rfl, rfl, rfl, rfl, rfl, trivial⟩⟩
              · repeat' (first

                  | (with_reducible refine wp_seq ?_)
                  | (with_reducible refine c_region ?_)
                  | (with_reducible refine wpList_nil ?_)
                  | (with_reducible refine then_normal ?_)
                  | (with_reducible refine wp_skip ?_)
                  | (with_reducible refine wp_block ?_)
                  | (with_reducible refine block_normal ?_)
                  | ((with_reducible refine g_move ?_); refine s_move hE rfl rfl ?_; clear hE a; intro a hE)
                  | ((with_reducible refine g_bin .lss ?_); refine s_lss hE rfl rfl rfl ?_; clear hE a; intro a hE)
                  | ((with_reducible refine g_bin .eql ?_); refine s_eql hE rfl rfl rfl ?_; clear hE a; intro a hE)
                  | ((with_reducible refine g_bin .add ?_); refine s_add hE rfl rfl rfl (by first | exact wrap64_in (by omega) ) ?_; clear hE a; intro a hE)
                  | ((with_reducible refine g_fa ?_); refine s_fieldL hE rfl rfl rfl ?_; clear hE a; intro a hE)
                  | ((with_reducible refine g_guard ?_); refine gd_no hE rfl rfl rfl rfl ?_; clear hE a; intro a hE)
                  | ((with_reducible refine g_guard ?_); refine gd_dec hE rfl rfl (fun hc hE2 => ?_) (fun hc hE2 => ?_) <;> (try omega) <;> (replace hE := hE2; clear hE2))
                  | ((with_reducible refine g_pick ?_); refine s_pickF hE rfl rfl rfl ?_; clear hE a; intro a hE)
                  | ((with_reducible refine g_cond ?_); refine c_false hE rfl ?_)
                  | ((with_reducible refine g_cond ?_); refine c_dec hE rfl (fun hc => ?_) (fun hc => ?_) <;> try omega)
                  | ((with_reducible refine g_ia ?_); refine s_idxR hE rfl rfl (by omega) (by omega) (by (first | exact hS.rdAt (k := 1) rfl )) (by first | omega ) rfl ?_; clear hE a; intro a hE)
                  | ((with_reducible refine g_load ?_); (first | (refine s_loadB (k := 0) hS hE rfl rfl rfl rfl ?_) ); clear hE a; intro a hE)
                  | ((with_reducible refine g_alloc ?_); refine s_allocS hE hS rfl rfl ?_; clear hE a hS; intro g a w hE hS)
                  | ((with_reducible refine g_store ?_); (first | (refine s_storeW (k := 0) hS hE rfl rfl rfl rfl rfl (by first | assumption ) ?_) ); clear hS; intro w hS; simp only [List.set_cons_zero, List.set_cons_succ, Nat.add_zero] at hS)
                  | ((with_reducible refine g_load ?_); refine s_elemR hE rfl (by (first | exact hS.rdAt (k := 1) rfl )) (by first | exact hseg ) (by first | rfl ) (by rfl) rfl ?_; clear hE a; intro a hE))
                exact ⟨q2 - 1, by omega, j + 1, ys, A1, c1, by omega, hst.symm, hS.drop 0, hE.sub ⟨rfl, rfl, rfl, rfl, rfl, rfl, rfl, rfl, rfl, rfl, rfl, rfl, rfl, rfl, rfl, rfl, rfl, rfl, rfl, rfl, rfl, trivial⟩⟩
          · obtain rfl : j = xs.length := by omega
            rw [List.take_of_length_le (Nat.le_refl _), hwv] at hys
            subst hys
            repeat' (first

              | (with_reducible refine wp_seq ?_)
              | (with_reducible refine c_region ?_)
              | (with_reducible refine wpList_nil ?_)
              | (with_reducible refine then_normal ?_)
              | (with_reducible refine wp_exit ?_)
              | (with_reducible refine then_exit ?_)
              | ((with_reducible refine g_bin .lss ?_); refine s_lss hE rfl rfl rfl ?_; clear hE a; intro a hE)
              | ((with_reducible refine g_cond ?_); refine c_dec hE rfl (fun hc => ?_) (fun hc => ?_) <;> try omega)
              )
            exact ⟨rfl, A1, c1, hS, hE.sub ⟨rfl, rfl, rfl, rfl, rfl, rfl, rfl, rfl, rfl, rfl, rfl, rfl, rfl, rfl, rfl, rfl, rfl, trivial⟩⟩
        clear hS hE hS2 a
        rintro _ a w ⟨rfl, A1, c1, hS, hE⟩
        have hvl : (verM M u).length ≤ 400000 := Nat.le_trans (List.length_filter_le ..) hle
        repeat' (first

          | (with_reducible refine wp_seq ?_)
          | (with_reducible refine c_region ?_)
          | (with_reducible refine then_normal ?_)
          | (with_reducible refine block_same ?_)
          | ((with_reducible refine g_move ?_); refine s_move hE rfl rfl ?_; clear hE a; intro a hE)
          | ((with_reducible refine g_bin .neq ?_); refine s_neq hE rfl rfl rfl ?_; clear hE a; intro a hE)
          | ((with_reducible refine g_guard ?_); refine gd_yes hE rfl rfl rfl ?_)
          | ((with_reducible refine g_guard ?_); refine gd_dec hE rfl rfl (fun hc hE2 => ?_) (fun hc hE2 => ?_) <;> (try omega) <;> (replace hE := hE2; clear hE2))
          )
        refine s_call hE rfl rfl rfl (xsame (verM M u) Av A1 cv c1 _ _ rfl rfl w hvl (hS.rdAt (k := 2) rfl) (hS.rdAt (k := 0) rfl)) ?_
        rintro _ w ⟨rfl, hS1⟩; clear hE a; intro a hE; replace hS := hS.frame hS1; clear hS1; try simp only [List.cons_append, List.nil_append] at hS
        repeat' (first

          | (with_reducible refine c_region ?_)
          | (with_reducible refine wpList_nil ?_)
          | (with_reducible refine then_normal ?_)
          | (with_reducible refine wp_skip ?_)
          | (with_reducible refine block_normal ?_)
          | ((with_reducible refine g_move ?_); refine s_move hE rfl rfl ?_; clear hE a; intro a hE)
          | ((with_reducible refine g_bin .add ?_); refine s_add hE rfl rfl rfl (by first  | exact wrap64_in (by omega) ) ?_; clear hE a; intro a hE)
          | ((with_reducible refine g_un .not ?_); refine s_notb hE rfl rfl ?_; clear hE a; intro a hE)
          | ((with_reducible refine g_guard ?_); refine gd_yes hE rfl rfl rfl ?_)
          | ((with_reducible refine g_pick ?_); refine s_pickF hE rfl rfl rfl ?_; clear hE a; intro a hE)
          | ((with_reducible refine g_cond ?_); refine c_false hE rfl ?_)
          )
        exact ⟨q - 1, by omega, k + 1, by omega, ((hS.drop 0).drop 0).drop 0, hE.sub ⟨rfl, rfl, rfl, rfl, rfl, rfl, rfl, rfl, rfl, rfl, rfl, rfl, rfl, rfl, trivial⟩⟩
    · obtain rfl : k = us.length := by omega
      repeat' (first

        | (with_reducible refine wp_seq ?_)
        | (with_reducible refine c_region ?_)
        | (with_reducible refine wpList_nil ?_)
        | (with_reducible refine then_normal ?_)
        | (with_reducible refine wp_exit ?_)
        | (with_reducible refine then_exit ?_)
        | ((with_reducible refine g_bin .lss ?_); refine s_lss hE rfl rfl rfl ?_; clear hE a; intro a hE)
        | ((with_reducible refine g_cond ?_); refine c_dec hE rfl (fun hc => ?_) (fun hc => ?_) <;> try omega)
        )
      exact ⟨rfl, hS, hE.sub ⟨rfl, rfl, rfl, rfl, rfl, rfl, rfl, rfl, rfl, rfl, trivial⟩⟩
  clear hE a hS
  rintro _ a w ⟨rfl, hS, hE⟩
  by_cases hw0 : wrongM M = 0
  · have hil : itemsM M = itR M := its_ok hw0
    have hro : roomM M = M.map roomP := if_pos hw0
    have hnx : nextM M = if topR (itR M) = 4294967295 then (0, 6) else (topR (itR M) + 1, 0) := by
      unfold nextM
      rw [if_pos hw0, hil]
    have hpR : (placeM M).1 = (plR M).1 ∧ (((plR M).2 = true ∧ (placeM M).2 = 0) ∨ ((plR M).2 = false ∧ (placeM M).2 = 6)) := by
      unfold placeM plR
      rw [if_pos hw0]
      cases (spM M).find? freeS with
      | none => exact ⟨rfl, .inr ⟨rfl, rfl⟩⟩
      | some x => exact ⟨rfl, .inl ⟨rfl, rfl⟩⟩
    obtain ⟨hp1, hp2⟩ := hpR
    rw [hil] at hlt
    rw [hw0, hil, hro] at hE
    rw [hp1, hil, hro] at hS
    repeat' (first

      | (with_reducible refine wp_seq ?_)
      | (with_reducible refine c_region ?_)
      | (with_reducible refine wpList_nil ?_)
      | (with_reducible refine then_normal ?_)
      | (with_reducible refine wp_skip ?_)
      | (with_reducible refine block_same ?_)
      | ((with_reducible refine g_move ?_); refine s_move hE rfl rfl ?_; clear hE a; intro a hE)
      | ((with_reducible refine g_bin .neq ?_); refine s_neq hE rfl rfl rfl ?_; clear hE a; intro a hE)
      | ((with_reducible refine g_cond ?_); refine c_false hE rfl ?_)
      )
    refine s_call hE rfl rfl rfl (cXP w (hS.rdAt (k := 3) rfl)) ?_
    rintro _ w ⟨rfl, hS1⟩; clear hE a; intro a hE; replace hS := hS.frame hS1; clear hS1; try simp only [List.cons_append, List.nil_append] at hS
    revert a w
    apply cutW (M := fun a w => St w0 w [hRow 56 10 Ai (itR M).length ci ((itR M).flatMap stc), hRow 3 1 Ar (M.map roomP).length cr (ints (M.map roomP)), hRow 74 6 Aw ws.length cw (ws.flatMap Pg.cells), hPs ws] ∧ Env 233 [(182, .slice Aw ws.length cw), (6, .slice Aw ws.length cw), (10, .slice Ar (M.map roomP).length cr), (12, .slice Ai (itR M).length ci), (14, .int .u32 ((nextM M).1 : Int)), (15, .int .i64 (nextM M).2)] a)
    · intro tail w a hE hS
      obtain ⟨n1, hn1⟩ : ∃ x, x = (plR M).1.1 := ⟨_, rfl⟩
      obtain ⟨n2, hn2⟩ : ∃ x, x = (plR M).1.2 := ⟨_, rfl⟩
      rw [← hn1, ← hn2] at hE hS
      repeat' (first

        | (with_reducible refine wp_seq ?_)
        | (with_reducible refine c_region ?_)
        | (with_reducible refine wpList_nil ?_)
        | (with_reducible refine then_normal ?_)
        | ((with_reducible refine g_move ?_); refine s_move hE rfl rfl ?_; clear hE a; intro a hE)
        | ((with_reducible refine g_assign ?_); refine s_assign hE rfl rfl ?_; clear hE a; intro a hE)
        | ((with_reducible refine g_extract ?_); refine s_extract hE rfl rfl rfl ?_; clear hE a; intro a hE)
        | ((with_reducible refine g_alloc ?_); refine s_allocS hE hS rfl rfl ?_; clear hE a hS; intro g a w hE hS)
        | ((with_reducible refine g_load ?_); (first | (refine s_loadW (k := 0) hS hE rfl rfl rfl rfl ?_) | (refine s_loadW (k := 3) hS hE rfl rfl rfl rfl ?_) ); clear hE a; intro a hE)
        | ((with_reducible refine g_store ?_); (first | (refine s_storeW (k := 0) hS hE rfl rfl rfl rfl rfl (by first | (simp [Value.oneCell']; done)) ?_) ); clear hS; intro w hS; simp only [List.set_cons_zero, List.set_cons_succ, Nat.add_zero] at hS)
        )
      refine s_val hE rfl rfl rfl (r_neT hE rfl rfl (eq_spot 9998 n1 (n2 : Int) n1 (n2 : Int))) ?_
      clear hE a; intro a hE
      rw [decide_eq_true (show n1 = n1 ∧ (n2 : Int) = (n2 : Int) from ⟨rfl, rfl⟩)] at hE
      rcases hp2 with ⟨hb, he⟩ | ⟨hb, he⟩
      · rw [hb, he] at hE
        repeat' (first

          | ((with_reducible refine g_move ?_); refine s_move hE rfl rfl ?_; clear hE a; intro a hE)
          | ((with_reducible refine g_bin .eql ?_); refine s_eql hE rfl rfl rfl ?_; clear hE a; intro a hE)
          | ((with_reducible refine g_bin .neq ?_); refine s_neq hE rfl rfl rfl ?_; clear hE a; intro a hE)
          | ((with_reducible refine g_un .not ?_); refine s_notb hE rfl rfl ?_; clear hE a; intro a hE)
          | ((with_reducible refine g_bin .neq ?_); refine s_neb hE rfl rfl rfl ?_; clear hE a; intro a hE)
          | ((with_reducible refine g_guard ?_); refine gd_yes hE rfl rfl rfl ?_)
          | ((with_reducible refine g_guard ?_); refine gd_no hE rfl rfl rfl rfl ?_; clear hE a; intro a hE)
          | ((with_reducible refine g_pick ?_); refine s_pickF hE rfl rfl rfl ?_; clear hE a; intro a hE)
          )
        refine s_call hE rfl rfl rfl (cXI w (hS.rdAt (k := 4) rfl) (hPs_rdAt hS (k := 5) rfl)) ?_
        rintro _ w ⟨Ax, cx, rfl, hS1⟩; clear hE a; intro a hE; replace hS := hS.frame hS1; clear hS1; try simp only [List.cons_append, List.nil_append] at hS
        repeat' (first

          | ((with_reducible refine g_guard ?_); refine gd_yes hE rfl rfl rfl ?_)
          )
        refine s_call hE rfl rfl rfl (xsame (itR M) Ai Ax ci cx _ _ rfl rfl w hiR (hS.rdAt (k := 2) rfl) (hS.rdAt (k := 0) rfl)) ?_
        rintro _ w ⟨rfl, hS1⟩; clear hE a; intro a hE; replace hS := hS.frame hS1; clear hS1; try simp only [List.cons_append, List.nil_append] at hS
        repeat' (first

          | (with_reducible refine wp_seq ?_)
          | (with_reducible refine c_region ?_)
          | (with_reducible refine wpList_nil ?_)
          | (with_reducible refine then_normal ?_)
          | (with_reducible refine wp_skip ?_)
          | ((with_reducible refine g_move ?_); refine s_move hE rfl rfl ?_; clear hE a; intro a hE)
          | ((with_reducible refine g_un .not ?_); refine s_notb hE rfl rfl ?_; clear hE a; intro a hE)
          | ((with_reducible refine g_guard ?_); refine gd_yes hE rfl rfl rfl ?_)
          | ((with_reducible refine g_pick ?_); refine s_pickF hE rfl rfl rfl ?_; clear hE a; intro a hE)
          | ((with_reducible refine g_cond ?_); refine c_false hE rfl ?_)
          )
        exact tail _ _ ⟨((((hS.drop 0).drop 0).drop 2).drop 4).drop 4, hE.sub ⟨rfl, rfl, rfl, rfl, rfl, rfl, trivial⟩⟩
      · rw [hb, he] at hE
        repeat' (first

          | ((with_reducible refine g_move ?_); refine s_move hE rfl rfl ?_; clear hE a; intro a hE)
          | ((with_reducible refine g_bin .eql ?_); refine s_eql hE rfl rfl rfl ?_; clear hE a; intro a hE)
          | ((with_reducible refine g_bin .neq ?_); refine s_neq hE rfl rfl rfl ?_; clear hE a; intro a hE)
          | ((with_reducible refine g_un .not ?_); refine s_notb hE rfl rfl ?_; clear hE a; intro a hE)
          | ((with_reducible refine g_bin .neq ?_); refine s_neb hE rfl rfl rfl ?_; clear hE a; intro a hE)
          | ((with_reducible refine g_guard ?_); refine gd_yes hE rfl rfl rfl ?_)
          | ((with_reducible refine g_pick ?_); refine s_pickT hE rfl rfl rfl ?_; clear hE a; intro a hE)
          | ((with_reducible refine g_pick ?_); refine s_pickF hE rfl rfl rfl ?_; clear hE a; intro a hE)
          )
        refine s_call hE rfl rfl rfl (cXI w (hS.rdAt (k := 4) rfl) (hPs_rdAt hS (k := 5) rfl)) ?_
        rintro _ w ⟨Ax, cx, rfl, hS1⟩; clear hE a; intro a hE; replace hS := hS.frame hS1; clear hS1; try simp only [List.cons_append, List.nil_append] at hS
        repeat' (first

          | ((with_reducible refine g_guard ?_); refine gd_yes hE rfl rfl rfl ?_)
          )
        refine s_call hE rfl rfl rfl (xsame (itR M) Ai Ax ci cx _ _ rfl rfl w hiR (hS.rdAt (k := 2) rfl) (hS.rdAt (k := 0) rfl)) ?_
        rintro _ w ⟨rfl, hS1⟩; clear hE a; intro a hE; replace hS := hS.frame hS1; clear hS1; try simp only [List.cons_append, List.nil_append] at hS
        repeat' (first

          | (with_reducible refine wp_seq ?_)
          | (with_reducible refine c_region ?_)
          | (with_reducible refine wpList_nil ?_)
          | (with_reducible refine then_normal ?_)
          | (with_reducible refine wp_skip ?_)
          | ((with_reducible refine g_move ?_); refine s_move hE rfl rfl ?_; clear hE a; intro a hE)
          | ((with_reducible refine g_un .not ?_); refine s_notb hE rfl rfl ?_; clear hE a; intro a hE)
          | ((with_reducible refine g_guard ?_); refine gd_yes hE rfl rfl rfl ?_)
          | ((with_reducible refine g_pick ?_); refine s_pickF hE rfl rfl rfl ?_; clear hE a; intro a hE)
          | ((with_reducible refine g_cond ?_); refine c_false hE rfl ?_)
          )
        exact tail _ _ ⟨((((hS.drop 0).drop 0).drop 2).drop 4).drop 4, hE.sub ⟨rfl, rfl, rfl, rfl, rfl, rfl, trivial⟩⟩
    · rintro a w ⟨hS, hE⟩
      refine s_call hE rfl rfl rfl (cXR w (hS.rdAt (k := 2) rfl)) ?_
      rintro _ w ⟨Ay, cy, rfl, hS1⟩; clear hE a; intro a hE; replace hS := hS.frame hS1; clear hS1; try simp only [List.cons_append, List.nil_append] at hS
      rw [hnx] at hE
      have hrl : (M.map roomP).length ≤ 33 := by rw [List.length_map]; exact hM33
      clear cW cP cR cI cN cV cXP cXR cH hnx hp2 hro hil
      generalize M.map roomP = rs at hE hS hrl
      have hil2 : (ints rs).length = rs.length := List.length_map ..
      repeat' (first

        | (with_reducible refine wp_seq ?_)
        | (with_reducible refine c_region ?_)
        | (with_reducible refine wpList_nil ?_)
        | (with_reducible refine then_normal ?_)
        | (with_reducible refine wp_skip ?_)
        | (with_reducible refine wp_block ?_)
        | ((with_reducible refine g_move ?_); refine s_move hE rfl rfl ?_; clear hE a; intro a hE)
        | ((with_reducible refine g_assign ?_); refine s_assign hE rfl rfl ?_; clear hE a; intro a hE)
        | ((with_reducible refine g_bin .neq ?_); refine s_neq hE rfl rfl rfl ?_; clear hE a; intro a hE)
        | ((with_reducible refine g_blt .len ?_); refine s_len hE rfl rfl ?_; clear hE a; intro a hE)
        | ((with_reducible refine g_cond ?_); refine c_dec hE rfl (fun hc => ?_) (fun hc => ?_) <;> try omega)
        )
      refine wp_mono (?_ : Code.wp _ _ (fun e a w => e = .exit 4 ∧ St w0 w [hRow 3 1 Ay rs.length cy (ints rs), hRow 56 10 Ai (itR M).length ci ((itR M).flatMap stc), hRow 3 1 Ar rs.length cr (ints rs), hRow 74 6 Aw ws.length cw (ws.flatMap Pg.cells), hPs ws] ∧ Env 233 [(6, .slice Aw ws.length cw), (14, .int .u32 (((if topR (itR M) = 4294967295 then ((0 : Nat), (6 : Int)) else (topR (itR M) + 1, 0)).1 : Nat) : Int)), (15, .int .i64 (if topR (itR M) = 4294967295 then ((0 : Nat), (6 : Int)) else (topR (itR M) + 1, 0)).2)] a) _ _) ?_
      · refine wp_loop_ghost (fun q a w => ∃ (k : Nat), k + q = rs.length ∧ St w0 w [hRow 3 1 Ay rs.length cy (ints rs), hRow 56 10 Ai (itR M).length ci ((itR M).flatMap stc), hRow 3 1 Ar rs.length cr (ints rs), hRow 74 6 Aw ws.length cw (ws.flatMap Pg.cells), hPs ws] ∧ Env 233 [(10, .slice Ar rs.length cr), (25, .slice Ay rs.length cy), (190, .int .i64 (rs.length : Int)), (191, .int .i64 (k : Int)), (6, .slice Aw ws.length cw), (14, .int .u32 (((if topR (itR M) = 4294967295 then ((0 : Nat), (6 : Int)) else (topR (itR M) + 1, 0)).1 : Nat) : Int)), (15, .int .i64 (if topR (itR M) = 4294967295 then ((0 : Nat), (6 : Int)) else (topR (itR M) + 1, 0)).2)] a) rs.length ⟨0, by omega, hS, hE.sub ⟨rfl, rfl, rfl, rfl, rfl, rfl, rfl, trivial⟩⟩ ?_
        clear hE a hS
        rintro q a w ⟨k, hk, hS, hE⟩
        by_cases hk1 : k < rs.length
        · have hg := map_at (fun n : Nat => Value.int .i64 (n : Int)) hk1
          generalize (rs[k]'hk1) = r at hg
          repeat' (first

            | (with_reducible refine wp_seq ?_)
            | (with_reducible refine c_region ?_)
            | (with_reducible refine wpList_nil ?_)
            | (with_reducible refine then_normal ?_)
            | (with_reducible refine wp_skip ?_)
            | (with_reducible refine wp_block ?_)
            | ((with_reducible refine g_move ?_); refine s_move hE rfl rfl ?_; clear hE a; intro a hE)
            | ((with_reducible refine g_assign ?_); refine s_assign hE rfl rfl ?_; clear hE a; intro a hE)
            | ((with_reducible refine g_bin .lss ?_); refine s_lss hE rfl rfl rfl ?_; clear hE a; intro a hE)
            | ((with_reducible refine g_cond ?_); refine c_dec hE rfl (fun hc => ?_) (fun hc => ?_) <;> try omega)
            )
          refine c_ordS hS 9 ((.rd 0 (.rd 1 (.rd 2 (.rd 3 (.rd 4 (.rd 5 (.rd 6 (.rd 7 (.rd 8 .done)))))))))) mixed (by decide +kernel) ?_
          clear hS; intro w hS
          repeat' (first
            | (with_reducible refine o_rd rfl ?_)
            | (with_reducible refine o_done ?_)
            | ((with_reducible refine q_move ?_); refine d_val hE hS rfl (fun w hS => r_move hE rfl) ?_; clear hE a; intro a hE)
            | ((with_reducible refine q_bin .neq ?_); refine d_val hE hS rfl (fun w hS => r_neq hE rfl rfl) ?_; clear hE a; intro a hE)
            | ((with_reducible refine q_ia ?_); refine d_val hE hS rfl (fun w hS => r_idxR hE rfl rfl (by omega) (by omega) (by (first | exact hS.rd | exact hS.rdAt (k := 2) rfl )) (by first | omega )) ?_; clear hE a; intro a hE)
            | ((with_reducible refine q_load ?_); refine d_val hE hS rfl (fun w hS => r_loadR hE rfl (by (first | exact hS.rd | exact hS.rdAt (k := 2) rfl )) (by first | exact hg)) ?_; clear hE a; intro a hE)
            )
          repeat' (first

            | (with_reducible refine c_region ?_)
            | (with_reducible refine wpList_nil ?_)
            | (with_reducible refine then_normal ?_)
            | (with_reducible refine wp_skip ?_)
            | (with_reducible refine block_normal ?_)
            | ((with_reducible refine g_move ?_); refine s_move hE rfl rfl ?_; clear hE a; intro a hE)
            | ((with_reducible refine g_bin .add ?_); refine s_add hE rfl rfl rfl (by first  | exact wrap64_in (by omega) ) ?_; clear hE a; intro a hE)
            | ((with_reducible refine g_cond ?_); refine c_dec hE rfl (fun hc => ?_) (fun hc => ?_) <;> try omega)
            )
          exact ⟨q - 1, by omega, k + 1, by omega, hS, hE.sub ⟨rfl, rfl, rfl, rfl, rfl, rfl, rfl, trivial⟩⟩
        · obtain rfl : k = rs.length := by omega
          repeat' (first

            | (with_reducible refine wp_seq ?_)
            | (with_reducible refine c_region ?_)
            | (with_reducible refine wpList_nil ?_)
            | (with_reducible refine then_normal ?_)
            | (with_reducible refine wp_exit ?_)
            | (with_reducible refine then_exit ?_)
            | ((with_reducible refine g_bin .lss ?_); refine s_lss hE rfl rfl rfl ?_; clear hE a; intro a hE)
            | ((with_reducible refine g_cond ?_); refine c_dec hE rfl (fun hc => ?_) (fun hc => ?_) <;> try omega)
            )
          exact ⟨rfl, hS, hE.sub ⟨rfl, rfl, rfl, trivial⟩⟩
      clear hE a hS
      rintro _ a w ⟨rfl, hS, hE⟩
      repeat' (first

        | (with_reducible refine wp_seq ?_)
        | (with_reducible refine c_region ?_)
        | (with_reducible refine wpList_nil ?_)
        | (with_reducible refine then_normal ?_)
        | (with_reducible refine block_same ?_)
        | ((with_reducible refine g_move ?_); refine s_move hE rfl rfl ?_; clear hE a; intro a hE)
        | ((with_reducible refine g_assign ?_); refine s_assign hE rfl rfl ?_; clear hE a; intro a hE)
        )
      refine s_call hE rfl rfl rfl (cXI w (hS.rdAt (k := 3) rfl) (hPs_rdAt hS (k := 4) rfl)) ?_
      rintro _ w ⟨Ax, cx, rfl, hS1⟩; clear hE a; intro a hE; replace hS := hS.frame hS1; clear hS1; try simp only [List.cons_append, List.nil_append] at hS
      have hfl : ((itR M).flatMap stc).length = (itR M).length * 10 := flat_len fun x _ => stc_len x
      have hS2 := hS.only 0 rfl
      clear hS cXI; have hS := hS2; clear hS2
      generalize itR M = xs at hE hS hlt hiR hfl
      obtain ⟨nx, hnx⟩ : ∃ nx : Nat × Int, nx = if topR xs = 4294967295 then ((0 : Nat), (6 : Int)) else (topR xs + 1, 0) := ⟨_, rfl⟩
      rw [← hnx] at hE
      repeat' (first

        | (with_reducible refine wpList_nil ?_)
        | (with_reducible refine then_normal ?_)
        | (with_reducible refine wp_block ?_)
        | ((with_reducible refine g_move ?_); refine s_move hE rfl rfl ?_; clear hE a; intro a hE)
        | ((with_reducible refine g_blt .len ?_); refine s_len hE rfl rfl ?_; clear hE a; intro a hE)
        )
      refine wp_mono (?_ : Code.wp _ _ (fun e a w => e = .exit 6 ∧ St w0 w [] ∧ Env 233 [(27, .int .u32 (topR xs : Int)), (14, .int .u32 (nx.1 : Int)), (15, .int .i64 nx.2)] a) _ _) ?_
      · refine wp_loop_ghost (fun q a w => ∃ (k : Nat), k + q = xs.length ∧ St w0 w [hRow 56 10 Ax xs.length cx (xs.flatMap stc)] ∧ Env 233 [(27, .int .u32 (topR (xs.take k) : Int)), (205, .slice Ax xs.length cx), (206, .int .i64 (xs.length : Int)), (207, .int .i64 (k : Int)), (14, .int .u32 (nx.1 : Int)), (15, .int .i64 nx.2)] a) xs.length ⟨0, by omega, hS, hE.sub ⟨rfl, rfl, rfl, rfl, rfl, rfl, trivial⟩⟩ ?_
        clear hE a hS
        rintro q a w ⟨k, hk, hS, hE⟩
        by_cases hk1 : k < xs.length
        · have hseg := flat_seg (c := stc) (size := 10) (l := xs) (fun x _ => stc_len x) hk1
          have hst : topR (xs.take (k + 1)) = max (topR (xs.take k)) (xs[k]'hk1).2.r := by
            rw [List.take_succ_eq_append_getElem hk1, topR_add]
          generalize (xs[k]'hk1) = x at hseg hst
          generalize topR (xs.take k) = n at hE hst
          have hone := stc_one x
          have hcl := stc_len x
          have hmx : (if (n : Int) < (x.2.r : Int) then (x.2.r : Int) else (n : Int)) = ((topR (xs.take (k + 1)) : Nat) : Int) := by
            rw [hst]; split <;> omega
          repeat' (first

            | (with_reducible refine wp_seq ?_)
            | (with_reducible refine c_region ?_)
            | (with_reducible refine wpList_nil ?_)
            | (with_reducible refine then_normal ?_)
            | (with_reducible refine wp_skip ?_)
            | (with_reducible refine wp_block ?_)
            | (with_reducible refine block_normal ?_)
            | ((with_reducible refine g_move ?_); refine s_move hE rfl rfl ?_; clear hE a; intro a hE)
            | ((with_reducible refine g_assign ?_); refine s_assign hE rfl rfl ?_; clear hE a; intro a hE)
            | ((with_reducible refine g_bin .lss ?_); refine s_lss hE rfl rfl rfl ?_; clear hE a; intro a hE)
            | ((with_reducible refine g_bin .add ?_); refine s_add hE rfl rfl rfl (by first | exact wrap64_in (by omega) ) ?_; clear hE a; intro a hE)
            | ((with_reducible refine g_blt .max ?_); refine s_max hE rfl rfl rfl (by first | exact hmx ) ?_; clear hE a; intro a hE)
            | ((with_reducible refine g_fa ?_); refine s_fieldL hE rfl rfl rfl ?_; clear hE a; intro a hE)
            | ((with_reducible refine g_cond ?_); refine c_dec hE rfl (fun hc => ?_) (fun hc => ?_) <;> try omega)
            | ((with_reducible refine g_ia ?_); refine s_idxR hE rfl rfl (by omega) (by omega) (by (first | exact hS.rd )) (by first | omega ) rfl ?_; clear hE a; intro a hE)
            | ((with_reducible refine g_load ?_); (first | (refine s_loadB (k := 0) hS hE rfl rfl rfl rfl ?_) ); clear hE a; intro a hE)
            | ((with_reducible refine g_alloc ?_); refine s_allocS hE hS rfl rfl ?_; clear hE a hS; intro g a w hE hS)
            | ((with_reducible refine g_store ?_); (first | (refine s_storeW (k := 0) hS hE rfl rfl rfl rfl rfl (by first | assumption ) ?_) ); clear hS; intro w hS; simp only [List.set_cons_zero, List.set_cons_succ, Nat.add_zero] at hS)
            | ((with_reducible refine g_load ?_); refine s_elemR hE rfl (by (first | exact hS.rd )) (by first | exact hseg ) (by first | rfl ) (by rfl) rfl ?_; clear hE a; intro a hE))
          exact ⟨q - 1, by omega, k + 1, by omega, hS.drop 0, hE.sub ⟨rfl, rfl, rfl, rfl, rfl, rfl, trivial⟩⟩
        · obtain rfl : k = xs.length := by omega
          rw [List.take_of_length_le (Nat.le_refl _)] at hE
          repeat' (first

            | (with_reducible refine wp_seq ?_)
            | (with_reducible refine c_region ?_)
            | (with_reducible refine wpList_nil ?_)
            | (with_reducible refine then_normal ?_)
            | (with_reducible refine wp_exit ?_)
            | (with_reducible refine then_exit ?_)
            | ((with_reducible refine g_bin .lss ?_); refine s_lss hE rfl rfl rfl ?_; clear hE a; intro a hE)
            | ((with_reducible refine g_cond ?_); refine c_dec hE rfl (fun hc => ?_) (fun hc => ?_) <;> try omega)
            )
          exact ⟨rfl, hS.nil, hE.sub ⟨rfl, rfl, rfl, trivial⟩⟩
      clear hE a hS
      rintro _ a w ⟨rfl, hS, hE⟩
      generalize topR xs = n at hE hlt hnx
      by_cases hn : n = 4294967295
      · rw [if_pos hn] at hnx
        subst hn
        rw [hnx] at hE
        dsimp only at hE
        repeat' (first

          | (with_reducible refine wp_seq ?_)
          | (with_reducible refine c_region ?_)
          | (with_reducible refine wpList_nil ?_)
          | (with_reducible refine then_normal ?_)
          | (with_reducible refine wp_ret ?_)
          | (with_reducible refine then_ret ?_)
          | (with_reducible refine block_same ?_)
          | ((with_reducible refine g_move ?_); refine s_move hE rfl rfl ?_; clear hE a; intro a hE)
          | ((with_reducible refine g_assign ?_); refine s_assign hE rfl rfl ?_; clear hE a; intro a hE)
          | ((with_reducible refine g_bin .eql ?_); refine s_eql hE rfl rfl rfl ?_; clear hE a; intro a hE)
          | ((with_reducible refine g_guard ?_); refine gd_yes hE rfl rfl rfl ?_)
          | ((with_reducible refine g_pick ?_); refine s_pickT hE rfl rfl rfl ?_; clear hE a; intro a hE)
          | ((with_reducible refine g_cond ?_); refine c_true hE rfl ?_)
          )
        exact ret1 hE rfl rfl ⟨rfl, hS⟩
      · have e1 : IntKind.u32.wrap ((n : Int) + 1) = ((n + 1 : Nat) : Int) := by rw [wrap_u32_in (by omega)]; rfl
        rw [if_neg hn] at hnx
        rw [hnx] at hE
        dsimp only at hE
        repeat' (first

          | (with_reducible refine wp_seq ?_)
          | (with_reducible refine c_region ?_)
          | (with_reducible refine wpList_nil ?_)
          | (with_reducible refine then_normal ?_)
          | (with_reducible refine wp_skip ?_)
          | (with_reducible refine wp_ret ?_)
          | (with_reducible refine block_same ?_)
          | ((with_reducible refine g_move ?_); refine s_move hE rfl rfl ?_; clear hE a; intro a hE)
          | ((with_reducible refine g_assign ?_); refine s_assign hE rfl rfl ?_; clear hE a; intro a hE)
          | ((with_reducible refine g_bin .eql ?_); refine s_eql hE rfl rfl rfl ?_; clear hE a; intro a hE)
          | ((with_reducible refine g_bin .add ?_); refine s_add hE rfl rfl rfl (by first | exact e1 ) ?_; clear hE a; intro a hE)
          | ((with_reducible refine g_guard ?_); refine gd_yes hE rfl rfl rfl ?_)
          | ((with_reducible refine g_pick ?_); refine s_pickT hE rfl rfl rfl ?_; clear hE a; intro a hE)
          | ((with_reducible refine g_cond ?_); refine c_dec hE rfl (fun hc => ?_) (fun hc => ?_) <;> try omega)
          )
        exact ret1 hE rfl rfl ⟨by simp, hS⟩
  · have e1 : placeM M = ((0, 0), wrongM M) := if_neg hw0
    have e2 : roomM M = [] := if_neg hw0
    have e3 : itemsM M = [] := if_neg hw0
    have e4 : nextM M = (0, wrongM M) := if_neg hw0
    rw [e1, e2, e3, e4] at hE
    rw [e1, e2, e3] at hS
    generalize wrongM M = e at hE hS hw0
    dsimp only at hS hE
    repeat' (first

      | (with_reducible refine wp_seq ?_)
      | (with_reducible refine c_region ?_)
      | (with_reducible refine wpList_nil ?_)
      | (with_reducible refine then_normal ?_)
      | (with_reducible refine block_same ?_)
      | ((with_reducible refine g_move ?_); refine s_move hE rfl rfl ?_; clear hE a; intro a hE)
      | ((with_reducible refine g_bin .eql ?_); refine s_eql hE rfl rfl rfl ?_; clear hE a; intro a hE)
      | ((with_reducible refine g_bin .neq ?_); refine s_neq hE rfl rfl rfl ?_; clear hE a; intro a hE)
      | ((with_reducible refine g_guard ?_); refine gd_yes hE rfl rfl rfl ?_)
      | ((with_reducible refine g_guard ?_); refine gd_dec hE rfl rfl (fun hc hE2 => ?_) (fun hc hE2 => ?_) <;> (try omega) <;> (replace hE := hE2; clear hE2))
      | ((with_reducible refine g_pick ?_); refine s_pickT hE rfl rfl rfl ?_; clear hE a; intro a hE)
      | ((with_reducible refine g_cond ?_); refine c_dec hE rfl (fun hc => ?_) (fun hc => ?_) <;> try omega)
      | ((with_reducible refine g_build ?_); refine s_build [_, _] hE rfl rfl rfl ?_; clear hE a; intro a hE)
      | ((with_reducible refine g_load ?_); (first | (refine s_loadW (k := 2) hS hE rfl rfl rfl rfl ?_) ); clear hE a; intro a hE)
      )
    refine s_val hE rfl rfl rfl (r_eqT hE rfl rfl (eq_spot 9998 0 0 0 0)) ?_
    clear hE a; intro a hE
    rw [decide_eq_true (show (0 : Int) = 0 ∧ (0 : Int) = 0 from ⟨rfl, rfl⟩)] at hE
    repeat' (first

      | (with_reducible refine wpList_nil ?_)
      | (with_reducible refine then_normal ?_)
      | (with_reducible refine wp_ret ?_)
      | (with_reducible refine then_ret ?_)
      | ((with_reducible refine g_move ?_); refine s_move hE rfl rfl ?_; clear hE a; intro a hE)
      | ((with_reducible refine g_assign ?_); refine s_assign hE rfl rfl ?_; clear hE a; intro a hE)
      | ((with_reducible refine g_bin .eql ?_); refine s_eql hE rfl rfl rfl ?_; clear hE a; intro a hE)
      | ((with_reducible refine g_bin .add ?_); refine s_add hE rfl rfl rfl (by first  | rfl) ?_; clear hE a; intro a hE)
      | ((with_reducible refine g_blt .len ?_); refine s_len hE rfl rfl ?_; clear hE a; intro a hE)
      | ((with_reducible refine g_guard ?_); refine gd_yes hE rfl rfl rfl ?_)
      | ((with_reducible refine g_pick ?_); refine s_pickT hE rfl rfl rfl ?_; clear hE a; intro a hE)
      )
    exact ret1 hE rfl rfl ⟨rfl, hS.nil⟩
end
end Go.Proofs.Ytaiahigeejodaaa
