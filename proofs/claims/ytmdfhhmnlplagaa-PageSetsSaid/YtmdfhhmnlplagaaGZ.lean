/-
  The law PageSets.
-/
import Derived.Test.YtmdfhhmnlplagaaGY
namespace Go.Proofs.Ytmdfhhmnlplagaa
open Go.RowKit
set_option linter.unusedVariables false
set_option linter.unusedSimpArgs false
attribute [local irreducible] Rd hRow hBlk hRd hRdr rowsP Fn hMarks

/-- what follows is shown once, for whatever leads to it -/
theorem cutAt {P : Program} {C : Code} {Q : Exit → Act → World → Prop} {G : Prop} (M : Act → World → Prop) (main : (∀ a w, M a w → C.wp P Q a w) → G) (tail : ∀ a w, M a w → C.wp P Q a w) : G := main tail
theorem gotM_le {p : PM} (h : p.short53) (i : Int) : (gotM p i).length ≤ 53 := by
  unfold gotM
  split
  · rw [List.getD_eq_getElem?_getD]
    by_cases hi : i.toNat < p.s.length
    · rw [List.getElem?_eq_getElem hi]
      exact h _ (List.getElem_mem hi)
    · rw [List.getElem?_eq_none (by omega)]
      exact Nat.zero_le _
  · exact Nat.zero_le _
section
variable {H : List HP} {w0 w : World}
set_option maxHeartbeats 16000000
theorem law_PageSets (y : PT) (z : LUT) (w0 : World) (h : y.ok w0) (h2 : z.ok w0) : Fn Try.prog 7 [.agg y.cells.toArray, .slice z.1 z.2.2.length z.2.1] w0 fun v w' => v = .bool true ∧ St w0 w' [] := by
  rw [PT.cells_pg h, ← LUT.len]
  have hr0 := PT.pg_rd h
  have hp0 := PT.pg_wf h
  generalize y.pg = p0 at hr0 hp0
  have hr := LUT.rd h2
  have hall := LUT.all h2
  have hcap : z.pus.length ≤ z.2.1 := by rw [LUT.len]; exact h2.2.1
  have hbig : z.pus.length ≤ 140737488351232 := by have := h2.2.2.2.1; rw [LUT.len]; omega
  generalize z.pus = l at hr hall hcap hbig
  generalize z.1 = A at hr
  generalize z.2.1 = c at hcap
  have hfl : (l.flatMap Pu.cells).length = l.length * 3 := flat_len (pu_len l)
  have hcl0 : p0.cells.length = 6 := by simp [hp0.s4]
  refine enter 157 Try.func7 rfl rfl rfl ?_
  intro a hE
  have hS := St.start w0
  refine wp_seq ?_
  refine c_region ?_
  refine s_boxS hE hS rfl rfl ?_
  clear hE a hS; intro b2 a w hE hS
  repeat' (first

    | (with_reducible refine wp_seq ?_)
    | (with_reducible refine c_region ?_)
    | (with_reducible refine wpList_nil ?_)
    | (with_reducible refine then_normal ?_)
    | ((with_reducible refine g_assign ?_); refine s_assign hE rfl rfl ?_; clear hE a; intro a hE)
    )
  refine s_call hE rfl rfl rfl (wakes w) ?_
  rintro _ w ⟨rfl, hS1⟩; clear hE a; intro a hE; replace hS := hS.frame hS1; clear hS1; try simp only [List.cons_append, List.nil_append] at hS
  repeat' (first

    | (with_reducible refine wp_seq ?_)
    | (with_reducible refine c_region ?_)
    | (with_reducible refine wpList_nil ?_)
    | (with_reducible refine then_normal ?_)
    | (with_reducible refine wp_skip ?_)
    | ((with_reducible refine g_un .not ?_); refine s_notb hE rfl rfl ?_; clear hE a; intro a hE)
    | ((with_reducible refine g_cond ?_); refine c_false hE rfl ?_)
    | ((with_reducible refine g_load ?_); (first | (refine s_loadW (k := 0) hS hE rfl rfl (by first | assumption ) rfl ?_) ); clear hE a; intro a hE)
    )
  refine s_call hE rfl rfl rfl (short p0 hp0 (hr0.st hS)) ?_
  rintro _ w ⟨p, rfl, hpm, hpw, hS1⟩; clear hE a; intro a hE; replace hS := hS.frame hS1; clear hS1; try simp only [List.cons_append, List.nil_append] at hS
  have hpl : p.cells.length = 6 := by simp [hpw.s4]
  have hpo := Pg.cells_one p
  have hp53 : p.m.short53 := by rw [hpm]; exact PM.short_short _
  clear hpm
  repeat' (first

    | (with_reducible refine wp_seq ?_)
    | (with_reducible refine c_region ?_)
    | (with_reducible refine wpList_nil ?_)
    | (with_reducible refine then_normal ?_)
    | (with_reducible refine wp_block ?_)
    | ((with_reducible refine g_move ?_); refine s_move hE rfl rfl ?_; clear hE a; intro a hE)
    | ((with_reducible refine g_blt .len ?_); refine s_len hE rfl rfl ?_; clear hE a; intro a hE)
    | ((with_reducible refine g_store ?_); (first | (refine s_storeW (k := 1) hS hE rfl rfl rfl (by assumption) (by first | assumption) (by first | assumption) ?_) ); clear hS; intro w hS; simp only [List.set_cons_zero, List.set_cons_succ, Nat.add_zero] at hS)
    )
  refine wp_loop_ghost (fun q a w => ∃ (k : Nat) (p : Pg), k + q = l.length ∧ p.wf ∧ p.m.short53 ∧ St w0 w [rowsP p.s, hBlk b2 30 p.cells] ∧ Env 157 [(23, .slice A l.length c), (24, .int .i64 (l.length : Int)), (25, .int .i64 (k : Int)), (2, .pointer (some ⟨b2, 0, none⟩))] a) l.length ⟨0, p, by omega, hpw, hp53, hS, hE.sub ⟨rfl, rfl, rfl, rfl, trivial⟩⟩ ?_
  clear hE a hS hp53 hpo hpl hpw p
  rintro q a w ⟨k, p, hk, hpw, hp53, hS, hE⟩
  by_cases hk1 : k < l.length
  · by_cases hk12 : k = 12
    · subst hk12
      have hseg := flat_seg (c := Pu.cells) (size := 3) (l := l) (pu_len l) hk1
      repeat' (first

        | (with_reducible refine wp_seq ?_)
        | (with_reducible refine c_region ?_)
        | (with_reducible refine wpList_nil ?_)
        | (with_reducible refine then_normal ?_)
        | (with_reducible refine wp_skip ?_)
        | (with_reducible refine wp_ret ?_)
        | (with_reducible refine wp_block ?_)
        | (with_reducible refine wp_exit ?_)
        | (with_reducible refine then_exit ?_)
        | (with_reducible refine block_same ?_)
        | ((with_reducible refine block_other ?_ ?_); rfl)
        | ((with_reducible refine g_move ?_); refine s_move hE rfl rfl ?_; clear hE a; intro a hE)
        | ((with_reducible refine g_assign ?_); refine s_assign hE rfl rfl ?_; clear hE a; intro a hE)
        | ((with_reducible refine g_bin .lss ?_); refine s_lss hE rfl rfl rfl ?_; clear hE a; intro a hE)
        | ((with_reducible refine g_bin .eql ?_); refine s_eql hE rfl rfl rfl ?_; clear hE a; intro a hE)
        | ((with_reducible refine g_cond ?_); refine c_true hE rfl ?_)
        | ((with_reducible refine g_cond ?_); refine c_dec hE rfl (fun hc => ?_) (fun hc => ?_) <;> try omega)
        | ((with_reducible refine g_ia ?_); refine s_idxR hE rfl rfl (by omega) (by omega) (by (first | exact Rd.st (by assumption) hS )) (by first | omega ) rfl ?_; clear hE a; intro a hE)
        | ((with_reducible refine g_alloc ?_); refine s_allocS hE hS rfl rfl ?_; clear hE a hS; intro g a w hE hS)
        | ((with_reducible refine g_store ?_); (first | (refine s_storeW (k := 0) hS hE rfl rfl rfl rfl rfl (by first | (simp [Value.oneCell']; done)) ?_) ); clear hS; intro w hS; simp only [List.set_cons_zero, List.set_cons_succ, Nat.add_zero] at hS)
        | ((with_reducible refine g_load ?_); refine s_elemR hE rfl (by (first | exact Rd.st (by assumption) hS )) (by first | exact hseg ) (by first | rfl ) (by rfl) rfl ?_; clear hE a; intro a hE))
      exact ret1 hE rfl rfl ⟨rfl, hS.nil⟩
    · have hseg := flat_seg (c := Pu.cells) (size := 3) (l := l) (pu_len l) hk1
      obtain ⟨⟨hx1, ⟨hx2, hx3⟩, hx4, hx5⟩, hxr⟩ := hall _ (List.getElem_mem hk1)
      generalize (l[k]'hk1) = x at hseg hx1 hx2 hx3 hx4 hx5 hxr
      have hpl : p.cells.length = 6 := by simp [hpw.s4]
      have hpo := Pg.cells_one p
      have hmin : (if (60 : Int) < (x.b.length : Int) then (60 : Int) else (x.b.length : Int)) = ((x.b.take 60).length : Int) := by
        rw [List.length_take]; split <;> omega
      have hb60 : (x.b.take 60).length ≤ 60 ∧ (x.b.take 60).length ≤ x.b.length := by rw [List.length_take]; omega
      have hrb : Rd w0 x.A (bys (x.b.take 60)) := by
        have := hxr.take 60
        have e : bys (x.b.take 60) = (bys x.b).take 60 := List.map_take
        rw [e]; exact this
      have hbb : Bs (x.b.take 60) := fun c hc => hx4 c (List.mem_of_mem_take hc)
      have hbl1 : (bys (x.b.take 60)).length = (x.b.take 60).length * 1 := by rw [bys_length, Nat.mul_one]
      repeat' (first

        | (with_reducible refine wp_seq ?_)
        | (with_reducible refine c_region ?_)
        | (with_reducible refine wpList_nil ?_)
        | (with_reducible refine then_normal ?_)
        | (with_reducible refine wp_skip ?_)
        | (with_reducible refine wp_block ?_)
        | ((with_reducible refine g_move ?_); refine s_move hE rfl rfl ?_; clear hE a; intro a hE)
        | ((with_reducible refine g_assign ?_); refine s_assign hE rfl rfl ?_; clear hE a; intro a hE)
        | ((with_reducible refine g_bin .lss ?_); refine s_lss hE rfl rfl rfl ?_; clear hE a; intro a hE)
        | ((with_reducible refine g_bin .eql ?_); refine s_eql hE rfl rfl rfl ?_; clear hE a; intro a hE)
        | ((with_reducible refine g_cond ?_); refine c_dec hE rfl (fun hc => ?_) (fun hc => ?_) <;> try omega)
        | ((with_reducible refine g_ia ?_); refine s_idxR hE rfl rfl (by omega) (by omega) (by (first | exact Rd.st (by assumption) hS )) (by first | omega ) rfl ?_; clear hE a; intro a hE)
        | ((with_reducible refine g_alloc ?_); refine s_allocS hE hS rfl rfl ?_; clear hE a hS; intro g a w hE hS)
        | ((with_reducible refine g_store ?_); (first | (refine s_storeW (k := 0) hS hE rfl rfl rfl rfl rfl (by first | (simp [Value.oneCell']; done)) ?_) ); clear hS; intro w hS; simp only [List.set_cons_zero, List.set_cons_succ, Nat.add_zero] at hS)
        | ((with_reducible refine g_load ?_); (first | (refine s_loadW (k := 2) hS hE rfl rfl (by first | assumption ) rfl ?_) ); clear hE a; intro a hE)
        | ((with_reducible refine g_load ?_); refine s_elemR hE rfl (by (first | exact Rd.st (by assumption) hS )) (by first | exact hseg ) (by first | rfl ) (by rfl) rfl ?_; clear hE a; intro a hE))
      refine s_call hE rfl rfl rfl (short p hpw (rowsP_rdAt hS (k := 1) rfl)) ?_
      rintro _ w ⟨was, rfl, hwm, hww, hS1⟩; clear hE a; intro a hE; replace hS := hS.frame hS1; clear hS1; try simp only [List.cons_append, List.nil_append] at hS
      rw [PM.short_of hp53] at hwm
      have hwl : was.cells.length = 6 := by simp [hww.s4]
      have hwo := Pg.cells_one was
      obtain ⟨g6, rfl⟩ : ∃ x, x = g := ⟨g, rfl⟩
      repeat' (first
        | ((with_reducible refine g_blt .append ?_); refine s_appendAt0 (k := 0) (size := 1) (bytes := 1) hE hS rfl rfl rfl (hrb.st hS) hbl1 (bys_one _) (by omega) rfl rfl rfl rfl ?_; clear hE a hS; intro A8 c8 a w hE hS; simp only [List.set_cons_zero] at hS)
        | (with_reducible refine wp_seq ?_)
        | (with_reducible refine c_region ?_)
        | (with_reducible refine wpList_nil ?_)
        | (with_reducible refine then_normal ?_)
        | ((with_reducible refine g_move ?_); refine s_move hE rfl rfl ?_; clear hE a; intro a hE)
        | ((with_reducible refine g_assign ?_); refine s_assign hE rfl rfl ?_; clear hE a; intro a hE)
        | ((with_reducible refine g_blt .len ?_); refine s_len hE rfl rfl ?_; clear hE a; intro a hE)
        | ((with_reducible refine g_blt .min ?_); refine s_min hE rfl rfl rfl (by first | exact hmin ) ?_; clear hE a; intro a hE)
        | ((with_reducible refine g_fa ?_); refine s_fieldL hE rfl rfl rfl ?_; clear hE a; intro a hE)
        | ((with_reducible refine g_load ?_); (first | (refine s_loadB (k := 3) hS hE rfl rfl rfl rfl ?_) ); clear hE a; intro a hE)
        | ((with_reducible refine g_lit ?_); refine s_lit hE hS rfl rfl rfl rfl rfl (by first | (simp [Value.oneCell']; done)) rfl ?_; clear hE a hS; intro g a w hE hS)
        | ((with_reducible refine g_alloc ?_); refine s_allocS hE hS rfl rfl ?_; clear hE a hS; intro g a w hE hS)
        | ((with_reducible refine g_sliceH ?_); refine s_val hE rfl rfl rfl (r_cutH hE rfl rfl (by omega)) ?_; clear hE a; intro a hE)
        | ((with_reducible refine g_load ?_); (first | (refine s_loadW (k := 5) hS hE rfl rfl (by first | assumption ) rfl ?_) ); clear hE a; intro a hE)
        | ((with_reducible refine g_store ?_); (first | (refine s_storeW (k := 0) hS hE rfl rfl rfl (by assumption) (by first | rfl ) (by first | assumption) ?_) ); clear hS; intro w hS; simp only [List.set_cons_zero, List.set_cons_succ, Nat.add_zero] at hS)
        )
      rw [Int.toNat_natCast] at hE hS
      generalize x.b.take 60 = b at hE hS hb60 hbb
      clear hrb hbl1 hmin
      obtain ⟨g7, hS2, hE2⟩ : ∃ g7, St w0 w [hRow 5 1 A8 b.length c8 (bys b), hBlk g7 30 was.cells, rowsP was.s, hBlk g6 58 x.cells, rowsP p.s, hBlk b2 30 p.cells] ∧ Env 157 [(44, .agg p.cells.toArray), (46, .int .i64 x.i), (47, .slice A8 b.length c8), (49, .int .u64 (x.l : Int)), (8, .slice A8 b.length c8), (7, .pointer (some ⟨g7, 0, none⟩)), (6, .pointer (some ⟨g6, 0, none⟩)), (23, .slice A l.length c), (24, .int .i64 (l.length : Int)), (25, .int .i64 (k : Int)), (2, .pointer (some ⟨b2, 0, none⟩))] a := ⟨_, hS, hE.sub ⟨rfl, rfl, rfl, rfl, rfl, rfl, rfl, rfl, rfl, rfl, rfl, trivial⟩⟩
      clear hS hE; have hS := hS2; have hE := hE2; clear hS2 hE2
      refine s_call hE rfl rfl rfl (set_any p hpw (rowsP_rdAt hS (k := 4) rfl) x.i A8 c8 b b.length rfl (hS.rdAt (k := 0) rfl) hbb (by omega) x.l hx5) ?_
      rintro _ w ⟨q9, rfl, hq9w, hq9m, hS1⟩; clear hE a; intro a hE; replace hS := hS.frame hS1; clear hS1; try simp only [List.cons_append, List.nil_append] at hS
      have hq9l : q9.cells.length = 6 := by simp [hq9w.s4]
      have hq9o := Pg.cells_one q9
      repeat' (first

        | (with_reducible refine wp_seq ?_)
        | (with_reducible refine c_region ?_)
        | (with_reducible refine wpList_nil ?_)
        | (with_reducible refine then_normal ?_)
        | ((with_reducible refine g_move ?_); refine s_move hE rfl rfl ?_; clear hE a; intro a hE)
        | ((with_reducible refine g_assign ?_); refine s_assign hE rfl rfl ?_; clear hE a; intro a hE)
        | ((with_reducible refine g_extract ?_); refine s_extract hE rfl rfl rfl ?_; clear hE a; intro a hE)
        | ((with_reducible refine g_fa ?_); refine s_fieldL hE rfl rfl rfl ?_; clear hE a; intro a hE)
        | ((with_reducible refine g_load ?_); (first | (refine s_loadB (k := 5) hS hE rfl rfl rfl rfl ?_) ); clear hE a; intro a hE)
        | ((with_reducible refine g_alloc ?_); refine s_allocS hE hS rfl rfl ?_; clear hE a hS; intro g a w hE hS)
        | ((with_reducible refine g_load ?_); (first | (refine s_loadW (k := 7) hS hE rfl rfl (by first | assumption ) rfl ?_) ); clear hE a; intro a hE)
        | ((with_reducible refine g_store ?_); (first | (refine s_storeW (k := 0) hS hE rfl rfl rfl (by assumption) (by first | rfl ) (by first | assumption) ?_) ); clear hS; intro w hS; simp only [List.set_cons_zero, List.set_cons_succ, Nat.add_zero] at hS)
        )
      obtain ⟨g9, rfl⟩ : ∃ x, x = g := ⟨g, rfl⟩
      refine s_call hE rfl rfl rfl (get_any p hpw (rowsP_rdAt hS (k := 6) rfl) x.i) ?_
      rintro _ w ⟨A11, c11, rfl, hS1⟩; clear hE a; intro a hE; replace hS := hS.frame hS1; clear hS1; try simp only [List.cons_append, List.nil_append] at hS
      have hgb := gotM_bs p hpw x.i
      repeat' (first

        | (with_reducible refine wp_seq ?_)
        | (with_reducible refine c_region ?_)
        | (with_reducible refine wpList_nil ?_)
        | (with_reducible refine then_normal ?_)
        | ((with_reducible refine g_move ?_); refine s_move hE rfl rfl ?_; clear hE a; intro a hE)
        | ((with_reducible refine g_assign ?_); refine s_assign hE rfl rfl ?_; clear hE a; intro a hE)
        | ((with_reducible refine g_extract ?_); refine s_extract hE rfl rfl rfl ?_; clear hE a; intro a hE)
        | ((with_reducible refine g_load ?_); (first | (refine s_loadW (k := 4) hS hE rfl rfl (by first | assumption ) rfl ?_) ); clear hE a; intro a hE)
        )
      refine s_call hE rfl rfl rfl (short was hww (rowsP_rdAt hS (k := 5) rfl)) ?_
      rintro _ w ⟨want, rfl, htm, htw, hS1⟩; clear hE a; intro a hE; replace hS := hS.frame hS1; clear hS1; try simp only [List.cons_append, List.nil_append] at hS
      rw [hwm, PM.short_of hp53] at htm
      have htl : want.cells.length = 6 := by simp [htw.s4]
      have hto := Pg.cells_one want
      repeat' (first

        | (with_reducible refine wp_seq ?_)
        | (with_reducible refine c_region ?_)
        | (with_reducible refine wpList_nil ?_)
        | (with_reducible refine then_normal ?_)
        | (with_reducible refine wp_block ?_)
        | ((with_reducible refine g_assign ?_); refine s_assign hE rfl rfl ?_; clear hE a; intro a hE)
        | ((with_reducible refine g_alloc ?_); refine s_allocS hE hS rfl rfl ?_; clear hE a hS; intro g a w hE hS)
        | ((with_reducible refine g_load ?_); (first | (refine s_loadW (k := 6) hS hE rfl rfl (by first | assumption ) rfl ?_) ); clear hE a; intro a hE)
        | ((with_reducible refine g_store ?_); (first | (refine s_storeW (k := 0) hS hE rfl rfl rfl (by assumption) (by first | rfl ) (by first | assumption) ?_) ); clear hS; intro w hS; simp only [List.set_cons_zero, List.set_cons_succ, Nat.add_zero] at hS)
        )
      obtain ⟨g15, rfl⟩ : ∃ x, x = g := ⟨g, rfl⟩
      refine s_call hE rfl rfl rfl (rright was hww w) ?_
      rintro _ w ⟨rfl, hS1⟩; clear hE a; intro a hE; replace hS := hS.frame hS1; clear hS1; try simp only [List.cons_append, List.nil_append] at hS
      revert a w
      apply cutAt (M := fun a w => ∃ (want : Pg) (A16 : Option Addr) (c16 : Nat), want.wf ∧ want.m = q9.m ∧ (setE p.m x.i b.length = 0 → want.m.short53) ∧ (∀ w', (∀ s ∈ was.s, Rd w' s.A (bys s.b)) → Rd w' A16 (bys (gotM p.m x.i))) ∧ St w0 w [rowsP want.s, hBlk g15 30 want.cells, hRow 5 1 A11 (gotM p.m x.i).length c11 (bys (gotM p.m x.i)), hBlk g9 30 q9.cells, rowsP q9.s, hRow 5 1 A8 b.length c8 (bys b), hBlk g7 30 was.cells, rowsP was.s, rowsP p.s, hBlk b2 30 p.cells] ∧ Env 157 [(10, .int .i64 (setE p.m x.i b.length)), (12, .int .i64 (getE p.m x.i)), (13, .int .i64 (setE p.m x.i b.length)), (14, .int .i64 (getE p.m x.i)), (11, .slice A11 (gotM p.m x.i).length c11), (16, .slice A16 (gotM p.m x.i).length c16), (9, .pointer (some ⟨g9, 0, none⟩)), (15, .pointer (some ⟨g15, 0, none⟩)), (7, .pointer (some ⟨g7, 0, none⟩)), (8, .slice A8 b.length c8), (23, .slice A l.length c), (24, .int .i64 (l.length : Int)), (25, .int .i64 (k : Int)), (2, .pointer (some ⟨b2, 0, none⟩))] a)
      · intro tail w a hE hS
        by_cases hri : p.m.right = true
        · rw [hwm, hri] at hE
          by_cases hrg : x.i < 0 ∨ 4 ≤ x.i
          · have eS : setE p.m x.i b.length = 2 := by unfold setE; rw [hri, if_neg (by decide), if_pos hrg]
            have eG : getE p.m x.i = 2 := by unfold getE; rw [hri, if_neg (by decide), if_pos hrg]
            have hgot : gotM p.m x.i = [] := by unfold gotM; rw [eG, if_neg (by decide)]
            rcases hrg with hrg | hrg
            · repeat' (first

                | (with_reducible refine wp_seq ?_)
                | (with_reducible refine c_region ?_)
                | (with_reducible refine wpList_nil ?_)
                | (with_reducible refine then_normal ?_)
                | (with_reducible refine block_normal ?_)
                | ((with_reducible refine g_move ?_); refine s_move hE rfl rfl ?_; clear hE a; intro a hE)
                | ((with_reducible refine g_assign ?_); refine s_assign hE rfl rfl ?_; clear hE a; intro a hE)
                | ((with_reducible refine g_bin .lss ?_); refine s_lss hE rfl rfl rfl ?_; clear hE a; intro a hE)
                | ((with_reducible refine g_bin .neq ?_); refine s_neq hE rfl rfl rfl ?_; clear hE a; intro a hE)
                | ((with_reducible refine g_un .not ?_); refine s_notb hE rfl rfl ?_; clear hE a; intro a hE)
                | ((with_reducible refine g_fa ?_); refine s_fieldL hE rfl rfl rfl ?_; clear hE a; intro a hE)
                | ((with_reducible refine g_guard ?_); refine gd_no hE rfl rfl rfl rfl ?_; clear hE a; intro a hE)
                | ((with_reducible refine g_guard ?_); refine gd_dec hE rfl rfl (fun hc hE2 => ?_) (fun hc hE2 => ?_) <;> (try omega) <;> (replace hE := hE2; clear hE2))
                | ((with_reducible refine g_pick ?_); refine s_pickT hE rfl rfl rfl ?_; clear hE a; intro a hE)
                | ((with_reducible refine g_cond ?_); refine c_true hE rfl ?_)
                | ((with_reducible refine g_cond ?_); refine c_false hE rfl ?_)
                | ((with_reducible refine g_load ?_); (first | (refine s_loadB (k := 8) hS hE rfl rfl rfl rfl ?_) ); clear hE a; intro a hE)
                | ((with_reducible refine g_build ?_); refine s_build [_, _, _, _, _, _] hE rfl rfl rfl ?_; clear hE a; intro a hE)
                )
              refine g_store ?_
              refine s_storeW (k := 0) (vs := Pg.zero.cells) hS hE rfl rfl rfl rfl htl (Pg.cells_one Pg.zero) ?_
              clear hS; intro w hS
              simp only [List.set_cons_zero, List.set_cons_succ] at hS
              repeat' (first

                | (with_reducible refine wp_seq ?_)
                | (with_reducible refine wpList_nil ?_)
                | (with_reducible refine then_normal ?_)
                )
              exact tail a w ⟨Pg.zero, none, 0, Pg.zero_wf, by rw [hq9m, if_neg (by rw [eS]; decide)], fun h0 => absurd h0 (by rw [eS]; decide), fun _ _ => by rw [hgot]; exact Rd.nil, rowsP_nil4 ((hS.drop 8).drop 1), hE.sub ⟨rfl, rfl, by rw [eS]; rfl, by rw [eG]; rfl, rfl, by rw [hgot]; rfl, rfl, rfl, rfl, rfl, rfl, rfl, rfl, rfl, trivial⟩⟩
            · repeat' (first

                | (with_reducible refine wp_seq ?_)
                | (with_reducible refine c_region ?_)
                | (with_reducible refine wpList_nil ?_)
                | (with_reducible refine then_normal ?_)
                | (with_reducible refine block_normal ?_)
                | ((with_reducible refine g_move ?_); refine s_move hE rfl rfl ?_; clear hE a; intro a hE)
                | ((with_reducible refine g_assign ?_); refine s_assign hE rfl rfl ?_; clear hE a; intro a hE)
                | ((with_reducible refine g_bin .lss ?_); refine s_lss hE rfl rfl rfl ?_; clear hE a; intro a hE)
                | ((with_reducible refine g_bin .geq ?_); refine s_geq hE rfl rfl rfl ?_; clear hE a; intro a hE)
                | ((with_reducible refine g_bin .neq ?_); refine s_neq hE rfl rfl rfl ?_; clear hE a; intro a hE)
                | ((with_reducible refine g_un .not ?_); refine s_notb hE rfl rfl ?_; clear hE a; intro a hE)
                | ((with_reducible refine g_fa ?_); refine s_fieldL hE rfl rfl rfl ?_; clear hE a; intro a hE)
                | ((with_reducible refine g_guard ?_); refine gd_yes hE rfl rfl rfl ?_)
                | ((with_reducible refine g_guard ?_); refine gd_dec hE rfl rfl (fun hc hE2 => ?_) (fun hc hE2 => ?_) <;> (try omega) <;> (replace hE := hE2; clear hE2))
                | ((with_reducible refine g_pick ?_); refine s_pickF hE rfl rfl rfl ?_; clear hE a; intro a hE)
                | ((with_reducible refine g_cond ?_); refine c_true hE rfl ?_)
                | ((with_reducible refine g_cond ?_); refine c_false hE rfl ?_)
                | ((with_reducible refine g_cond ?_); refine c_dec hE rfl (fun hc => ?_) (fun hc => ?_) <;> try omega)
                | ((with_reducible refine g_load ?_); (first | (refine s_loadB (k := 8) hS hE rfl rfl rfl rfl ?_) ); clear hE a; intro a hE)
                | ((with_reducible refine g_build ?_); refine s_build [_, _, _, _, _, _] hE rfl rfl rfl ?_; clear hE a; intro a hE)
                )
              refine g_store ?_
              refine s_storeW (k := 0) (vs := Pg.zero.cells) hS hE rfl rfl rfl rfl htl (Pg.cells_one Pg.zero) ?_
              clear hS; intro w hS
              simp only [List.set_cons_zero, List.set_cons_succ] at hS
              repeat' (first

                | (with_reducible refine wp_seq ?_)
                | (with_reducible refine wpList_nil ?_)
                | (with_reducible refine then_normal ?_)
                )
              exact tail a w ⟨Pg.zero, none, 0, Pg.zero_wf, by rw [hq9m, if_neg (by rw [eS]; decide)], fun h0 => absurd h0 (by rw [eS]; decide), fun _ _ => by rw [hgot]; exact Rd.nil, rowsP_nil4 ((hS.drop 8).drop 1), hE.sub ⟨rfl, rfl, by rw [eS]; rfl, by rw [eG]; rfl, rfl, by rw [hgot]; rfl, rfl, rfl, rfl, rfl, rfl, rfl, rfl, rfl, trivial⟩⟩
          · have hj : x.i.toNat < was.s.length := by rw [hww.s4]; omega
            have hwv : was.cells[0 + 2 + x.i.toNat * 1]? = some (was.s[x.i.toNat]'hj).v := by
              rw [show 0 + 2 + x.i.toNat * 1 = x.i.toNat + 1 + 1 by omega]
              show (was.s.map Sl.v)[x.i.toNat]? = _
              rw [List.getElem?_map, List.getElem?_eq_getElem hj]
              rfl
            have hsm := List.getElem_mem hj
            have eG : getE p.m x.i = 0 := by unfold getE; rw [hri, if_neg (by decide), if_neg hrg]
            have hgot : gotM p.m x.i = (was.s[x.i.toNat]'hj).b := by
              unfold gotM
              rw [eG, if_pos rfl, ← hwm]
              show (was.s.map Sl.b).getD x.i.toNat [] = _
              rw [List.getD_eq_getElem?_getD, List.getElem?_map, List.getElem?_eq_getElem hj]
              rfl
            generalize (was.s[x.i.toNat]'hj) = s at hwv hsm hgot
            have htj : x.i.toNat < want.s.length := by rw [htw.s4]; omega
            have hbl1 : (bys b).length = b.length * 1 := by rw [bys_length, Nat.mul_one]
            repeat' (first

              | (with_reducible refine wp_seq ?_)
              | (with_reducible refine c_region ?_)
              | (with_reducible refine wpList_nil ?_)
              | (with_reducible refine then_normal ?_)
              | ((with_reducible refine g_move ?_); refine s_move hE rfl rfl ?_; clear hE a; intro a hE)
              | ((with_reducible refine g_assign ?_); refine s_assign hE rfl rfl ?_; clear hE a; intro a hE)
              | ((with_reducible refine g_bin .lss ?_); refine s_lss hE rfl rfl rfl ?_; clear hE a; intro a hE)
              | ((with_reducible refine g_bin .geq ?_); refine s_geq hE rfl rfl rfl ?_; clear hE a; intro a hE)
              | ((with_reducible refine g_un .not ?_); refine s_notb hE rfl rfl ?_; clear hE a; intro a hE)
              | ((with_reducible refine g_fa ?_); refine s_fieldL hE rfl rfl rfl ?_; clear hE a; intro a hE)
              | ((with_reducible refine g_guard ?_); refine gd_yes hE rfl rfl rfl ?_)
              | ((with_reducible refine g_guard ?_); refine gd_dec hE rfl rfl (fun hc hE2 => ?_) (fun hc hE2 => ?_) <;> (try omega) <;> (replace hE := hE2; clear hE2))
              | ((with_reducible refine g_pick ?_); refine s_pickF hE rfl rfl rfl ?_; clear hE a; intro a hE)
              | ((with_reducible refine g_cond ?_); refine c_false hE rfl ?_)
              | ((with_reducible refine g_cond ?_); refine c_dec hE rfl (fun hc => ?_) (fun hc => ?_) <;> try omega)
              | ((with_reducible refine g_ia ?_); refine s_val hE rfl rfl rfl (r_idxP hE rfl rfl (by omega) (by omega)) ?_; clear hE a; intro a hE)
              | ((with_reducible refine g_load ?_); (first | (refine s_loadB (k := 8) hS hE rfl rfl rfl rfl ?_) ); clear hE a; intro a hE)
              )
            refine g_load ?_
            refine s_loadB (k := 6) hS hE rfl rfl hwv rfl ?_
            clear hE a; intro a hE
            repeat' (first

              | (with_reducible refine wp_seq ?_)
              | (with_reducible refine wpList_nil ?_)
              | (with_reducible refine then_normal ?_)
              | ((with_reducible refine g_assign ?_); refine s_assign hE rfl rfl ?_; clear hE a; intro a hE)
              )
            refine c_ordK hS 8 rfl 10 ((.rd 0 (.rd 1 (.rd 3 (.rd 5 (.rd 6 (.rd 7 (.ef 2 (.ef 4 (.rd 8 (.ef 9 (.lt 10 (.lt 11 .done))))))))))))) mixed (by decide +kernel) ?_
            clear hS; intro w hF hS
            repeat' (first
              | (with_reducible refine o_rd rfl ?_)
              | ((with_reducible refine q_move ?_); refine d_val hE hS rfl (fun w hS => r_move hE rfl) ?_; clear hE a; intro a hE)
              | ((with_reducible refine q_fa ?_); refine d_val hE hS rfl (fun w hS => r_fieldL hE rfl rfl) ?_; clear hE a; intro a hE)
              | ((with_reducible refine q_load ?_); (first | (refine d_val hE hS rfl (fun w hS => r_loadB (k := 0) hS hE rfl rfl rfl) ?_) ); clear hE a; intro a hE)
              | ((with_reducible refine o_ef rfl ?_))
              )
            refine g_lit ?_
            refine s_lit0 hE hF rfl ?_
            clear hE a hF; intro gn a w hE hF
            refine wpList_nil ?_
            refine o_back _ (fun _ h => h) (hF.only 9 rfl) ?_
            clear hS
            have hS := hF.only 9 rfl
            repeat' (first
              | ((with_reducible refine o_ef rfl ?_))
              )
            refine g_blt .append ?_
            refine s_appendAt0 (k := 0) (size := 1) (bytes := 1) hE hF rfl rfl rfl (hF.rdAt (k := 6) rfl) hbl1 (bys_one _) (by omega) rfl rfl rfl rfl ?_
            clear hE a hF; intro An cn a w hE hF; simp only [List.set_cons_zero] at hF
            obtain ⟨_, hcn, _⟩ := hF.lenAt (k := 0) rfl
            refine wpList_nil ?_
            refine o_back _ (fun _ h => h) (hF.only 9 rfl) ?_
            clear hS
            have hS := hF.only 9 rfl
            repeat' (first
              | (with_reducible refine o_rd rfl ?_)
              | ((with_reducible refine q_ia ?_); refine d_val hE hS rfl (fun w hS => r_idxP hE rfl rfl (by omega) (by omega)) ?_; clear hE a; intro a hE)
              | ((with_reducible refine o_ef rfl ?_))
              )
            refine g_store ?_
            refine s_storeB (k := 1) hF hE rfl rfl rfl rfl (by rw [htl, Nat.blt_eq]; omega) rfl ?_
            clear hF; intro w hF
            simp only [List.set_cons_zero, List.set_cons_succ] at hF
            rw [show 0 + 2 + x.i.toNat * 1 = 2 + x.i.toNat by omega, show want.cells.set (2 + x.i.toNat) (Value.slice An b.length cn) = Pg.cells ⟨want.n, want.l, want.s.set x.i.toNat ⟨An, cn, b⟩⟩ from cells_put htj ⟨An, cn, b⟩] at hF
            refine wpList_nil ?_
            refine o_back _ (fun _ h => h) (hF.only 9 rfl) ?_
            clear hS
            have hS := hF.only 9 rfl
            clear hS; have hS := hF; clear hF
            repeat' (first
              | ((with_reducible refine o_lt rfl ?_))
              )
            repeat' (first

              | (with_reducible refine wpList_nil ?_)
              | ((with_reducible refine g_fa ?_); refine s_fieldL hE rfl rfl rfl ?_; clear hE a; intro a hE)
              )
            refine o_backL ?_
            repeat' (first
              | ((with_reducible refine o_lt rfl ?_))
              )
            repeat' (first

              | (with_reducible refine wpList_nil ?_)
              | ((with_reducible refine g_store ?_); (first | (refine s_storeB (k := 1) hS hE rfl rfl rfl rfl rfl rfl ?_) ); clear hS; intro w hS; simp only [List.set_cons_zero, List.set_cons_succ, Nat.add_zero] at hS)
              )
            refine o_backL ?_
            repeat' (first
              | (with_reducible refine o_done ?_)
              )
            have hcl3 : (Pg.cells ⟨want.n, x.l, want.s.set x.i.toNat ⟨An, cn, b⟩⟩).length = 6 := cells_len (by rw [List.length_set]; exact htw.s4)
            have hone3 := Pg.cells_one ⟨want.n, x.l, want.s.set x.i.toNat ⟨An, cn, b⟩⟩
            by_cases hlong : 52 < b.length
            · have eS : setE p.m x.i b.length = 3 := by unfold setE; rw [hri, if_neg (by decide), if_neg hrg, if_pos hlong]
              repeat' (first

                | (with_reducible refine wp_seq ?_)
                | (with_reducible refine c_region ?_)
                | (with_reducible refine wpList_nil ?_)
                | (with_reducible refine then_normal ?_)
                | (with_reducible refine block_normal ?_)
                | ((with_reducible refine g_move ?_); refine s_move hE rfl rfl ?_; clear hE a; intro a hE)
                | ((with_reducible refine g_assign ?_); refine s_assign hE rfl rfl ?_; clear hE a; intro a hE)
                | ((with_reducible refine g_bin .gtr ?_); refine s_gtr hE rfl rfl rfl ?_; clear hE a; intro a hE)
                | ((with_reducible refine g_bin .neq ?_); refine s_neq hE rfl rfl rfl ?_; clear hE a; intro a hE)
                | ((with_reducible refine g_blt .len ?_); refine s_len hE rfl rfl ?_; clear hE a; intro a hE)
                | ((with_reducible refine g_cond ?_); refine c_true hE rfl ?_)
                | ((with_reducible refine g_cond ?_); refine c_dec hE rfl (fun hc => ?_) (fun hc => ?_) <;> try omega)
                | ((with_reducible refine g_build ?_); refine s_build [_, _, _, _, _, _] hE rfl rfl rfl ?_; clear hE a; intro a hE)
                )
              refine g_store ?_
              refine s_storeW (k := 1) (vs := Pg.zero.cells) hS hE rfl rfl rfl rfl hcl3 (Pg.cells_one Pg.zero) ?_
              clear hS; intro w hS
              simp only [List.set_cons_zero, List.set_cons_succ] at hS
              repeat' (first

                | (with_reducible refine wp_seq ?_)
                | (with_reducible refine wpList_nil ?_)
                | (with_reducible refine then_normal ?_)
                )
              exact tail a w ⟨Pg.zero, s.A, s.c, Pg.zero_wf, by rw [hq9m, if_neg (by rw [eS]; decide)], fun h0 => absurd h0 (by rw [eS]; decide), fun _ hh => by rw [hgot]; exact hh s hsm, rowsP_nil4 (((hS.drop 9).drop 0).drop 1), hE.sub ⟨rfl, rfl, by rw [eS]; rfl, by rw [eG]; rfl, rfl, by rw [hgot]; rfl, rfl, rfl, rfl, rfl, rfl, rfl, rfl, rfl, trivial⟩⟩
            · have eS : setE p.m x.i b.length = 0 := by unfold setE; rw [hri, if_neg (by decide), if_neg hrg, if_neg hlong]
              repeat' (first

                | (with_reducible refine wp_seq ?_)
                | (with_reducible refine c_region ?_)
                | (with_reducible refine wpList_nil ?_)
                | (with_reducible refine then_normal ?_)
                | (with_reducible refine wp_skip ?_)
                | (with_reducible refine block_normal ?_)
                | ((with_reducible refine g_move ?_); refine s_move hE rfl rfl ?_; clear hE a; intro a hE)
                | ((with_reducible refine g_bin .gtr ?_); refine s_gtr hE rfl rfl rfl ?_; clear hE a; intro a hE)
                | ((with_reducible refine g_bin .neq ?_); refine s_neq hE rfl rfl rfl ?_; clear hE a; intro a hE)
                | ((with_reducible refine g_blt .len ?_); refine s_len hE rfl rfl ?_; clear hE a; intro a hE)
                | ((with_reducible refine g_cond ?_); refine c_false hE rfl ?_)
                | ((with_reducible refine g_cond ?_); refine c_dec hE rfl (fun hc => ?_) (fun hc => ?_) <;> try omega)
                )
              have htn : want.n = p.n := congrArg PM.n htm
              have hts : want.s.map Sl.b = p.s.map Sl.b := congrArg PM.s htm
              have hm : Pg.m ⟨want.n, x.l, want.s.set x.i.toNat ⟨An, cn, b⟩⟩ = q9.m := by
                rw [hq9m, if_pos eS]
                unfold PM.put Pg.m
                dsimp only
                rw [List.map_set, htn, hts]
              refine tail a w ⟨⟨want.n, x.l, want.s.set x.i.toNat ⟨An, cn, b⟩⟩, s.A, s.c, ?_, hm, fun _ => ?_, fun _ hh => by rw [hgot]; exact hh s hsm, (rowsP_set (s := ⟨An, cn, b⟩) htj (St.p1 (St.p2 hS))).drop 8, hE.sub ⟨rfl, rfl, by rw [eS]; rfl, by rw [eG]; rfl, rfl, by rw [hgot]; rfl, rfl, rfl, rfl, rfl, rfl, rfl, rfl, rfl, trivial⟩⟩
              · refine ⟨by show (want.s.set _ _).length = 4; rw [List.length_set]; exact htw.s4, htw.n64, hx5, fun s hs => ?_⟩
                rcases List.mem_or_eq_of_mem_set hs with hs | hs
                · exact htw.sl s hs
                · subst hs
                  exact ⟨hcn, by show b.length ≤ _; omega, hbb⟩
              · rw [hm, hq9m, if_pos eS]
                exact PM.put_short hp53 _ (by omega) _
        · have hri : p.m.right = false := by simpa using hri
          rw [hwm, hri] at hE
          have eS : setE p.m x.i b.length = 160 := by unfold setE; rw [hri, if_pos rfl]
          have eG : getE p.m x.i = 160 := by unfold getE; rw [hri, if_pos rfl]
          have hgot : gotM p.m x.i = [] := by unfold gotM; rw [eG, if_neg (by decide)]
          repeat' (first

            | (with_reducible refine wp_seq ?_)
            | (with_reducible refine c_region ?_)
            | (with_reducible refine wpList_nil ?_)
            | (with_reducible refine then_normal ?_)
            | (with_reducible refine block_normal ?_)
            | ((with_reducible refine g_move ?_); refine s_move hE rfl rfl ?_; clear hE a; intro a hE)
            | ((with_reducible refine g_assign ?_); refine s_assign hE rfl rfl ?_; clear hE a; intro a hE)
            | ((with_reducible refine g_bin .neq ?_); refine s_neq hE rfl rfl rfl ?_; clear hE a; intro a hE)
            | ((with_reducible refine g_un .not ?_); refine s_notb hE rfl rfl ?_; clear hE a; intro a hE)
            | ((with_reducible refine g_cond ?_); refine c_true hE rfl ?_)
            | ((with_reducible refine g_build ?_); refine s_build [_, _, _, _, _, _] hE rfl rfl rfl ?_; clear hE a; intro a hE)
            )
          refine g_store ?_
          refine s_storeW (k := 0) (vs := Pg.zero.cells) hS hE rfl rfl rfl rfl htl (Pg.cells_one Pg.zero) ?_
          clear hS; intro w hS
          simp only [List.set_cons_zero, List.set_cons_succ] at hS
          repeat' (first

            | (with_reducible refine wp_seq ?_)
            | (with_reducible refine wpList_nil ?_)
            | (with_reducible refine then_normal ?_)
            )
          exact tail a w ⟨Pg.zero, none, 0, Pg.zero_wf, by rw [hq9m, if_neg (by rw [eS]; decide)], fun h0 => absurd h0 (by rw [eS]; decide), fun _ _ => by rw [hgot]; exact Rd.nil, rowsP_nil4 ((hS.drop 8).drop 1), hE.sub ⟨rfl, rfl, by rw [eS]; rfl, by rw [eG]; rfl, rfl, by rw [hgot]; rfl, rfl, rfl, rfl, rfl, rfl, rfl, rfl, rfl, trivial⟩⟩
      · clear hwo hwl hq9o hq9l hto htl htm htw want
        rintro a w ⟨want, A16, c16, htw, htm, ht53, hr16, hS, hE⟩
        have hwl : was.cells.length = 6 := by simp [hww.s4]
        have hwo := Pg.cells_one was
        have hq9l : q9.cells.length = 6 := by simp [hq9w.s4]
        have hq9o := Pg.cells_one q9
        have htl : want.cells.length = 6 := by simp [htw.s4]
        have hto := Pg.cells_one want
        have hdec : decide (q9.m = want.m) = true := decide_eq_true htm.symm
        have hfree : (if was.m.right then firstIx (fun x => decide (x.length = 0)) (was.s.map Sl.b) 0 else -1) = (if p.m.right then firstIx (fun x => decide (x.length = 0)) (p.s.map Sl.b) 0 else -1) := by
          rw [hwm, show was.s.map Sl.b = p.s.map Sl.b from congrArg PM.s hwm]
        refine c_ordS hS 27 ((.rd 0 (.rd 1 (.rd 2 (.rd 3 (.rd 4 (.rd 5 (.rd 6 (.rd 7 (.rd 8 (.rd 9 (.rd 10 (.ef 11 (.rd 12 (.rd 13 (.rd 14 (.rd 15 (.rd 16 (.ef 17 (.rd 18 (.rd 19 (.rd 20 (.rd 21 (.rd 23 (.ef 22 (.ef 24 (.rd 25 (.rd 26 .done)))))))))))))))))))))))))))) mixed (by decide +kernel) ?_
        clear hS; intro w hS
        have hgl := gotM_le hp53 x.i
        generalize gotM p.m x.i = got at hS hE hgb hr16 hgl
        generalize setE p.m x.i b.length = no at hS hE hq9m ht53
        generalize getE p.m x.i = nor at hS hE
        repeat' (first
          | (with_reducible refine o_rd rfl ?_)
          | ((with_reducible refine q_move ?_); refine d_val hE hS rfl (fun w hS => r_move hE rfl) ?_; clear hE a; intro a hE)
          | ((with_reducible refine q_bin .neq ?_); refine d_val hE hS rfl (fun w hS => r_neq hE rfl rfl) ?_; clear hE a; intro a hE)
          | ((with_reducible refine q_guard ?_); refine d_yes hE rfl rfl rfl ?_)
          | ((with_reducible refine q_guard ?_); refine d_dec hE rfl rfl (fun hc hE2 => ?_) (fun hc hE2 => ?_) <;> (try omega) <;> (replace hE := hE2; clear hE2))
          | ((with_reducible refine q_pick ?_); refine d_val hE hS rfl (fun w hS => r_pickF hE rfl rfl) ?_; clear hE a; intro a hE)
          | ((with_reducible refine o_ef rfl ?_))
          | ((with_reducible refine q_load ?_); (first | (refine d_val hE hS rfl (fun w hS => r_loadW (k := 1) hS hE rfl rfl (by assumption)) ?_) | (refine d_val hE hS rfl (fun w hS => r_loadW (k := 3) hS hE rfl rfl (by assumption)) ?_) ); clear hE a; intro a hE)
          )
        refine gd_yes hE rfl rfl rfl ?_
        refine s_call hE rfl rfl rfl (rsameP q9 want hq9w htw (rowsP_rdAt hS (k := 4) rfl) (rowsP_rdAt hS (k := 0) rfl)) ?_
        rintro _ w ⟨rfl, hS1⟩; clear hE a; intro a hE; replace hS := hS.frame hS1; clear hS1; try simp only [List.cons_append, List.nil_append] at hS
        rw [hdec] at hE
        refine wpList_nil ?_
        refine o_back _ (fun _ h => h) hS ?_
        repeat' (first
          | (with_reducible refine o_rd rfl ?_)
          | ((with_reducible refine q_move ?_); refine d_val hE hS rfl (fun w hS => r_move hE rfl) ?_; clear hE a; intro a hE)
          | ((with_reducible refine q_un .not ?_); refine d_val hE hS rfl (fun w hS => r_notb hE rfl) ?_; clear hE a; intro a hE)
          | ((with_reducible refine q_guard ?_); refine d_yes hE rfl rfl rfl ?_)
          | ((with_reducible refine q_pick ?_); refine d_val hE hS rfl (fun w hS => r_pickF hE rfl rfl) ?_; clear hE a; intro a hE)
          | ((with_reducible refine o_ef rfl ?_))
          )
        refine gd_yes hE rfl rfl rfl ?_
        refine s_call hE rfl rfl rfl (bequal A11 A16 c11 c16 got got got.length got.length w (hS.rdAt (k := 2) rfl) (hr16 w (rowsP_rdAt hS (k := 7) rfl)) hgb hgb rfl rfl) ?_
        rintro _ w ⟨rfl, hS1⟩; clear hE a; intro a hE; replace hS := hS.frame hS1; clear hS1; try simp only [List.cons_append, List.nil_append] at hS
        rw [decide_eq_true rfl] at hE
        refine wpList_nil ?_
        refine o_back _ (fun _ h => h) hS ?_
        repeat' (first
          | (with_reducible refine o_rd rfl ?_)
          | ((with_reducible refine q_move ?_); refine d_val hE hS rfl (fun w hS => r_move hE rfl) ?_; clear hE a; intro a hE)
          | ((with_reducible refine q_un .not ?_); refine d_val hE hS rfl (fun w hS => r_notb hE rfl) ?_; clear hE a; intro a hE)
          | ((with_reducible refine q_guard ?_); refine d_yes hE rfl rfl rfl ?_)
          | ((with_reducible refine q_pick ?_); refine d_val hE hS rfl (fun w hS => r_pickF hE rfl rfl) ?_; clear hE a; intro a hE)
          | ((with_reducible refine o_ef rfl ?_))
          | ((with_reducible refine q_load ?_); (first | (refine d_val hE hS rfl (fun w hS => r_loadW (k := 6) hS hE rfl rfl (by assumption)) ?_) | (refine d_val hE hS rfl (fun w hS => r_loadW (k := 9) hS hE rfl rfl (by assumption)) ?_)); clear hE a; intro a hE)
          )
        refine gd_yes hE rfl rfl rfl ?_
        refine s_call hE rfl rfl rfl (free p hpw w) ?_
        rintro _ w ⟨rfl, hS1⟩; clear hE a; intro a hE; replace hS := hS.frame hS1; clear hS1; try simp only [List.cons_append, List.nil_append] at hS
        refine wpList_nil ?_
        refine o_back _ (fun _ h => h) hS ?_
        repeat' (first
          | ((with_reducible refine o_ef rfl ?_))
          )
        refine gd_yes hE rfl rfl rfl ?_
        refine s_call hE rfl rfl rfl (lfree was hww w) ?_
        rintro _ w ⟨rfl, hS1⟩; clear hE a; intro a hE; replace hS := hS.frame hS1; clear hS1; try simp only [List.cons_append, List.nil_append] at hS
        rw [hfree] at hE
        generalize (if p.m.right then firstIx (fun x => decide (x.length = 0)) (p.s.map Sl.b) 0 else -1) = fr at hE
        refine wpList_nil ?_
        refine o_back _ (fun _ h => h) hS ?_
        repeat' (first
          | (with_reducible refine o_rd rfl ?_)
          | (with_reducible refine o_done ?_)
          | ((with_reducible refine q_bin .neq ?_); refine d_val hE hS rfl (fun w hS => r_neq hE rfl rfl) ?_; clear hE a; intro a hE)
          | ((with_reducible refine q_guard ?_); refine d_yes hE rfl rfl rfl ?_)
          | ((with_reducible refine q_pick ?_); refine d_val hE hS rfl (fun w hS => r_pickF hE rfl rfl) ?_; clear hE a; intro a hE)
          )
        repeat' (first

          | (with_reducible refine wp_seq ?_)
          | (with_reducible refine c_region ?_)
          | (with_reducible refine then_normal ?_)
          | (with_reducible refine wp_skip ?_)
          | ((with_reducible refine g_cond ?_); refine c_dec hE rfl (fun hc => ?_) (fun hc => ?_) <;> try omega)
          | ((with_reducible refine g_load ?_); (first | (refine s_loadW (k := 3) hS hE rfl rfl (by first | assumption ) rfl ?_) ); clear hE a; intro a hE)
          )
        refine s_call hE rfl rfl rfl (spoil q9 hq9w (hS.focus (k := 4) rfl)) ?_
        rintro _ w hS; clear hE a; intro a hE
        simp only [List.eraseIdx_cons_succ, List.eraseIdx_cons_zero] at hS
        replace hS := ((hS.focus (k := 2) rfl).drop 3)
        simp only [List.eraseIdx_cons_succ, List.eraseIdx_cons_zero] at hS
        repeat' (first

          | (with_reducible refine wp_seq ?_)
          | (with_reducible refine c_region ?_)
          | (with_reducible refine wpList_nil ?_)
          | (with_reducible refine then_normal ?_)
          | (with_reducible refine wp_block ?_)
          | ((with_reducible refine g_move ?_); refine s_move hE rfl rfl ?_; clear hE a; intro a hE)
          | ((with_reducible refine g_blt .len ?_); refine s_len hE rfl rfl ?_; clear hE a; intro a hE)
          )
        refine wp_loop_ghost (fun q2 a w => ∃ (i : Nat) (ys : List Nat), i + q2 = got.length ∧ ys.length = got.length ∧ Bs ys ∧ St w0 w [hRow 5 1 A11 got.length c11 (bys ys), rowsP want.s, hBlk g15 30 want.cells, hRow 5 1 A8 b.length c8 (bys b), hBlk g7 30 was.cells, rowsP was.s, rowsP p.s, hBlk b2 30 p.cells] ∧ Env 157 [(126, .int .i64 (got.length : Int)), (127, .int .i64 (i : Int)), (11, .slice A11 got.length c11), (13, .int .i64 no), (15, .pointer (some ⟨g15, 0, none⟩)), (7, .pointer (some ⟨g7, 0, none⟩)), (8, .slice A8 b.length c8), (23, .slice A l.length c), (24, .int .i64 (l.length : Int)), (25, .int .i64 (k : Int)), (2, .pointer (some ⟨b2, 0, none⟩))] a) got.length ⟨0, got, by omega, rfl, hgb, hS, hE.sub ⟨rfl, rfl, rfl, rfl, rfl, rfl, rfl, rfl, rfl, rfl, rfl, trivial⟩⟩ ?_
        clear hE a hS
        rintro q2 a w ⟨i, ys, hi, hyl, hyb, hS, hE⟩
        have hyl2 : (bys ys).length = got.length := by rw [bys_length, hyl]
        by_cases hi1 : i < got.length
        · have hiy : i < ys.length := by omega
          have hg := bys_getM hiy
          have hxb := hyb.get hiy
          have exo := xor_u8 (b := 238) hxb (by decide)
          repeat' (first

            | (with_reducible refine wp_seq ?_)
            | (with_reducible refine c_region ?_)
            | (with_reducible refine wpList_nil ?_)
            | (with_reducible refine then_normal ?_)
            | (with_reducible refine wp_skip ?_)
            | (with_reducible refine wp_block ?_)
            | (with_reducible refine block_normal ?_)
            | ((with_reducible refine g_move ?_); refine s_move hE rfl rfl ?_; clear hE a; intro a hE)
            | ((with_reducible refine g_assign ?_); refine s_assign hE rfl rfl ?_; clear hE a; intro a hE)
            | ((with_reducible refine g_bin .lss ?_); refine s_lss hE rfl rfl rfl ?_; clear hE a; intro a hE)
            | ((with_reducible refine g_bin .add ?_); refine s_add hE rfl rfl rfl (by first | exact wrap64_in (by omega) ) ?_; clear hE a; intro a hE)
            | ((with_reducible refine g_bin .xor ?_); refine s_xor hE rfl rfl rfl (by first | exact exo ) ?_; clear hE a; intro a hE)
            | ((with_reducible refine g_cond ?_); refine c_dec hE rfl (fun hc => ?_) (fun hc => ?_) <;> try omega)
            | ((with_reducible refine g_ia ?_); refine s_idxR hE rfl rfl (by omega) (by omega) (by (first | exact hS.rd )) (by first | omega ) rfl ?_; clear hE a; intro a hE)
            | ((with_reducible refine g_load ?_); refine s_loadR hE rfl (by (first | exact hS.rd )) (by first | exact hg ) rfl ?_; clear hE a; intro a hE)
            | ((with_reducible refine g_store ?_); (first | (refine s_storeR1 (k := 0) hS hE rfl rfl rfl rfl (by first | omega ) rfl ?_) ); clear hS; intro w hS; simp only [List.set_cons_zero, List.set_cons_succ, Nat.add_zero] at hS)
            )
          rw [Int.toNat_natCast, Nat.mul_one, bys_set] at hS
          refine ⟨q2 - 1, by omega, i + 1, ys.set i (ys[i] ^^^ 238), by omega, by rw [List.length_set]; exact hyl, ?_, hS, hE.sub ⟨rfl, rfl, rfl, rfl, rfl, rfl, rfl, rfl, rfl, rfl, rfl, trivial⟩⟩
          intro x hx
          rcases List.mem_or_eq_of_mem_set hx with hx | hx
          · exact hyb x hx
          · subst hx
            exact Nat.xor_lt_two_pow (n := 8) hxb (by decide)
        · have hS2 := (((hS.focus (k := 3) rfl).drop 1))
          simp only [List.eraseIdx_cons_succ, List.eraseIdx_cons_zero] at hS2
          clear hS; have hS := hS2; clear hS2 hyl2 hyl hyb ys
          repeat' (first

            | (with_reducible refine wp_seq ?_)
            | (with_reducible refine c_region ?_)
            | (with_reducible refine wpList_nil ?_)
            | (with_reducible refine then_normal ?_)
            | (with_reducible refine wp_block ?_)
            | (with_reducible refine wp_exit ?_)
            | (with_reducible refine then_exit ?_)
            | (with_reducible refine block_same ?_)
            | ((with_reducible refine g_move ?_); refine s_move hE rfl rfl ?_; clear hE a; intro a hE)
            | ((with_reducible refine g_bin .lss ?_); refine s_lss hE rfl rfl rfl ?_; clear hE a; intro a hE)
            | ((with_reducible refine g_blt .len ?_); refine s_len hE rfl rfl ?_; clear hE a; intro a hE)
            | ((with_reducible refine g_cond ?_); refine c_dec hE rfl (fun hc => ?_) (fun hc => ?_) <;> try omega)
            )
          refine wp_loop_ghost (fun q2 a w => ∃ (i : Nat) (ys : List Nat), i + q2 = b.length ∧ ys.length = b.length ∧ Bs ys ∧ St w0 w [hRow 5 1 A8 b.length c8 (bys ys), rowsP want.s, hBlk g15 30 want.cells, hBlk g7 30 was.cells, rowsP was.s, rowsP p.s, hBlk b2 30 p.cells] ∧ Env 157 [(138, .int .i64 (b.length : Int)), (139, .int .i64 (i : Int)), (13, .int .i64 no), (15, .pointer (some ⟨g15, 0, none⟩)), (7, .pointer (some ⟨g7, 0, none⟩)), (8, .slice A8 b.length c8), (23, .slice A l.length c), (24, .int .i64 (l.length : Int)), (25, .int .i64 (k : Int)), (2, .pointer (some ⟨b2, 0, none⟩))] a) b.length ⟨0, b, by omega, rfl, hbb, hS, hE.sub ⟨rfl, rfl, rfl, rfl, rfl, rfl, rfl, rfl, rfl, rfl, trivial⟩⟩ ?_
          clear hE a hS
          rintro q2 a w ⟨i, ys, hi, hyl, hyb, hS, hE⟩
          have hyl2 : (bys ys).length = b.length := by rw [bys_length, hyl]
          by_cases hi1 : i < b.length
          · have hiy : i < ys.length := by omega
            have hg := bys_getM hiy
            have hxb := hyb.get hiy
            have exo := xor_u8 (b := 238) hxb (by decide)
            repeat' (first

              | (with_reducible refine wp_seq ?_)
              | (with_reducible refine c_region ?_)
              | (with_reducible refine wpList_nil ?_)
              | (with_reducible refine then_normal ?_)
              | (with_reducible refine wp_skip ?_)
              | (with_reducible refine wp_block ?_)
              | (with_reducible refine block_normal ?_)
              | ((with_reducible refine g_move ?_); refine s_move hE rfl rfl ?_; clear hE a; intro a hE)
              | ((with_reducible refine g_assign ?_); refine s_assign hE rfl rfl ?_; clear hE a; intro a hE)
              | ((with_reducible refine g_bin .lss ?_); refine s_lss hE rfl rfl rfl ?_; clear hE a; intro a hE)
              | ((with_reducible refine g_bin .add ?_); refine s_add hE rfl rfl rfl (by first | exact wrap64_in (by omega) ) ?_; clear hE a; intro a hE)
              | ((with_reducible refine g_bin .xor ?_); refine s_xor hE rfl rfl rfl (by first | exact exo ) ?_; clear hE a; intro a hE)
              | ((with_reducible refine g_cond ?_); refine c_dec hE rfl (fun hc => ?_) (fun hc => ?_) <;> try omega)
              | ((with_reducible refine g_ia ?_); refine s_idxR hE rfl rfl (by omega) (by omega) (by (first | exact hS.rd )) (by first | omega ) rfl ?_; clear hE a; intro a hE)
              | ((with_reducible refine g_load ?_); refine s_loadR hE rfl (by (first | exact hS.rd )) (by first | exact hg ) rfl ?_; clear hE a; intro a hE)
              | ((with_reducible refine g_store ?_); (first | (refine s_storeR1 (k := 0) hS hE rfl rfl rfl rfl (by first | omega ) rfl ?_) ); clear hS; intro w hS; simp only [List.set_cons_zero, List.set_cons_succ, Nat.add_zero] at hS)
              )
            rw [Int.toNat_natCast, Nat.mul_one, bys_set] at hS
            refine ⟨q2 - 1, by omega, i + 1, ys.set i (ys[i] ^^^ 238), by omega, by rw [List.length_set]; exact hyl, ?_, hS, hE.sub ⟨rfl, rfl, rfl, rfl, rfl, rfl, rfl, rfl, rfl, rfl, trivial⟩⟩
            intro x hx
            rcases List.mem_or_eq_of_mem_set hx with hx | hx
            · exact hyb x hx
            · subst hx
              exact Nat.xor_lt_two_pow (n := 8) hxb (by decide)
          · repeat' (first

              | (with_reducible refine wp_seq ?_)
              | (with_reducible refine c_region ?_)
              | (with_reducible refine wpList_nil ?_)
              | (with_reducible refine then_normal ?_)
              | (with_reducible refine wp_exit ?_)
              | (with_reducible refine then_exit ?_)
              | (with_reducible refine block_same ?_)
              | ((with_reducible refine g_bin .lss ?_); refine s_lss hE rfl rfl rfl ?_; clear hE a; intro a hE)
              | ((with_reducible refine g_cond ?_); refine c_dec hE rfl (fun hc => ?_) (fun hc => ?_) <;> try omega)
              | ((with_reducible refine g_load ?_); (first | (refine s_loadW (k := 3) hS hE rfl rfl (by first | assumption ) rfl ?_) | (refine s_loadW (k := 6) hS hE rfl rfl (by first | assumption ) rfl ?_) ); clear hE a; intro a hE)
              )
            refine s_call hE rfl rfl rfl (rsameP p was hpw hww (rowsP_rdAt hS (k := 5) rfl) (rowsP_rdAt hS (k := 4) rfl)) ?_
            rintro _ w ⟨rfl, hS1⟩; clear hE a; intro a hE; replace hS := hS.frame hS1; clear hS1; try simp only [List.cons_append, List.nil_append] at hS
            rw [decide_eq_true hwm.symm] at hE
            by_cases hno : no = 0
            · have ht := ht53 hno
              subst hno
              have hpl : p.cells.length = 6 := by simp [hpw.s4]
              repeat' (first

                | (with_reducible refine wp_seq ?_)
                | (with_reducible refine c_region ?_)
                | (with_reducible refine wpList_nil ?_)
                | (with_reducible refine then_normal ?_)
                | (with_reducible refine wp_skip ?_)
                | (with_reducible refine block_normal ?_)
                | ((with_reducible refine g_move ?_); refine s_move hE rfl rfl ?_; clear hE a; intro a hE)
                | ((with_reducible refine g_bin .eql ?_); refine s_eql hE rfl rfl rfl ?_; clear hE a; intro a hE)
                | ((with_reducible refine g_bin .add ?_); refine s_add hE rfl rfl rfl (by first  | exact wrap64_in (by omega) ) ?_; clear hE a; intro a hE)
                | ((with_reducible refine g_un .not ?_); refine s_notb hE rfl rfl ?_; clear hE a; intro a hE)
                | ((with_reducible refine g_cond ?_); refine c_true hE rfl ?_)
                | ((with_reducible refine g_cond ?_); refine c_false hE rfl ?_)
                | ((with_reducible refine g_load ?_); (first | (refine s_loadW (k := 2) hS hE rfl rfl (by first | assumption ) rfl ?_) ); clear hE a; intro a hE)
                | ((with_reducible refine g_store ?_); (first | (refine s_storeW (k := 6) hS hE rfl rfl rfl (by assumption) (by first | assumption) (by first | assumption) ?_) ); clear hS; intro w hS; simp only [List.set_cons_zero, List.set_cons_succ, Nat.add_zero] at hS)
                )
              exact ⟨q - 1, by omega, k + 1, want, by omega, htw, ht, ((hS.focus (k := 6) rfl).focus (k := 2) rfl).keep2, hE.sub ⟨rfl, rfl, rfl, rfl, trivial⟩⟩
            · repeat' (first

                | (with_reducible refine wp_seq ?_)
                | (with_reducible refine c_region ?_)
                | (with_reducible refine wpList_nil ?_)
                | (with_reducible refine then_normal ?_)
                | (with_reducible refine wp_skip ?_)
                | (with_reducible refine block_normal ?_)
                | ((with_reducible refine g_move ?_); refine s_move hE rfl rfl ?_; clear hE a; intro a hE)
                | ((with_reducible refine g_bin .eql ?_); refine s_eql hE rfl rfl rfl ?_; clear hE a; intro a hE)
                | ((with_reducible refine g_bin .add ?_); refine s_add hE rfl rfl rfl (by first  | exact wrap64_in (by omega) ) ?_; clear hE a; intro a hE)
                | ((with_reducible refine g_un .not ?_); refine s_notb hE rfl rfl ?_; clear hE a; intro a hE)
                | ((with_reducible refine g_cond ?_); refine c_false hE rfl ?_)
                | ((with_reducible refine g_cond ?_); refine c_dec hE rfl (fun hc => ?_) (fun hc => ?_) <;> try omega)
                )
              exact ⟨q - 1, by omega, k + 1, p, by omega, hpw, hp53, ((hS.focus (k := 6) rfl).focus (k := 6) rfl).keep2, hE.sub ⟨rfl, rfl, rfl, rfl, trivial⟩⟩
  · obtain rfl : k = l.length := by omega
    repeat' (first

      | (with_reducible refine wp_seq ?_)
      | (with_reducible refine c_region ?_)
      | (with_reducible refine wpList_nil ?_)
      | (with_reducible refine then_normal ?_)
      | (with_reducible refine wp_ret ?_)
      | (with_reducible refine wp_exit ?_)
      | (with_reducible refine then_exit ?_)
      | (with_reducible refine block_same ?_)
      | ((with_reducible refine g_assign ?_); refine s_assign hE rfl rfl ?_; clear hE a; intro a hE)
      | ((with_reducible refine g_bin .lss ?_); refine s_lss hE rfl rfl rfl ?_; clear hE a; intro a hE)
      | ((with_reducible refine g_cond ?_); refine c_dec hE rfl (fun hc => ?_) (fun hc => ?_) <;> try omega)
      )
    exact ret1 hE rfl rfl ⟨rfl, hS.nil⟩
end
end Go.Proofs.Ytmdfhhmnlplagaa
