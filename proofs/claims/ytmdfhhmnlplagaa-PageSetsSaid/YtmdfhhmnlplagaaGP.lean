/-
  The law PageKeeps.
-/
import Derived.Test.YtmdfhhmnlplagaaGO
namespace Go.Proofs.Ytmdfhhmnlplagaa
open Go.RowKit
set_option linter.unusedVariables false
set_option linter.unusedSimpArgs false
attribute [local irreducible] Rd hRow hBlk hRd hRdr rowsP Fn hMarks

theorem setE_ok {p : PM} {i : Int} {n : Nat} (h : setE p i n = 0) : p.right = true ∧ 0 ≤ i ∧ i < 4 ∧ n ≤ 52 := by
  unfold setE at h
  cases hr : p.right
  · rw [hr, if_pos rfl] at h; cases h
  · rw [hr, if_neg (by decide)] at h
    by_cases h1 : i < 0 ∨ 4 ≤ i
    · rw [if_pos h1] at h; cases h
    · rw [if_neg h1] at h
      by_cases h2 : 52 < n
      · rw [if_pos h2] at h; cases h
      · exact ⟨rfl, by omega, by omega, by omega⟩
theorem zero_rd (w : World) : Pg.zero.rd w := fun s hs => by
  have : s = nilS := by simp [Pg.zero] at hs; exact hs
  subst this
  exact Rd.nil
section
variable {H : List HP} {w0 w : World}
set_option maxHeartbeats 8000000
theorem law_PageKeeps (y : PT) (slot : Int) (A : Option Addr) (c : Nat) (xs : List Nat) (w0 : World) (h : y.ok w0) (hslot : (Lit.int .i64 slot).wf = true) (hrx : Rd w0 A (bys xs)) (hx : Bs xs) (hc : xs.length ≤ c) (hz : xs.length ≤ 140737488351232) :
    Fn Try.prog 8 [.agg y.cells.toArray, .int .i64 slot, .slice A xs.length c] w0 fun v w' => v = .bool true ∧ St w0 w' [] := by
  rw [PT.cells_pg h]
  have hr := PT.pg_rd h
  have hp := PT.pg_wf h
  generalize y.pg = p at hr hp
  have hsl2 := wf_i64 hslot
  have hcl : p.cells.length = 6 := by simp [hp.s4]
  have hmin : (if (60 : Int) < (xs.length : Int) then (60 : Int) else (xs.length : Int)) = ((xs.take 60).length : Int) := by
    rw [List.length_take]; split <;> omega
  have hb60 : (xs.take 60).length ≤ 60 ∧ (xs.take 60).length ≤ xs.length := by rw [List.length_take]; omega
  have hrb : Rd w0 A (bys (xs.take 60)) := by
    have := hrx.take 60
    have e : bys (xs.take 60) = (bys xs).take 60 := List.map_take
    rw [e]; exact this
  have hbb : Bs (xs.take 60) := fun c hc => hx c (List.mem_of_mem_take hc)
  refine enter 101 Try.func8 rfl rfl rfl ?_
  intro a hE
  have hS := St.start w0
  refine wp_seq ?_
  refine c_region ?_
  refine s_boxS hE hS rfl rfl ?_
  clear hE a hS; intro b3 a w hE hS
  repeat' (first

    | (with_reducible refine wp_seq ?_)
    | (with_reducible refine c_region ?_)
    | (with_reducible refine wpList_nil ?_)
    | (with_reducible refine then_normal ?_)
    | ((with_reducible refine g_assign ?_); refine s_assign hE rfl rfl ?_; clear hE a; intro a hE)
    )
  refine s_call hE rfl rfl rfl (wakes w) ?_
  rintro _ w ⟨rfl, hS1⟩; clear hE a; intro a hE; replace hS := hS.frame hS1; clear hS1; try simp only [List.cons_append, List.nil_append] at hS
  repeat' (first

    | (with_reducible refine wp_seq ?_)
    | (with_reducible refine wpList_nil ?_)
    | (with_reducible refine then_normal ?_)
    | (with_reducible refine wp_skip ?_)
    | ((with_reducible refine g_un .not ?_); refine s_notb hE rfl rfl ?_; clear hE a; intro a hE)
    | ((with_reducible refine g_cond ?_); refine c_false hE rfl ?_)
    )
  refine c_ordH [] hS (fun u hu => hu.nil) 8 ((.rd 2 (.rd 3 (.rd 4 (.rd 5 (.rd 6 (.ef 0 (.ef 1 (.ef 7 (.lt 8 .done)))))))))) mixed (by decide +kernel) ?_
  clear hS; intro w hF hS
  repeat' (first
    | (with_reducible refine o_rd rfl ?_)
    | ((with_reducible refine q_move ?_); refine d_val hE hS rfl (fun w hS => r_move hE rfl) ?_; clear hE a; intro a hE)
    | ((with_reducible refine q_blt .len ?_); refine d_val hE hS rfl (fun w hS => r_len hE rfl) ?_; clear hE a; intro a hE)
    | ((with_reducible refine q_blt .min ?_); refine d_val hE hS rfl (fun w hS => r_min hE rfl rfl (by first | exact hmin)) ?_; clear hE a; intro a hE)
    | ((with_reducible refine q_sliceH ?_); refine d_val hE hS rfl (fun w hS => r_cutH hE rfl rfl (by omega)) ?_; clear hE a; intro a hE)
    | ((with_reducible refine o_ef rfl ?_))
    )
  generalize xs.take 60 = b at hE hb60 hrb hbb
  refine g_load ?_
  refine s_loadW (k := 0) hF hE rfl rfl hcl rfl ?_
  clear hE a; intro a hE
  refine wpList_nil ?_
  refine o_back _ (fun _ h => h) hF.nil ?_
  clear hS; have hS := hF.nil
  repeat' (first
    | ((with_reducible refine o_ef rfl ?_))
    )
  refine s_call hE rfl rfl rfl (short p hp (hr.st hF)) ?_
  rintro _ w ⟨p', rfl, hpm, hpw, hS1⟩; clear hE a; intro a hE; replace hF := hF.frame hS1; clear hS1; simp only [List.cons_append, List.nil_append] at hF
  refine wpList_nil ?_
  refine o_back _ (fun _ h => h) hF.nil ?_
  clear hS; have hS := hF.nil
  repeat' (first
    | ((with_reducible refine o_ef rfl ?_))
    )
  have hcl3 : p'.cells.length = 6 := by simp [hpw.s4]
  have hone3 := Pg.cells_one p'
  refine g_store ?_
  refine s_storeW (k := 1) hF hE rfl rfl rfl hcl3 hcl hone3 ?_
  clear hF; intro w hF; simp only [List.set_cons_zero, List.set_cons_succ] at hF
  refine wpList_nil ?_
  refine o_back _ (fun _ h => h) hF.nil ?_
  clear hS; have hS := hF; clear hF
  repeat' (first
    | ((with_reducible refine o_lt rfl ?_))
    )
  repeat' (first

    | (with_reducible refine wpList_nil ?_)
    | ((with_reducible refine g_assign ?_); refine s_assign hE rfl rfl ?_; clear hE a; intro a hE)
    )
  refine o_backL ?_
  repeat' (first
    | (with_reducible refine o_done ?_)
    )
  repeat' (first

    | (with_reducible refine wp_seq ?_)
    | (with_reducible refine c_region ?_)
    | (with_reducible refine then_normal ?_)
    | ((with_reducible refine g_move ?_); refine s_move hE rfl rfl ?_; clear hE a; intro a hE)
    | ((with_reducible refine g_load ?_); (first | (refine s_loadW (k := 1) hS hE rfl rfl (by first | assumption ) rfl ?_) ); clear hE a; intro a hE)
    )
  have hrp := rowsP_rdAt hS (k := 0) rfl
  by_cases he : setE p'.m slot b.length = 0
  · obtain ⟨hri, hs0, hs4, hb52⟩ := setE_ok he
    obtain ⟨i, rfl⟩ := Int.eq_ofNat_of_zero_le hs0
    have hi4 : i < 4 := by omega
    refine s_call hE rfl rfl rfl (set_ok p' hpw hrp i A c b b.length rfl (hrb.st hS) hbb 7 (by decide) hri hi4 hb52) ?_
    rintro _ w ⟨q, rfl, hqm, hqw, hS1⟩; clear hE a; intro a hE; replace hS := hS.frame hS1; clear hS1; try simp only [List.cons_append, List.nil_append] at hS
    have hcl4 : q.cells.length = 6 := by simp [hqw.s4]
    have hone4 := Pg.cells_one q
    have hqr : q.m.right = true := by rw [hqm]; exact put_right hri i hb52 7
    repeat' (first

      | (with_reducible refine wp_seq ?_)
      | (with_reducible refine c_region ?_)
      | (with_reducible refine wpList_nil ?_)
      | (with_reducible refine then_normal ?_)
      | (with_reducible refine wp_skip ?_)
      | (with_reducible refine wp_block ?_)
      | ((with_reducible refine g_move ?_); refine s_move hE rfl rfl ?_; clear hE a; intro a hE)
      | ((with_reducible refine g_assign ?_); refine s_assign hE rfl rfl ?_; clear hE a; intro a hE)
      | ((with_reducible refine g_bin .neq ?_); refine s_neq hE rfl rfl rfl ?_; clear hE a; intro a hE)
      | ((with_reducible refine g_extract ?_); refine s_extract hE rfl rfl rfl ?_; clear hE a; intro a hE)
      | ((with_reducible refine g_cond ?_); refine c_false hE rfl ?_)
      | ((with_reducible refine g_alloc ?_); refine s_allocS hE hS rfl rfl ?_; clear hE a hS; intro g a w hE hS)
      | ((with_reducible refine g_store ?_); (first | (refine s_storeW (k := 0) hS hE rfl rfl rfl (by assumption) (by first | rfl ) (by first | assumption) ?_) ); clear hS; intro w hS; simp only [List.set_cons_zero, List.set_cons_succ, Nat.add_zero] at hS)
      )
    obtain ⟨g7, rfl⟩ : ∃ x, x = g := ⟨g, rfl⟩
    refine wp_loop_ghost (fun q' a w => ∃ (k : Nat), k + q' = 4 ∧ St w0 w [hBlk g7 30 q.cells, rowsP q.s, rowsP p'.s, hBlk b3 30 p'.cells] ∧ Env 101 [(38, .int .i64 (k : Int)), (1, .int .i64 (i : Int)), (2, .slice A b.length c), (3, .pointer (some ⟨b3, 0, none⟩)), (7, .pointer (some ⟨g7, 0, none⟩))] a) 4
      ⟨0, by omega, hS, hE.sub ⟨rfl, rfl, rfl, rfl, rfl, trivial⟩⟩ ?_
    clear hE a hS hrp
    rintro q' a w ⟨k, hk, hS, hE⟩
    by_cases hk1 : k < 4
    · repeat' (first

        | (with_reducible refine wp_seq ?_)
        | (with_reducible refine c_region ?_)
        | (with_reducible refine wpList_nil ?_)
        | (with_reducible refine then_normal ?_)
        | (with_reducible refine wp_skip ?_)
        | (with_reducible refine wp_block ?_)
        | ((with_reducible refine g_move ?_); refine s_move hE rfl rfl ?_; clear hE a; intro a hE)
        | ((with_reducible refine g_assign ?_); refine s_assign hE rfl rfl ?_; clear hE a; intro a hE)
        | ((with_reducible refine g_bin .lss ?_); refine s_lss hE rfl rfl rfl ?_; clear hE a; intro a hE)
        | ((with_reducible refine g_cond ?_); refine c_dec hE rfl (fun hc => ?_) (fun hc => ?_) <;> try omega)
        | ((with_reducible refine g_load ?_); (first | (refine s_loadW (k := 0) hS hE rfl rfl (by first | assumption ) rfl ?_) ); clear hE a; intro a hE)
        )
      refine s_call hE rfl rfl rfl (get_ok q hqw (rowsP_rdAt hS (k := 1) rfl) k hqr hk1) ?_
      rintro _ w ⟨A1, c1, rfl, hS1⟩; clear hE a; intro a hE; replace hS := hS.frame hS1; clear hS1; try simp only [List.cons_append, List.nil_append] at hS
      repeat' (first

        | (with_reducible refine wp_seq ?_)
        | (with_reducible refine c_region ?_)
        | (with_reducible refine wpList_nil ?_)
        | (with_reducible refine then_normal ?_)
        | ((with_reducible refine g_move ?_); refine s_move hE rfl rfl ?_; clear hE a; intro a hE)
        | ((with_reducible refine g_assign ?_); refine s_assign hE rfl rfl ?_; clear hE a; intro a hE)
        | ((with_reducible refine g_extract ?_); refine s_extract hE rfl rfl rfl ?_; clear hE a; intro a hE)
        | ((with_reducible refine g_load ?_); (first | (refine s_loadW (k := 4) hS hE rfl rfl (by first | assumption ) rfl ?_) ); clear hE a; intro a hE)
        )
      refine s_call hE rfl rfl rfl (get_ok p' hpw (rowsP_rdAt hS (k := 3) rfl) k hri hk1) ?_
      rintro _ w ⟨A2, c2, rfl, hS1⟩; clear hE a; intro a hE; replace hS := hS.frame hS1; clear hS1; try simp only [List.cons_append, List.nil_append] at hS
      have hbs1 : Bs (q.m.s.getD k []) := by
        rw [List.getD_eq_getElem?_getD, List.getElem?_eq_getElem (by rw [hqw.ok.s4]; exact hk1)]
        exact hqw.ok.bs _ (List.getElem_mem _)
      have hbs2 : Bs (p'.m.s.getD k []) := by
        rw [List.getD_eq_getElem?_getD, List.getElem?_eq_getElem (by rw [hpw.ok.s4]; exact hk1)]
        exact hpw.ok.bs _ (List.getElem_mem _)
      have hput : q.m.s.getD k [] = if i = k then b else p'.m.s.getD k [] := by
        rw [hqm]
        show (p'.m.s.set i b).getD k [] = _
        rw [List.getD_eq_getElem?_getD, List.getElem?_set]
        by_cases hik : i = k
        · rw [if_pos hik, if_pos (by rw [hpw.ok.s4]; exact hi4), if_pos hik]; rfl
        · rw [if_neg hik, if_neg hik, ← List.getD_eq_getElem?_getD]
      by_cases hik : i = k
      · rw [if_pos hik] at hput
        repeat' (first

          | (with_reducible refine wp_seq ?_)
          | (with_reducible refine c_region ?_)
          | (with_reducible refine wpList_nil ?_)
          | (with_reducible refine then_normal ?_)
          | ((with_reducible refine g_move ?_); refine s_move hE rfl rfl ?_; clear hE a; intro a hE)
          | ((with_reducible refine g_assign ?_); refine s_assign hE rfl rfl ?_; clear hE a; intro a hE)
          | ((with_reducible refine g_bin .eql ?_); refine s_eql hE rfl rfl rfl ?_; clear hE a; intro a hE)
          | ((with_reducible refine g_bin .neq ?_); refine s_neq hE rfl rfl rfl ?_; clear hE a; intro a hE)
          | ((with_reducible refine g_extract ?_); refine s_extract hE rfl rfl rfl ?_; clear hE a; intro a hE)
          | ((with_reducible refine g_guard ?_); refine gd_yes hE rfl rfl rfl ?_)
          | ((with_reducible refine g_pick ?_); refine s_pickF hE rfl rfl rfl ?_; clear hE a; intro a hE)
          | ((with_reducible refine g_cond ?_); refine c_dec hE rfl (fun hc => ?_) (fun hc => ?_) <;> try omega)
          )
        refine s_call hE rfl rfl rfl (bequal A1 A c1 c (q.m.s.getD k []) b _ b.length w (hS.rdAt (k := 1) rfl) (hrb.st hS) hbs1 hbb rfl rfl) ?_
        rintro _ w ⟨rfl, hS1⟩; clear hE a; intro a hE; replace hS := hS.frame hS1; clear hS1; try simp only [List.cons_append, List.nil_append] at hS
        rw [decide_eq_true hput] at hE
        repeat' (first

          | (with_reducible refine c_region ?_)
          | (with_reducible refine wpList_nil ?_)
          | (with_reducible refine then_normal ?_)
          | (with_reducible refine wp_skip ?_)
          | (with_reducible refine block_normal ?_)
          | ((with_reducible refine g_move ?_); refine s_move hE rfl rfl ?_; clear hE a; intro a hE)
          | ((with_reducible refine g_bin .add ?_); refine s_add hE rfl rfl rfl (by first  | exact wrap64_in (by omega) ) ?_; clear hE a; intro a hE)
          | ((with_reducible refine g_un .not ?_); refine s_notb hE rfl rfl ?_; clear hE a; intro a hE)
          | ((with_reducible refine g_guard ?_); refine gd_yes hE rfl rfl rfl ?_)
          | ((with_reducible refine g_pick ?_); refine s_pickF hE rfl rfl rfl ?_; clear hE a; intro a hE)
          | ((with_reducible refine g_cond ?_); refine c_false hE rfl ?_)
          )
        exact ⟨q' - 1, by omega, k + 1, by omega, hS.tail.tail, hE.sub ⟨rfl, rfl, rfl, rfl, rfl, trivial⟩⟩
      · rw [if_neg hik] at hput
        repeat' (first

          | (with_reducible refine wp_seq ?_)
          | (with_reducible refine c_region ?_)
          | (with_reducible refine wpList_nil ?_)
          | (with_reducible refine then_normal ?_)
          | (with_reducible refine wp_skip ?_)
          | ((with_reducible refine g_move ?_); refine s_move hE rfl rfl ?_; clear hE a; intro a hE)
          | ((with_reducible refine g_assign ?_); refine s_assign hE rfl rfl ?_; clear hE a; intro a hE)
          | ((with_reducible refine g_bin .eql ?_); refine s_eql hE rfl rfl rfl ?_; clear hE a; intro a hE)
          | ((with_reducible refine g_bin .neq ?_); refine s_neq hE rfl rfl rfl ?_; clear hE a; intro a hE)
          | ((with_reducible refine g_extract ?_); refine s_extract hE rfl rfl rfl ?_; clear hE a; intro a hE)
          | ((with_reducible refine g_guard ?_); refine gd_yes hE rfl rfl rfl ?_)
          | ((with_reducible refine g_pick ?_); refine s_pickF hE rfl rfl rfl ?_; clear hE a; intro a hE)
          | ((with_reducible refine g_cond ?_); refine c_dec hE rfl (fun hc => ?_) (fun hc => ?_) <;> try omega)
          )
        refine s_call hE rfl rfl rfl (bequal A1 A2 c1 c2 (q.m.s.getD k []) (p'.m.s.getD k []) _ _ w (hS.rdAt (k := 1) rfl) (hS.rdAt (k := 0) rfl) hbs1 hbs2 rfl rfl) ?_
        rintro _ w ⟨rfl, hS1⟩; clear hE a; intro a hE; replace hS := hS.frame hS1; clear hS1; try simp only [List.cons_append, List.nil_append] at hS
        rw [decide_eq_true hput] at hE
        repeat' (first

          | (with_reducible refine c_region ?_)
          | (with_reducible refine wpList_nil ?_)
          | (with_reducible refine then_normal ?_)
          | (with_reducible refine wp_skip ?_)
          | (with_reducible refine block_normal ?_)
          | ((with_reducible refine g_move ?_); refine s_move hE rfl rfl ?_; clear hE a; intro a hE)
          | ((with_reducible refine g_bin .add ?_); refine s_add hE rfl rfl rfl (by first  | exact wrap64_in (by omega) ) ?_; clear hE a; intro a hE)
          | ((with_reducible refine g_un .not ?_); refine s_notb hE rfl rfl ?_; clear hE a; intro a hE)
          | ((with_reducible refine g_guard ?_); refine gd_yes hE rfl rfl rfl ?_)
          | ((with_reducible refine g_pick ?_); refine s_pickF hE rfl rfl rfl ?_; clear hE a; intro a hE)
          | ((with_reducible refine g_cond ?_); refine c_false hE rfl ?_)
          )
        exact ⟨q' - 1, by omega, k + 1, by omega, hS.tail.tail, hE.sub ⟨rfl, rfl, rfl, rfl, rfl, trivial⟩⟩
    · obtain rfl : k = 4 := by omega
      repeat' (first

        | (with_reducible refine wp_seq ?_)
        | (with_reducible refine c_region ?_)
        | (with_reducible refine wpList_nil ?_)
        | (with_reducible refine then_normal ?_)
        | (with_reducible refine wp_exit ?_)
        | (with_reducible refine then_exit ?_)
        | (with_reducible refine block_same ?_)
        | ((with_reducible refine g_bin .lss ?_); refine s_lss hE rfl rfl rfl ?_; clear hE a; intro a hE)
        | ((with_reducible refine g_cond ?_); refine c_false hE rfl ?_)
        | ((with_reducible refine g_load ?_); (first | (refine s_loadW (k := 0) hS hE rfl rfl (by first | assumption ) rfl ?_) ); clear hE a; intro a hE)
        )
      refine s_call hE rfl rfl rfl (free q hqw w) ?_
      rintro _ w ⟨rfl, hS1⟩; clear hE a; intro a hE; replace hS := hS.frame hS1; clear hS1; try simp only [List.cons_append, List.nil_append] at hS
      rw [hqr, if_pos rfl] at hE
      have hsp := firstIx_spec (fun x => decide (x.length = 0)) (q.s.map Sl.b) 0
      have hrg := firstIx_range (fun x => decide (x.length = 0)) (q.s.map Sl.b) 0
      generalize firstIx (fun x => decide (x.length = 0)) (q.s.map Sl.b) 0 = m at hE hsp hrg
      by_cases hm : 0 ≤ m
      · obtain ⟨j, hj1, hj2, hj3⟩ := hsp hm
        rw [Nat.zero_add] at hj1
        subst hj1
        rw [List.length_map, hqw.s4] at hj2
        have hj4 : (q.m.s.getD j []).length = 0 := of_decide_eq_true hj3
        have hql : q.l = 7 := congrArg PM.l hqm
        have hqn : q.n = p'.n := congrArg PM.n hqm
        repeat' (first

          | (with_reducible refine wp_seq ?_)
          | (with_reducible refine c_region ?_)
          | (with_reducible refine wpList_nil ?_)
          | (with_reducible refine then_normal ?_)
          | ((with_reducible refine g_move ?_); refine s_move hE rfl rfl ?_; clear hE a; intro a hE)
          | ((with_reducible refine g_assign ?_); refine s_assign hE rfl rfl ?_; clear hE a; intro a hE)
          | ((with_reducible refine g_bin .geq ?_); refine s_geq hE rfl rfl rfl ?_; clear hE a; intro a hE)
          | ((with_reducible refine g_cond ?_); refine c_true hE rfl ?_)
          | ((with_reducible refine g_load ?_); (first | (refine s_loadW (k := 0) hS hE rfl rfl (by first | assumption ) rfl ?_) ); clear hE a; intro a hE)
          )
        refine s_call hE rfl rfl rfl (get_ok q hqw (rowsP_rdAt hS (k := 1) rfl) j hqr hj2) ?_
        rintro _ w ⟨A1, c1, rfl, hS1⟩; clear hE a; intro a hE; replace hS := hS.frame hS1; clear hS1; try simp only [List.cons_append, List.nil_append] at hS
        rw [hj4] at hE
        repeat' (first

          | (with_reducible refine wp_seq ?_)
          | (with_reducible refine c_region ?_)
          | (with_reducible refine wpList_nil ?_)
          | (with_reducible refine then_normal ?_)
          | (with_reducible refine wp_ret ?_)
          | (with_reducible refine then_ret ?_)
          | ((with_reducible refine g_move ?_); refine s_move hE rfl rfl ?_; clear hE a; intro a hE)
          | ((with_reducible refine g_assign ?_); refine s_assign hE rfl rfl ?_; clear hE a; intro a hE)
          | ((with_reducible refine g_bin .eql ?_); refine s_eql hE rfl rfl rfl ?_; clear hE a; intro a hE)
          | ((with_reducible refine g_blt .len ?_); refine s_len hE rfl rfl ?_; clear hE a; intro a hE)
          | ((with_reducible refine g_extract ?_); refine s_extract hE rfl rfl rfl ?_; clear hE a; intro a hE)
          | ((with_reducible refine g_fa ?_); refine s_fieldL hE rfl rfl rfl ?_; clear hE a; intro a hE)
          | ((with_reducible refine g_guard ?_); refine gd_yes hE rfl rfl rfl ?_)
          | ((with_reducible refine g_guard ?_); refine gd_dec hE rfl rfl (fun hc hE2 => ?_) (fun hc hE2 => ?_) <;> (try omega) <;> (replace hE := hE2; clear hE2))
          | ((with_reducible refine g_pick ?_); refine s_pickT hE rfl rfl rfl ?_; clear hE a; intro a hE)
          | ((with_reducible refine g_load ?_); (first | (refine s_loadB (k := 1) hS hE rfl rfl rfl rfl ?_) | (refine s_loadB (k := 4) hS hE rfl rfl rfl rfl ?_) ); clear hE a; intro a hE)
          )
        exact ret1 hE rfl rfl ⟨by rw [decide_eq_true hqn], hS.nil⟩
      · have hm1 : m = -1 := by omega
        subst hm1
        repeat' (first

          | (with_reducible refine wp_seq ?_)
          | (with_reducible refine c_region ?_)
          | (with_reducible refine wpList_nil ?_)
          | (with_reducible refine then_normal ?_)
          | (with_reducible refine wp_skip ?_)
          | (with_reducible refine wp_ret ?_)
          | ((with_reducible refine g_move ?_); refine s_move hE rfl rfl ?_; clear hE a; intro a hE)
          | ((with_reducible refine g_assign ?_); refine s_assign hE rfl rfl ?_; clear hE a; intro a hE)
          | ((with_reducible refine g_bin .geq ?_); refine s_geq hE rfl rfl rfl ?_; clear hE a; intro a hE)
          | ((with_reducible refine g_bin .eql ?_); refine s_eql hE rfl rfl rfl ?_; clear hE a; intro a hE)
          | ((with_reducible refine g_cond ?_); refine c_false hE rfl ?_)
          )
        exact ret1 hE rfl rfl ⟨rfl, hS.nil⟩
  · refine s_call hE rfl rfl rfl (set_no p' hpw hrp slot A c b b.length rfl (by omega) 7 he) ?_
    rintro _ w ⟨rfl, hS1⟩; clear hE a; intro a hE; replace hS := hS.frame hS1; clear hS1; try simp only [List.cons_append, List.nil_append] at hS
    have hcz : Pg.zero.cells.length = 6 := rfl
    have honez := Pg.cells_one Pg.zero
    generalize setE p'.m slot b.length = x at hE he
    repeat' (first

      | (with_reducible refine wp_seq ?_)
      | (with_reducible refine c_region ?_)
      | (with_reducible refine wpList_nil ?_)
      | (with_reducible refine then_normal ?_)
      | ((with_reducible refine g_move ?_); refine s_move hE rfl rfl ?_; clear hE a; intro a hE)
      | ((with_reducible refine g_assign ?_); refine s_assign hE rfl rfl ?_; clear hE a; intro a hE)
      | ((with_reducible refine g_bin .neq ?_); refine s_neq hE rfl rfl rfl ?_; clear hE a; intro a hE)
      | ((with_reducible refine g_extract ?_); refine s_extract hE rfl rfl rfl ?_; clear hE a; intro a hE)
      | ((with_reducible refine g_cond ?_); refine c_dec hE rfl (fun hc => ?_) (fun hc => ?_) <;> try omega)
      | ((with_reducible refine g_alloc ?_); refine s_allocS hE hS rfl rfl ?_; clear hE a hS; intro g a w hE hS)
      | ((with_reducible refine g_build ?_); refine s_build [_, _, _, _, _, _] hE rfl rfl rfl ?_; clear hE a; intro a hE)
      | ((with_reducible refine g_load ?_); (first | (refine s_loadW (k := 0) hS hE rfl rfl rfl rfl ?_) ); clear hE a; intro a hE)
      | ((with_reducible refine g_store ?_); (first | (refine s_storeW (k := 0) hS hE rfl rfl rfl rfl rfl (by first | assumption ) ?_) ); clear hS; intro w hS; simp only [List.set_cons_zero, List.set_cons_succ, Nat.add_zero] at hS)
      )
    refine s_call hE rfl rfl rfl (sameP Pg.zero Pg.zero Pg.zero_wf Pg.zero_wf (zero_rd w) (zero_rd w)) ?_
    rintro _ w ⟨rfl, hS1⟩; clear hE a; intro a hE; replace hS := hS.frame hS1; clear hS1; try simp only [List.cons_append, List.nil_append] at hS
    rw [decide_eq_true rfl] at hE
    repeat' (first

      | (with_reducible refine wpList_nil ?_)
      | (with_reducible refine then_normal ?_)
      | (with_reducible refine wp_ret ?_)
      | (with_reducible refine then_ret ?_)
      | ((with_reducible refine g_assign ?_); refine s_assign hE rfl rfl ?_; clear hE a; intro a hE)
      )
    exact ret1 hE rfl rfl ⟨rfl, hS.nil⟩
end
end Go.Proofs.Ytmdfhhmnlplagaa
