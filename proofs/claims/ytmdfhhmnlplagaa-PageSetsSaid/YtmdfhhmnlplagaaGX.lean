/-
  Rows of pages handed in; the law PageEncodes.
-/
import Derived.Test.YtmdfhhmnlplagaaGW
namespace Go.Proofs.Ytmdfhhmnlplagaa
open Go.RowKit
set_option linter.unusedVariables false
set_option linter.unusedSimpArgs false
attribute [local irreducible] Rd hRow hBlk hRd hRdr rowsP Fn hMarks

instance tyG_blk : TyG Try.prog 39 := ⟨by kernel_rfl⟩
abbrev LPT := Option Addr × Nat × List PT
def LPT.ok (W : World) (q : LPT) : Prop := Rd W q.1 (q.2.2.flatMap PT.cells) ∧ q.2.2.length ≤ q.2.1 ∧ q.2.1 ≤ maxLen ∧ q.2.2.length * 112 ≤ 140737488351232 ∧ ∀ y ∈ q.2.2, PT.ok W y ∧ (PT.cells y).length = 6
def LPT.pgs (q : LPT) : List Pg := q.2.2.map PT.pg
theorem LPT.len (q : LPT) : q.pgs.length = q.2.2.length := by simp [LPT.pgs]
theorem pgs_flat {W : World} : ∀ {l : List PT}, (∀ y ∈ l, PT.ok W y) → l.flatMap PT.cells = (l.map PT.pg).flatMap Pg.cells
  | [], _ => rfl
  | y :: l, h => by
    rw [List.flatMap_cons, List.map_cons, List.flatMap_cons, PT.cells_pg (h y (List.mem_cons_self ..)), pgs_flat (l := l) fun y hy => h y (List.mem_cons_of_mem _ hy)]
theorem LPT.rd {W : World} {q : LPT} (h : q.ok W) : Rd W q.1 (q.pgs.flatMap Pg.cells) := by
  have h1 := h.1
  rw [pgs_flat fun y hy => (h.2.2.2.2 y hy).1] at h1
  exact h1
theorem LPT.all {W : World} {q : LPT} (h : q.ok W) : ∀ r ∈ q.pgs, r.wf ∧ r.rd W := by
  intro r hr
  obtain ⟨y, hy, rfl⟩ := List.mem_map.1 hr
  have := (h.2.2.2.2 y hy).1
  exact ⟨PT.pg_wf this, PT.pg_rd this⟩
theorem blk_get {b : List Nat} {j : Nat} (hb : 64 * j + 64 ≤ b.length) : ((bys b).drop (j * 64)).take 64 = bys (blk b j) := by rw [bys_blk, Nat.mul_comm]
section
variable {H : List HP} {w0 w : World}
set_option maxHeartbeats 16000000
theorem law_PageEncodes (y : LPT) (w0 : World) (h : y.ok w0) : Fn Try.prog 4 [.slice y.1 y.2.2.length y.2.1] w0 fun v w' => v = .bool true ∧ St w0 w' [] := by
  rw [← LPT.len]
  have hr := LPT.rd h
  have hall := LPT.all h
  have hcap : y.pgs.length ≤ y.2.1 := by rw [LPT.len]; exact h.2.1
  have hbig : y.pgs.length ≤ 140737488351232 := by have := h.2.2.2.1; rw [LPT.len]; omega
  generalize y.pgs = l at hr hall hcap hbig
  generalize y.1 = A at hr
  generalize y.2.1 = c at hcap
  have hls : ∀ r ∈ l, (Pg.cells r).length = 6 := fun r hr => by simp [(hall r hr).1.s4]
  have hfl : (l.flatMap Pg.cells).length = l.length * 6 := flat_len hls
  refine enter 125 Try.func4 rfl rfl rfl ?_
  intro a hE
  have hS := St.start w0
  repeat' (first

    | (with_reducible refine wp_seq ?_)
    | (with_reducible refine c_region ?_)
    | (with_reducible refine wpList_nil ?_)
    | (with_reducible refine then_normal ?_)
    | ((with_reducible refine g_assign ?_); refine s_assign hE rfl rfl ?_; clear hE a; intro a hE)
    )
  refine s_call hE rfl rfl rfl (wakes w0) ?_
  rintro _ w ⟨rfl, hS1⟩; clear hE a; intro a hE; replace hS := hS.frame hS1; clear hS1; try simp only [List.cons_append, List.nil_append] at hS
  repeat' (first

    | (with_reducible refine wp_seq ?_)
    | (with_reducible refine c_region ?_)
    | (with_reducible refine wpList_nil ?_)
    | (with_reducible refine then_normal ?_)
    | (with_reducible refine wp_skip ?_)
    | (with_reducible refine wp_block ?_)
    | ((with_reducible refine g_move ?_); refine s_move hE rfl rfl ?_; clear hE a; intro a hE)
    | ((with_reducible refine g_un .not ?_); refine s_notb hE rfl rfl ?_; clear hE a; intro a hE)
    | ((with_reducible refine g_blt .len ?_); refine s_len hE rfl rfl ?_; clear hE a; intro a hE)
    | ((with_reducible refine g_cond ?_); refine c_false hE rfl ?_)
    )
  refine wp_loop_ghost (fun q a w => ∃ (k : Nat), k + q = l.length ∧ St w0 w [] ∧ Env 125 [(17, .slice A l.length c), (18, .int .i64 (l.length : Int)), (19, .int .i64 (k : Int))] a) l.length ⟨0, by omega, hS, hE.sub ⟨rfl, rfl, rfl, trivial⟩⟩ ?_
  clear hE a hS
  rintro q a w ⟨k, hk, hS, hE⟩
  by_cases hk1 : k < l.length
  · by_cases hk12 : k = 12
    · subst hk12
      have hseg := flat_seg (c := Pg.cells) (size := 6) (l := l) hls hk1
      have hxl := hls _ (List.getElem_mem hk1)
      have hxo := Pg.cells_one (l[12]'hk1)
      repeat' (first

        | (with_reducible refine wp_seq ?_)
        | (with_reducible refine c_region ?_)
        | (with_reducible refine wpList_nil ?_)
        | (with_reducible refine then_normal ?_)
        | (with_reducible refine wp_skip ?_)
        | (with_reducible refine wp_ret ?_)
        | (with_reducible refine wp_block ?_)
        | (with_reducible refine wp_exit ?_)
        | (with_reducible refine then_exit ?_)
        | (with_reducible refine block_same ?_)
        | ((with_reducible refine block_other ?_ ?_); rfl)
        | ((with_reducible refine g_move ?_); refine s_move hE rfl rfl ?_; clear hE a; intro a hE)
        | ((with_reducible refine g_assign ?_); refine s_assign hE rfl rfl ?_; clear hE a; intro a hE)
        | ((with_reducible refine g_bin .lss ?_); refine s_lss hE rfl rfl rfl ?_; clear hE a; intro a hE)
        | ((with_reducible refine g_bin .eql ?_); refine s_eql hE rfl rfl rfl ?_; clear hE a; intro a hE)
        | ((with_reducible refine g_cond ?_); refine c_true hE rfl ?_)
        | ((with_reducible refine g_cond ?_); refine c_dec hE rfl (fun hc => ?_) (fun hc => ?_) <;> try omega)
        | ((with_reducible refine g_ia ?_); refine s_idxR hE rfl rfl (by omega) (by omega) (by (first | exact Rd.st (by assumption) hS )) (by first | omega ) rfl ?_; clear hE a; intro a hE)
        | ((with_reducible refine g_alloc ?_); refine s_allocS hE hS rfl rfl ?_; clear hE a hS; intro g a w hE hS)
        | ((with_reducible refine g_store ?_); (first | (refine s_storeW (k := 0) hS hE rfl rfl rfl (by assumption) (by first | rfl ) (by first | assumption) ?_) ); clear hS; intro w hS; simp only [List.set_cons_zero, List.set_cons_succ, Nat.add_zero] at hS)
        | ((with_reducible refine g_load ?_); refine s_elemR hE rfl (by (first | exact Rd.st (by assumption) hS )) (by first | exact hseg ) (by first | assumption) (by rfl) rfl ?_; clear hE a; intro a hE))
      exact ret1 hE rfl rfl ⟨rfl, hS.nil⟩
    · have hseg := flat_seg (c := Pg.cells) (size := 6) (l := l) hls hk1
      obtain ⟨hxw, hxr⟩ := hall _ (List.getElem_mem hk1)
      have hxl := hls _ (List.getElem_mem hk1)
      generalize (l[k]'hk1) = x at hseg hxw hxr hxl
      have hxo := Pg.cells_one x
      repeat' (first

        | (with_reducible refine wp_seq ?_)
        | (with_reducible refine c_region ?_)
        | (with_reducible refine wpList_nil ?_)
        | (with_reducible refine then_normal ?_)
        | (with_reducible refine wp_skip ?_)
        | (with_reducible refine wp_block ?_)
        | ((with_reducible refine g_move ?_); refine s_move hE rfl rfl ?_; clear hE a; intro a hE)
        | ((with_reducible refine g_assign ?_); refine s_assign hE rfl rfl ?_; clear hE a; intro a hE)
        | ((with_reducible refine g_bin .lss ?_); refine s_lss hE rfl rfl rfl ?_; clear hE a; intro a hE)
        | ((with_reducible refine g_bin .eql ?_); refine s_eql hE rfl rfl rfl ?_; clear hE a; intro a hE)
        | ((with_reducible refine g_cond ?_); refine c_dec hE rfl (fun hc => ?_) (fun hc => ?_) <;> try omega)
        | ((with_reducible refine g_ia ?_); refine s_idxR hE rfl rfl (by omega) (by omega) (by (first | exact Rd.st (by assumption) hS )) (by first | omega ) rfl ?_; clear hE a; intro a hE)
        | ((with_reducible refine g_alloc ?_); refine s_allocS hE hS rfl rfl ?_; clear hE a hS; intro g a w hE hS)
        | ((with_reducible refine g_store ?_); (first | (refine s_storeW (k := 0) hS hE rfl rfl rfl (by assumption) (by first | rfl ) (by first | assumption) ?_) ); clear hS; intro w hS; simp only [List.set_cons_zero, List.set_cons_succ, Nat.add_zero] at hS)
        | ((with_reducible refine g_load ?_); refine s_elemR hE rfl (by (first | exact Rd.st (by assumption) hS )) (by first | exact hseg ) (by first | assumption) (by rfl) rfl ?_; clear hE a; intro a hE))
      refine wp_mono (?_ : Code.wp _ _ (fun e a w => e = .normal ∧ ∃ (g4 g5 : Nat) (p q : Pg), p.m = x.m.short ∧ p.wf ∧ q.m = x.m.short ∧ q.wf ∧ St w0 w [hBlk g4 30 p.cells, rowsP p.s, hBlk g5 30 q.cells, rowsP q.s] ∧ Env 125 [(5, .pointer (some ⟨g4, 0, none⟩)), (6, .pointer (some ⟨g5, 0, none⟩)), (17, .slice A l.length c), (18, .int .i64 (l.length : Int)), (19, .int .i64 (k : Int))] a) _ _) ?_
      · refine c_ordK hS 0 rfl 7 ((.rd 0 (.rd 2 (.ef3 1 (.ef3 3 (.ef2 4 ((.ef 5 (.ef 6 (.lt 7 .done)))) 5 ((.ef 4 (.ef 6 (.lt 7 .done))))) 4 (.ef2 3 ((.ef 5 (.ef 6 (.lt 7 .done)))) 5 ((.ef 3 (.ef 6 (.lt 7 .done))))) 5 (.ef2 3 ((.ef 4 (.ef 6 (.lt 7 .done)))) 4 ((.ef 3 (.ef 6 (.lt 7 .done)))))) 4 (.ef2 1 (.ef2 3 ((.ef 5 (.ef 6 (.lt 7 .done)))) 5 ((.ef 3 (.ef 6 (.lt 7 .done))))) 5 ((.ef 1 (.ef 3 (.ef 6 (.lt 7 .done)))))) 5 (.ef2 1 (.ef2 3 ((.ef 4 (.ef 6 (.lt 7 .done)))) 4 ((.ef 3 (.ef 6 (.lt 7 .done))))) 4 ((.ef 1 (.ef 3 (.ef 6 (.lt 7 .done)))))))))) mixed (by decide +kernel) ?_
        clear hS; intro w hF hS
        repeat' (first
          | (with_reducible refine o_rd rfl ?_)
          | ((with_reducible refine q_load ?_); (first | (refine d_val hE hS rfl (fun w hS => r_loadW (k := 0) hS hE rfl rfl (by assumption)) ?_) ); clear hE a; intro a hE)
          )
        refine o_ef3 rfl rfl rfl ?_ ?_ ?_
        · skip
          refine s_call hE rfl rfl rfl (short x hxw (hxr.st hF)) ?_
          rintro _ w ⟨p, rfl, hpm, hpw, hS1⟩; clear hE a; intro a hE; replace hF := hF.frame hS1; clear hS1; simp only [List.cons_append, List.nil_append] at hF
          have hpl : p.cells.length = 6 := by simp [hpw.s4]
          have hpo := Pg.cells_one p
          refine wpList_nil ?_
          refine o_back _ (fun _ h => h) (hF.only 1 rfl) ?_
          clear hS; have hS := hF.only 1 rfl
          refine o_ef3 rfl rfl rfl ?_ ?_ ?_
          · skip
            refine s_call hE rfl rfl rfl (short x hxw (hxr.st hF)) ?_
            rintro _ w ⟨p2, rfl, hp2m, hp2w, hS1⟩; clear hE a; intro a hE; replace hF := hF.frame hS1; clear hS1; simp only [List.cons_append, List.nil_append] at hF
            have hp2l : p2.cells.length = 6 := by simp [hp2w.s4]
            have hp2o := Pg.cells_one p2
            refine wpList_nil ?_
            refine o_back _ (fun _ h => h) (hF.only 2 rfl) ?_
            clear hS; have hS := hF.only 2 rfl
            refine o_ef2 rfl rfl ?_ ?_
            · skip
              refine s_allocS hE hF rfl rfl ?_
              clear hE a hF; intro g4 a w hE hF
              refine wpList_nil ?_
              refine o_back _ (fun _ h => h) (hF.only 3 rfl) ?_
              clear hS; have hS := hF.only 3 rfl
              refine o_ef rfl ?_
              refine s_allocS hE hF rfl rfl ?_
              clear hE a hF; intro g5 a w hE hF
              refine wpList_nil ?_
              refine o_back _ (fun _ h => h) (hF.only 4 rfl) ?_
              clear hS; have hS := hF.only 4 rfl
              refine o_ef rfl ?_
              refine g_store ?_
              refine s_storeW (k := 1) hF hE rfl rfl rfl hpl rfl hpo ?_
              clear hF; intro w hF; simp only [List.set_cons_zero, List.set_cons_succ] at hF
              refine wpList_nil ?_
              refine o_back _ (fun _ h => h) (hF.only 4 rfl) ?_
              clear hS; have hS := hF.only 4 rfl
              refine o_lt rfl ?_
              refine g_store ?_
              refine s_storeW (k := 0) hF hE rfl rfl rfl hp2l rfl hp2o ?_
              clear hF; intro w hF; simp only [List.set_cons_zero, List.set_cons_succ] at hF
              refine wpList_nil ?_
              refine o_backL ?_
              refine o_done ?_
              have hG := (((((hF.focus (k := 4) rfl).focus (k := 3) rfl).focus (k := 2) rfl).focus (k := 4) rfl).focus (k := 4) rfl)
              simp only [List.eraseIdx_cons_succ, List.eraseIdx_cons_zero] at hG
              replace hG := hG.drop 4
              exact ⟨rfl, g4, g5, p, p2, hpm, hpw, hp2m, hp2w, hG, hE.sub ⟨rfl, rfl, rfl, rfl, rfl, trivial⟩⟩
            · skip
              refine s_allocS hE hF rfl rfl ?_
              clear hE a hF; intro g5 a w hE hF
              refine wpList_nil ?_
              refine o_back _ (fun _ h => h) (hF.only 3 rfl) ?_
              clear hS; have hS := hF.only 3 rfl
              refine o_ef rfl ?_
              refine s_allocS hE hF rfl rfl ?_
              clear hE a hF; intro g4 a w hE hF
              refine wpList_nil ?_
              refine o_back _ (fun _ h => h) (hF.only 4 rfl) ?_
              clear hS; have hS := hF.only 4 rfl
              refine o_ef rfl ?_
              refine g_store ?_
              refine s_storeW (k := 0) hF hE rfl rfl rfl hpl rfl hpo ?_
              clear hF; intro w hF; simp only [List.set_cons_zero, List.set_cons_succ] at hF
              refine wpList_nil ?_
              refine o_back _ (fun _ h => h) (hF.only 4 rfl) ?_
              clear hS; have hS := hF.only 4 rfl
              refine o_lt rfl ?_
              refine g_store ?_
              refine s_storeW (k := 1) hF hE rfl rfl rfl hp2l rfl hp2o ?_
              clear hF; intro w hF; simp only [List.set_cons_zero, List.set_cons_succ] at hF
              refine wpList_nil ?_
              refine o_backL ?_
              refine o_done ?_
              have hG := (((((hF.focus (k := 4) rfl).focus (k := 3) rfl).focus (k := 3) rfl).focus (k := 4) rfl).focus (k := 4) rfl)
              simp only [List.eraseIdx_cons_succ, List.eraseIdx_cons_zero] at hG
              replace hG := hG.drop 4
              exact ⟨rfl, g4, g5, p, p2, hpm, hpw, hp2m, hp2w, hG, hE.sub ⟨rfl, rfl, rfl, rfl, rfl, trivial⟩⟩
          · skip
            refine s_allocS hE hF rfl rfl ?_
            clear hE a hF; intro g4 a w hE hF
            refine wpList_nil ?_
            refine o_back _ (fun _ h => h) (hF.only 2 rfl) ?_
            clear hS; have hS := hF.only 2 rfl
            refine o_ef2 rfl rfl ?_ ?_
            · skip
              refine s_call hE rfl rfl rfl (short x hxw (hxr.st hF)) ?_
              rintro _ w ⟨p2, rfl, hp2m, hp2w, hS1⟩; clear hE a; intro a hE; replace hF := hF.frame hS1; clear hS1; simp only [List.cons_append, List.nil_append] at hF
              have hp2l : p2.cells.length = 6 := by simp [hp2w.s4]
              have hp2o := Pg.cells_one p2
              refine wpList_nil ?_
              refine o_back _ (fun _ h => h) (hF.only 3 rfl) ?_
              clear hS; have hS := hF.only 3 rfl
              refine o_ef rfl ?_
              refine s_allocS hE hF rfl rfl ?_
              clear hE a hF; intro g5 a w hE hF
              refine wpList_nil ?_
              refine o_back _ (fun _ h => h) (hF.only 4 rfl) ?_
              clear hS; have hS := hF.only 4 rfl
              refine o_ef rfl ?_
              refine g_store ?_
              refine s_storeW (k := 2) hF hE rfl rfl rfl hpl rfl hpo ?_
              clear hF; intro w hF; simp only [List.set_cons_zero, List.set_cons_succ] at hF
              refine wpList_nil ?_
              refine o_back _ (fun _ h => h) (hF.only 4 rfl) ?_
              clear hS; have hS := hF.only 4 rfl
              refine o_lt rfl ?_
              refine g_store ?_
              refine s_storeW (k := 0) hF hE rfl rfl rfl hp2l rfl hp2o ?_
              clear hF; intro w hF; simp only [List.set_cons_zero, List.set_cons_succ] at hF
              refine wpList_nil ?_
              refine o_backL ?_
              refine o_done ?_
              have hG := (((((hF.focus (k := 4) rfl).focus (k := 2) rfl).focus (k := 2) rfl).focus (k := 4) rfl).focus (k := 4) rfl)
              simp only [List.eraseIdx_cons_succ, List.eraseIdx_cons_zero] at hG
              replace hG := hG.drop 4
              exact ⟨rfl, g4, g5, p, p2, hpm, hpw, hp2m, hp2w, hG, hE.sub ⟨rfl, rfl, rfl, rfl, rfl, trivial⟩⟩
            · skip
              refine s_allocS hE hF rfl rfl ?_
              clear hE a hF; intro g5 a w hE hF
              refine wpList_nil ?_
              refine o_back _ (fun _ h => h) (hF.only 3 rfl) ?_
              clear hS; have hS := hF.only 3 rfl
              refine o_ef rfl ?_
              refine s_call hE rfl rfl rfl (short x hxw (hxr.st hF)) ?_
              rintro _ w ⟨p2, rfl, hp2m, hp2w, hS1⟩; clear hE a; intro a hE; replace hF := hF.frame hS1; clear hS1; simp only [List.cons_append, List.nil_append] at hF
              have hp2l : p2.cells.length = 6 := by simp [hp2w.s4]
              have hp2o := Pg.cells_one p2
              refine wpList_nil ?_
              refine o_back _ (fun _ h => h) (hF.only 4 rfl) ?_
              clear hS; have hS := hF.only 4 rfl
              refine o_ef rfl ?_
              refine g_store ?_
              refine s_storeW (k := 2) hF hE rfl rfl rfl hpl rfl hpo ?_
              clear hF; intro w hF; simp only [List.set_cons_zero, List.set_cons_succ] at hF
              refine wpList_nil ?_
              refine o_back _ (fun _ h => h) (hF.only 4 rfl) ?_
              clear hS; have hS := hF.only 4 rfl
              refine o_lt rfl ?_
              refine g_store ?_
              refine s_storeW (k := 1) hF hE rfl rfl rfl hp2l rfl hp2o ?_
              clear hF; intro w hF; simp only [List.set_cons_zero, List.set_cons_succ] at hF
              refine wpList_nil ?_
              refine o_backL ?_
              refine o_done ?_
              have hG := (((((hF.focus (k := 4) rfl).focus (k := 1) rfl).focus (k := 2) rfl).focus (k := 4) rfl).focus (k := 4) rfl)
              simp only [List.eraseIdx_cons_succ, List.eraseIdx_cons_zero] at hG
              replace hG := hG.drop 4
              exact ⟨rfl, g4, g5, p, p2, hpm, hpw, hp2m, hp2w, hG, hE.sub ⟨rfl, rfl, rfl, rfl, rfl, trivial⟩⟩
          · skip
            refine s_allocS hE hF rfl rfl ?_
            clear hE a hF; intro g5 a w hE hF
            refine wpList_nil ?_
            refine o_back _ (fun _ h => h) (hF.only 2 rfl) ?_
            clear hS; have hS := hF.only 2 rfl
            refine o_ef2 rfl rfl ?_ ?_
            · skip
              refine s_call hE rfl rfl rfl (short x hxw (hxr.st hF)) ?_
              rintro _ w ⟨p2, rfl, hp2m, hp2w, hS1⟩; clear hE a; intro a hE; replace hF := hF.frame hS1; clear hS1; simp only [List.cons_append, List.nil_append] at hF
              have hp2l : p2.cells.length = 6 := by simp [hp2w.s4]
              have hp2o := Pg.cells_one p2
              refine wpList_nil ?_
              refine o_back _ (fun _ h => h) (hF.only 3 rfl) ?_
              clear hS; have hS := hF.only 3 rfl
              refine o_ef rfl ?_
              refine s_allocS hE hF rfl rfl ?_
              clear hE a hF; intro g4 a w hE hF
              refine wpList_nil ?_
              refine o_back _ (fun _ h => h) (hF.only 4 rfl) ?_
              clear hS; have hS := hF.only 4 rfl
              refine o_ef rfl ?_
              refine g_store ?_
              refine s_storeW (k := 0) hF hE rfl rfl rfl hpl rfl hpo ?_
              clear hF; intro w hF; simp only [List.set_cons_zero, List.set_cons_succ] at hF
              refine wpList_nil ?_
              refine o_back _ (fun _ h => h) (hF.only 4 rfl) ?_
              clear hS; have hS := hF.only 4 rfl
              refine o_lt rfl ?_
              refine g_store ?_
              refine s_storeW (k := 2) hF hE rfl rfl rfl hp2l rfl hp2o ?_
              clear hF; intro w hF; simp only [List.set_cons_zero, List.set_cons_succ] at hF
              refine wpList_nil ?_
              refine o_backL ?_
              refine o_done ?_
              have hG := (((((hF.focus (k := 4) rfl).focus (k := 2) rfl).focus (k := 3) rfl).focus (k := 4) rfl).focus (k := 4) rfl)
              simp only [List.eraseIdx_cons_succ, List.eraseIdx_cons_zero] at hG
              replace hG := hG.drop 4
              exact ⟨rfl, g4, g5, p, p2, hpm, hpw, hp2m, hp2w, hG, hE.sub ⟨rfl, rfl, rfl, rfl, rfl, trivial⟩⟩
            · skip
              refine s_allocS hE hF rfl rfl ?_
              clear hE a hF; intro g4 a w hE hF
              refine wpList_nil ?_
              refine o_back _ (fun _ h => h) (hF.only 3 rfl) ?_
              clear hS; have hS := hF.only 3 rfl
              refine o_ef rfl ?_
              refine s_call hE rfl rfl rfl (short x hxw (hxr.st hF)) ?_
              rintro _ w ⟨p2, rfl, hp2m, hp2w, hS1⟩; clear hE a; intro a hE; replace hF := hF.frame hS1; clear hS1; simp only [List.cons_append, List.nil_append] at hF
              have hp2l : p2.cells.length = 6 := by simp [hp2w.s4]
              have hp2o := Pg.cells_one p2
              refine wpList_nil ?_
              refine o_back _ (fun _ h => h) (hF.only 4 rfl) ?_
              clear hS; have hS := hF.only 4 rfl
              refine o_ef rfl ?_
              refine g_store ?_
              refine s_storeW (k := 1) hF hE rfl rfl rfl hpl rfl hpo ?_
              clear hF; intro w hF; simp only [List.set_cons_zero, List.set_cons_succ] at hF
              refine wpList_nil ?_
              refine o_back _ (fun _ h => h) (hF.only 4 rfl) ?_
              clear hS; have hS := hF.only 4 rfl
              refine o_lt rfl ?_
              refine g_store ?_
              refine s_storeW (k := 2) hF hE rfl rfl rfl hp2l rfl hp2o ?_
              clear hF; intro w hF; simp only [List.set_cons_zero, List.set_cons_succ] at hF
              refine wpList_nil ?_
              refine o_backL ?_
              refine o_done ?_
              have hG := (((((hF.focus (k := 4) rfl).focus (k := 1) rfl).focus (k := 3) rfl).focus (k := 4) rfl).focus (k := 4) rfl)
              simp only [List.eraseIdx_cons_succ, List.eraseIdx_cons_zero] at hG
              replace hG := hG.drop 4
              exact ⟨rfl, g4, g5, p, p2, hpm, hpw, hp2m, hp2w, hG, hE.sub ⟨rfl, rfl, rfl, rfl, rfl, trivial⟩⟩
        · skip
          refine s_allocS hE hF rfl rfl ?_
          clear hE a hF; intro g4 a w hE hF
          refine wpList_nil ?_
          refine o_back _ (fun _ h => h) (hF.only 1 rfl) ?_
          clear hS; have hS := hF.only 1 rfl
          refine o_ef2 rfl rfl ?_ ?_
          · skip
            refine s_call hE rfl rfl rfl (short x hxw (hxr.st hF)) ?_
            rintro _ w ⟨p, rfl, hpm, hpw, hS1⟩; clear hE a; intro a hE; replace hF := hF.frame hS1; clear hS1; simp only [List.cons_append, List.nil_append] at hF
            have hpl : p.cells.length = 6 := by simp [hpw.s4]
            have hpo := Pg.cells_one p
            refine wpList_nil ?_
            refine o_back _ (fun _ h => h) (hF.only 2 rfl) ?_
            clear hS; have hS := hF.only 2 rfl
            refine o_ef2 rfl rfl ?_ ?_
            · skip
              refine s_call hE rfl rfl rfl (short x hxw (hxr.st hF)) ?_
              rintro _ w ⟨p2, rfl, hp2m, hp2w, hS1⟩; clear hE a; intro a hE; replace hF := hF.frame hS1; clear hS1; simp only [List.cons_append, List.nil_append] at hF
              have hp2l : p2.cells.length = 6 := by simp [hp2w.s4]
              have hp2o := Pg.cells_one p2
              refine wpList_nil ?_
              refine o_back _ (fun _ h => h) (hF.only 3 rfl) ?_
              clear hS; have hS := hF.only 3 rfl
              refine o_ef rfl ?_
              refine s_allocS hE hF rfl rfl ?_
              clear hE a hF; intro g5 a w hE hF
              refine wpList_nil ?_
              refine o_back _ (fun _ h => h) (hF.only 4 rfl) ?_
              clear hS; have hS := hF.only 4 rfl
              refine o_ef rfl ?_
              refine g_store ?_
              refine s_storeW (k := 3) hF hE rfl rfl rfl hpl rfl hpo ?_
              clear hF; intro w hF; simp only [List.set_cons_zero, List.set_cons_succ] at hF
              refine wpList_nil ?_
              refine o_back _ (fun _ h => h) (hF.only 4 rfl) ?_
              clear hS; have hS := hF.only 4 rfl
              refine o_lt rfl ?_
              refine g_store ?_
              refine s_storeW (k := 0) hF hE rfl rfl rfl hp2l rfl hp2o ?_
              clear hF; intro w hF; simp only [List.set_cons_zero, List.set_cons_succ] at hF
              refine wpList_nil ?_
              refine o_backL ?_
              refine o_done ?_
              have hG := (((((hF.focus (k := 4) rfl).focus (k := 2) rfl).focus (k := 2) rfl).focus (k := 3) rfl).focus (k := 4) rfl)
              simp only [List.eraseIdx_cons_succ, List.eraseIdx_cons_zero] at hG
              replace hG := hG.drop 4
              exact ⟨rfl, g4, g5, p, p2, hpm, hpw, hp2m, hp2w, hG, hE.sub ⟨rfl, rfl, rfl, rfl, rfl, trivial⟩⟩
            · skip
              refine s_allocS hE hF rfl rfl ?_
              clear hE a hF; intro g5 a w hE hF
              refine wpList_nil ?_
              refine o_back _ (fun _ h => h) (hF.only 3 rfl) ?_
              clear hS; have hS := hF.only 3 rfl
              refine o_ef rfl ?_
              refine s_call hE rfl rfl rfl (short x hxw (hxr.st hF)) ?_
              rintro _ w ⟨p2, rfl, hp2m, hp2w, hS1⟩; clear hE a; intro a hE; replace hF := hF.frame hS1; clear hS1; simp only [List.cons_append, List.nil_append] at hF
              have hp2l : p2.cells.length = 6 := by simp [hp2w.s4]
              have hp2o := Pg.cells_one p2
              refine wpList_nil ?_
              refine o_back _ (fun _ h => h) (hF.only 4 rfl) ?_
              clear hS; have hS := hF.only 4 rfl
              refine o_ef rfl ?_
              refine g_store ?_
              refine s_storeW (k := 3) hF hE rfl rfl rfl hpl rfl hpo ?_
              clear hF; intro w hF; simp only [List.set_cons_zero, List.set_cons_succ] at hF
              refine wpList_nil ?_
              refine o_back _ (fun _ h => h) (hF.only 4 rfl) ?_
              clear hS; have hS := hF.only 4 rfl
              refine o_lt rfl ?_
              refine g_store ?_
              refine s_storeW (k := 1) hF hE rfl rfl rfl hp2l rfl hp2o ?_
              clear hF; intro w hF; simp only [List.set_cons_zero, List.set_cons_succ] at hF
              refine wpList_nil ?_
              refine o_backL ?_
              refine o_done ?_
              have hG := (((((hF.focus (k := 4) rfl).focus (k := 1) rfl).focus (k := 2) rfl).focus (k := 3) rfl).focus (k := 4) rfl)
              simp only [List.eraseIdx_cons_succ, List.eraseIdx_cons_zero] at hG
              replace hG := hG.drop 4
              exact ⟨rfl, g4, g5, p, p2, hpm, hpw, hp2m, hp2w, hG, hE.sub ⟨rfl, rfl, rfl, rfl, rfl, trivial⟩⟩
          · skip
            refine s_allocS hE hF rfl rfl ?_
            clear hE a hF; intro g5 a w hE hF
            refine wpList_nil ?_
            refine o_back _ (fun _ h => h) (hF.only 2 rfl) ?_
            clear hS; have hS := hF.only 2 rfl
            refine o_ef rfl ?_
            refine s_call hE rfl rfl rfl (short x hxw (hxr.st hF)) ?_
            rintro _ w ⟨p, rfl, hpm, hpw, hS1⟩; clear hE a; intro a hE; replace hF := hF.frame hS1; clear hS1; simp only [List.cons_append, List.nil_append] at hF
            have hpl : p.cells.length = 6 := by simp [hpw.s4]
            have hpo := Pg.cells_one p
            refine wpList_nil ?_
            refine o_back _ (fun _ h => h) (hF.only 3 rfl) ?_
            clear hS; have hS := hF.only 3 rfl
            refine o_ef rfl ?_
            refine s_call hE rfl rfl rfl (short x hxw (hxr.st hF)) ?_
            rintro _ w ⟨p2, rfl, hp2m, hp2w, hS1⟩; clear hE a; intro a hE; replace hF := hF.frame hS1; clear hS1; simp only [List.cons_append, List.nil_append] at hF
            have hp2l : p2.cells.length = 6 := by simp [hp2w.s4]
            have hp2o := Pg.cells_one p2
            refine wpList_nil ?_
            refine o_back _ (fun _ h => h) (hF.only 4 rfl) ?_
            clear hS; have hS := hF.only 4 rfl
            refine o_ef rfl ?_
            refine g_store ?_
            refine s_storeW (k := 3) hF hE rfl rfl rfl hpl rfl hpo ?_
            clear hF; intro w hF; simp only [List.set_cons_zero, List.set_cons_succ] at hF
            refine wpList_nil ?_
            refine o_back _ (fun _ h => h) (hF.only 4 rfl) ?_
            clear hS; have hS := hF.only 4 rfl
            refine o_lt rfl ?_
            refine g_store ?_
            refine s_storeW (k := 2) hF hE rfl rfl rfl hp2l rfl hp2o ?_
            clear hF; intro w hF; simp only [List.set_cons_zero, List.set_cons_succ] at hF
            refine wpList_nil ?_
            refine o_backL ?_
            refine o_done ?_
            have hG := (((((hF.focus (k := 4) rfl).focus (k := 1) rfl).focus (k := 3) rfl).focus (k := 3) rfl).focus (k := 4) rfl)
            simp only [List.eraseIdx_cons_succ, List.eraseIdx_cons_zero] at hG
            replace hG := hG.drop 4
            exact ⟨rfl, g4, g5, p, p2, hpm, hpw, hp2m, hp2w, hG, hE.sub ⟨rfl, rfl, rfl, rfl, rfl, trivial⟩⟩
        · skip
          refine s_allocS hE hF rfl rfl ?_
          clear hE a hF; intro g5 a w hE hF
          refine wpList_nil ?_
          refine o_back _ (fun _ h => h) (hF.only 1 rfl) ?_
          clear hS; have hS := hF.only 1 rfl
          refine o_ef2 rfl rfl ?_ ?_
          · skip
            refine s_call hE rfl rfl rfl (short x hxw (hxr.st hF)) ?_
            rintro _ w ⟨p, rfl, hpm, hpw, hS1⟩; clear hE a; intro a hE; replace hF := hF.frame hS1; clear hS1; simp only [List.cons_append, List.nil_append] at hF
            have hpl : p.cells.length = 6 := by simp [hpw.s4]
            have hpo := Pg.cells_one p
            refine wpList_nil ?_
            refine o_back _ (fun _ h => h) (hF.only 2 rfl) ?_
            clear hS; have hS := hF.only 2 rfl
            refine o_ef2 rfl rfl ?_ ?_
            · skip
              refine s_call hE rfl rfl rfl (short x hxw (hxr.st hF)) ?_
              rintro _ w ⟨p2, rfl, hp2m, hp2w, hS1⟩; clear hE a; intro a hE; replace hF := hF.frame hS1; clear hS1; simp only [List.cons_append, List.nil_append] at hF
              have hp2l : p2.cells.length = 6 := by simp [hp2w.s4]
              have hp2o := Pg.cells_one p2
              refine wpList_nil ?_
              refine o_back _ (fun _ h => h) (hF.only 3 rfl) ?_
              clear hS; have hS := hF.only 3 rfl
              refine o_ef rfl ?_
              refine s_allocS hE hF rfl rfl ?_
              clear hE a hF; intro g4 a w hE hF
              refine wpList_nil ?_
              refine o_back _ (fun _ h => h) (hF.only 4 rfl) ?_
              clear hS; have hS := hF.only 4 rfl
              refine o_ef rfl ?_
              refine g_store ?_
              refine s_storeW (k := 0) hF hE rfl rfl rfl hpl rfl hpo ?_
              clear hF; intro w hF; simp only [List.set_cons_zero, List.set_cons_succ] at hF
              refine wpList_nil ?_
              refine o_back _ (fun _ h => h) (hF.only 4 rfl) ?_
              clear hS; have hS := hF.only 4 rfl
              refine o_lt rfl ?_
              refine g_store ?_
              refine s_storeW (k := 3) hF hE rfl rfl rfl hp2l rfl hp2o ?_
              clear hF; intro w hF; simp only [List.set_cons_zero, List.set_cons_succ] at hF
              refine wpList_nil ?_
              refine o_backL ?_
              refine o_done ?_
              have hG := (((((hF.focus (k := 4) rfl).focus (k := 2) rfl).focus (k := 4) rfl).focus (k := 4) rfl).focus (k := 4) rfl)
              simp only [List.eraseIdx_cons_succ, List.eraseIdx_cons_zero] at hG
              replace hG := hG.drop 4
              exact ⟨rfl, g4, g5, p, p2, hpm, hpw, hp2m, hp2w, hG, hE.sub ⟨rfl, rfl, rfl, rfl, rfl, trivial⟩⟩
            · skip
              refine s_allocS hE hF rfl rfl ?_
              clear hE a hF; intro g4 a w hE hF
              refine wpList_nil ?_
              refine o_back _ (fun _ h => h) (hF.only 3 rfl) ?_
              clear hS; have hS := hF.only 3 rfl
              refine o_ef rfl ?_
              refine s_call hE rfl rfl rfl (short x hxw (hxr.st hF)) ?_
              rintro _ w ⟨p2, rfl, hp2m, hp2w, hS1⟩; clear hE a; intro a hE; replace hF := hF.frame hS1; clear hS1; simp only [List.cons_append, List.nil_append] at hF
              have hp2l : p2.cells.length = 6 := by simp [hp2w.s4]
              have hp2o := Pg.cells_one p2
              refine wpList_nil ?_
              refine o_back _ (fun _ h => h) (hF.only 4 rfl) ?_
              clear hS; have hS := hF.only 4 rfl
              refine o_ef rfl ?_
              refine g_store ?_
              refine s_storeW (k := 1) hF hE rfl rfl rfl hpl rfl hpo ?_
              clear hF; intro w hF; simp only [List.set_cons_zero, List.set_cons_succ] at hF
              refine wpList_nil ?_
              refine o_back _ (fun _ h => h) (hF.only 4 rfl) ?_
              clear hS; have hS := hF.only 4 rfl
              refine o_lt rfl ?_
              refine g_store ?_
              refine s_storeW (k := 3) hF hE rfl rfl rfl hp2l rfl hp2o ?_
              clear hF; intro w hF; simp only [List.set_cons_zero, List.set_cons_succ] at hF
              refine wpList_nil ?_
              refine o_backL ?_
              refine o_done ?_
              have hG := (((((hF.focus (k := 4) rfl).focus (k := 1) rfl).focus (k := 4) rfl).focus (k := 4) rfl).focus (k := 4) rfl)
              simp only [List.eraseIdx_cons_succ, List.eraseIdx_cons_zero] at hG
              replace hG := hG.drop 4
              exact ⟨rfl, g4, g5, p, p2, hpm, hpw, hp2m, hp2w, hG, hE.sub ⟨rfl, rfl, rfl, rfl, rfl, trivial⟩⟩
          · skip
            refine s_allocS hE hF rfl rfl ?_
            clear hE a hF; intro g4 a w hE hF
            refine wpList_nil ?_
            refine o_back _ (fun _ h => h) (hF.only 2 rfl) ?_
            clear hS; have hS := hF.only 2 rfl
            refine o_ef rfl ?_
            refine s_call hE rfl rfl rfl (short x hxw (hxr.st hF)) ?_
            rintro _ w ⟨p, rfl, hpm, hpw, hS1⟩; clear hE a; intro a hE; replace hF := hF.frame hS1; clear hS1; simp only [List.cons_append, List.nil_append] at hF
            have hpl : p.cells.length = 6 := by simp [hpw.s4]
            have hpo := Pg.cells_one p
            refine wpList_nil ?_
            refine o_back _ (fun _ h => h) (hF.only 3 rfl) ?_
            clear hS; have hS := hF.only 3 rfl
            refine o_ef rfl ?_
            refine s_call hE rfl rfl rfl (short x hxw (hxr.st hF)) ?_
            rintro _ w ⟨p2, rfl, hp2m, hp2w, hS1⟩; clear hE a; intro a hE; replace hF := hF.frame hS1; clear hS1; simp only [List.cons_append, List.nil_append] at hF
            have hp2l : p2.cells.length = 6 := by simp [hp2w.s4]
            have hp2o := Pg.cells_one p2
            refine wpList_nil ?_
            refine o_back _ (fun _ h => h) (hF.only 4 rfl) ?_
            clear hS; have hS := hF.only 4 rfl
            refine o_ef rfl ?_
            refine g_store ?_
            refine s_storeW (k := 2) hF hE rfl rfl rfl hpl rfl hpo ?_
            clear hF; intro w hF; simp only [List.set_cons_zero, List.set_cons_succ] at hF
            refine wpList_nil ?_
            refine o_back _ (fun _ h => h) (hF.only 4 rfl) ?_
            clear hS; have hS := hF.only 4 rfl
            refine o_lt rfl ?_
            refine g_store ?_
            refine s_storeW (k := 3) hF hE rfl rfl rfl hp2l rfl hp2o ?_
            clear hF; intro w hF; simp only [List.set_cons_zero, List.set_cons_succ] at hF
            refine wpList_nil ?_
            refine o_backL ?_
            refine o_done ?_
            have hG := (((((hF.focus (k := 4) rfl).focus (k := 1) rfl).focus (k := 4) rfl).focus (k := 3) rfl).focus (k := 4) rfl)
            simp only [List.eraseIdx_cons_succ, List.eraseIdx_cons_zero] at hG
            replace hG := hG.drop 4
            exact ⟨rfl, g4, g5, p, p2, hpm, hpw, hp2m, hp2w, hG, hE.sub ⟨rfl, rfl, rfl, rfl, rfl, trivial⟩⟩
      clear hS hE a hxl hxo hxr hxw hseg
      rintro _ a w ⟨rfl, g4, g5, p, p2, hpm, hpw, hqm, hqw, hS, hE⟩
      generalize x.m.short = m at hpm hqm
      have hpl : p.cells.length = 6 := by simp [hpw.s4]
      have hpo := Pg.cells_one p
      have hp2l : p2.cells.length = 6 := by simp [hqw.s4]
      have hp2o := Pg.cells_one p2
      have hpp : decide (p.m = p2.m) = true := decide_eq_true (hpm.trans hqm.symm)
      by_cases hri : m.right = true
      · have hr1 : p.m.right = true := by rw [hpm]; exact hri
        have hr2 : p2.m.right = true := by rw [hqm]; exact hri
        have hel : m.enc.length = 256 := by
          have := (right_iff p.m).1 hr1
          rw [← hpm]
          exact enc_len hpw.ok.s4 this.2
        have heb : Bs m.enc := by rw [← hpm]; exact enc_bs hpw.ok ((right_iff p.m).1 hr1).2
        repeat' (first

          | (with_reducible refine wp_seq ?_)
          | (with_reducible refine c_region ?_)
          | (with_reducible refine then_normal ?_)
          | ((with_reducible refine g_load ?_); (first | (refine s_loadW (k := 0) hS hE rfl rfl (by first | assumption ) rfl ?_) ); clear hE a; intro a hE)
          )
        refine s_call hE rfl rfl rfl (encode_ok p hpw (rowsP_rdAt hS (k := 1) rfl) hr1) ?_
        rintro _ w ⟨Ab, cb, rfl, hS1⟩; clear hE a; intro a hE; replace hS := hS.frame hS1; clear hS1; try simp only [List.cons_append, List.nil_append] at hS
        repeat' (first

          | (with_reducible refine wp_seq ?_)
          | (with_reducible refine c_region ?_)
          | (with_reducible refine wpList_nil ?_)
          | (with_reducible refine then_normal ?_)
          | ((with_reducible refine g_move ?_); refine s_move hE rfl rfl ?_; clear hE a; intro a hE)
          | ((with_reducible refine g_assign ?_); refine s_assign hE rfl rfl ?_; clear hE a; intro a hE)
          | ((with_reducible refine g_extract ?_); refine s_extract hE rfl rfl rfl ?_; clear hE a; intro a hE)
          | ((with_reducible refine g_load ?_); (first | (refine s_loadW (k := 1) hS hE rfl rfl (by first | assumption ) rfl ?_) ); clear hE a; intro a hE)
          )
        refine s_call hE rfl rfl rfl (sectors_ok p hpw (rowsP_rdAt hS (k := 2) rfl) hr1) ?_
        rintro _ w ⟨As, cs, rfl, hS1⟩; clear hE a; intro a hE; replace hS := hS.frame hS1; clear hS1; try simp only [List.cons_append, List.nil_append] at hS
        repeat' (first

          | (with_reducible refine wp_seq ?_)
          | (with_reducible refine c_region ?_)
          | (with_reducible refine wpList_nil ?_)
          | (with_reducible refine then_normal ?_)
          | ((with_reducible refine g_move ?_); refine s_move hE rfl rfl ?_; clear hE a; intro a hE)
          | ((with_reducible refine g_assign ?_); refine s_assign hE rfl rfl ?_; clear hE a; intro a hE)
          | ((with_reducible refine g_extract ?_); refine s_extract hE rfl rfl rfl ?_; clear hE a; intro a hE)
          | ((with_reducible refine g_load ?_); (first | (refine s_loadW (k := 2) hS hE rfl rfl (by first | assumption ) rfl ?_) ); clear hE a; intro a hE)
          )
        refine s_call hE rfl rfl rfl (check p hpw w) ?_
        rintro _ w ⟨rfl, hS1⟩; clear hE a; intro a hE; replace hS := hS.frame hS1; clear hS1; try simp only [List.cons_append, List.nil_append] at hS
        rw [hr1, if_pos rfl] at hE
        repeat' (first

          | (with_reducible refine wp_seq ?_)
          | (with_reducible refine c_region ?_)
          | (with_reducible refine wpList_nil ?_)
          | (with_reducible refine then_normal ?_)
          | ((with_reducible refine g_assign ?_); refine s_assign hE rfl rfl ?_; clear hE a; intro a hE)
          | ((with_reducible refine g_load ?_); (first | (refine s_loadW (k := 2) hS hE rfl rfl (by first | assumption ) rfl ?_) | (refine s_loadW (k := 4) hS hE rfl rfl (by first | assumption ) rfl ?_) ); clear hE a; intro a hE)
          )
        refine s_call hE rfl rfl rfl (rsameP p p2 hpw hqw (rowsP_rdAt hS (k := 3) rfl) (rowsP_rdAt hS (k := 5) rfl)) ?_
        rintro _ w ⟨rfl, hS1⟩; clear hE a; intro a hE; replace hS := hS.frame hS1; clear hS1; try simp only [List.cons_append, List.nil_append] at hS
        rw [hpp] at hE
        repeat' (first

          | (with_reducible refine wp_seq ?_)
          | (with_reducible refine c_region ?_)
          | (with_reducible refine wpList_nil ?_)
          | (with_reducible refine then_normal ?_)
          | (with_reducible refine wp_skip ?_)
          | ((with_reducible refine g_un .not ?_); refine s_notb hE rfl rfl ?_; clear hE a; intro a hE)
          | ((with_reducible refine g_cond ?_); refine c_false hE rfl ?_)
          | ((with_reducible refine g_load ?_); (first | (refine s_loadW (k := 4) hS hE rfl rfl (by first | assumption ) rfl ?_) ); clear hE a; intro a hE)
          )
        refine s_call hE rfl rfl rfl (rright p2 hqw w) ?_
        rintro _ w ⟨rfl, hS1⟩; clear hE a; intro a hE; replace hS := hS.frame hS1; clear hS1; try simp only [List.cons_append, List.nil_append] at hS
        rw [hr2] at hE
        repeat' (first

          | (with_reducible refine wp_seq ?_)
          | (with_reducible refine c_region ?_)
          | (with_reducible refine wpList_nil ?_)
          | (with_reducible refine then_normal ?_)
          | (with_reducible refine wp_skip ?_)
          | ((with_reducible refine g_un .not ?_); refine s_notb hE rfl rfl ?_; clear hE a; intro a hE)
          | ((with_reducible refine g_cond ?_); refine c_false hE rfl ?_)
          | ((with_reducible refine g_load ?_); (first | (refine s_loadW (k := 4) hS hE rfl rfl (by first | assumption ) rfl ?_) ); clear hE a; intro a hE)
          )
        refine s_call hE rfl rfl rfl (rsectors p2 hqw (rowsP_rdAt hS (k := 5) rfl) hr2) ?_
        rintro _ w ⟨At, ct, rfl, hS1⟩; clear hE a; intro a hE; replace hS := hS.frame hS1; clear hS1; try simp only [List.cons_append, List.nil_append] at hS
        repeat' (first

          | (with_reducible refine wp_seq ?_)
          | (with_reducible refine c_region ?_)
          | (with_reducible refine wpList_nil ?_)
          | (with_reducible refine then_normal ?_)
          | ((with_reducible refine g_move ?_); refine s_move hE rfl rfl ?_; clear hE a; intro a hE)
          | ((with_reducible refine g_assign ?_); refine s_assign hE rfl rfl ?_; clear hE a; intro a hE)
          | ((with_reducible refine g_bin .neq ?_); refine s_neq hE rfl rfl rfl ?_; clear hE a; intro a hE)
          | ((with_reducible refine g_guard ?_); refine gd_yes hE rfl rfl rfl ?_)
          | ((with_reducible refine g_pick ?_); refine s_pickF hE rfl rfl rfl ?_; clear hE a; intro a hE)
          | ((with_reducible refine g_load ?_); (first | (refine s_loadW (k := 5) hS hE rfl rfl (by first | assumption ) rfl ?_) ); clear hE a; intro a hE)
          )
        refine s_call hE rfl rfl rfl (rbytes p2 hqw (rowsP_rdAt hS (k := 6) rfl) hr2) ?_
        rintro _ w ⟨Ar, cr, rfl, hS1⟩; clear hE a; intro a hE; replace hS := hS.frame hS1; clear hS1; try simp only [List.cons_append, List.nil_append] at hS
        rw [hpm, hqm] at hS
        generalize m.enc = b at hS hel heb
        repeat' (first

          | ((with_reducible refine g_guard ?_); refine gd_yes hE rfl rfl rfl ?_)
          )
        refine s_call hE rfl rfl rfl (bequal _ _ _ _ b b 256 256 w (hS.rdAt (k := 3) rfl) (hS.rdAt (k := 0) rfl) heb heb hel.symm hel.symm) ?_
        rintro _ w ⟨rfl, hS1⟩; clear hE a; intro a hE; replace hS := hS.frame hS1; clear hS1; try simp only [List.cons_append, List.nil_append] at hS
        rw [decide_eq_true rfl] at hE
        repeat' (first

          | (with_reducible refine wp_seq ?_)
          | (with_reducible refine c_region ?_)
          | (with_reducible refine wpList_nil ?_)
          | (with_reducible refine then_normal ?_)
          | (with_reducible refine wp_skip ?_)
          | (with_reducible refine wp_block ?_)
          | ((with_reducible refine g_move ?_); refine s_move hE rfl rfl ?_; clear hE a; intro a hE)
          | ((with_reducible refine g_bin .neq ?_); refine s_neq hE rfl rfl rfl ?_; clear hE a; intro a hE)
          | ((with_reducible refine g_un .not ?_); refine s_notb hE rfl rfl ?_; clear hE a; intro a hE)
          | ((with_reducible refine g_blt .len ?_); refine s_len hE rfl rfl ?_; clear hE a; intro a hE)
          | ((with_reducible refine g_guard ?_); refine gd_yes hE rfl rfl rfl ?_)
          | ((with_reducible refine g_pick ?_); refine s_pickF hE rfl rfl rfl ?_; clear hE a; intro a hE)
          | ((with_reducible refine g_cond ?_); refine c_false hE rfl ?_)
          )
        have hS2 := hS.drop 0
        simp only [List.eraseIdx_cons_zero] at hS2
        clear hS; have hS := hS2; clear hS2
        refine wp_mono (?_ : Code.wp _ _ (fun e a w => e = .exit 2 ∧ St w0 w [hRow 39 64 At 4 ct (bys b), hRow 39 64 As 4 cs (bys b), hRow 5 1 Ab 256 cb (bys b), hBlk g4 30 p.cells, rowsP p.s, hBlk g5 30 p2.cells, rowsP p2.s] ∧ Env 125 [(7, .slice Ab 256 cb), (5, .pointer (some ⟨g4, 0, none⟩)), (6, .pointer (some ⟨g5, 0, none⟩)), (17, .slice A l.length c), (18, .int .i64 (l.length : Int)), (19, .int .i64 (k : Int))] a) _ _) ?_
        · refine wp_loop_ghost (fun q a w => ∃ (j : Nat), j + q = 4 ∧ St w0 w [hRow 39 64 At 4 ct (bys b), hRow 39 64 As 4 cs (bys b), hRow 5 1 Ab 256 cb (bys b), hBlk g4 30 p.cells, rowsP p.s, hBlk g5 30 p2.cells, rowsP p2.s] ∧ Env 125 [(94, .int .i64 4), (95, .int .i64 (j : Int)), (9, .slice As 4 cs), (12, .slice At 4 ct), (7, .slice Ab 256 cb), (5, .pointer (some ⟨g4, 0, none⟩)), (6, .pointer (some ⟨g5, 0, none⟩)), (17, .slice A l.length c), (18, .int .i64 (l.length : Int)), (19, .int .i64 (k : Int))] a) 4 ⟨0, by omega, hS, hE.sub ⟨rfl, rfl, rfl, rfl, rfl, rfl, rfl, rfl, rfl, rfl, trivial⟩⟩ ?_
          clear hE a hS
          rintro q a w ⟨j, hj, hS, hE⟩
          have hbyl : (bys b).length = 256 := by rw [bys_length]; exact hel
          by_cases hj1 : j < 4
          · have hblk := blk_len (b := b) (j := j) (by omega)
            have hbk : (bys (blk b j)).length = 64 := by rw [bys_length]; exact hblk
            have hbg := blk_get (b := b) (j := j) (by omega)
            repeat' (first

              | (with_reducible refine wp_seq ?_)
              | (with_reducible refine c_region ?_)
              | (with_reducible refine wpList_nil ?_)
              | (with_reducible refine then_normal ?_)
              | (with_reducible refine wp_skip ?_)
              | (with_reducible refine wp_block ?_)
              | ((with_reducible refine g_move ?_); refine s_move hE rfl rfl ?_; clear hE a; intro a hE)
              | ((with_reducible refine g_assign ?_); refine s_assign hE rfl rfl ?_; clear hE a; intro a hE)
              | ((with_reducible refine g_bin .lss ?_); refine s_lss hE rfl rfl rfl ?_; clear hE a; intro a hE)
              | ((with_reducible refine g_cond ?_); refine c_dec hE rfl (fun hc => ?_) (fun hc => ?_) <;> try omega)
              )
            refine c_ordH _ hS (fun u hu => hu.keep2) 9 ((.rd 0 (.rd 1 (.rd 2 (.rd 3 (.rd 4 (.rd 5 (.rd 6 (.rd 7 (.rd 8 .done)))))))))) mixed (by decide +kernel) ?_
            clear hS; intro w hF hS
            repeat' (first
              | (with_reducible refine o_rd rfl ?_)
              | (with_reducible refine o_done ?_)
              | ((with_reducible refine q_move ?_); refine d_val hE hS rfl (fun w hS => r_move hE rfl) ?_; clear hE a; intro a hE)
              | ((with_reducible refine q_ia ?_); refine d_val hE hS rfl (fun w hS => r_idxR hE rfl rfl (by omega) (by omega) (by (first | exact hS.rd | exact hS.rdAt (k := 1) rfl )) (by first | omega )) ?_; clear hE a; intro a hE)
              | ((with_reducible refine q_bin .neq ?_); refine d_val hE hS rfl (fun w hS => r_neS hE rfl rfl (by first | assumption )) ?_; clear hE a; intro a hE)
              | ((with_reducible refine q_load ?_); refine d_val hE hS rfl (fun w hS => r_elemR hE rfl (by first | exact hS.rd | exact hS.rdAt (k := 1) rfl ) (by first | exact hbg ) (by first | assumption) rfl) ?_; clear hE a; intro a hE)
              )
            clear hS; have hS := hF; clear hF
            repeat' (first

              | (with_reducible refine c_region ?_)
              | (with_reducible refine wpList_nil ?_)
              | (with_reducible refine then_normal ?_)
              | (with_reducible refine wp_skip ?_)
              | (with_reducible refine block_normal ?_)
              | ((with_reducible refine g_move ?_); refine s_move hE rfl rfl ?_; clear hE a; intro a hE)
              | ((with_reducible refine g_bin .add ?_); refine s_add hE rfl rfl rfl (by first  | exact wrap64_in (by omega) ) ?_; clear hE a; intro a hE)
              | ((with_reducible refine g_cond ?_); refine c_false hE rfl ?_)
              )
            exact ⟨q - 1, by omega, j + 1, by omega, hS, hE.sub ⟨rfl, rfl, rfl, rfl, rfl, rfl, rfl, rfl, rfl, rfl, trivial⟩⟩
          · obtain rfl : j = 4 := by omega
            repeat' (first

              | (with_reducible refine wp_seq ?_)
              | (with_reducible refine c_region ?_)
              | (with_reducible refine wpList_nil ?_)
              | (with_reducible refine then_normal ?_)
              | (with_reducible refine wp_exit ?_)
              | (with_reducible refine then_exit ?_)
              | ((with_reducible refine g_bin .lss ?_); refine s_lss hE rfl rfl rfl ?_; clear hE a; intro a hE)
              | ((with_reducible refine g_cond ?_); refine c_false hE rfl ?_)
              )
            exact ⟨rfl, hS, hE.sub ⟨rfl, rfl, rfl, rfl, rfl, rfl, trivial⟩⟩
        clear hS hE a
        rintro _ a w ⟨rfl, hS, hE⟩
        have hS2 := (hS.focus (k := 2) rfl).drop 1 |>.drop 1
        simp only [List.eraseIdx_cons_succ, List.eraseIdx_cons_zero] at hS2
        clear hS; have hS := hS2; clear hS2
        repeat' (first

          | (with_reducible refine wp_seq ?_)
          | (with_reducible refine c_region ?_)
          | (with_reducible refine wpList_nil ?_)
          | (with_reducible refine then_normal ?_)
          | (with_reducible refine wp_block ?_)
          | (with_reducible refine block_same ?_)
          | ((with_reducible refine g_move ?_); refine s_move hE rfl rfl ?_; clear hE a; intro a hE)
          | ((with_reducible refine g_blt .len ?_); refine s_len hE rfl rfl ?_; clear hE a; intro a hE)
          )
        obtain ⟨N, hN⟩ : ∃ N : Nat, N = 256 := ⟨_, rfl⟩
        rw [← hN] at hS hE hel
        refine wp_loop_ghost (fun q2 a w => ∃ (i : Nat) (ys : List Nat), i + q2 = N ∧ ys.length = N ∧ Bs ys ∧ St w0 w [hRow 5 1 Ab N cb (bys ys), hBlk g4 30 p.cells, rowsP p.s, hBlk g5 30 p2.cells, rowsP p2.s] ∧ Env 125 [(109, .int .i64 (N : Int)), (110, .int .i64 (i : Int)), (7, .slice Ab N cb), (5, .pointer (some ⟨g4, 0, none⟩)), (6, .pointer (some ⟨g5, 0, none⟩)), (17, .slice A l.length c), (18, .int .i64 (l.length : Int)), (19, .int .i64 (k : Int))] a) N ⟨0, b, by omega, hel, heb, hS, hE.sub ⟨rfl, rfl, rfl, rfl, rfl, rfl, rfl, rfl, trivial⟩⟩ ?_
        clear hE a hS
        rintro q2 a w ⟨i, ys, hi, hyl, hyb, hS, hE⟩
        have hbl : (bys ys).length = N := by rw [bys_length, hyl]
        by_cases hi1 : i < N
        · have hiy : i < ys.length := by omega
          have hg := bys_getM hiy
          have hxb := hyb.get hiy
          have exo := xor_u8 (b := 238) hxb (by decide)
          repeat' (first

            | (with_reducible refine wp_seq ?_)
            | (with_reducible refine c_region ?_)
            | (with_reducible refine wpList_nil ?_)
            | (with_reducible refine then_normal ?_)
            | (with_reducible refine wp_skip ?_)
            | (with_reducible refine wp_block ?_)
            | (with_reducible refine block_normal ?_)
            | ((with_reducible refine g_move ?_); refine s_move hE rfl rfl ?_; clear hE a; intro a hE)
            | ((with_reducible refine g_assign ?_); refine s_assign hE rfl rfl ?_; clear hE a; intro a hE)
            | ((with_reducible refine g_bin .lss ?_); refine s_lss hE rfl rfl rfl ?_; clear hE a; intro a hE)
            | ((with_reducible refine g_bin .add ?_); refine s_add hE rfl rfl rfl (by first | exact wrap64_in (by omega) ) ?_; clear hE a; intro a hE)
            | ((with_reducible refine g_bin .xor ?_); refine s_xor hE rfl rfl rfl (by first | exact exo ) ?_; clear hE a; intro a hE)
            | ((with_reducible refine g_cond ?_); refine c_dec hE rfl (fun hc => ?_) (fun hc => ?_) <;> try omega)
            | ((with_reducible refine g_ia ?_); refine s_idxR hE rfl rfl (by omega) (by omega) (by (first | exact hS.rd )) (by first | omega ) rfl ?_; clear hE a; intro a hE)
            | ((with_reducible refine g_load ?_); refine s_loadR hE rfl (by (first | exact hS.rd )) (by first | exact hg ) rfl ?_; clear hE a; intro a hE)
            | ((with_reducible refine g_store ?_); (first | (refine s_storeR1 (k := 0) hS hE rfl rfl rfl rfl (by first | omega ) rfl ?_) ); clear hS; intro w hS; simp only [List.set_cons_zero, List.set_cons_succ, Nat.add_zero] at hS)
            )
          rw [Int.toNat_natCast, Nat.mul_one, bys_set] at hS
          refine ⟨q2 - 1, by omega, i + 1, ys.set i (ys[i] ^^^ 238), by omega, by rw [List.length_set]; exact hyl, ?_, hS, hE.sub ⟨rfl, rfl, rfl, rfl, rfl, rfl, rfl, rfl, trivial⟩⟩
          intro x hx
          rcases List.mem_or_eq_of_mem_set hx with hx | hx
          · exact hyb x hx
          · subst hx
            exact Nat.xor_lt_two_pow (n := 8) hxb (by decide)
        · repeat' (first

            | (with_reducible refine wp_seq ?_)
            | (with_reducible refine c_region ?_)
            | (with_reducible refine wpList_nil ?_)
            | (with_reducible refine then_normal ?_)
            | (with_reducible refine wp_exit ?_)
            | (with_reducible refine then_exit ?_)
            | (with_reducible refine block_same ?_)
            | ((with_reducible refine g_bin .lss ?_); refine s_lss hE rfl rfl rfl ?_; clear hE a; intro a hE)
            | ((with_reducible refine g_cond ?_); refine c_dec hE rfl (fun hc => ?_) (fun hc => ?_) <;> try omega)
            | ((with_reducible refine g_load ?_); (first | (refine s_loadW (k := 1) hS hE rfl rfl (by first | assumption ) rfl ?_) | (refine s_loadW (k := 3) hS hE rfl rfl (by first | assumption ) rfl ?_) ); clear hE a; intro a hE)
            )
          refine s_call hE rfl rfl rfl (rsameP p p2 hpw hqw (rowsP_rdAt hS (k := 2) rfl) (rowsP_rdAt hS (k := 4) rfl)) ?_
          rintro _ w ⟨rfl, hS1⟩; clear hE a; intro a hE; replace hS := hS.frame hS1; clear hS1; try simp only [List.cons_append, List.nil_append] at hS
          rw [hpp] at hE
          repeat' (first

            | (with_reducible refine c_region ?_)
            | (with_reducible refine wpList_nil ?_)
            | (with_reducible refine then_normal ?_)
            | (with_reducible refine wp_skip ?_)
            | (with_reducible refine block_normal ?_)
            | ((with_reducible refine g_move ?_); refine s_move hE rfl rfl ?_; clear hE a; intro a hE)
            | ((with_reducible refine g_bin .add ?_); refine s_add hE rfl rfl rfl (by first  | exact wrap64_in (by omega) ) ?_; clear hE a; intro a hE)
            | ((with_reducible refine g_un .not ?_); refine s_notb hE rfl rfl ?_; clear hE a; intro a hE)
            | ((with_reducible refine g_cond ?_); refine c_false hE rfl ?_)
            )
          exact ⟨q - 1, by omega, k + 1, by omega, hS.nil, hE.sub ⟨rfl, rfl, rfl, trivial⟩⟩
      · have hr1 : p.m.right = false := by rw [hpm]; simpa using hri
        have hr2 : p2.m.right = false := by rw [hqm]; simpa using hri
        repeat' (first

          | (with_reducible refine wp_seq ?_)
          | (with_reducible refine c_region ?_)
          | (with_reducible refine then_normal ?_)
          | ((with_reducible refine g_load ?_); (first | (refine s_loadW (k := 0) hS hE rfl rfl (by first | assumption ) rfl ?_) ); clear hE a; intro a hE)
          )
        refine s_call hE rfl rfl rfl (encode_no p hpw hr1 w) ?_
        rintro _ w ⟨rfl, hS1⟩; clear hE a; intro a hE; replace hS := hS.frame hS1; clear hS1; try simp only [List.cons_append, List.nil_append] at hS
        repeat' (first

          | (with_reducible refine wp_seq ?_)
          | (with_reducible refine c_region ?_)
          | (with_reducible refine wpList_nil ?_)
          | (with_reducible refine then_normal ?_)
          | ((with_reducible refine g_move ?_); refine s_move hE rfl rfl ?_; clear hE a; intro a hE)
          | ((with_reducible refine g_assign ?_); refine s_assign hE rfl rfl ?_; clear hE a; intro a hE)
          | ((with_reducible refine g_extract ?_); refine s_extract hE rfl rfl rfl ?_; clear hE a; intro a hE)
          | ((with_reducible refine g_load ?_); (first | (refine s_loadW (k := 0) hS hE rfl rfl (by first | assumption ) rfl ?_) ); clear hE a; intro a hE)
          )
        refine s_call hE rfl rfl rfl (sectors_no p hpw hr1 w) ?_
        rintro _ w ⟨rfl, hS1⟩; clear hE a; intro a hE; replace hS := hS.frame hS1; clear hS1; try simp only [List.cons_append, List.nil_append] at hS
        repeat' (first

          | (with_reducible refine wp_seq ?_)
          | (with_reducible refine c_region ?_)
          | (with_reducible refine wpList_nil ?_)
          | (with_reducible refine then_normal ?_)
          | ((with_reducible refine g_move ?_); refine s_move hE rfl rfl ?_; clear hE a; intro a hE)
          | ((with_reducible refine g_assign ?_); refine s_assign hE rfl rfl ?_; clear hE a; intro a hE)
          | ((with_reducible refine g_extract ?_); refine s_extract hE rfl rfl rfl ?_; clear hE a; intro a hE)
          | ((with_reducible refine g_load ?_); (first | (refine s_loadW (k := 0) hS hE rfl rfl (by first | assumption ) rfl ?_) ); clear hE a; intro a hE)
          )
        refine s_call hE rfl rfl rfl (check p hpw w) ?_
        rintro _ w ⟨rfl, hS1⟩; clear hE a; intro a hE; replace hS := hS.frame hS1; clear hS1; try simp only [List.cons_append, List.nil_append] at hS
        rw [hr1, if_neg (by simp)] at hE
        repeat' (first

          | (with_reducible refine wp_seq ?_)
          | (with_reducible refine c_region ?_)
          | (with_reducible refine wpList_nil ?_)
          | (with_reducible refine then_normal ?_)
          | ((with_reducible refine g_assign ?_); refine s_assign hE rfl rfl ?_; clear hE a; intro a hE)
          | ((with_reducible refine g_load ?_); (first | (refine s_loadW (k := 0) hS hE rfl rfl (by first | assumption ) rfl ?_) | (refine s_loadW (k := 2) hS hE rfl rfl (by first | assumption ) rfl ?_) ); clear hE a; intro a hE)
          )
        refine s_call hE rfl rfl rfl (rsameP p p2 hpw hqw (rowsP_rdAt hS (k := 1) rfl) (rowsP_rdAt hS (k := 3) rfl)) ?_
        rintro _ w ⟨rfl, hS1⟩; clear hE a; intro a hE; replace hS := hS.frame hS1; clear hS1; try simp only [List.cons_append, List.nil_append] at hS
        rw [hpp] at hE
        repeat' (first

          | (with_reducible refine wp_seq ?_)
          | (with_reducible refine c_region ?_)
          | (with_reducible refine wpList_nil ?_)
          | (with_reducible refine then_normal ?_)
          | (with_reducible refine wp_skip ?_)
          | ((with_reducible refine g_un .not ?_); refine s_notb hE rfl rfl ?_; clear hE a; intro a hE)
          | ((with_reducible refine g_cond ?_); refine c_false hE rfl ?_)
          | ((with_reducible refine g_load ?_); (first | (refine s_loadW (k := 2) hS hE rfl rfl (by first | assumption ) rfl ?_) ); clear hE a; intro a hE)
          )
        refine s_call hE rfl rfl rfl (rright p2 hqw w) ?_
        rintro _ w ⟨rfl, hS1⟩; clear hE a; intro a hE; replace hS := hS.frame hS1; clear hS1; try simp only [List.cons_append, List.nil_append] at hS
        rw [hr2] at hE
        repeat' (first

          | (with_reducible refine wp_seq ?_)
          | (with_reducible refine c_region ?_)
          | (with_reducible refine wpList_nil ?_)
          | (with_reducible refine then_normal ?_)
          | (with_reducible refine wp_skip ?_)
          | (with_reducible refine wp_exit ?_)
          | (with_reducible refine then_exit ?_)
          | (with_reducible refine block_same ?_)
          | ((with_reducible refine g_move ?_); refine s_move hE rfl rfl ?_; clear hE a; intro a hE)
          | ((with_reducible refine g_bin .neq ?_); refine s_neq hE rfl rfl rfl ?_; clear hE a; intro a hE)
          | ((with_reducible refine g_bin .add ?_); refine s_add hE rfl rfl rfl (by first  | exact addN (by omega) | exact wrap64_in (by omega) ) ?_; clear hE a; intro a hE)
          | ((with_reducible refine g_un .not ?_); refine s_notb hE rfl rfl ?_; clear hE a; intro a hE)
          | ((with_reducible refine g_blt .len ?_); refine s_len hE rfl rfl ?_; clear hE a; intro a hE)
          | ((with_reducible refine g_guard ?_); refine gd_yes hE rfl rfl rfl ?_)
          | ((with_reducible refine g_pick ?_); refine s_pickF hE rfl rfl rfl ?_; clear hE a; intro a hE)
          | ((with_reducible refine g_cond ?_); refine c_true hE rfl ?_)
          | ((with_reducible refine g_cond ?_); refine c_false hE rfl ?_)
          )
        exact ⟨q - 1, by omega, k + 1, by omega, hS.nil, hE.sub ⟨rfl, rfl, rfl, trivial⟩⟩
  · obtain rfl : k = l.length := by omega
    repeat' (first

      | (with_reducible refine wp_seq ?_)
      | (with_reducible refine c_region ?_)
      | (with_reducible refine wpList_nil ?_)
      | (with_reducible refine then_normal ?_)
      | (with_reducible refine wp_ret ?_)
      | (with_reducible refine wp_exit ?_)
      | (with_reducible refine then_exit ?_)
      | (with_reducible refine block_same ?_)
      | ((with_reducible refine g_assign ?_); refine s_assign hE rfl rfl ?_; clear hE a; intro a hE)
      | ((with_reducible refine g_bin .lss ?_); refine s_lss hE rfl rfl rfl ?_; clear hE a; intro a hE)
      | ((with_reducible refine g_cond ?_); refine c_dec hE rfl (fun hc => ?_) (fun hc => ?_) <;> try omega)
      )
    exact ret1 hE rfl rfl ⟨rfl, hS.nil⟩
end
end Go.Proofs.Ytmdfhhmnlplagaa
