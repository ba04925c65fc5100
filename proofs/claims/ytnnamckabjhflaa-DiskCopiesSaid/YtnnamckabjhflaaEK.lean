/-
  A copy of a disk goes on by itself.
-/
import Derived.Test.YtnnamckabjhflaaEJ
namespace Go.Proofs.Ytnnamckabjhflaa
open Go.RowKit
set_option linter.unusedVariables false
set_option linter.unusedSimpArgs false
attribute [local irreducible] Rd hRow hBlk hRd hRs hAll Fn hMarks
attribute [local simp] Wr.cells Opn.cells

theorem few_len (l : List Opn) : (l.take 120).length = min l.length 120 := by rw [List.length_take, Nat.min_comm]
section
variable {H : List HP} {w0 w : World}
set_option maxHeartbeats 16000000
theorem law_DiskCopies (y y2 y3 : LT) (w0 : World) (h : y.ok w0) (h2 : y2.ok w0) (h3 : y3.ok w0) : Fn Try.prog 8 [.slice y.1 y.2.2.length y.2.1, .slice y2.1 y2.2.2.length y2.2.1, .slice y3.1 y3.2.2.length y3.2.1] w0 fun v w' => v = .bool true ∧ St w0 w' [] := by
  rw [← LT.len, ← LT.len, ← LT.len]
  have hr := LT.rd h
  have hall := LT.all h
  obtain ⟨hcap, hbig⟩ := LT.cap h
  have hrm := LT.rd h2
  have hallm := LT.all h2
  obtain ⟨hcapm, hbigm⟩ := LT.cap h2
  have hrn := LT.rd h3
  have halln := LT.all h3
  obtain ⟨hcapn, hbign⟩ := LT.cap h3
  clear h h2 h3
  generalize y.opns = l at hr hall hcap hbig
  generalize y.1 = A at hr
  generalize y.2.1 = c at hcap
  generalize y2.opns = lm at hrm hallm hcapm hbigm
  generalize y2.1 = Am at hrm
  generalize y2.2.1 = cm at hcapm
  generalize y3.opns = ln at hrn halln hcapn hbign
  generalize y3.1 = An at hrn
  generalize y3.2.1 = cn at hcapn
  refine enter 116 Try.func8 rfl rfl rfl ?_
  intro a hE
  have hS := St.start w0
  repeat' (first

    | (with_reducible refine wp_seq ?_)
    | (with_reducible refine c_region ?_)
    | (with_reducible refine wpList_nil ?_)
    | (with_reducible refine then_normal ?_)
    | ((with_reducible refine g_assign ?_); refine s_assign hE rfl rfl ?_; clear hE a; intro a hE)
    )
  refine s_call hE rfl rfl rfl (wakes w0) ?_
  rintro _ w ⟨rfl, hS1⟩; clear hE a; intro a hE; replace hS := hS.frame hS1; clear hS1; try simp only [List.cons_append, List.nil_append] at hS
  repeat' (first

    | (with_reducible refine wp_seq ?_)
    | (with_reducible refine c_region ?_)
    | (with_reducible refine wpList_nil ?_)
    | (with_reducible refine then_normal ?_)
    | (with_reducible refine wp_skip ?_)
    | ((with_reducible refine g_un .not ?_); refine s_notb hE rfl rfl ?_; clear hE a; intro a hE)
    | ((with_reducible refine g_cond ?_); refine c_false hE rfl ?_)
    )
  refine s_call hE rfl rfl rfl (dnew 6 (by decide) (by decide) w) ?_
  rintro _ w ⟨gd, Sd, cd, rfl, hS1⟩; clear hE a; intro a hE; replace hS := hS.frame hS1; clear hS1; try simp only [List.cons_append, List.nil_append] at hS
  repeat' (first

    | (with_reducible refine wp_seq ?_)
    | (with_reducible refine c_region ?_)
    | (with_reducible refine wpList_nil ?_)
    | (with_reducible refine then_normal ?_)
    | ((with_reducible refine g_move ?_); refine s_move hE rfl rfl ?_; clear hE a; intro a hE)
    | ((with_reducible refine g_assign ?_); refine s_assign hE rfl rfl ?_; clear hE a; intro a hE)
    | ((with_reducible refine g_extract ?_); refine s_extract hE rfl rfl rfl ?_; clear hE a; intro a hE)
    )
  refine s_call hE rfl rfl rfl (rnew 6 (by decide) (by decide) w) ?_
  rintro _ w ⟨Sr, cr, rfl, hS1⟩; clear hE a; intro a hE; replace hS := hS.frame hS1; clear hS1; try simp only [List.cons_append, List.nil_append] at hS
  repeat' (first

    | (with_reducible refine wp_seq ?_)
    | (with_reducible refine c_region ?_)
    | (with_reducible refine wpList_nil ?_)
    | (with_reducible refine then_normal ?_)
    | (with_reducible refine wp_skip ?_)
    | ((with_reducible refine g_move ?_); refine s_move hE rfl rfl ?_; clear hE a; intro a hE)
    | ((with_reducible refine g_assign ?_); refine s_assign hE rfl rfl ?_; clear hE a; intro a hE)
    | ((with_reducible refine g_bin .neq ?_); refine s_neq hE rfl rfl rfl ?_; clear hE a; intro a hE)
    | ((with_reducible refine g_extract ?_); refine s_extract hE rfl rfl rfl ?_; clear hE a; intro a hE)
    | ((with_reducible refine g_guard ?_); refine gd_yes hE rfl rfl rfl ?_)
    | ((with_reducible refine g_pick ?_); refine s_pickF hE rfl rfl rfl ?_; clear hE a; intro a hE)
    | ((with_reducible refine g_cond ?_); refine c_false hE rfl ?_)
    | ((with_reducible refine g_alloc ?_); refine s_allocS hE hS rfl rfl ?_; clear hE a hS; intro g a w hE hS)
    | ((with_reducible refine g_store ?_); (first | (refine s_storeW (k := 0) hS hE rfl rfl rfl rfl rfl (by first | (simp [Value.oneCell']; done)) ?_) ); clear hS; intro w hS; simp only [List.set_cons_zero, List.set_cons_succ, Nat.add_zero] at hS)
    )
  refine s_call hE rfl rfl rfl (few A l.length c w hcap hbig) ?_
  rintro _ w ⟨rfl, hS1⟩; clear hE a; intro a hE; replace hS := hS.frame hS1; clear hS1; try simp only [List.cons_append, List.nil_append] at hS
  have hlt := few_len l
  have hl2 : (l.take 120).length ≤ 120 := by rw [hlt]; omega
  have hall2 : ∀ o ∈ l.take 120, o.wf ∧ o.rd w0 := fun o ho => hall o (List.mem_of_mem_take ho)
  have hr2 := opn_take 120 hr
  rw [← hlt] at hE
  clear hr hall
  generalize l.take 120 = l2 at hE hr2 hall2 hl2
  have hfl : (l2.flatMap Opn.cells).length = l2.length * 4 := flat_len (opn_len l2)
  obtain ⟨gl, rfl⟩ : ∃ x, x = g := ⟨g, rfl⟩
  have hS2 := frontL (D := DM.fresh 6) [_, _] (hS.p1.rowRs.rsNil.rsJoin)
  simp only [List.cons_append, List.nil_append] at hS2
  clear hS; have hS := hS2; clear hS2
  repeat' (first

    | (with_reducible refine wpList_nil ?_)
    | (with_reducible refine then_normal ?_)
    | (with_reducible refine wp_block ?_)
    | ((with_reducible refine g_move ?_); refine s_move hE rfl rfl ?_; clear hE a; intro a hE)
    | ((with_reducible refine g_blt .len ?_); refine s_len hE rfl rfl ?_; clear hE a; intro a hE)
    )
  refine wp_loop_ghost (fun q a w => ∃ (k : Nat) (S : Option Addr) (c1 : Nat) (Q : Option Addr) (d : Nat) (D : DM) (R : RM) (S2 : Option Addr) (c2 : Nat) (Q2 : Option Addr) (d2 : Nat) (lst : List (Option Addr × List Value)), k + q = l2.length ∧ D.atN k ∧ Rl k D R ∧ R.at_ S2 Q2 lst ∧ St w0 w (dk gd S c1 Q d D [hRs lst, hBlk gl 43 (R.cells S2 c2 Q2 d2)]) ∧ Env 116 [(39, .slice A l2.length c), (40, .int .i64 (l2.length : Int)), (41, .int .i64 (k : Int)), (7, .pointer (some ⟨gd, 0, none⟩)), (9, .pointer (some ⟨gl, 0, none⟩)), (1, .slice Am lm.length cm), (2, .slice An ln.length cn)] a) l2.length
    ⟨0, Sd, cd, none, 0, DM.fresh 6, RM.fresh 6, Sr, cr, none, 0, _, by omega, fresh_atN (by decide) (by decide), rl_fresh 6, ⟨List.mem_cons_of_mem _ (List.mem_singleton.2 rfl), List.mem_cons_self ..⟩, hS, hE.sub ⟨rfl, rfl, rfl, rfl, rfl, rfl, rfl, trivial⟩⟩ ?_
  clear hE a hS
  rintro q a w ⟨k, S, c1, Q, d, D, R, S2, c2, Q2, d2, lst, hk, hat, hrl, hRat, hS, hE⟩
  by_cases hk1 : k < l2.length
  · have hseg := flat_seg (c := Opn.cells) (size := 4) (l := l2) (opn_len l2) hk1
    have hok := hall2 _ (List.getElem_mem hk1)
    have hat1 := does_atN hat (by omega) hok.1
    obtain ⟨hrl1, heq⟩ := rl_does hrl (by omega) hat hok.1
    have hops := hat.ops
    have hRops := hrl.ops
    repeat' (first

      | (with_reducible refine wp_seq ?_)
      | (with_reducible refine c_region ?_)
      | (with_reducible refine wpList_nil ?_)
      | (with_reducible refine then_normal ?_)
      | (with_reducible refine wp_skip ?_)
      | (with_reducible refine wp_block ?_)
      | ((with_reducible refine g_move ?_); refine s_move hE rfl rfl ?_; clear hE a; intro a hE)
      | ((with_reducible refine g_bin .lss ?_); refine s_lss hE rfl rfl rfl ?_; clear hE a; intro a hE)
      | ((with_reducible refine g_cond ?_); refine c_dec hE rfl (fun hc => ?_) (fun hc => ?_) <;> try omega)
      | ((with_reducible refine g_ia ?_); refine s_idxR hE rfl rfl (by omega) (by omega) (by (first | exact Rd.st (by assumption) hS )) (by first | omega ) rfl ?_; clear hE a; intro a hE)
      | ((with_reducible refine g_alloc ?_); refine s_allocS hE hS rfl rfl ?_; clear hE a hS; intro g a w hE hS)
      | ((with_reducible refine g_load ?_); (first | (refine s_loadW (k := 0) hS hE rfl rfl rfl rfl ?_) ); clear hE a; intro a hE)
      | ((with_reducible refine g_store ?_); (first | (refine s_storeW (k := 0) hS hE rfl rfl rfl rfl rfl (by first | (simp [Value.oneCell']; done)) ?_) ); clear hS; intro w hS; simp only [List.set_cons_zero, List.set_cons_succ, Nat.add_zero] at hS)
      | ((with_reducible refine g_load ?_); refine s_elemR hE rfl (by (first | exact Rd.st (by assumption) hS )) (by first | exact hseg ) (by first | rfl ) (by rfl) rfl ?_; clear hE a; intro a hE))
    refine s_call hE rfl rfl rfl (does l2[k] hok.1 hok.2 hat.ok (by omega) (front1 hS)) ?_
    rintro _ w ⟨rfl, Q1, d1, hS⟩; clear hE a; intro a hE
    generalize D.does l2[k] = r at hE hS hat1 hrl1 heq
    obtain ⟨D1, b, e⟩ := r
    dsimp only at hE hS hat1 hrl1 heq
    obtain ⟨go, rfl⟩ : ∃ x, x = g := ⟨g, rfl⟩
    repeat' (first

      | (with_reducible refine c_region ?_)
      | (with_reducible refine wpList_nil ?_)
      | (with_reducible refine then_normal ?_)
      | ((with_reducible refine g_load ?_); (first | (refine s_loadW (k := 3) hS hE rfl rfl rfl rfl ?_) | (refine s_loadW (k := 5) hS hE rfl rfl rfl rfl ?_) ); clear hE a; intro a hE)
      )
    refine s_call hE rfl rfl rfl (want (c := c2) (d := d2) l2[k] hok.1 (Rd.st hok.2 hS) (hrl.ok hat) (by omega) (hS.rsAt (k := 4) rfl) hRat) ?_
    rintro _ w ⟨S3, c3, Q3, d3, new, rfl, hRat1, hS1⟩; clear hE a; intro a hE; replace hS := hS.frame hS1; clear hS1; try simp only [List.cons_append, List.nil_append] at hS
    generalize R.want l2[k] = r2 at hE hRat1 hrl1 heq
    obtain ⟨R1, b', e'⟩ := r2
    dsimp only at hE hRat1 hrl1 heq
    repeat' (first

      | (with_reducible refine c_region ?_)
      | (with_reducible refine wpList_nil ?_)
      | (with_reducible refine then_normal ?_)
      | (with_reducible refine block_normal ?_)
      | ((with_reducible refine g_move ?_); refine s_move hE rfl rfl ?_; clear hE a; intro a hE)
      | ((with_reducible refine g_bin .add ?_); refine s_add hE rfl rfl rfl (by first  | exact wrap64_in (by omega) ) ?_; clear hE a; intro a hE)
      | ((with_reducible refine g_extract ?_); refine s_extract hE rfl rfl rfl ?_; clear hE a; intro a hE)
      | ((with_reducible refine g_store ?_); (first | (refine s_storeW (k := 6) hS hE rfl rfl rfl rfl rfl (by first | (simp [Value.oneCell']; done)) ?_) ); clear hS; intro w hS; simp only [List.set_cons_zero, List.set_cons_succ, Nat.add_zero] at hS)
      )
    have hS2 := frontL (D := D1) ([_]) hS
    simp only [List.cons_append, List.nil_append] at hS2
    clear hS; have hS := hS2; clear hS2
    replace hS := hS.drop 4
    simp only [List.eraseIdx_cons_succ, List.eraseIdx_cons_zero] at hS
    exact ⟨q - 1, by omega, k + 1, S, c1, Q1, d1, D1, R1, S3, c3, Q3, d3, new ++ lst, by omega, hat1, hrl1, hRat1, joinD hS, hE.sub ⟨rfl, rfl, rfl, rfl, rfl, rfl, rfl, trivial⟩⟩
  obtain rfl : k = l2.length := by omega
  repeat' (first

    | (with_reducible refine wp_seq ?_)
    | (with_reducible refine c_region ?_)
    | (with_reducible refine wpList_nil ?_)
    | (with_reducible refine then_normal ?_)
    | (with_reducible refine wp_exit ?_)
    | (with_reducible refine then_exit ?_)
    | (with_reducible refine block_same ?_)
    | ((with_reducible refine g_bin .lss ?_); refine s_lss hE rfl rfl rfl ?_; clear hE a; intro a hE)
    | ((with_reducible refine g_cond ?_); refine c_dec hE rfl (fun hc => ?_) (fun hc => ?_) <;> try omega)
    )
  replace hat := hat.mono hl2
  replace hrl := hrl.mono hl2
  clear hr2 hall2 hfl hlt
  refine wp_mono (?_ : Code.wp _ _ (fun e a w => e = .normal ∧ ∃ (gc : Nat) (Sc : Option Addr) (cc : Nat) (Qc : Option Addr) (dc : Nat) (gy : Nat), St w0 w (dk gd S c1 Q d D (dk gc Sc cc Qc dc D [hBlk gy 43 (R.cells S2 c2 Q2 d2), hRs lst, hBlk gl 43 (R.cells S2 c2 Q2 d2)])) ∧ Env 116 [(13, .pointer (some ⟨gc, 0, none⟩)), (14, .pointer (some ⟨gy, 0, none⟩)), (7, .pointer (some ⟨gd, 0, none⟩)), (9, .pointer (some ⟨gl, 0, none⟩)), (1, .slice Am lm.length cm), (2, .slice An ln.length cn)] a) _ _) ?_
  · refine c_ordK hS 4 rfl 5 ((.rd 0 (.rd 2 (.ef2 1 ((.ef 3 (.rd 4 (.lt 5 .done)))) 3 ((.ef 1 (.rd 4 (.lt 5 .done)))))))) mixed (by decide +kernel) ?_
    clear hS; intro w hF hS
    repeat' (first
      | (with_reducible refine o_rd rfl ?_)
      | ((with_reducible refine q_move ?_); refine d_val hE hS rfl (fun w hS => r_move hE rfl) ?_; clear hE a; intro a hE)
      | ((with_reducible refine q_load ?_); (first | (refine d_val hE hS rfl (fun w hS => r_loadW (k := 0) hS hE rfl rfl rfl) ?_) ); clear hE a; intro a hE)
      )
    refine o_ef2 rfl rfl ?_ ?_
    · refine s_call hE rfl rfl rfl (copy hat.ok hF) ?_
      rintro _ w ⟨gc, Sc, cc, Qc, dc, rfl, hF⟩; clear hE a; intro a hE
      refine wpList_nil ?_
      refine o_back _ (fun _ h => h) (hF.only 7 rfl) ?_
      clear hS; have hS := hF.only 7 rfl
      repeat' (first
        | ((with_reducible refine o_ef rfl ?_))
        )
      refine s_allocS hE hF rfl rfl ?_
      clear hE a hF; intro gy a w hE hF
      refine wpList_nil ?_
      refine o_back _ (fun _ h => h) (hF.only 8 rfl) ?_
      clear hS; have hS := hF.only 8 rfl
      repeat' (first
        | (with_reducible refine o_rd rfl ?_)
        | ((with_reducible refine q_assign ?_); refine d_val hE hS rfl (fun w hS => r_assign hE rfl) ?_; clear hE a; intro a hE)
        | ((with_reducible refine o_lt rfl ?_))
        )
      clear hS; have hS := hF; clear hF
      repeat' (first

        | (with_reducible refine wpList_nil ?_)
        | ((with_reducible refine g_store ?_); (first | (refine s_storeW (k := 0) hS hE rfl rfl rfl rfl rfl (by first | (simp [Value.oneCell']; done)) ?_) ); clear hS; intro w hS; simp only [List.set_cons_zero, List.set_cons_succ, Nat.add_zero] at hS)
        )
      refine o_backL ?_
      repeat' (first
        | (with_reducible refine o_done ?_)
        )
      skip
      exact ⟨rfl, gc, Sc, cc, Qc, dc, gy, frontL (D := D) [_, _, _, _] (front1 hS), hE.sub ⟨rfl, rfl, rfl, rfl, rfl, rfl, trivial⟩⟩
    · refine s_allocS hE hF rfl rfl ?_
      clear hE a hF; intro gy a w hE hF
      refine wpList_nil ?_
      refine o_back _ (fun _ h => h) (hF.only 5 rfl) ?_
      clear hS; have hS := hF.only 5 rfl
      repeat' (first
        | ((with_reducible refine o_ef rfl ?_))
        )
      refine s_call hE rfl rfl rfl (copy hat.ok (front1 hF)) ?_
      rintro _ w ⟨gc, Sc, cc, Qc, dc, rfl, hF⟩; clear hE a; intro a hE
      refine wpList_nil ?_
      refine o_back _ (fun _ h => h) (hF.only 8 rfl) ?_
      clear hS; have hS := hF.only 8 rfl
      repeat' (first
        | (with_reducible refine o_rd rfl ?_)
        | ((with_reducible refine q_assign ?_); refine d_val hE hS rfl (fun w hS => r_assign hE rfl) ?_; clear hE a; intro a hE)
        | ((with_reducible refine o_lt rfl ?_))
        )
      clear hS; have hS := hF; clear hF
      repeat' (first

        | (with_reducible refine wpList_nil ?_)
        | ((with_reducible refine g_store ?_); (first | (refine s_storeW (k := 6) hS hE rfl rfl rfl rfl rfl (by first | (simp [Value.oneCell']; done)) ?_) ); clear hS; intro w hS; simp only [List.set_cons_zero, List.set_cons_succ, Nat.add_zero] at hS)
        )
      refine o_backL ?_
      repeat' (first
        | (with_reducible refine o_done ?_)
        )
      skip
      exact ⟨rfl, gc, Sc, cc, Qc, dc, gy, frontL (D := D) [_, _, _] hS, hE.sub ⟨rfl, rfl, rfl, rfl, rfl, rfl, trivial⟩⟩
  clear hS hE a
  rintro _ a w ⟨rfl, gc, Sc, cc, Qc, dc, gy, hS, hE⟩
  repeat' (first

    | (with_reducible refine wp_seq ?_)
    | (with_reducible refine c_region ?_)
    | (with_reducible refine wpList_nil ?_)
    | (with_reducible refine then_normal ?_)
    | (with_reducible refine wp_skip ?_)
    | ((with_reducible refine g_move ?_); refine s_move hE rfl rfl ?_; clear hE a; intro a hE)
    | ((with_reducible refine g_cond ?_); refine c_false hE rfl ?_)
    | ((with_reducible refine g_bin .eql ?_); refine s_val hE rfl rfl rfl (r_eqp hE rfl rfl) ?_; clear hE a; intro a hE)
    )
  refine s_call hE rfl rfl rfl (few Am lm.length cm w hcapm hbigm) ?_
  rintro _ w ⟨rfl, hS1⟩; clear hE a; intro a hE; replace hS := hS.frame hS1; clear hS1; try simp only [List.cons_append, List.nil_append] at hS
  have hlt := few_len lm
  have hl2 : (lm.take 120).length ≤ 120 := by rw [hlt]; omega
  have hall2 : ∀ o ∈ lm.take 120, o.wf ∧ o.rd w0 := fun o ho => hallm o (List.mem_of_mem_take ho)
  have hr2 := opn_take 120 hrm
  rw [← hlt] at hE
  clear hrm hallm
  generalize lm.take 120 = l2 at hE hr2 hall2 hl2
  have hfl : (l2.flatMap Opn.cells).length = l2.length * 4 := flat_len (opn_len l2)
  repeat' (first

    | (with_reducible refine wpList_nil ?_)
    | (with_reducible refine then_normal ?_)
    | (with_reducible refine wp_block ?_)
    | ((with_reducible refine g_move ?_); refine s_move hE rfl rfl ?_; clear hE a; intro a hE)
    | ((with_reducible refine g_blt .len ?_); refine s_len hE rfl rfl ?_; clear hE a; intro a hE)
    )
  have hS2 := frontL (D := D) [_, _, _] (((hS.focus (k := 6) rfl).focus (k := 8) rfl).focus (k := 8) rfl)
  simp only [List.cons_append, List.nil_append] at hS2
  clear hS; have hS := hS2; clear hS2
  refine wp_loop_ghost (fun q a w => ∃ (k : Nat) (S' : Option Addr) (c1' : Nat) (Q' : Option Addr) (d' : Nat) (D' : DM) (R' : RM) (S2' : Option Addr) (c2' : Nat) (Q2' : Option Addr) (d2' : Nat) (lst' : List (Option Addr × List Value)), k + q = l2.length ∧ D'.atN (120 + k) ∧ Rl (120 + k) D' R' ∧ R'.at_ S2' Q2' lst' ∧ R.at_ S2 Q2 lst' ∧ St w0 w (dk gd S' c1' Q' d' D' (hRs lst' :: hBlk gl 43 (R'.cells S2' c2' Q2' d2') :: hBlk gy 43 (R.cells S2 c2 Q2 d2) :: dk gc Sc cc Qc dc D [])) ∧ Env 116 [(62, .slice Am l2.length cm), (63, .int .i64 (l2.length : Int)), (64, .int .i64 (k : Int)), (13, .pointer (some ⟨gc, 0, none⟩)), (14, .pointer (some ⟨gy, 0, none⟩)), (7, .pointer (some ⟨gd, 0, none⟩)), (9, .pointer (some ⟨gl, 0, none⟩)), (2, .slice An ln.length cn)] a) l2.length
    ⟨0, S, c1, Q, d, D, R, S2, c2, Q2, d2, lst, by omega, hat, hrl, hRat, hRat, hS, hE.sub ⟨rfl, rfl, rfl, rfl, rfl, rfl, rfl, rfl, trivial⟩⟩ ?_
  clear hE a hS
  rintro q a w ⟨k, Sx, cx, Qx, dx, Dx, Rx, S2x, c2x, Q2x, d2x, lstx, hk, hatx, hrlx, hRx, hRy, hS, hE⟩
  by_cases hk1 : k < l2.length
  · have hseg := flat_seg (c := Opn.cells) (size := 4) (l := l2) (opn_len l2) hk1
    have hok := hall2 _ (List.getElem_mem hk1)
    have hat1 := does_atN hatx (by omega) hok.1
    obtain ⟨hrl1, heq⟩ := rl_does hrlx (by omega) hatx hok.1
    have hops := hatx.ops
    have hRops := hrlx.ops
    repeat' (first

      | (with_reducible refine wp_seq ?_)
      | (with_reducible refine c_region ?_)
      | (with_reducible refine wpList_nil ?_)
      | (with_reducible refine then_normal ?_)
      | (with_reducible refine wp_skip ?_)
      | (with_reducible refine wp_block ?_)
      | ((with_reducible refine g_move ?_); refine s_move hE rfl rfl ?_; clear hE a; intro a hE)
      | ((with_reducible refine g_bin .lss ?_); refine s_lss hE rfl rfl rfl ?_; clear hE a; intro a hE)
      | ((with_reducible refine g_cond ?_); refine c_dec hE rfl (fun hc => ?_) (fun hc => ?_) <;> try omega)
      | ((with_reducible refine g_ia ?_); refine s_idxR hE rfl rfl (by omega) (by omega) (by (first | exact Rd.st (by assumption) hS )) (by first | omega ) rfl ?_; clear hE a; intro a hE)
      | ((with_reducible refine g_alloc ?_); refine s_allocS hE hS rfl rfl ?_; clear hE a hS; intro g a w hE hS)
      | ((with_reducible refine g_load ?_); (first | (refine s_loadW (k := 0) hS hE rfl rfl rfl rfl ?_) ); clear hE a; intro a hE)
      | ((with_reducible refine g_store ?_); (first | (refine s_storeW (k := 0) hS hE rfl rfl rfl rfl rfl (by first | (simp [Value.oneCell']; done)) ?_) ); clear hS; intro w hS; simp only [List.set_cons_zero, List.set_cons_succ, Nat.add_zero] at hS)
      | ((with_reducible refine g_load ?_); refine s_elemR hE rfl (by (first | exact Rd.st (by assumption) hS )) (by first | exact hseg ) (by first | rfl ) (by rfl) rfl ?_; clear hE a; intro a hE))
    refine s_call hE rfl rfl rfl (does l2[k] hok.1 hok.2 hatx.ok (by omega) (front1 hS)) ?_
    rintro _ w ⟨rfl, Q1, d1, hS⟩; clear hE a; intro a hE
    generalize Dx.does l2[k] = r at hE hS hat1 hrl1 heq
    obtain ⟨D1, b, e⟩ := r
    dsimp only at hE hS hat1 hrl1 heq
    obtain ⟨go, rfl⟩ : ∃ x, x = g := ⟨g, rfl⟩
    repeat' (first

      | (with_reducible refine c_region ?_)
      | (with_reducible refine wpList_nil ?_)
      | (with_reducible refine then_normal ?_)
      | ((with_reducible refine g_load ?_); (first | (refine s_loadW (k := 3) hS hE rfl rfl rfl rfl ?_) | (refine s_loadW (k := 5) hS hE rfl rfl rfl rfl ?_) ); clear hE a; intro a hE)
      )
    refine s_call hE rfl rfl rfl (want (c := c2x) (d := d2x) l2[k] hok.1 (Rd.st hok.2 hS) (hrlx.ok hatx) (by omega) (hS.rsAt (k := 4) rfl) hRx) ?_
    rintro _ w ⟨S3, c3, Q3, d3, new, rfl, hRat1, hS1⟩; clear hE a; intro a hE; replace hS := hS.frame hS1; clear hS1; try simp only [List.cons_append, List.nil_append] at hS
    generalize Rx.want l2[k] = r2 at hE hRat1 hrl1 heq
    obtain ⟨R1, b', e'⟩ := r2
    dsimp only at hE hRat1 hrl1 heq
    repeat' (first

      | (with_reducible refine c_region ?_)
      | (with_reducible refine wpList_nil ?_)
      | (with_reducible refine then_normal ?_)
      | (with_reducible refine block_normal ?_)
      | ((with_reducible refine g_move ?_); refine s_move hE rfl rfl ?_; clear hE a; intro a hE)
      | ((with_reducible refine g_bin .add ?_); refine s_add hE rfl rfl rfl (by first  | exact wrap64_in (by omega) ) ?_; clear hE a; intro a hE)
      | ((with_reducible refine g_extract ?_); refine s_extract hE rfl rfl rfl ?_; clear hE a; intro a hE)
      | ((with_reducible refine g_store ?_); (first | (refine s_storeW (k := 6) hS hE rfl rfl rfl rfl rfl (by first | (simp [Value.oneCell']; done)) ?_) ); clear hS; intro w hS; simp only [List.set_cons_zero, List.set_cons_succ, Nat.add_zero] at hS)
      )
    have hS2 := frontL (D := D1) ([_]) hS
    simp only [List.cons_append, List.nil_append] at hS2
    clear hS; have hS := hS2; clear hS2
    replace hS := hS.drop 4
    simp only [List.eraseIdx_cons_succ, List.eraseIdx_cons_zero] at hS
    exact ⟨q - 1, by omega, k + 1, Sx, cx, Q1, d1, D1, R1, S3, c3, Q3, d3, new ++ lstx, by omega, hat1, hrl1, hRat1, hRy.same rfl rfl, joinD hS, hE.sub ⟨rfl, rfl, rfl, rfl, rfl, rfl, rfl, rfl, trivial⟩⟩
  obtain rfl : k = l2.length := by omega
  clear hr2 hall2 hfl hlt hRat
  repeat' (first

    | (with_reducible refine wp_seq ?_)
    | (with_reducible refine c_region ?_)
    | (with_reducible refine wpList_nil ?_)
    | (with_reducible refine then_normal ?_)
    | (with_reducible refine wp_exit ?_)
    | (with_reducible refine then_exit ?_)
    | (with_reducible refine block_same ?_)
    | ((with_reducible refine g_move ?_); refine s_move hE rfl rfl ?_; clear hE a; intro a hE)
    | ((with_reducible refine g_bin .lss ?_); refine s_lss hE rfl rfl rfl ?_; clear hE a; intro a hE)
    | ((with_reducible refine g_cond ?_); refine c_dec hE rfl (fun hc => ?_) (fun hc => ?_) <;> try omega)
    )
  refine s_call hE rfl rfl rfl (few An ln.length cn w hcapn hbign) ?_
  rintro _ w ⟨rfl, hS1⟩; clear hE a; intro a hE; replace hS := hS.frame hS1; clear hS1; try simp only [List.cons_append, List.nil_append] at hS
  have hlt := few_len ln
  have hl3 : (ln.take 120).length ≤ 120 := by rw [hlt]; omega
  have hall3 : ∀ o ∈ ln.take 120, o.wf ∧ o.rd w0 := fun o ho => halln o (List.mem_of_mem_take ho)
  have hr3 := opn_take 120 hrn
  rw [← hlt] at hE
  clear hrn halln
  generalize ln.take 120 = l3 at hE hr3 hall3 hl3
  have hfl : (l3.flatMap Opn.cells).length = l3.length * 4 := flat_len (opn_len l3)
  repeat' (first

    | (with_reducible refine wpList_nil ?_)
    | (with_reducible refine then_normal ?_)
    | (with_reducible refine wp_block ?_)
    | ((with_reducible refine g_move ?_); refine s_move hE rfl rfl ?_; clear hE a; intro a hE)
    | ((with_reducible refine g_blt .len ?_); refine s_len hE rfl rfl ?_; clear hE a; intro a hE)
    )
  have hS2 := frontL (D := D) [_, _, _, _, _, _] (((hS.focus (k := 4) rfl).focus (k := 5) rfl).focus (k := 5) rfl)
  simp only [List.cons_append, List.nil_append] at hS2
  clear hS; have hS := hS2; clear hS2
  refine wp_loop_ghost (fun q a w => ∃ (k : Nat) (S' : Option Addr) (c1' : Nat) (Q' : Option Addr) (d' : Nat) (D' : DM) (R' : RM) (S2' : Option Addr) (c2' : Nat) (Q2' : Option Addr) (d2' : Nat) (lst' : List (Option Addr × List Value)), k + q = l3.length ∧ D'.atN (120 + k) ∧ Rl (120 + k) D' R' ∧ R'.at_ S2' Q2' lst' ∧ Rx.at_ S2x Q2x lst' ∧ St w0 w (dk gc S' c1' Q' d' D' (hRs lst' :: hBlk gy 43 (R'.cells S2' c2' Q2' d2') :: hBlk gl 43 (Rx.cells S2x c2x Q2x d2x) :: dk gd Sx cx Qx dx Dx [])) ∧ Env 116 [(80, .slice An l3.length cn), (81, .int .i64 (l3.length : Int)), (82, .int .i64 (k : Int)), (13, .pointer (some ⟨gc, 0, none⟩)), (14, .pointer (some ⟨gy, 0, none⟩)), (7, .pointer (some ⟨gd, 0, none⟩)), (9, .pointer (some ⟨gl, 0, none⟩))] a) l3.length
    ⟨0, Sc, cc, Qc, dc, D, R, S2, c2, Q2, d2, lstx, by omega, hat, hrl, hRy, hRx, hS, hE.sub ⟨rfl, rfl, rfl, rfl, rfl, rfl, rfl, trivial⟩⟩ ?_
  clear hE a hS hat hrl hRy hRx
  rintro q a w ⟨k, Sy, cy, Qy, dy, Dy, Ry, S2y, c2y, Q2y, d2y, lsty, hk, haty, hrly, hRy, hRx, hS, hE⟩
  by_cases hk1 : k < l3.length
  · have hseg := flat_seg (c := Opn.cells) (size := 4) (l := l3) (opn_len l3) hk1
    have hok := hall3 _ (List.getElem_mem hk1)
    have hat1 := does_atN haty (by omega) hok.1
    obtain ⟨hrl1, heq⟩ := rl_does hrly (by omega) haty hok.1
    have hb := does_blk haty.ok l3[k]
    have hops := haty.ops
    have hRops := hrly.ops
    repeat' (first

      | (with_reducible refine wp_seq ?_)
      | (with_reducible refine c_region ?_)
      | (with_reducible refine wpList_nil ?_)
      | (with_reducible refine then_normal ?_)
      | (with_reducible refine wp_skip ?_)
      | (with_reducible refine wp_block ?_)
      | ((with_reducible refine g_move ?_); refine s_move hE rfl rfl ?_; clear hE a; intro a hE)
      | ((with_reducible refine g_bin .lss ?_); refine s_lss hE rfl rfl rfl ?_; clear hE a; intro a hE)
      | ((with_reducible refine g_cond ?_); refine c_dec hE rfl (fun hc => ?_) (fun hc => ?_) <;> try omega)
      | ((with_reducible refine g_ia ?_); refine s_idxR hE rfl rfl (by omega) (by omega) (by (first | exact Rd.st (by assumption) hS )) (by first | omega ) rfl ?_; clear hE a; intro a hE)
      | ((with_reducible refine g_alloc ?_); refine s_allocS hE hS rfl rfl ?_; clear hE a hS; intro g a w hE hS)
      | ((with_reducible refine g_load ?_); (first | (refine s_loadW (k := 0) hS hE rfl rfl rfl rfl ?_) ); clear hE a; intro a hE)
      | ((with_reducible refine g_store ?_); (first | (refine s_storeW (k := 0) hS hE rfl rfl rfl rfl rfl (by first | (simp [Value.oneCell']; done)) ?_) ); clear hS; intro w hS; simp only [List.set_cons_zero, List.set_cons_succ, Nat.add_zero] at hS)
      | ((with_reducible refine g_load ?_); refine s_elemR hE rfl (by (first | exact Rd.st (by assumption) hS )) (by first | exact hseg ) (by first | rfl ) (by rfl) rfl ?_; clear hE a; intro a hE))
    refine s_call hE rfl rfl rfl (does l3[k] hok.1 hok.2 haty.ok (by omega) (front1 hS)) ?_
    rintro _ w ⟨rfl, Q1, d1, hS⟩; clear hE a; intro a hE
    generalize Dy.does l3[k] = r at hE hS hat1 hrl1 heq hb
    obtain ⟨D1, b, e⟩ := r
    dsimp only at hE hS hat1 hrl1 heq hb
    have hbl : (bys b).length = 64 := by rw [bys_length]; exact hb.1
    have hbl2 := hb.1
    obtain ⟨go, rfl⟩ : ∃ x, x = g := ⟨g, rfl⟩
    repeat' (first

      | (with_reducible refine wp_seq ?_)
      | (with_reducible refine c_region ?_)
      | (with_reducible refine wpList_nil ?_)
      | (with_reducible refine then_normal ?_)
      | ((with_reducible refine g_move ?_); refine s_move hE rfl rfl ?_; clear hE a; intro a hE)
      | ((with_reducible refine g_assign ?_); refine s_assign hE rfl rfl ?_; clear hE a; intro a hE)
      | ((with_reducible refine g_extract ?_); refine s_extract hE rfl rfl rfl ?_; clear hE a; intro a hE)
      | ((with_reducible refine g_alloc ?_); refine s_allocS hE hS rfl rfl ?_; clear hE a hS; intro g a w hE hS)
      | ((with_reducible refine g_load ?_); (first | (refine s_loadW (k := 5) hS hE rfl rfl rfl rfl ?_) | (refine s_loadW (k := 7) hS hE rfl rfl rfl rfl ?_) ); clear hE a; intro a hE)
      | ((with_reducible refine g_store ?_); (first | (refine s_storeW (k := 0) hS hE rfl rfl rfl (by assumption) (by first | rfl ) (by first | exact bys_one _ ) ?_) ); clear hS; intro w hS; simp only [List.set_cons_zero, List.set_cons_succ, Nat.add_zero] at hS)
      )
    refine s_call hE rfl rfl rfl (want (c := c2y) (d := d2y) l3[k] hok.1 (Rd.st hok.2 hS) (hrly.ok haty) (by omega) (hS.rsAt (k := 6) rfl) hRy) ?_
    rintro _ w ⟨S3, c3, Q3, d3, new, rfl, hRat1, hS1⟩; clear hE a; intro a hE; replace hS := hS.frame hS1; clear hS1; try simp only [List.cons_append, List.nil_append] at hS
    generalize Ry.want l3[k] = r2 at hE hRat1 hrl1 heq
    obtain ⟨R1, b', e'⟩ := r2
    dsimp only at hE hRat1 hrl1 heq
    obtain ⟨rfl, rfl⟩ := Prod.mk.inj heq
    repeat' (first

      | (with_reducible refine wp_seq ?_)
      | (with_reducible refine c_region ?_)
      | (with_reducible refine wpList_nil ?_)
      | (with_reducible refine then_normal ?_)
      | (with_reducible refine wp_skip ?_)
      | (with_reducible refine block_normal ?_)
      | ((with_reducible refine g_move ?_); refine s_move hE rfl rfl ?_; clear hE a; intro a hE)
      | ((with_reducible refine g_assign ?_); refine s_assign hE rfl rfl ?_; clear hE a; intro a hE)
      | ((with_reducible refine g_bin .neq ?_); refine s_neq hE rfl rfl rfl ?_; clear hE a; intro a hE)
      | ((with_reducible refine g_bin .add ?_); refine s_add hE rfl rfl rfl (by first  | exact wrap64_in (by omega) ) ?_; clear hE a; intro a hE)
      | ((with_reducible refine g_extract ?_); refine s_extract hE rfl rfl rfl ?_; clear hE a; intro a hE)
      | ((with_reducible refine g_guard ?_); refine gd_yes hE rfl rfl rfl ?_)
      | ((with_reducible refine g_pick ?_); refine s_pickF hE rfl rfl rfl ?_; clear hE a; intro a hE)
      | ((with_reducible refine g_cond ?_); refine c_dec hE rfl (fun hc => ?_) (fun hc => ?_) <;> try omega)
      | ((with_reducible refine g_bin .neq ?_); refine s_val hE rfl rfl rfl (r_neS hE rfl rfl (by first | assumption )) ?_; clear hE a; intro a hE)
      | ((with_reducible refine g_store ?_); (first | (refine s_storeW (k := 8) hS hE rfl rfl rfl rfl rfl (by first | (simp [Value.oneCell']; done)) ?_) ); clear hS; intro w hS; simp only [List.set_cons_zero, List.set_cons_succ, Nat.add_zero] at hS)
      | ((with_reducible refine g_load ?_); (first | (refine s_loadW (k := 1) hS hE rfl rfl (by first | assumption ) rfl ?_) | (refine s_loadW (k := 2) hS hE rfl rfl (by first | assumption ) rfl ?_) ); clear hE a; intro a hE)
      | ((with_reducible refine g_store ?_); (first | (refine s_storeW (k := 1) hS hE rfl rfl rfl (by assumption) (by first | rfl ) (by first | exact bys_one _ ) ?_) ); clear hS; intro w hS; simp only [List.set_cons_zero, List.set_cons_succ, Nat.add_zero] at hS)
      )
    have hS2 := frontL (D := D1) ([_, _, _]) hS
    simp only [List.cons_append, List.nil_append] at hS2
    clear hS; have hS := hS2; clear hS2
    replace hS := ((hS.drop 4).drop 4).drop 4
    simp only [List.eraseIdx_cons_succ, List.eraseIdx_cons_zero] at hS
    exact ⟨q - 1, by omega, k + 1, Sy, cy, Q1, d1, D1, R1, S3, c3, Q3, d3, new ++ lsty, by omega, hat1, hrl1, hRat1, hRx.same rfl rfl, joinD hS, hE.sub ⟨rfl, rfl, rfl, rfl, rfl, rfl, rfl, trivial⟩⟩
  obtain rfl : k = l3.length := by omega
  clear hr3 hall3 hfl hlt
  repeat' (first

    | (with_reducible refine wp_seq ?_)
    | (with_reducible refine c_region ?_)
    | (with_reducible refine wpList_nil ?_)
    | (with_reducible refine then_normal ?_)
    | (with_reducible refine wp_exit ?_)
    | (with_reducible refine then_exit ?_)
    | (with_reducible refine block_same ?_)
    | ((with_reducible refine g_move ?_); refine s_move hE rfl rfl ?_; clear hE a; intro a hE)
    | ((with_reducible refine g_bin .lss ?_); refine s_lss hE rfl rfl rfl ?_; clear hE a; intro a hE)
    | ((with_reducible refine g_cond ?_); refine c_dec hE rfl (fun hc => ?_) (fun hc => ?_) <;> try omega)
    | ((with_reducible refine g_load ?_); (first | (refine s_loadW (k := 5) hS hE rfl rfl rfl rfl ?_) ); clear hE a; intro a hE)
    )
  have hS2 := frontL (D := Dx) ([_, _, _, _, _, _]) hS
  simp only [List.cons_append, List.nil_append] at hS2
  clear hS; have hS := hS2; clear hS2
  refine s_call hE rfl rfl rfl (agree (c2 := c2x) (d2 := d2x) hatx.ok hrlx (fun w' L h => h.rsAt (k := L.length + 3) (by rw [List.getElem?_append_right (Nat.le_add_right _ _), Nat.add_sub_cancel_left]; rfl) _ hRx.2) hS) ?_
  rintro _ w ⟨rfl, hS⟩; clear hE a; intro a hE
  repeat' (first

    | ((with_reducible refine g_move ?_); refine s_move hE rfl rfl ?_; clear hE a; intro a hE)
    | ((with_reducible refine g_guard ?_); refine gd_yes hE rfl rfl rfl ?_)
    | ((with_reducible refine g_load ?_); (first | (refine s_loadW (k := 7) hS hE rfl rfl rfl rfl ?_) ); clear hE a; intro a hE)
    )
  have hS2 := frontL (D := Dy) ([_, _, _]) hS
  simp only [List.cons_append, List.nil_append] at hS2
  clear hS; have hS := hS2; clear hS2
  refine s_call hE rfl rfl rfl (agree (c2 := c2y) (d2 := d2y) haty.ok hrly (fun w' L h => h.rsAt (k := L.length + 3) (by rw [List.getElem?_append_right (Nat.le_add_right _ _), Nat.add_sub_cancel_left]; rfl) _ hRy.2) hS) ?_
  rintro _ w ⟨rfl, hS⟩; clear hE a; intro a hE
  repeat' (first

    | (with_reducible refine wpList_nil ?_)
    | (with_reducible refine then_normal ?_)
    | (with_reducible refine wp_ret ?_)
    | ((with_reducible refine g_assign ?_); refine s_assign hE rfl rfl ?_; clear hE a; intro a hE)
    | ((with_reducible refine g_pick ?_); refine s_pickT hE rfl rfl rfl ?_; clear hE a; intro a hE)
    )
  exact ret1 hE rfl rfl ⟨rfl, hS.nil⟩
end
end Go.Proofs.Ytnnamckabjhflaa
