/-
  An operation that fails is told and changes nothing.
-/
import Derived.Test.YtnnamckabjhflaaDR
namespace Go.Proofs.Ytnnamckabjhflaa
open Go.RowKit
set_option linter.unusedVariables false
set_option linter.unusedSimpArgs false
attribute [local irreducible] Rd hRow hBlk hRd hAll Fn hMarks
attribute [local simp] Wr.cells Opn.cells

def Opn.inr (o : Opn) : Prop := o.k = 2 ∨ (0 ≤ o.at_ ∧ o.at_ < 6)
theorem fl_0 {D : DM} (h : D.lv) : D.fl 0 = D := by
  obtain ⟨h1, h2, h3⟩ := h
  cases D
  dsimp only at h3
  subst h3
  rfl
theorem ready_fl1 {D : DM} (h : D.lv) {i : Int} (h0 : 0 ≤ i) (h1 : i < D.safe.length) : (D.fl 1).ready i = (D.fl 0, 8) := by
  unfold DM.ready
  dsimp only
  rw [if_neg (by rw [h.dead]; decide), if_neg (by omega), if_pos rfl]
theorem ready_fl {D : DM} (h : D.lv) {i f : Int} (h0 : 0 ≤ i) (h1 : i < D.safe.length) (hf : f ≠ 1) : (D.fl f).ready i = (D.fl (if 1 < f then f - 1 else f), 0) := by
  unfold DM.ready
  dsimp only
  rw [if_neg (by rw [h.dead]; decide), if_neg (by omega), if_neg hf]
  split <;> rfl
theorem does_fl1 {D : DM} (h : D.lv) (hl : D.safe.length = 6) {o : Opn} (hk : o.k < 3) (ho : o.inr) : (D.fl 1).does o = (D.fl 0, noughts, 8) := by
  unfold Opn.inr at ho
  rcases (show o.k = 0 ∨ o.k = 1 ∨ o.k = 2 by omega) with h0 | h0 | h0
  · rw [does_read _ h0]
    unfold DM.read
    rw [ready_fl1 h (by omega) (by omega)]
    simp
  · rw [does_write _ h0]
    unfold DM.write
    rw [ready_fl1 h (by omega) (by omega)]
    simp
  · rw [does_sync _ h0]
    unfold DM.sync
    rw [ready_fl1 h (by omega) (by omega)]
    simp
theorem do_fl {D : DM} (h : D.lv) (f : Int) : (D.fl f).do_ = (DM.fl { D with ops := D.ops + 1 } f, true) := by
  unfold DM.do_
  dsimp only
  rw [h.armed, if_neg (by decide)]
theorem does_fl {D : DM} (h : D.lv) (hl : D.safe.length = 6) {o : Opn} (hk : o.k < 3) (ho : o.inr) {f : Int} (hf : f ≠ 1) : (D.fl f).does o = ((D.does o).1.fl (if 1 < f then f - 1 else f), (D.does o).2.1, (D.does o).2.2) := by
  unfold Opn.inr at ho
  rcases (show o.k = 0 ∨ o.k = 1 ∨ o.k = 2 by omega) with h0 | h0 | h0
  · rw [does_read _ h0, does_read _ h0]
    obtain ⟨n, hn⟩ := Int.eq_ofNat_of_zero_le (show 0 ≤ o.at_ by omega)
    rw [hn, read_lv h (by omega)]
    unfold DM.read
    rw [ready_fl h (by omega) (by omega) hf]
    simp
    rfl
  · rw [does_write _ h0, does_write _ h0]
    obtain ⟨n, hn⟩ := Int.eq_ofNat_of_zero_le (show 0 ≤ o.at_ by omega)
    rw [hn, write_lv h (by omega)]
    unfold DM.write
    rw [ready_fl h (by omega) (by omega) hf]
    simp [do_fl h]
  · rw [does_sync _ h0, does_sync _ h0, sync_lv h (by omega)]
    unfold DM.sync
    rw [ready_fl h (by omega) (by omega) hf]
    simp [do_fl h]
    rfl
section
variable {g : Nat} {S : Option Addr} {c : Nat} {Q : Option Addr} {d : Nat} {D : DM} {H : List HP} {w0 w : World}
set_option maxHeartbeats 16000000
theorem law_DiskFails (y : LT) (n : Int) (w0 : World) (h : y.ok w0) (hn : (Lit.int .i64 n).wf = true) : Fn Try.prog 6 [.slice y.1 y.2.2.length y.2.1, .int .i64 n] w0 fun v w' => v = .bool true ∧ St w0 w' [] := by
  rw [← LT.len]
  have hr := LT.rd h
  have hall := LT.all h
  obtain ⟨hcap, hbig⟩ := LT.cap h
  have hn2 := wf_i64 hn
  obtain ⟨m, hm40, hm⟩ := mod40 n
  generalize y.opns = l at hr hall hcap hbig
  generalize y.1 = A at hr
  generalize y.2.1 = c at hcap
  refine enter 143 Try.func6 rfl rfl rfl ?_
  intro a hE
  have hS := St.start w0
  repeat' (first

    | (with_reducible refine wp_seq ?_)
    | (with_reducible refine c_region ?_)
    | (with_reducible refine wpList_nil ?_)
    | (with_reducible refine then_normal ?_)
    | ((with_reducible refine g_assign ?_); refine s_assign hE rfl rfl ?_; clear hE a; intro a hE)
    )
  refine s_call hE rfl rfl rfl (wakes w0) ?_
  rintro _ w ⟨rfl, hS1⟩; clear hE a; intro a hE; replace hS := hS.frame hS1; clear hS1; try simp only [List.cons_append, List.nil_append] at hS
  repeat' (first

    | (with_reducible refine wp_seq ?_)
    | (with_reducible refine c_region ?_)
    | (with_reducible refine wpList_nil ?_)
    | (with_reducible refine then_normal ?_)
    | (with_reducible refine wp_skip ?_)
    | ((with_reducible refine g_move ?_); refine s_move hE rfl rfl ?_; clear hE a; intro a hE)
    | ((with_reducible refine g_assign ?_); refine s_assign hE rfl rfl ?_; clear hE a; intro a hE)
    | ((with_reducible refine g_bin .rem ?_); refine s_rem hE rfl rfl (by omega) rfl (by first  | rfl) ?_; clear hE a; intro a hE)
    | ((with_reducible refine g_un .not ?_); refine s_notb hE rfl rfl ?_; clear hE a; intro a hE)
    | ((with_reducible refine g_blt .max ?_); refine s_max hE rfl rfl rfl (by first  | rfl) ?_; clear hE a; intro a hE)
    | ((with_reducible refine g_cond ?_); refine c_false hE rfl ?_)
    )
  rw [hm] at hE
  refine s_call hE rfl rfl rfl (worn none 0 0 0 [] w Rd.nil rfl (Nat.le_refl _) (by decide) (by intro o ho; cases ho)) ?_
  rintro _ w ⟨ga, Sa, ca, Qa, da, rfl, hS1⟩; clear hE a; intro a hE; replace hS := hS.frame hS1; clear hS1; try simp only [List.cons_append, List.nil_append] at hS
  skip
  refine s_call hE rfl rfl rfl (worn none 0 0 0 [] w Rd.nil rfl (Nat.le_refl _) (by decide) (by intro o ho; cases ho)) ?_
  rintro _ w ⟨gb, Sb, cb, Qb, db, rfl, hS1⟩; clear hE a; intro a hE; replace hS := hS.frame hS1; clear hS1; try simp only [List.cons_append, List.nil_append] at hS
  have e0 : (DM.fresh 6).wear ([].take 120) = DM.fresh 6 := rfl
  rw [e0] at hS
  have hS2 := frontL [_, _, _] hS
  simp only [List.cons_append, List.nil_append] at hS2
  clear hS; have hS := hS2; clear hS2
  repeat' (first

    | (with_reducible refine wp_seq ?_)
    | (with_reducible refine c_region ?_)
    | (with_reducible refine wpList_nil ?_)
    | (with_reducible refine then_normal ?_)
    | ((with_reducible refine g_move ?_); refine s_move hE rfl rfl ?_; clear hE a; intro a hE)
    | ((with_reducible refine g_assign ?_); refine s_assign hE rfl rfl ?_; clear hE a; intro a hE)
    | ((with_reducible refine g_guard ?_); refine gd_yes hE rfl rfl rfl ?_)
    | ((with_reducible refine g_pick ?_); refine s_pickF hE rfl rfl rfl ?_; clear hE a; intro a hE)
    | ((with_reducible refine g_bin .eql ?_); refine s_val hE rfl rfl rfl (r_eqp hE rfl rfl) ?_; clear hE a; intro a hE)
    )
  refine s_call hE rfl rfl rfl (fail (m : Int) (by omega) hS) ?_
  have ea : (DM.fresh 6).fail (m : Int) = ((DM.fresh 6).fl ((m : Int) + 1), 0) := by
    unfold DM.fail
    rw [if_neg (by decide), if_pos (by omega)]
  rw [ea]
  rintro _ w ⟨rfl, hS⟩; clear hE a; intro a hE
  repeat' (first

    | (with_reducible refine wp_seq ?_)
    | (with_reducible refine c_region ?_)
    | (with_reducible refine wpList_nil ?_)
    | (with_reducible refine then_normal ?_)
    | (with_reducible refine wp_skip ?_)
    | ((with_reducible refine g_move ?_); refine s_move hE rfl rfl ?_; clear hE a; intro a hE)
    | ((with_reducible refine g_assign ?_); refine s_assign hE rfl rfl ?_; clear hE a; intro a hE)
    | ((with_reducible refine g_bin .neq ?_); refine s_neq hE rfl rfl rfl ?_; clear hE a; intro a hE)
    | ((with_reducible refine g_guard ?_); refine gd_yes hE rfl rfl rfl ?_)
    | ((with_reducible refine g_pick ?_); refine s_pickF hE rfl rfl rfl ?_; clear hE a; intro a hE)
    | ((with_reducible refine g_cond ?_); refine c_false hE rfl ?_)
    )
  refine s_call hE rfl rfl rfl (few A l.length c w hcap hbig) ?_
  rintro _ w ⟨rfl, hS1⟩; clear hE a; intro a hE; replace hS := hS.frame hS1; clear hS1; try simp only [List.cons_append, List.nil_append] at hS
  have hlt : (l.take 120).length = min l.length 120 := by rw [List.length_take, Nat.min_comm]
  have hl2 : (l.take 120).length ≤ 120 := by rw [hlt]; omega
  have hall2 : ∀ o ∈ l.take 120, o.wf ∧ o.rd w0 := fun o ho => hall o (List.mem_of_mem_take ho)
  have hr2 := opn_take 120 hr
  rw [← hlt] at hE
  generalize l.take 120 = l2 at hE hr2 hall2 hl2
  have hfl : (l2.flatMap Opn.cells).length = l2.length * 4 := flat_len (opn_len l2)
  repeat' (first

    | (with_reducible refine wpList_nil ?_)
    | (with_reducible refine then_normal ?_)
    | (with_reducible refine wp_block ?_)
    | ((with_reducible refine g_move ?_); refine s_move hE rfl rfl ?_; clear hE a; intro a hE)
    | ((with_reducible refine g_blt .len ?_); refine s_len hE rfl rfl ?_; clear hE a; intro a hE)
    )
  refine wp_loop_ghost (fun q a w => ∃ (k ask : Nat) (f : Int) (D : DM) (Qa : Option Addr) (da : Nat) (Qb : Option Addr) (db : Nat), k + q = l2.length ∧ ask ≤ k ∧ (ask ≤ m → f = (m : Int) + 1 - ask) ∧ (m < ask → f = 0) ∧ D.fits k ∧ D.safe.length = 6 ∧ St w0 w (dk ga Sa ca Qa da (D.fl f) (dk gb Sb cb Qb db D [])) ∧
    Env 143 [(37, .slice A l2.length c), (38, .int .i64 (l2.length : Int)), (39, .int .i64 (k : Int)), (1, .int .i64 (m : Int)), (5, .pointer (some ⟨ga, 0, none⟩)), (6, .pointer (some ⟨gb, 0, none⟩)), (7, .int .i64 (ask : Int))] a) l2.length
    ⟨0, 0, _, DM.fresh 6, Qa, da, Qb, db, by omega, by omega, fun _ => (by omega : (m : Int) + 1 = (m : Int) + 1 - ((0 : Nat) : Int)), fun e => by omega, ⟨fresh_atN (by decide) (by decide), fresh_lv 6⟩, rfl, hS, hE.sub ⟨rfl, rfl, rfl, rfl, rfl, rfl, rfl, trivial⟩⟩ ?_
  clear hE a hS
  rintro q a w ⟨k, ask, f, D, Qa, da, Qb, db, hk, hask, hf1, hf2, hfit, hlen, hS, hE⟩
  by_cases hk1 : k < l2.length
  · have hseg := flat_seg (c := Opn.cells) (size := 4) (l := l2) (opn_len l2) hk1
    have hok := hall2 _ (List.getElem_mem hk1)
    generalize l2[k] = o at hseg hok
    by_cases hin : o.k < 3 ∧ o.inr
    · have hin2 := hin.2
      have hk3 := hin.1
      unfold Opn.inr at hin2
      have hop := hfit.at_.ops
      have hplD : D.pend.length ≤ 100000 := hfit.at_.ok.plen
      by_cases hm2 : ask = m
      · have hz : f = 1 := by have := hf1 (by omega); omega
        subst hz
        have ed := does_fl1 hfit.lv hlen hin.1 hin.2
        have hatA := atN_fl (m := 1) hfit.at_ (by omega)
        have hat0 := atN_fl (m := 0) hfit.at_ (by omega)
        have hdf := hfit.lv.dead
        repeat' (first

          | (with_reducible refine wp_seq ?_)
          | (with_reducible refine c_region ?_)
          | (with_reducible refine wpList_nil ?_)
          | (with_reducible refine then_normal ?_)
          | (with_reducible refine wp_skip ?_)
          | (with_reducible refine wp_block ?_)
          | ((with_reducible refine g_move ?_); refine s_move hE rfl rfl ?_; clear hE a; intro a hE)
          | ((with_reducible refine g_assign ?_); refine s_assign hE rfl rfl ?_; clear hE a; intro a hE)
          | ((with_reducible refine g_bin .lss ?_); refine s_lss hE rfl rfl rfl ?_; clear hE a; intro a hE)
          | ((with_reducible refine g_bin .gtr ?_); refine s_gtr hE rfl rfl rfl ?_; clear hE a; intro a hE)
          | ((with_reducible refine g_bin .geq ?_); refine s_geq hE rfl rfl rfl ?_; clear hE a; intro a hE)
          | ((with_reducible refine g_bin .eql ?_); refine s_eql hE rfl rfl rfl ?_; clear hE a; intro a hE)
          | ((with_reducible refine g_bin .add ?_); refine s_add hE rfl rfl rfl (by first | exact wrap64_in (by omega) ) ?_; clear hE a; intro a hE)
          | ((with_reducible refine g_fa ?_); refine s_fieldL hE rfl rfl rfl ?_; clear hE a; intro a hE)
          | ((with_reducible refine g_guard ?_); refine gd_yes hE rfl rfl rfl ?_)
          | ((with_reducible refine g_guard ?_); refine gd_no hE rfl rfl rfl rfl ?_; clear hE a; intro a hE)
          | ((with_reducible refine g_guard ?_); refine gd_un hE rfl rfl rfl ?_; clear hE a; intro a hE)
          | ((with_reducible refine g_guard ?_); refine gd_dec hE rfl rfl (fun hc hE2 => ?_) (fun hc hE2 => ?_) <;> (try omega) <;> (replace hE := hE2; clear hE2))
          | ((with_reducible refine g_pick ?_); refine s_pickT hE rfl rfl rfl ?_; clear hE a; intro a hE)
          | ((with_reducible refine g_pick ?_); refine s_pickF hE rfl rfl rfl ?_; clear hE a; intro a hE)
          | ((with_reducible refine g_cond ?_); refine c_false hE rfl ?_)
          | ((with_reducible refine g_cond ?_); refine c_dec hE rfl (fun hc => ?_) (fun hc => ?_) <;> try omega)
          | ((with_reducible refine g_call (f := 13) ?_); refine s_call hE rfl rfl rfl (kind _ w) ?_; rintro _ w ⟨rfl, hS1⟩; clear hE a; intro a hE; replace hS := hS.frame hS1; clear hS1; try simp only [List.cons_append, List.nil_append] at hS)
          | ((with_reducible refine g_ia ?_); refine s_idxR hE rfl rfl (by omega) (by omega) (by (first | exact Rd.st (by assumption) hS )) (by first | omega ) rfl ?_; clear hE a; intro a hE)
          | ((with_reducible refine g_load ?_); (first | (refine s_loadB (k := 0) hS hE rfl rfl rfl rfl ?_) ); clear hE a; intro a hE)
          | ((with_reducible refine g_alloc ?_); refine s_allocS hE hS rfl rfl ?_; clear hE a hS; intro g a w hE hS)
          | ((with_reducible refine g_load ?_); (first | (refine s_loadW (k := 0) hS hE rfl rfl rfl rfl ?_) ); clear hE a; intro a hE)
          | ((with_reducible refine g_store ?_); (first | (refine s_storeW (k := 0) hS hE rfl rfl rfl rfl rfl (by first | (simp [Value.oneCell']; done)) ?_) ); clear hS; intro w hS; simp only [List.set_cons_zero, List.set_cons_succ, Nat.add_zero] at hS)
          | ((with_reducible refine g_load ?_); refine s_elemR hE rfl (by (first | exact Rd.st (by assumption) hS )) (by first | exact hseg ) (by first | rfl ) (by rfl) rfl ?_; clear hE a; intro a hE))
        all_goals
          refine s_call hE rfl rfl rfl (dops (front1 hS)) ?_
          rintro _ w ⟨rfl, hS⟩; clear hE a; intro a hE
          rw [show (D.fl 1).ops = D.ops from rfl] at hE
          repeat' (first

            | (with_reducible refine wp_seq ?_)
            | (with_reducible refine c_region ?_)
            | (with_reducible refine wpList_nil ?_)
            | (with_reducible refine then_normal ?_)
            | ((with_reducible refine g_move ?_); refine s_move hE rfl rfl ?_; clear hE a; intro a hE)
            | ((with_reducible refine g_assign ?_); refine s_assign hE rfl rfl ?_; clear hE a; intro a hE)
            | ((with_reducible refine g_load ?_); (first | (refine s_loadW (k := 3) hS hE rfl rfl rfl rfl ?_) ); clear hE a; intro a hE)
            )
          refine s_call hE rfl rfl rfl (does o hok.1 hok.2 hatA.ok (by have := hatA.ops; omega) hS) ?_
          rw [ed]
          rintro _ w ⟨rfl, Qa', da', hS⟩; clear hE a; intro a hE
          repeat' (first

            | (with_reducible refine wp_seq ?_)
            | (with_reducible refine c_region ?_)
            | (with_reducible refine wpList_nil ?_)
            | (with_reducible refine then_normal ?_)
            | ((with_reducible refine g_move ?_); refine s_move hE rfl rfl ?_; clear hE a; intro a hE)
            | ((with_reducible refine g_assign ?_); refine s_assign hE rfl rfl ?_; clear hE a; intro a hE)
            | ((with_reducible refine g_bin .neq ?_); refine s_neq hE rfl rfl rfl ?_; clear hE a; intro a hE)
            | ((with_reducible refine g_extract ?_); refine s_extract hE rfl rfl rfl ?_; clear hE a; intro a hE)
            | ((with_reducible refine g_guard ?_); refine gd_yes hE rfl rfl rfl ?_)
            | ((with_reducible refine g_alloc ?_); refine s_allocS hE hS rfl rfl ?_; clear hE a hS; intro g a w hE hS)
            | ((with_reducible refine g_load ?_); (first | (refine s_loadW (k := 0) hS hE rfl rfl rfl rfl ?_) ); clear hE a; intro a hE)
            | ((with_reducible refine g_store ?_); (first | (refine s_storeW (k := 0) hS hE rfl rfl rfl rfl rfl (by first | exact bys_one _ ) ?_) ); clear hS; intro w hS; simp only [List.set_cons_zero, List.set_cons_succ, Nat.add_zero] at hS)
            )
          refine s_build (bys noughts) hE rfl rfl rfl ?_
          clear hE a; intro a hE
          repeat' (first

            | ((with_reducible refine g_move ?_); refine s_move hE rfl rfl ?_; clear hE a; intro a hE)
            | ((with_reducible refine g_guard ?_); refine gd_yes hE rfl rfl rfl ?_)
            | ((with_reducible refine g_pick ?_); refine s_pickF hE rfl rfl rfl ?_; clear hE a; intro a hE)
            | ((with_reducible refine g_bin .neq ?_); refine s_val hE rfl rfl rfl (r_neS hE rfl rfl (by first | rfl)) ?_; clear hE a; intro a hE)
            )
          refine s_call hE rfl rfl rfl (ddead (front1 hS)) ?_
          rintro _ w ⟨rfl, hS⟩; clear hE a; intro a hE
          rw [show (D.fl 0).dead = false from hdf] at hE
          repeat' (first

            | ((with_reducible refine g_move ?_); refine s_move hE rfl rfl ?_; clear hE a; intro a hE)
            | ((with_reducible refine g_guard ?_); refine gd_yes hE rfl rfl rfl ?_)
            | ((with_reducible refine g_pick ?_); refine s_pickF hE rfl rfl rfl ?_; clear hE a; intro a hE)
            )
          refine s_call hE rfl rfl rfl (dops hS) ?_
          rintro _ w ⟨rfl, hS⟩; clear hE a; intro a hE
          rw [show (D.fl 0).ops = D.ops from rfl] at hE
          repeat' (first

            | ((with_reducible refine g_move ?_); refine s_move hE rfl rfl ?_; clear hE a; intro a hE)
            | ((with_reducible refine g_bin .neq ?_); refine s_neq hE rfl rfl rfl ?_; clear hE a; intro a hE)
            | ((with_reducible refine g_guard ?_); refine gd_yes hE rfl rfl rfl ?_)
            | ((with_reducible refine g_guard ?_); refine gd_dec hE rfl rfl (fun hc hE2 => ?_) (fun hc hE2 => ?_) <;> (try omega) <;> (replace hE := hE2; clear hE2))
            | ((with_reducible refine g_pick ?_); refine s_pickF hE rfl rfl rfl ?_; clear hE a; intro a hE)
            )
          refine s_call hE rfl rfl rfl (pending hat0.ok hS) ?_
          rintro _ w ⟨Ap, cp, rfl, hS⟩; clear hE a; intro a hE
          rw [show (D.fl 0).pend.length = D.pend.length from rfl] at hE
          repeat' (first

            | ((with_reducible refine g_move ?_); refine s_move hE rfl rfl ?_; clear hE a; intro a hE)
            | ((with_reducible refine g_blt .len ?_); refine s_len hE rfl rfl ?_; clear hE a; intro a hE)
            | ((with_reducible refine g_guard ?_); refine gd_yes hE rfl rfl rfl ?_)
            )
          have hS2 := frontL (D := D) [_, _, _, _, _, _] hS
          simp only [List.cons_append, List.nil_append] at hS2
          clear hS; have hS := hS2; clear hS2
          refine s_call hE rfl rfl rfl (pending hfit.at_.ok hS) ?_
          rintro _ w ⟨Aq, cq, rfl, hS⟩; clear hE a; intro a hE
          repeat' (first

            | (with_reducible refine c_region ?_)
            | (with_reducible refine wpList_nil ?_)
            | (with_reducible refine then_normal ?_)
            | (with_reducible refine wp_skip ?_)
            | (with_reducible refine wp_exit ?_)
            | (with_reducible refine then_exit ?_)
            | (with_reducible refine block_same ?_)
            | ((with_reducible refine g_move ?_); refine s_move hE rfl rfl ?_; clear hE a; intro a hE)
            | ((with_reducible refine g_bin .neq ?_); refine s_neq hE rfl rfl rfl ?_; clear hE a; intro a hE)
            | ((with_reducible refine g_bin .add ?_); refine s_add hE rfl rfl rfl (by first  | exact wrap64_in (by omega) ) ?_; clear hE a; intro a hE)
            | ((with_reducible refine g_blt .len ?_); refine s_len hE rfl rfl ?_; clear hE a; intro a hE)
            | ((with_reducible refine g_guard ?_); refine gd_yes hE rfl rfl rfl ?_)
            | ((with_reducible refine g_pick ?_); refine s_pickF hE rfl rfl rfl ?_; clear hE a; intro a hE)
            | ((with_reducible refine g_cond ?_); refine c_dec hE rfl (fun hc => ?_) (fun hc => ?_) <;> try omega)
            )
          have hS2 := frontL (D := D.fl 0) [_, _, _, _, _] hS
          simp only [List.cons_append, List.nil_append] at hS2
          clear hS; have hS := hS2; clear hS2
          exact ⟨q - 1, by omega, k + 1, ask + 1, 0, D, _, _, _, _, by omega, by omega, fun h1 => by omega, fun h1 => rfl, fits_mono hfit (by omega), hlen, (((hS.drop 3).drop 6).drop 6).drop 6, hE.sub ⟨rfl, rfl, rfl, rfl, rfl, rfl, rfl, trivial⟩⟩
      · have hne : f ≠ 1 := by rcases Nat.lt_or_ge m ask with h1 | h1; have := hf2 h1; omega; have := hf1 h1; omega
        have ed := does_fl hfit.lv hlen hin.1 hin.2 hne
        have hf0 : 0 ≤ f ∧ f ≤ 1000 := by rcases Nat.lt_or_ge m ask with h1 | h1; have := hf2 h1; omega; have := hf1 h1; omega
        have hatA := atN_fl (m := f) hfit.at_ hf0
        obtain ⟨hfit2, hvec2, hlen2⟩ := does_fits hfit (by omega) hok.1 hk3
        have hbd : Blk.ok (D.does o).2.1 := does_blk hfit.at_.ok o
        rw [hlen] at hlen2
        repeat' (first

          | (with_reducible refine wp_seq ?_)
          | (with_reducible refine c_region ?_)
          | (with_reducible refine wpList_nil ?_)
          | (with_reducible refine then_normal ?_)
          | (with_reducible refine wp_skip ?_)
          | (with_reducible refine wp_block ?_)
          | ((with_reducible refine g_move ?_); refine s_move hE rfl rfl ?_; clear hE a; intro a hE)
          | ((with_reducible refine g_assign ?_); refine s_assign hE rfl rfl ?_; clear hE a; intro a hE)
          | ((with_reducible refine g_bin .lss ?_); refine s_lss hE rfl rfl rfl ?_; clear hE a; intro a hE)
          | ((with_reducible refine g_bin .gtr ?_); refine s_gtr hE rfl rfl rfl ?_; clear hE a; intro a hE)
          | ((with_reducible refine g_bin .geq ?_); refine s_geq hE rfl rfl rfl ?_; clear hE a; intro a hE)
          | ((with_reducible refine g_bin .eql ?_); refine s_eql hE rfl rfl rfl ?_; clear hE a; intro a hE)
          | ((with_reducible refine g_bin .add ?_); refine s_add hE rfl rfl rfl (by first | exact wrap64_in (by omega) ) ?_; clear hE a; intro a hE)
          | ((with_reducible refine g_fa ?_); refine s_fieldL hE rfl rfl rfl ?_; clear hE a; intro a hE)
          | ((with_reducible refine g_guard ?_); refine gd_yes hE rfl rfl rfl ?_)
          | ((with_reducible refine g_guard ?_); refine gd_no hE rfl rfl rfl rfl ?_; clear hE a; intro a hE)
          | ((with_reducible refine g_guard ?_); refine gd_un hE rfl rfl rfl ?_; clear hE a; intro a hE)
          | ((with_reducible refine g_guard ?_); refine gd_dec hE rfl rfl (fun hc hE2 => ?_) (fun hc hE2 => ?_) <;> (try omega) <;> (replace hE := hE2; clear hE2))
          | ((with_reducible refine g_pick ?_); refine s_pickT hE rfl rfl rfl ?_; clear hE a; intro a hE)
          | ((with_reducible refine g_pick ?_); refine s_pickF hE rfl rfl rfl ?_; clear hE a; intro a hE)
          | ((with_reducible refine g_cond ?_); refine c_false hE rfl ?_)
          | ((with_reducible refine g_cond ?_); refine c_dec hE rfl (fun hc => ?_) (fun hc => ?_) <;> try omega)
          | ((with_reducible refine g_call (f := 13) ?_); refine s_call hE rfl rfl rfl (kind _ w) ?_; rintro _ w ⟨rfl, hS1⟩; clear hE a; intro a hE; replace hS := hS.frame hS1; clear hS1; try simp only [List.cons_append, List.nil_append] at hS)
          | ((with_reducible refine g_ia ?_); refine s_idxR hE rfl rfl (by omega) (by omega) (by (first | exact Rd.st (by assumption) hS )) (by first | omega ) rfl ?_; clear hE a; intro a hE)
          | ((with_reducible refine g_load ?_); (first | (refine s_loadB (k := 0) hS hE rfl rfl rfl rfl ?_) ); clear hE a; intro a hE)
          | ((with_reducible refine g_alloc ?_); refine s_allocS hE hS rfl rfl ?_; clear hE a hS; intro g a w hE hS)
          | ((with_reducible refine g_load ?_); (first | (refine s_loadW (k := 0) hS hE rfl rfl rfl rfl ?_) ); clear hE a; intro a hE)
          | ((with_reducible refine g_store ?_); (first | (refine s_storeW (k := 0) hS hE rfl rfl rfl rfl rfl (by first | (simp [Value.oneCell']; done)) ?_) ); clear hS; intro w hS; simp only [List.set_cons_zero, List.set_cons_succ, Nat.add_zero] at hS)
          | ((with_reducible refine g_load ?_); refine s_elemR hE rfl (by (first | exact Rd.st (by assumption) hS )) (by first | exact hseg ) (by first | rfl ) (by rfl) rfl ?_; clear hE a; intro a hE))
        all_goals
          refine s_call hE rfl rfl rfl (does o hok.1 hok.2 hatA.ok (by have := hatA.ops; omega) (front1 hS)) ?_
          rw [ed]
          dsimp only
          rintro _ w ⟨rfl, Qa', da', hS⟩; clear hE a; intro a hE
          have hd2 := fun (H : List HP) (w : World) => does (Q := Qb) (d := db) (g := gb) (S := Sb) (c := cb) (D := D) (w0 := w0) (w := w) (H := H) o hok.1 hok.2 hfit.at_.ok (by have := hfit.at_.ops; omega)
          generalize D.does o = r at hS hE hfit2 hlen2 hbd hd2
          obtain ⟨D2, b2, e2⟩ := r
          dsimp only at hS hE hfit2 hlen2 hbd hd2
          have hbl : (bys b2).length = 64 := by rw [bys_length]; exact hbd.1
          have hbl2 := hbd.1
          repeat' (first

            | (with_reducible refine wp_seq ?_)
            | (with_reducible refine c_region ?_)
            | (with_reducible refine wpList_nil ?_)
            | (with_reducible refine then_normal ?_)
            | ((with_reducible refine g_move ?_); refine s_move hE rfl rfl ?_; clear hE a; intro a hE)
            | ((with_reducible refine g_assign ?_); refine s_assign hE rfl rfl ?_; clear hE a; intro a hE)
            | ((with_reducible refine g_extract ?_); refine s_extract hE rfl rfl rfl ?_; clear hE a; intro a hE)
            | ((with_reducible refine g_alloc ?_); refine s_allocS hE hS rfl rfl ?_; clear hE a hS; intro g a w hE hS)
            | ((with_reducible refine g_load ?_); (first | (refine s_loadW (k := 4) hS hE rfl rfl rfl rfl ?_) ); clear hE a; intro a hE)
            | ((with_reducible refine g_store ?_); (first | (refine s_storeW (k := 0) hS hE rfl rfl rfl (by assumption) (by first | rfl ) (by first | exact bys_one _ ) ?_) ); clear hS; intro w hS; simp only [List.set_cons_zero, List.set_cons_succ, Nat.add_zero] at hS)
            )
          have hS2 := frontL [_, _, _, _, _] hS
          simp only [List.cons_append, List.nil_append] at hS2
          clear hS; have hS := hS2; clear hS2
          refine s_call hE rfl rfl rfl (hd2 _ _ hS) ?_
          rintro _ w ⟨rfl, Qb', db', hS⟩; clear hE a; intro a hE
          repeat' (first

            | (with_reducible refine wp_seq ?_)
            | (with_reducible refine c_region ?_)
            | (with_reducible refine wpList_nil ?_)
            | (with_reducible refine then_normal ?_)
            | (with_reducible refine wp_skip ?_)
            | (with_reducible refine block_normal ?_)
            | ((with_reducible refine g_move ?_); refine s_move hE rfl rfl ?_; clear hE a; intro a hE)
            | ((with_reducible refine g_assign ?_); refine s_assign hE rfl rfl ?_; clear hE a; intro a hE)
            | ((with_reducible refine g_bin .neq ?_); refine s_neq hE rfl rfl rfl ?_; clear hE a; intro a hE)
            | ((with_reducible refine g_bin .add ?_); refine s_add hE rfl rfl rfl (by first  | exact wrap64_in (by omega) ) ?_; clear hE a; intro a hE)
            | ((with_reducible refine g_extract ?_); refine s_extract hE rfl rfl rfl ?_; clear hE a; intro a hE)
            | ((with_reducible refine g_guard ?_); refine gd_yes hE rfl rfl rfl ?_)
            | ((with_reducible refine g_pick ?_); refine s_pickF hE rfl rfl rfl ?_; clear hE a; intro a hE)
            | ((with_reducible refine g_cond ?_); refine c_dec hE rfl (fun hc => ?_) (fun hc => ?_) <;> try omega)
            | ((with_reducible refine g_bin .neq ?_); refine s_val hE rfl rfl rfl (r_neS hE rfl rfl (by first | assumption )) ?_; clear hE a; intro a hE)
            | ((with_reducible refine g_alloc ?_); refine s_allocS hE hS rfl rfl ?_; clear hE a hS; intro g a w hE hS)
            | ((with_reducible refine g_load ?_); (first | (refine s_loadW (k := 0) hS hE rfl rfl (by first | assumption ) rfl ?_) | (refine s_loadW (k := 4) hS hE rfl rfl (by first | assumption ) rfl ?_) ); clear hE a; intro a hE)
            | ((with_reducible refine g_store ?_); (first | (refine s_storeW (k := 0) hS hE rfl rfl rfl (by assumption) (by first | rfl ) (by first | exact bys_one _ ) ?_) ); clear hS; intro w hS; simp only [List.set_cons_zero, List.set_cons_succ, Nat.add_zero] at hS)
            )
          have hS2 := frontL (D := D2.fl (if 1 < f then f - 1 else f)) [_, _, _, _, _] hS
          simp only [List.cons_append, List.nil_append] at hS2
          clear hS; have hS := hS2; clear hS2
          exact ⟨q - 1, by omega, k + 1, ask + 1, _, D2, _, _, _, _, by omega, by omega, fun h1 => by have := hf1 (by omega); rw [if_pos (by omega)]; omega, fun h1 => by have := hf2 (by omega); rw [if_neg (by omega)]; exact this, hfit2, hlen2, ((hS.drop 3).drop 6).drop 6, hE.sub ⟨rfl, rfl, rfl, rfl, rfl, rfl, rfl, trivial⟩⟩
    · have hin2 := hin
      unfold Opn.inr at hin2
      repeat' (first

        | (with_reducible refine wp_seq ?_)
        | (with_reducible refine c_region ?_)
        | (with_reducible refine wpList_nil ?_)
        | (with_reducible refine then_normal ?_)
        | (with_reducible refine wp_skip ?_)
        | (with_reducible refine wp_block ?_)
        | (with_reducible refine wp_exit ?_)
        | (with_reducible refine then_exit ?_)
        | (with_reducible refine block_same ?_)
        | ((with_reducible refine g_move ?_); refine s_move hE rfl rfl ?_; clear hE a; intro a hE)
        | ((with_reducible refine g_bin .lss ?_); refine s_lss hE rfl rfl rfl ?_; clear hE a; intro a hE)
        | ((with_reducible refine g_bin .gtr ?_); refine s_gtr hE rfl rfl rfl ?_; clear hE a; intro a hE)
        | ((with_reducible refine g_bin .geq ?_); refine s_geq hE rfl rfl rfl ?_; clear hE a; intro a hE)
        | ((with_reducible refine g_bin .add ?_); refine s_add hE rfl rfl rfl (by first | exact wrap64_in (by omega) ) ?_; clear hE a; intro a hE)
        | ((with_reducible refine g_fa ?_); refine s_fieldL hE rfl rfl rfl ?_; clear hE a; intro a hE)
        | ((with_reducible refine g_guard ?_); refine gd_yes hE rfl rfl rfl ?_)
        | ((with_reducible refine g_guard ?_); refine gd_no hE rfl rfl rfl rfl ?_; clear hE a; intro a hE)
        | ((with_reducible refine g_guard ?_); refine gd_un hE rfl rfl rfl ?_; clear hE a; intro a hE)
        | ((with_reducible refine g_guard ?_); refine gd_dec hE rfl rfl (fun hc hE2 => ?_) (fun hc hE2 => ?_) <;> (try omega) <;> (replace hE := hE2; clear hE2))
        | ((with_reducible refine g_pick ?_); refine s_pickT hE rfl rfl rfl ?_; clear hE a; intro a hE)
        | ((with_reducible refine g_pick ?_); refine s_pickF hE rfl rfl rfl ?_; clear hE a; intro a hE)
        | ((with_reducible refine g_cond ?_); refine c_true hE rfl ?_)
        | ((with_reducible refine g_cond ?_); refine c_dec hE rfl (fun hc => ?_) (fun hc => ?_) <;> try omega)
        | ((with_reducible refine g_call (f := 13) ?_); refine s_call hE rfl rfl rfl (kind _ w) ?_; rintro _ w ⟨rfl, hS1⟩; clear hE a; intro a hE; replace hS := hS.frame hS1; clear hS1; try simp only [List.cons_append, List.nil_append] at hS)
        | ((with_reducible refine g_ia ?_); refine s_idxR hE rfl rfl (by omega) (by omega) (by (first | exact Rd.st (by assumption) hS )) (by first | omega ) rfl ?_; clear hE a; intro a hE)
        | ((with_reducible refine g_load ?_); (first | (refine s_loadB (k := 0) hS hE rfl rfl rfl rfl ?_) ); clear hE a; intro a hE)
        | ((with_reducible refine g_alloc ?_); refine s_allocS hE hS rfl rfl ?_; clear hE a hS; intro g a w hE hS)
        | ((with_reducible refine g_load ?_); (first | (refine s_loadW (k := 0) hS hE rfl rfl rfl rfl ?_) ); clear hE a; intro a hE)
        | ((with_reducible refine g_store ?_); (first | (refine s_storeW (k := 0) hS hE rfl rfl rfl rfl rfl (by first | (simp [Value.oneCell']; done)) ?_) ); clear hS; intro w hS; simp only [List.set_cons_zero, List.set_cons_succ, Nat.add_zero] at hS)
        | ((with_reducible refine g_load ?_); refine s_elemR hE rfl (by (first | exact Rd.st (by assumption) hS )) (by first | exact hseg ) (by first | rfl ) (by rfl) rfl ?_; clear hE a; intro a hE))
      all_goals exact ⟨q - 1, by omega, k + 1, ask, f, D, Qa, da, Qb, db, by omega, by omega, hf1, hf2, fits_mono hfit (by omega), hlen, hS.tail, hE.sub ⟨rfl, rfl, rfl, rfl, rfl, rfl, rfl, trivial⟩⟩
  · obtain rfl : k = l2.length := by omega
    have hop := hfit.at_.ops
    have hvo := vec_ok hfit.at_.ok
    have hvl : D.vec.length = 6 := (vec_len D).trans hlen
    have hhv := hold_vec hfit.lv
    rw [hlen] at hhv
    have hheld2 := fun (g : Nat) (S : Option Addr) (c : Nat) (Q : Option Addr) (d : Nat) (H : List HP) (w : World) (hS : St w0 w (dk g S c Q d D H)) => held hfit.at_ (by omega) hS
    rw [hlen, hhv] at hheld2
    dsimp only at hheld2
    have efl := fl_0 hfit.lv
    have eneg : (D.fl f).fail (-1) = (D.fl 0, 0) := by
      unfold DM.fail
      dsimp only
      rw [if_neg (by rw [hfit.lv.dead]; decide), if_neg (by omega)]
    repeat' (first

      | (with_reducible refine wp_seq ?_)
      | (with_reducible refine c_region ?_)
      | (with_reducible refine wpList_nil ?_)
      | (with_reducible refine then_normal ?_)
      | (with_reducible refine wp_skip ?_)
      | (with_reducible refine wp_exit ?_)
      | (with_reducible refine then_exit ?_)
      | (with_reducible refine block_same ?_)
      | ((with_reducible refine g_move ?_); refine s_move hE rfl rfl ?_; clear hE a; intro a hE)
      | ((with_reducible refine g_bin .lss ?_); refine s_lss hE rfl rfl rfl ?_; clear hE a; intro a hE)
      | ((with_reducible refine g_bin .leq ?_); refine s_leq hE rfl rfl rfl ?_; clear hE a; intro a hE)
      | ((with_reducible refine g_guard ?_); refine gd_yes hE rfl rfl rfl ?_)
      | ((with_reducible refine g_guard ?_); refine gd_no hE rfl rfl rfl rfl ?_; clear hE a; intro a hE)
      | ((with_reducible refine g_guard ?_); refine gd_dec hE rfl rfl (fun hc hE2 => ?_) (fun hc hE2 => ?_) <;> (try omega) <;> (replace hE := hE2; clear hE2))
      | ((with_reducible refine g_pick ?_); refine s_pickF hE rfl rfl rfl ?_; clear hE a; intro a hE)
      | ((with_reducible refine g_cond ?_); refine c_false hE rfl ?_)
      | ((with_reducible refine g_cond ?_); refine c_dec hE rfl (fun hc => ?_) (fun hc => ?_) <;> try omega)
      )
    · refine s_call hE rfl rfl rfl (fail (-1) (by omega) hS) ?_
      rw [eneg, efl]
      rintro _ w ⟨rfl, hS⟩; clear hE a; intro a hE
      dsimp only at hS
      repeat' (first

        | (with_reducible refine wp_seq ?_)
        | (with_reducible refine c_region ?_)
        | (with_reducible refine wpList_nil ?_)
        | (with_reducible refine then_normal ?_)
        | (with_reducible refine wp_skip ?_)
        | ((with_reducible refine g_move ?_); refine s_move hE rfl rfl ?_; clear hE a; intro a hE)
        | ((with_reducible refine g_bin .neq ?_); refine s_neq hE rfl rfl rfl ?_; clear hE a; intro a hE)
        | ((with_reducible refine g_guard ?_); refine gd_yes hE rfl rfl rfl ?_)
        | ((with_reducible refine g_pick ?_); refine s_pickT hE rfl rfl rfl ?_; clear hE a; intro a hE)
        | ((with_reducible refine g_cond ?_); refine c_false hE rfl ?_)
        )
      refine s_call hE rfl rfl rfl (hheld2 _ _ _ _ _ _ _ hS) ?_
      rintro _ w ⟨A3, c3, rfl, hS⟩; clear hE a; intro a hE
      repeat' (first

        | ((with_reducible refine g_move ?_); refine s_move hE rfl rfl ?_; clear hE a; intro a hE)
        )
      have hS2 := frontL (D := D) [_, _, _, _] hS
      simp only [List.cons_append, List.nil_append] at hS2
      clear hS; have hS := hS2; clear hS2
      refine s_call hE rfl rfl rfl (hheld2 _ _ _ _ _ _ _ hS) ?_
      rintro _ w ⟨A4, c4, rfl, hS⟩; clear hE a; intro a hE
      skip
      refine s_call hE rfl rfl rfl (same A3 c3 D.vec A4 c4 D.vec 6 6 w (hS.rdAt (k := 4) rfl) (hS.rdAt (k := 0) rfl) hvo hvo hvl.symm hvl.symm (by omega)) ?_
      rintro _ w ⟨rfl, hS1⟩; clear hE a; intro a hE; replace hS := hS.frame hS1; clear hS1; try simp only [List.cons_append, List.nil_append] at hS
      rw [decide_eq_true rfl] at hE
      repeat' (first

        | ((with_reducible refine g_move ?_); refine s_move hE rfl rfl ?_; clear hE a; intro a hE)
        | ((with_reducible refine g_guard ?_); refine gd_yes hE rfl rfl rfl ?_)
        )
      have hS2 := frontL (D := { D with ops := D.ops + (6 : Nat) }) [_, _, _, _, _] hS
      simp only [List.cons_append, List.nil_append] at hS2
      clear hS; have hS := hS2; clear hS2
      refine s_call hE rfl rfl rfl (dops hS) ?_
      rintro _ w ⟨rfl, hS⟩; clear hE a; intro a hE
      repeat' (first

        | ((with_reducible refine g_move ?_); refine s_move hE rfl rfl ?_; clear hE a; intro a hE)
        | ((with_reducible refine g_guard ?_); refine gd_yes hE rfl rfl rfl ?_)
        )
      have hS2 := frontL (D := { D with ops := D.ops + (6 : Nat) }) [_, _, _, _] hS
      simp only [List.cons_append, List.nil_append] at hS2
      clear hS; have hS := hS2; clear hS2
      refine s_call hE rfl rfl rfl (dops hS) ?_
      rintro _ w ⟨rfl, hS⟩; clear hE a; intro a hE
      repeat' (first

        | (with_reducible refine wpList_nil ?_)
        | (with_reducible refine then_normal ?_)
        | (with_reducible refine wp_ret ?_)
        | ((with_reducible refine g_assign ?_); refine s_assign hE rfl rfl ?_; clear hE a; intro a hE)
        | ((with_reducible refine g_bin .eql ?_); refine s_eql hE rfl rfl rfl ?_; clear hE a; intro a hE)
        | ((with_reducible refine g_guard ?_); refine gd_yes hE rfl rfl rfl ?_)
        | ((with_reducible refine g_pick ?_); refine s_pickT hE rfl rfl rfl ?_; clear hE a; intro a hE)
        )
      exact ret1 hE rfl rfl ⟨by rw [decide_eq_true rfl], hS.nil⟩
    · rw [hf2 (by omega), efl] at hS
      refine s_call hE rfl rfl rfl (hheld2 _ _ _ _ _ _ _ hS) ?_
      rintro _ w ⟨A3, c3, rfl, hS⟩; clear hE a; intro a hE
      repeat' (first

        | ((with_reducible refine g_move ?_); refine s_move hE rfl rfl ?_; clear hE a; intro a hE)
        )
      have hS2 := frontL (D := D) [_, _, _, _] hS
      simp only [List.cons_append, List.nil_append] at hS2
      clear hS; have hS := hS2; clear hS2
      refine s_call hE rfl rfl rfl (hheld2 _ _ _ _ _ _ _ hS) ?_
      rintro _ w ⟨A4, c4, rfl, hS⟩; clear hE a; intro a hE
      skip
      refine s_call hE rfl rfl rfl (same A3 c3 D.vec A4 c4 D.vec 6 6 w (hS.rdAt (k := 4) rfl) (hS.rdAt (k := 0) rfl) hvo hvo hvl.symm hvl.symm (by omega)) ?_
      rintro _ w ⟨rfl, hS1⟩; clear hE a; intro a hE; replace hS := hS.frame hS1; clear hS1; try simp only [List.cons_append, List.nil_append] at hS
      rw [decide_eq_true rfl] at hE
      repeat' (first

        | ((with_reducible refine g_move ?_); refine s_move hE rfl rfl ?_; clear hE a; intro a hE)
        | ((with_reducible refine g_guard ?_); refine gd_yes hE rfl rfl rfl ?_)
        )
      have hS2 := frontL (D := { D with ops := D.ops + (6 : Nat) }) [_, _, _, _, _] hS
      simp only [List.cons_append, List.nil_append] at hS2
      clear hS; have hS := hS2; clear hS2
      refine s_call hE rfl rfl rfl (dops hS) ?_
      rintro _ w ⟨rfl, hS⟩; clear hE a; intro a hE
      repeat' (first

        | ((with_reducible refine g_move ?_); refine s_move hE rfl rfl ?_; clear hE a; intro a hE)
        | ((with_reducible refine g_guard ?_); refine gd_yes hE rfl rfl rfl ?_)
        )
      have hS2 := frontL (D := { D with ops := D.ops + (6 : Nat) }) [_, _, _, _] hS
      simp only [List.cons_append, List.nil_append] at hS2
      clear hS; have hS := hS2; clear hS2
      refine s_call hE rfl rfl rfl (dops hS) ?_
      rintro _ w ⟨rfl, hS⟩; clear hE a; intro a hE
      repeat' (first

        | (with_reducible refine wpList_nil ?_)
        | (with_reducible refine then_normal ?_)
        | (with_reducible refine wp_ret ?_)
        | ((with_reducible refine g_assign ?_); refine s_assign hE rfl rfl ?_; clear hE a; intro a hE)
        | ((with_reducible refine g_bin .eql ?_); refine s_eql hE rfl rfl rfl ?_; clear hE a; intro a hE)
        | ((with_reducible refine g_guard ?_); refine gd_yes hE rfl rfl rfl ?_)
        | ((with_reducible refine g_pick ?_); refine s_pickT hE rfl rfl rfl ?_; clear hE a; intro a hE)
        )
      exact ret1 hE rfl rfl ⟨by rw [decide_eq_true rfl], hS.nil⟩
end
end Go.Proofs.Ytnnamckabjhflaa
