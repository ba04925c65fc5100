/-
  A disk does as the document says.
-/
import Derived.Test.YtnnamckabjhflaaEI
namespace Go.Proofs.Ytnnamckabjhflaa
open Go.RowKit
set_option linter.unusedVariables false
set_option linter.unusedSimpArgs false
attribute [local irreducible] Rd hRow hBlk hRd hRs hAll Fn hMarks
attribute [local simp] Wr.cells Opn.cells

section
variable {H : List HP} {w0 w : World}
set_option maxHeartbeats 16000000
theorem law_DiskDoes (n : Int) (y : LT) (w0 : World) (hn : (Lit.int .i64 n).wf = true) (h : y.ok w0) : Fn Try.prog 4 [.int .i64 n, .slice y.1 y.2.2.length y.2.1] w0 fun v w' => v = .bool true ∧ St w0 w' [] := by
  rw [← LT.len]
  have hr := LT.rd h
  have hall := LT.all h
  obtain ⟨hcap, hbig⟩ := LT.cap h
  have hn2 := wf_i64 hn
  generalize y.opns = l at hr hall hcap hbig
  generalize y.1 = A at hr
  generalize y.2.1 = c at hcap
  refine enter 105 Try.func4 rfl rfl rfl ?_
  intro a hE
  have hS := St.start w0
  repeat' (first

    | (with_reducible refine wp_seq ?_)
    | (with_reducible refine c_region ?_)
    | (with_reducible refine wpList_nil ?_)
    | (with_reducible refine then_normal ?_)
    | ((with_reducible refine g_assign ?_); refine s_assign hE rfl rfl ?_; clear hE a; intro a hE)
    )
  refine s_call hE rfl rfl rfl (wakes w0) ?_
  rintro _ w ⟨rfl, hS1⟩; clear hE a; intro a hE; replace hS := hS.frame hS1; clear hS1; try simp only [List.cons_append, List.nil_append] at hS
  by_cases hbad : n < 1 ∨ 2048 < n
  · repeat' (first

      | (with_reducible refine wp_seq ?_)
      | (with_reducible refine c_region ?_)
      | (with_reducible refine wpList_nil ?_)
      | (with_reducible refine then_normal ?_)
      | (with_reducible refine wp_skip ?_)
      | ((with_reducible refine g_move ?_); refine s_move hE rfl rfl ?_; clear hE a; intro a hE)
      | ((with_reducible refine g_un .not ?_); refine s_notb hE rfl rfl ?_; clear hE a; intro a hE)
      | ((with_reducible refine g_cond ?_); refine c_false hE rfl ?_)
      )
    refine s_call hE rfl rfl rfl (dnew_no n hn2 hbad w) ?_
    rintro _ w ⟨rfl, hS1⟩; clear hE a; intro a hE; replace hS := hS.frame hS1; clear hS1; try simp only [List.cons_append, List.nil_append] at hS
    repeat' (first

      | (with_reducible refine wp_seq ?_)
      | (with_reducible refine c_region ?_)
      | (with_reducible refine wpList_nil ?_)
      | (with_reducible refine then_normal ?_)
      | ((with_reducible refine g_move ?_); refine s_move hE rfl rfl ?_; clear hE a; intro a hE)
      | ((with_reducible refine g_assign ?_); refine s_assign hE rfl rfl ?_; clear hE a; intro a hE)
      | ((with_reducible refine g_extract ?_); refine s_extract hE rfl rfl rfl ?_; clear hE a; intro a hE)
      )
    refine s_call hE rfl rfl rfl (rnew_no n hn2 hbad w) ?_
    rintro _ w ⟨rfl, hS1⟩; clear hE a; intro a hE; replace hS := hS.frame hS1; clear hS1; try simp only [List.cons_append, List.nil_append] at hS
    repeat' (first

      | (with_reducible refine wp_seq ?_)
      | (with_reducible refine c_region ?_)
      | (with_reducible refine wpList_nil ?_)
      | (with_reducible refine then_normal ?_)
      | (with_reducible refine wp_skip ?_)
      | (with_reducible refine wp_ret ?_)
      | (with_reducible refine then_ret ?_)
      | ((with_reducible refine g_move ?_); refine s_move hE rfl rfl ?_; clear hE a; intro a hE)
      | ((with_reducible refine g_assign ?_); refine s_assign hE rfl rfl ?_; clear hE a; intro a hE)
      | ((with_reducible refine g_bin .neq ?_); refine s_neq hE rfl rfl rfl ?_; clear hE a; intro a hE)
      | ((with_reducible refine g_extract ?_); refine s_extract hE rfl rfl rfl ?_; clear hE a; intro a hE)
      | ((with_reducible refine g_bin .neq ?_); refine s_neb hE rfl rfl rfl ?_; clear hE a; intro a hE)
      | ((with_reducible refine g_guard ?_); refine gd_yes hE rfl rfl rfl ?_)
      | ((with_reducible refine g_pick ?_); refine s_pickF hE rfl rfl rfl ?_; clear hE a; intro a hE)
      | ((with_reducible refine g_cond ?_); refine c_true hE rfl ?_)
      | ((with_reducible refine g_cond ?_); refine c_false hE rfl ?_)
      | ((with_reducible refine g_bin .eql ?_); refine s_val hE rfl rfl rfl (r_eqp hE rfl rfl) ?_; clear hE a; intro a hE)
      | ((with_reducible refine g_alloc ?_); refine s_allocS hE hS rfl rfl ?_; clear hE a hS; intro g a w hE hS)
      | ((with_reducible refine g_store ?_); (first | (refine s_storeW (k := 0) hS hE rfl rfl rfl rfl rfl (by first | (simp [Value.oneCell']; done)) ?_) ); clear hS; intro w hS; simp only [List.set_cons_zero, List.set_cons_succ, Nat.add_zero] at hS)
      )
    exact ret1 hE rfl rfl ⟨rfl, hS.nil⟩
  · obtain ⟨m, rfl⟩ := Int.eq_ofNat_of_zero_le (show 0 ≤ n by omega)
    have hm1 : 1 ≤ m := by omega
    have hm2 : m ≤ 2048 := by omega
    repeat' (first

      | (with_reducible refine wp_seq ?_)
      | (with_reducible refine c_region ?_)
      | (with_reducible refine wpList_nil ?_)
      | (with_reducible refine then_normal ?_)
      | (with_reducible refine wp_skip ?_)
      | ((with_reducible refine g_move ?_); refine s_move hE rfl rfl ?_; clear hE a; intro a hE)
      | ((with_reducible refine g_un .not ?_); refine s_notb hE rfl rfl ?_; clear hE a; intro a hE)
      | ((with_reducible refine g_cond ?_); refine c_false hE rfl ?_)
      )
    refine s_call hE rfl rfl rfl (dnew m hm1 hm2 w) ?_
    rintro _ w ⟨gd, Sd, cd, rfl, hS1⟩; clear hE a; intro a hE; replace hS := hS.frame hS1; clear hS1; try simp only [List.cons_append, List.nil_append] at hS
    repeat' (first

      | (with_reducible refine wp_seq ?_)
      | (with_reducible refine c_region ?_)
      | (with_reducible refine wpList_nil ?_)
      | (with_reducible refine then_normal ?_)
      | ((with_reducible refine g_move ?_); refine s_move hE rfl rfl ?_; clear hE a; intro a hE)
      | ((with_reducible refine g_assign ?_); refine s_assign hE rfl rfl ?_; clear hE a; intro a hE)
      | ((with_reducible refine g_extract ?_); refine s_extract hE rfl rfl rfl ?_; clear hE a; intro a hE)
      )
    refine s_call hE rfl rfl rfl (rnew m hm1 hm2 w) ?_
    rintro _ w ⟨Sr, cr, rfl, hS1⟩; clear hE a; intro a hE; replace hS := hS.frame hS1; clear hS1; try simp only [List.cons_append, List.nil_append] at hS
    repeat' (first

      | (with_reducible refine wp_seq ?_)
      | (with_reducible refine c_region ?_)
      | (with_reducible refine wpList_nil ?_)
      | (with_reducible refine then_normal ?_)
      | (with_reducible refine wp_skip ?_)
      | ((with_reducible refine g_move ?_); refine s_move hE rfl rfl ?_; clear hE a; intro a hE)
      | ((with_reducible refine g_assign ?_); refine s_assign hE rfl rfl ?_; clear hE a; intro a hE)
      | ((with_reducible refine g_bin .neq ?_); refine s_neq hE rfl rfl rfl ?_; clear hE a; intro a hE)
      | ((with_reducible refine g_extract ?_); refine s_extract hE rfl rfl rfl ?_; clear hE a; intro a hE)
      | ((with_reducible refine g_bin .neq ?_); refine s_neb hE rfl rfl rfl ?_; clear hE a; intro a hE)
      | ((with_reducible refine g_guard ?_); refine gd_yes hE rfl rfl rfl ?_)
      | ((with_reducible refine g_pick ?_); refine s_pickF hE rfl rfl rfl ?_; clear hE a; intro a hE)
      | ((with_reducible refine g_cond ?_); refine c_false hE rfl ?_)
      | ((with_reducible refine g_bin .eql ?_); refine s_val hE rfl rfl rfl (r_eqp hE rfl rfl) ?_; clear hE a; intro a hE)
      | ((with_reducible refine g_alloc ?_); refine s_allocS hE hS rfl rfl ?_; clear hE a hS; intro g a w hE hS)
      | ((with_reducible refine g_store ?_); (first | (refine s_storeW (k := 0) hS hE rfl rfl rfl rfl rfl (by first | (simp [Value.oneCell']; done)) ?_) ); clear hS; intro w hS; simp only [List.set_cons_zero, List.set_cons_succ, Nat.add_zero] at hS)
      )
    refine s_call hE rfl rfl rfl (few A l.length c w hcap hbig) ?_
    rintro _ w ⟨rfl, hS1⟩; clear hE a; intro a hE; replace hS := hS.frame hS1; clear hS1; try simp only [List.cons_append, List.nil_append] at hS
    have hlt : (l.take 120).length = min l.length 120 := by rw [List.length_take, Nat.min_comm]
    have hl2 : (l.take 120).length ≤ 120 := by rw [hlt]; omega
    have hall2 : ∀ o ∈ l.take 120, o.wf ∧ o.rd w0 := fun o ho => hall o (List.mem_of_mem_take ho)
    have hr2 := opn_take 120 hr
    rw [← hlt] at hE
    generalize l.take 120 = l2 at hE hr2 hall2 hl2
    have hfl : (l2.flatMap Opn.cells).length = l2.length * 4 := flat_len (opn_len l2)
    obtain ⟨gl, rfl⟩ : ∃ x, x = g := ⟨g, rfl⟩
    have hS2 := frontL (D := DM.fresh m) [_, _] (hS.p1.rowRs.rsNil.rsJoin)
    simp only [List.cons_append, List.nil_append] at hS2
    clear hS; have hS := hS2; clear hS2
    repeat' (first

      | (with_reducible refine wpList_nil ?_)
      | (with_reducible refine then_normal ?_)
      | (with_reducible refine wp_block ?_)
      | ((with_reducible refine g_move ?_); refine s_move hE rfl rfl ?_; clear hE a; intro a hE)
      | ((with_reducible refine g_blt .len ?_); refine s_len hE rfl rfl ?_; clear hE a; intro a hE)
      )
    refine wp_loop_ghost (fun q a w => ∃ (k : Nat) (S : Option Addr) (c1 : Nat) (Q : Option Addr) (d : Nat) (D : DM) (R : RM) (S2 : Option Addr) (c2 : Nat) (Q2 : Option Addr) (d2 : Nat) (lst : List (Option Addr × List Value)), k + q = l2.length ∧ D.atN k ∧ Rl k D R ∧ D.safe.length = m ∧ R.at_ S2 Q2 lst ∧ St w0 w (dk gd S c1 Q d D [hRs lst, hBlk gl 43 (R.cells S2 c2 Q2 d2)]) ∧ Env 105 [(43, .slice A l2.length c), (44, .int .i64 (l2.length : Int)), (45, .int .i64 (k : Int)), (5, .pointer (some ⟨gd, 0, none⟩)), (7, .pointer (some ⟨gl, 0, none⟩))] a) l2.length
      ⟨0, Sd, cd, none, 0, DM.fresh m, RM.fresh m, Sr, cr, none, 0, _, by omega, fresh_atN hm1 hm2, rl_fresh m, List.length_replicate, ⟨List.mem_cons_of_mem _ (List.mem_singleton.2 rfl), List.mem_cons_self ..⟩, hS, hE.sub ⟨rfl, rfl, rfl, rfl, rfl, trivial⟩⟩ ?_
    clear hE a hS
    rintro q a w ⟨k, S, c1, Q, d, D, R, S2, c2, Q2, d2, lst, hk, hat, hrl, hlen, hRat, hS, hE⟩
    by_cases hk1 : k < l2.length
    · have hseg := flat_seg (c := Opn.cells) (size := 4) (l := l2) (opn_len l2) hk1
      have hok := hall2 _ (List.getElem_mem hk1)
      have hat1 := does_atN hat (by omega) hok.1
      obtain ⟨hrl1, heq⟩ := rl_does hrl (by omega) hat hok.1
      have hb := does_blk hat.ok l2[k]
      have hdl := (does_len D l2[k]).trans hlen
      have hops := hat.ops
      have hRops := hrl.ops
      repeat' (first

        | (with_reducible refine wp_seq ?_)
        | (with_reducible refine c_region ?_)
        | (with_reducible refine wpList_nil ?_)
        | (with_reducible refine then_normal ?_)
        | (with_reducible refine wp_skip ?_)
        | (with_reducible refine wp_block ?_)
        | ((with_reducible refine g_move ?_); refine s_move hE rfl rfl ?_; clear hE a; intro a hE)
        | ((with_reducible refine g_bin .lss ?_); refine s_lss hE rfl rfl rfl ?_; clear hE a; intro a hE)
        | ((with_reducible refine g_cond ?_); refine c_dec hE rfl (fun hc => ?_) (fun hc => ?_) <;> try omega)
        | ((with_reducible refine g_ia ?_); refine s_idxR hE rfl rfl (by omega) (by omega) (by (first | exact Rd.st (by assumption) hS )) (by first | omega ) rfl ?_; clear hE a; intro a hE)
        | ((with_reducible refine g_alloc ?_); refine s_allocS hE hS rfl rfl ?_; clear hE a hS; intro g a w hE hS)
        | ((with_reducible refine g_load ?_); (first | (refine s_loadW (k := 0) hS hE rfl rfl rfl rfl ?_) ); clear hE a; intro a hE)
        | ((with_reducible refine g_store ?_); (first | (refine s_storeW (k := 0) hS hE rfl rfl rfl rfl rfl (by first | (simp [Value.oneCell']; done)) ?_) ); clear hS; intro w hS; simp only [List.set_cons_zero, List.set_cons_succ, Nat.add_zero] at hS)
        | ((with_reducible refine g_load ?_); refine s_elemR hE rfl (by (first | exact Rd.st (by assumption) hS )) (by first | exact hseg ) (by first | rfl ) (by rfl) rfl ?_; clear hE a; intro a hE))
      refine s_call hE rfl rfl rfl (does l2[k] hok.1 hok.2 hat.ok (by omega) (front1 hS)) ?_
      rintro _ w ⟨rfl, Q1, d1, hS⟩; clear hE a; intro a hE
      generalize D.does l2[k] = r at hE hS hat1 hrl1 heq hb hdl
      obtain ⟨D1, b, e⟩ := r
      dsimp only at hE hS hat1 hrl1 heq hb hdl
      have hbl : (bys b).length = 64 := by rw [bys_length]; exact hb.1
      have hbl2 := hb.1
      obtain ⟨go, rfl⟩ : ∃ x, x = g := ⟨g, rfl⟩
      repeat' (first

        | (with_reducible refine wp_seq ?_)
        | (with_reducible refine c_region ?_)
        | (with_reducible refine wpList_nil ?_)
        | (with_reducible refine then_normal ?_)
        | ((with_reducible refine g_move ?_); refine s_move hE rfl rfl ?_; clear hE a; intro a hE)
        | ((with_reducible refine g_assign ?_); refine s_assign hE rfl rfl ?_; clear hE a; intro a hE)
        | ((with_reducible refine g_extract ?_); refine s_extract hE rfl rfl rfl ?_; clear hE a; intro a hE)
        | ((with_reducible refine g_alloc ?_); refine s_allocS hE hS rfl rfl ?_; clear hE a hS; intro g a w hE hS)
        | ((with_reducible refine g_load ?_); (first | (refine s_loadW (k := 5) hS hE rfl rfl rfl rfl ?_) | (refine s_loadW (k := 7) hS hE rfl rfl rfl rfl ?_) ); clear hE a; intro a hE)
        | ((with_reducible refine g_store ?_); (first | (refine s_storeW (k := 0) hS hE rfl rfl rfl (by assumption) (by first | rfl ) (by first | exact bys_one _ ) ?_) ); clear hS; intro w hS; simp only [List.set_cons_zero, List.set_cons_succ, Nat.add_zero] at hS)
        )
      refine s_call hE rfl rfl rfl (want (c := c2) (d := d2) l2[k] hok.1 (Rd.st hok.2 hS) (hrl.ok hat) (by omega) (hS.rsAt (k := 6) rfl) hRat) ?_
      rintro _ w ⟨S3, c3, Q3, d3, new, rfl, hRat1, hS1⟩; clear hE a; intro a hE; replace hS := hS.frame hS1; clear hS1; try simp only [List.cons_append, List.nil_append] at hS
      generalize R.want l2[k] = r2 at hE hRat1 hrl1 heq
      obtain ⟨R1, b', e'⟩ := r2
      dsimp only at hE hRat1 hrl1 heq
      obtain ⟨rfl, rfl⟩ := Prod.mk.inj heq
      repeat' (first

        | (with_reducible refine wp_seq ?_)
        | (with_reducible refine c_region ?_)
        | (with_reducible refine wpList_nil ?_)
        | (with_reducible refine then_normal ?_)
        | ((with_reducible refine g_move ?_); refine s_move hE rfl rfl ?_; clear hE a; intro a hE)
        | ((with_reducible refine g_assign ?_); refine s_assign hE rfl rfl ?_; clear hE a; intro a hE)
        | ((with_reducible refine g_bin .neq ?_); refine s_neq hE rfl rfl rfl ?_; clear hE a; intro a hE)
        | ((with_reducible refine g_extract ?_); refine s_extract hE rfl rfl rfl ?_; clear hE a; intro a hE)
        | ((with_reducible refine g_guard ?_); refine gd_yes hE rfl rfl rfl ?_)
        | ((with_reducible refine g_guard ?_); refine gd_dec hE rfl rfl (fun hc hE2 => ?_) (fun hc hE2 => ?_) <;> (try omega) <;> (replace hE := hE2; clear hE2))
        | ((with_reducible refine g_pick ?_); refine s_pickF hE rfl rfl rfl ?_; clear hE a; intro a hE)
        | ((with_reducible refine g_bin .neq ?_); refine s_val hE rfl rfl rfl (r_neS hE rfl rfl (by first | assumption )) ?_; clear hE a; intro a hE)
        | ((with_reducible refine g_load ?_); (first | (refine s_loadW (k := 8) hS hE rfl rfl rfl rfl ?_) ); clear hE a; intro a hE)
        | ((with_reducible refine g_store ?_); (first | (refine s_storeW (k := 8) hS hE rfl rfl rfl rfl rfl (by first | (simp [Value.oneCell']; done)) ?_) ); clear hS; intro w hS; simp only [List.set_cons_zero, List.set_cons_succ, Nat.add_zero] at hS)
        | ((with_reducible refine g_load ?_); (first | (refine s_loadW (k := 1) hS hE rfl rfl (by first | assumption ) rfl ?_) | (refine s_loadW (k := 2) hS hE rfl rfl (by first | assumption ) rfl ?_) ); clear hE a; intro a hE)
        | ((with_reducible refine g_store ?_); (first | (refine s_storeW (k := 1) hS hE rfl rfl rfl (by assumption) (by first | rfl ) (by first | exact bys_one _ ) ?_) ); clear hS; intro w hS; simp only [List.set_cons_zero, List.set_cons_succ, Nat.add_zero] at hS)
        )
      have hS2 := frontL (D := D1) ([_, _, _]) hS
      simp only [List.cons_append, List.nil_append] at hS2
      clear hS; have hS := hS2; clear hS2
      refine s_call hE rfl rfl rfl (agree (c2 := c3) (d2 := d3) hat1.ok hrl1 (fun w' L h => by
        rcases List.mem_append.1 hRat1.2 with hm | hm
        · exact h.rsAt (k := L.length) (by rw [List.getElem?_append_right (Nat.le_refl _), Nat.sub_self]; rfl) _ hm
        · exact h.rsAt (k := L.length + 4) (by rw [List.getElem?_append_right (Nat.le_add_right _ _), Nat.add_sub_cancel_left]; rfl) _ hm) hS) ?_
      rintro _ w ⟨rfl, hS⟩; clear hE a; intro a hE
      repeat' (first

        | (with_reducible refine c_region ?_)
        | (with_reducible refine wpList_nil ?_)
        | (with_reducible refine then_normal ?_)
        | (with_reducible refine wp_skip ?_)
        | (with_reducible refine block_normal ?_)
        | ((with_reducible refine g_move ?_); refine s_move hE rfl rfl ?_; clear hE a; intro a hE)
        | ((with_reducible refine g_bin .add ?_); refine s_add hE rfl rfl rfl (by first  | exact wrap64_in (by omega) ) ?_; clear hE a; intro a hE)
        | ((with_reducible refine g_un .not ?_); refine s_notb hE rfl rfl ?_; clear hE a; intro a hE)
        | ((with_reducible refine g_guard ?_); refine gd_yes hE rfl rfl rfl ?_)
        | ((with_reducible refine g_pick ?_); refine s_pickF hE rfl rfl rfl ?_; clear hE a; intro a hE)
        | ((with_reducible refine g_cond ?_); refine c_false hE rfl ?_)
        )
      replace hS := ((hS.drop 4).drop 4).drop 4
      simp only [List.eraseIdx_cons_succ, List.eraseIdx_cons_zero] at hS
      exact ⟨q - 1, by omega, k + 1, S, c1, Q1, d1, D1, R1, S3, c3, Q3, d3, new ++ lst, by omega, hat1, hrl1, hdl, hRat1, joinD hS, hE.sub ⟨rfl, rfl, rfl, rfl, rfl, trivial⟩⟩
    · obtain rfl : k = l2.length := by omega
      repeat' (first

        | (with_reducible refine wp_seq ?_)
        | (with_reducible refine c_region ?_)
        | (with_reducible refine wpList_nil ?_)
        | (with_reducible refine then_normal ?_)
        | (with_reducible refine wp_exit ?_)
        | (with_reducible refine then_exit ?_)
        | (with_reducible refine block_same ?_)
        | ((with_reducible refine g_move ?_); refine s_move hE rfl rfl ?_; clear hE a; intro a hE)
        | ((with_reducible refine g_bin .lss ?_); refine s_lss hE rfl rfl rfl ?_; clear hE a; intro a hE)
        | ((with_reducible refine g_cond ?_); refine c_dec hE rfl (fun hc => ?_) (fun hc => ?_) <;> try omega)
        )
      refine s_call hE rfl rfl rfl (dlen hS) ?_
      rintro _ w ⟨rfl, hS⟩; clear hE a; intro a hE
      rw [hlen] at hE
      repeat' (first

        | (with_reducible refine wpList_nil ?_)
        | (with_reducible refine then_normal ?_)
        | (with_reducible refine wp_block ?_)
        | ((with_reducible refine g_move ?_); refine s_move hE rfl rfl ?_; clear hE a; intro a hE)
        | ((with_reducible refine g_blt .min ?_); refine s_min hE rfl rfl rfl (by first  | rfl) ?_; clear hE a; intro a hE)
        )
      obtain ⟨p, hp, hpm⟩ : ∃ p : Nat, (if (12 : Int) < (m : Int) then (12 : Int) else (m : Int)) = (p : Int) ∧ p ≤ m ∧ p ≤ 12 := by
        by_cases hc : (12 : Int) < (m : Int)
        · exact ⟨12, if_pos hc, by omega, by omega⟩
        · exact ⟨m, if_neg hc, by omega, by omega⟩
      rw [hp] at hE
      refine wp_loop_ghost (fun q a w => ∃ (i : Nat) (D : DM) (R : RM), i + q = p ∧ D.atN (120 + i) ∧ Rl (120 + i) D R ∧ D.safe.length = m ∧ R.at_ S2 Q2 lst ∧ St w0 w (dk gd S c1 Q d D [hRs lst, hBlk gl 43 (R.cells S2 c2 Q2 d2)]) ∧ Env 105 [(79, .int .i64 (p : Int)), (80, .int .i64 (i : Int)), (5, .pointer (some ⟨gd, 0, none⟩)), (7, .pointer (some ⟨gl, 0, none⟩))] a) p
        ⟨0, D, R, by omega, hat.mono (by omega), hrl.mono (by omega), hlen, hRat, hS, hE.sub ⟨rfl, rfl, rfl, rfl, trivial⟩⟩ ?_
      clear hE a hS hat hrl hlen hRat
      rintro q a w ⟨i, D, R, hi, hat, hrl, hlen, hRat, hS, hE⟩
      by_cases hi1 : i < p
      · have hat1 := read_atN hat (by omega) (i : Int)
        obtain ⟨hrl1, heq⟩ := rl_read hrl (by omega) (i : Int)
        have hb := read_blk hat.ok (i : Int)
        have hdl : (D.read (i : Int)).1.safe.length = m := by
          have h := does_len D ⟨0, (i : Int), 0, none, 0, []⟩
          exact h.trans hlen
        have hRs := rread_same R (i : Int)
        have hRok := hrl.ok hat
        have hops := hat.ops
        have hRops := hrl.ops
        repeat' (first

          | (with_reducible refine wp_seq ?_)
          | (with_reducible refine c_region ?_)
          | (with_reducible refine wpList_nil ?_)
          | (with_reducible refine then_normal ?_)
          | (with_reducible refine wp_skip ?_)
          | (with_reducible refine wp_block ?_)
          | ((with_reducible refine g_move ?_); refine s_move hE rfl rfl ?_; clear hE a; intro a hE)
          | ((with_reducible refine g_assign ?_); refine s_assign hE rfl rfl ?_; clear hE a; intro a hE)
          | ((with_reducible refine g_bin .lss ?_); refine s_lss hE rfl rfl rfl ?_; clear hE a; intro a hE)
          | ((with_reducible refine g_cond ?_); refine c_dec hE rfl (fun hc => ?_) (fun hc => ?_) <;> try omega)
          )
        refine s_call hE rfl rfl rfl (read_ (i : Int) hat.ok (by omega) hS) ?_
        rintro _ w ⟨rfl, hS⟩; clear hE a; intro a hE
        generalize D.read (i : Int) = r at hE hS hat1 hrl1 heq hb hdl
        obtain ⟨D1, b, e⟩ := r
        dsimp only at hE hS hat1 hrl1 heq hb hdl
        have hbl : (bys b).length = 64 := by rw [bys_length]; exact hb.1
        have hbl2 := hb.1
        repeat' (first

          | (with_reducible refine wp_seq ?_)
          | (with_reducible refine c_region ?_)
          | (with_reducible refine wpList_nil ?_)
          | (with_reducible refine then_normal ?_)
          | ((with_reducible refine g_move ?_); refine s_move hE rfl rfl ?_; clear hE a; intro a hE)
          | ((with_reducible refine g_assign ?_); refine s_assign hE rfl rfl ?_; clear hE a; intro a hE)
          | ((with_reducible refine g_extract ?_); refine s_extract hE rfl rfl rfl ?_; clear hE a; intro a hE)
          | ((with_reducible refine g_alloc ?_); refine s_allocS hE hS rfl rfl ?_; clear hE a hS; intro g a w hE hS)
          | ((with_reducible refine g_load ?_); (first | (refine s_loadW (k := 6) hS hE rfl rfl rfl rfl ?_) ); clear hE a; intro a hE)
          | ((with_reducible refine g_store ?_); (first | (refine s_storeW (k := 0) hS hE rfl rfl rfl (by assumption) (by first | rfl ) (by first | exact bys_one _ ) ?_) ); clear hS; intro w hS; simp only [List.set_cons_zero, List.set_cons_succ, Nat.add_zero] at hS)
          )
        refine s_call hE rfl rfl rfl (rread (c := c2) (d := d2) hRok (by omega) (hS.rsAt (k := 5) rfl _ hRat.1) (hS.rsAt (k := 5) rfl _ hRat.2) (i : Int)) ?_
        rintro _ w ⟨rfl, hS1⟩; clear hE a; intro a hE; replace hS := hS.frame hS1; clear hS1; try simp only [List.cons_append, List.nil_append] at hS
        generalize R.read (i : Int) = r2 at hE hRs hrl1 heq
        obtain ⟨R1, b', e'⟩ := r2
        dsimp only at hE hRs hrl1 heq
        obtain ⟨rfl, rfl⟩ := Prod.mk.inj heq
        repeat' (first

          | (with_reducible refine wp_seq ?_)
          | (with_reducible refine c_region ?_)
          | (with_reducible refine wpList_nil ?_)
          | (with_reducible refine then_normal ?_)
          | (with_reducible refine wp_skip ?_)
          | (with_reducible refine block_normal ?_)
          | ((with_reducible refine g_move ?_); refine s_move hE rfl rfl ?_; clear hE a; intro a hE)
          | ((with_reducible refine g_assign ?_); refine s_assign hE rfl rfl ?_; clear hE a; intro a hE)
          | ((with_reducible refine g_bin .neq ?_); refine s_neq hE rfl rfl rfl ?_; clear hE a; intro a hE)
          | ((with_reducible refine g_bin .add ?_); refine s_add hE rfl rfl rfl (by first  | exact wrap64_in (by omega) ) ?_; clear hE a; intro a hE)
          | ((with_reducible refine g_extract ?_); refine s_extract hE rfl rfl rfl ?_; clear hE a; intro a hE)
          | ((with_reducible refine g_guard ?_); refine gd_yes hE rfl rfl rfl ?_)
          | ((with_reducible refine g_pick ?_); refine s_pickF hE rfl rfl rfl ?_; clear hE a; intro a hE)
          | ((with_reducible refine g_cond ?_); refine c_dec hE rfl (fun hc => ?_) (fun hc => ?_) <;> try omega)
          | ((with_reducible refine g_bin .neq ?_); refine s_val hE rfl rfl rfl (r_neS hE rfl rfl (by first | assumption )) ?_; clear hE a; intro a hE)
          | ((with_reducible refine g_store ?_); (first | (refine s_storeW (k := 6) hS hE rfl rfl rfl rfl rfl (by first | (simp [Value.oneCell']; done)) ?_) ); clear hS; intro w hS; simp only [List.set_cons_zero, List.set_cons_succ, Nat.add_zero] at hS)
          | ((with_reducible refine g_load ?_); (first | (refine s_loadW (k := 0) hS hE rfl rfl (by first | assumption ) rfl ?_) | (refine s_loadW (k := 1) hS hE rfl rfl (by first | assumption ) rfl ?_) ); clear hE a; intro a hE)
          | ((with_reducible refine g_store ?_); (first | (refine s_storeW (k := 0) hS hE rfl rfl rfl (by assumption) (by first | rfl ) (by first | exact bys_one _ ) ?_) ); clear hS; intro w hS; simp only [List.set_cons_zero, List.set_cons_succ, Nat.add_zero] at hS)
          )
        replace hS := hS.tail.tail
        exact ⟨q - 1, by omega, i + 1, D1, R1, by omega, hat1, hrl1, hdl, hRat.same (new := []) hRs.1 hRs.2, hS, hE.sub ⟨rfl, rfl, rfl, rfl, trivial⟩⟩
      · obtain rfl : i = p := by omega
        repeat' (first

          | (with_reducible refine wp_seq ?_)
          | (with_reducible refine c_region ?_)
          | (with_reducible refine wpList_nil ?_)
          | (with_reducible refine then_normal ?_)
          | (with_reducible refine wp_ret ?_)
          | (with_reducible refine wp_exit ?_)
          | (with_reducible refine then_exit ?_)
          | (with_reducible refine block_same ?_)
          | ((with_reducible refine g_assign ?_); refine s_assign hE rfl rfl ?_; clear hE a; intro a hE)
          | ((with_reducible refine g_bin .lss ?_); refine s_lss hE rfl rfl rfl ?_; clear hE a; intro a hE)
          | ((with_reducible refine g_cond ?_); refine c_dec hE rfl (fun hc => ?_) (fun hc => ?_) <;> try omega)
          )
        exact ret1 hE rfl rfl ⟨rfl, hS.nil⟩
end
end Go.Proofs.Ytnnamckabjhflaa
