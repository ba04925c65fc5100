/-
  An armed disk does as one that is not, till the power goes.
-/
import Derived.Test.YtnnamckabjhflaaDQ
namespace Go.Proofs.Ytnnamckabjhflaa
open Go.RowKit
set_option linter.unusedVariables false
set_option linter.unusedSimpArgs false
attribute [local irreducible] Rd hRow hBlk hRd hAll Fn hMarks
attribute [local simp] Wr.cells Opn.cells

theorem read_am {D : DM} (h : D.lv) (m i : Int) : (D.am m).read i = ((D.read i).1.am m, (D.read i).2.1, (D.read i).2.2) := by
  by_cases hi : i < 0 ∨ (D.safe.length : Int) ≤ i
  · rw [read_out h hi]
    unfold DM.read
    rw [ready_am_no h hi]
    simp
  · obtain ⟨n, hn⟩ := Int.eq_ofNat_of_zero_le (show 0 ≤ i by omega)
    rw [hn, read_lv h (by omega)]
    unfold DM.read
    rw [ready_am_yes h (by omega) (by omega)]
    simp
    rfl
theorem hold_am {D : DM} (h : D.lv) (m : Int) : ∀ k, k ≤ D.safe.length → DM.hold k (D.am m) = ((DM.hold k D).1.am m, (DM.hold k D).2)
  | 0, _ => rfl
  | k + 1, hk => by
    have ih := hold_am h m k (by omega)
    have e := hold_lv h k (by omega)
    have hl : (DM.hold k D).1.lv := by rw [e]; exact ⟨h.dead, h.armed, h.fails⟩
    unfold DM.hold
    rw [ih]
    dsimp only
    rw [read_am hl]
theorem does_acts {D : DM} (h : D.lv) (hl : D.safe.length = 6) {o : Opn} (hk : o.k < 3) (h0 : 0 < o.k) (he : (D.does o).2.2 = 0) : o.acts := by
  rcases (show o.k = 1 ∨ o.k = 2 by omega) with h1 | h2
  · rw [does_write _ h1] at he
    by_cases hi : o.at_ < 0 ∨ (D.safe.length : Int) ≤ o.at_
    · rw [write_out h hi] at he
      exact absurd (show (2 : Int) = 0 from he) (by decide)
    · exact .inr ⟨h1, by omega, by omega⟩
  · exact .inl h2
theorem vec_ok {D : DM} (hD : D.ok) : ∀ b ∈ D.vec, Blk.ok b := by
  intro b hb
  obtain ⟨i, hi, rfl⟩ := List.mem_map.1 hb
  exact holds_ok hD i (List.mem_range.1 hi)
def trues (n i : Nat) : List Bool := List.replicate i true ++ List.replicate (n - i) false
theorem trues_all (n : Nat) : trues n n = List.replicate n true := by simp [trues]
theorem trues_len {n i : Nat} (h : i ≤ n) : (trues n i).length = n := by simp [trues]; omega
theorem trues_set {n i : Nat} (h : i < n) : ((trues n i).map Value.bool).set i (.bool true) = (trues n (i + 1)).map Value.bool := by
  have e : n - i = (n - (i + 1)) + 1 := by omega
  unfold trues
  rw [e, List.replicate_succ, List.map_append, List.set_append_right _ _ (by simp), List.length_map, List.length_replicate, Nat.sub_self, List.map_cons, List.set_cons_zero, List.replicate_succ', List.map_append, List.map_append, List.append_assoc]
  rfl
theorem does_blk {D : DM} (hD : D.ok) (o : Opn) : Blk.ok (D.does o).2.1 := by
  unfold DM.does
  split
  · exact read_blk hD _
  · split
    · exact noughts_ok
    · split
      · exact noughts_ok
      · split
        · exact noughts_ok
        · split <;> exact noughts_ok
section
variable {g : Nat} {S : Option Addr} {c : Nat} {Q : Option Addr} {d : Nat} {D : DM} {H : List HP} {w0 w : World}
theorem frontL (L : List HP) (hS : St w0 w (L ++ dk g S c Q d D H)) : St w0 w (dk g S c Q d D (L ++ H)) :=
  St.perm hS (by
    have := (List.perm_append_comm (l₁ := L) (l₂ := dk g S c Q d D [])).append_right H
    rw [List.append_assoc, List.append_assoc] at this
    exact this)
theorem fits_mono {n m : Nat} (h : D.fits n) (hm : n ≤ m) : D.fits m := ⟨h.at_.mono hm, h.lv⟩
set_option maxHeartbeats 16000000
theorem mod40 (n : Int) : ∃ m : Nat, m < 40 ∧ (if n < 0 then 0 else n).tmod 40 = (m : Int) := by
  by_cases h : n < 0
  · exact ⟨0, by decide, by rw [if_pos h]; rfl⟩
  · obtain ⟨k, hk⟩ := Int.eq_ofNat_of_zero_le (show 0 ≤ n by omega)
    refine ⟨k % 40, Nat.mod_lt _ (by decide), ?_⟩
    rw [if_neg h, hk]
    rfl
theorem law_DiskArmed (y : LT) (n : Int) (w0 : World) (h : y.ok w0) (hn : (Lit.int .i64 n).wf = true) : Fn Try.prog 5 [.slice y.1 y.2.2.length y.2.1, .int .i64 n] w0 fun v w' => v = .bool true ∧ St w0 w' [] := by
  rw [← LT.len]
  have hr := LT.rd h
  have hall := LT.all h
  obtain ⟨hcap, hbig⟩ := LT.cap h
  have hn2 := wf_i64 hn
  obtain ⟨m, hm40, hm⟩ := mod40 n
  generalize y.opns = l at hr hall hcap hbig
  generalize y.1 = A at hr
  generalize y.2.1 = c at hcap
  refine enter 179 Try.func5 rfl rfl rfl ?_
  intro a hE
  have hS := St.start w0
  repeat' (first

    | (with_reducible refine wp_seq ?_)
    | (with_reducible refine c_region ?_)
    | (with_reducible refine wpList_nil ?_)
    | (with_reducible refine then_normal ?_)
    | ((with_reducible refine g_assign ?_); refine s_assign hE rfl rfl ?_; clear hE a; intro a hE)
    )
  refine s_call hE rfl rfl rfl (wakes w0) ?_
  rintro _ w ⟨rfl, hS1⟩; clear hE a; intro a hE; replace hS := hS.frame hS1; clear hS1; try simp only [List.cons_append, List.nil_append] at hS
  repeat' (first

    | (with_reducible refine wp_seq ?_)
    | (with_reducible refine c_region ?_)
    | (with_reducible refine wpList_nil ?_)
    | (with_reducible refine then_normal ?_)
    | (with_reducible refine wp_skip ?_)
    | ((with_reducible refine g_move ?_); refine s_move hE rfl rfl ?_; clear hE a; intro a hE)
    | ((with_reducible refine g_assign ?_); refine s_assign hE rfl rfl ?_; clear hE a; intro a hE)
    | ((with_reducible refine g_bin .rem ?_); refine s_rem hE rfl rfl (by omega) rfl (by first  | rfl) ?_; clear hE a; intro a hE)
    | ((with_reducible refine g_un .not ?_); refine s_notb hE rfl rfl ?_; clear hE a; intro a hE)
    | ((with_reducible refine g_blt .max ?_); refine s_max hE rfl rfl rfl (by first  | rfl) ?_; clear hE a; intro a hE)
    | ((with_reducible refine g_cond ?_); refine c_false hE rfl ?_)
    )
  rw [hm] at hE
  refine s_call hE rfl rfl rfl (worn none 0 0 0 [] w Rd.nil rfl (Nat.le_refl _) (by decide) (by intro o ho; cases ho)) ?_
  rintro _ w ⟨ga, Sa, ca, Qa, da, rfl, hS1⟩; clear hE a; intro a hE; replace hS := hS.frame hS1; clear hS1; try simp only [List.cons_append, List.nil_append] at hS
  skip
  refine s_call hE rfl rfl rfl (worn none 0 0 0 [] w Rd.nil rfl (Nat.le_refl _) (by decide) (by intro o ho; cases ho)) ?_
  rintro _ w ⟨gb, Sb, cb, Qb, db, rfl, hS1⟩; clear hE a; intro a hE; replace hS := hS.frame hS1; clear hS1; try simp only [List.cons_append, List.nil_append] at hS
  have e0 : (DM.fresh 6).wear ([].take 120) = DM.fresh 6 := rfl
  rw [e0] at hS
  have hS2 := frontL [_, _, _] hS
  simp only [List.cons_append, List.nil_append] at hS2
  clear hS; have hS := hS2; clear hS2
  repeat' (first

    | (with_reducible refine wp_seq ?_)
    | (with_reducible refine c_region ?_)
    | (with_reducible refine wpList_nil ?_)
    | (with_reducible refine then_normal ?_)
    | ((with_reducible refine g_move ?_); refine s_move hE rfl rfl ?_; clear hE a; intro a hE)
    | ((with_reducible refine g_assign ?_); refine s_assign hE rfl rfl ?_; clear hE a; intro a hE)
    | ((with_reducible refine g_guard ?_); refine gd_yes hE rfl rfl rfl ?_)
    | ((with_reducible refine g_pick ?_); refine s_pickF hE rfl rfl rfl ?_; clear hE a; intro a hE)
    | ((with_reducible refine g_bin .eql ?_); refine s_val hE rfl rfl rfl (r_eqp hE rfl rfl) ?_; clear hE a; intro a hE)
    )
  refine s_call hE rfl rfl rfl (arm (m : Int) (by omega) hS) ?_
  have ea : (DM.fresh 6).arm (m : Int) = ((DM.fresh 6).am (m : Int), 0) := by
    unfold DM.arm
    rw [if_neg (by decide), decide_eq_true (by omega)]
  rw [ea]
  rintro _ w ⟨rfl, hS⟩; clear hE a; intro a hE
  repeat' (first

    | (with_reducible refine wp_seq ?_)
    | (with_reducible refine c_region ?_)
    | (with_reducible refine wpList_nil ?_)
    | (with_reducible refine then_normal ?_)
    | (with_reducible refine wp_skip ?_)
    | ((with_reducible refine g_move ?_); refine s_move hE rfl rfl ?_; clear hE a; intro a hE)
    | ((with_reducible refine g_assign ?_); refine s_assign hE rfl rfl ?_; clear hE a; intro a hE)
    | ((with_reducible refine g_bin .neq ?_); refine s_neq hE rfl rfl rfl ?_; clear hE a; intro a hE)
    | ((with_reducible refine g_guard ?_); refine gd_yes hE rfl rfl rfl ?_)
    | ((with_reducible refine g_pick ?_); refine s_pickF hE rfl rfl rfl ?_; clear hE a; intro a hE)
    | ((with_reducible refine g_cond ?_); refine c_false hE rfl ?_)
    )
  refine s_call hE rfl rfl rfl (few A l.length c w hcap hbig) ?_
  rintro _ w ⟨rfl, hS1⟩; clear hE a; intro a hE; replace hS := hS.frame hS1; clear hS1; try simp only [List.cons_append, List.nil_append] at hS
  have hlt : (l.take 120).length = min l.length 120 := by rw [List.length_take, Nat.min_comm]
  have hl2 : (l.take 120).length ≤ 120 := by rw [hlt]; omega
  have hall2 : ∀ o ∈ l.take 120, o.wf ∧ o.rd w0 := fun o ho => hall o (List.mem_of_mem_take ho)
  have hr2 := opn_take 120 hr
  rw [← hlt] at hE
  generalize l.take 120 = l2 at hE hr2 hall2 hl2
  have hfl : (l2.flatMap Opn.cells).length = l2.length * 4 := flat_len (opn_len l2)
  repeat' (first

    | (with_reducible refine wpList_nil ?_)
    | (with_reducible refine then_normal ?_)
    | (with_reducible refine wp_block ?_)
    | ((with_reducible refine g_move ?_); refine s_move hE rfl rfl ?_; clear hE a; intro a hE)
    | ((with_reducible refine g_blt .len ?_); refine s_len hE rfl rfl ?_; clear hE a; intro a hE)
    )
  refine wp_loop_ghost (fun q a w => ∃ (k dn : Nat) (D : DM) (Qa : Option Addr) (da : Nat) (Qb : Option Addr) (db : Nat), k + q = l2.length ∧ dn ≤ m ∧ D.fits k ∧ D.safe.length = 6 ∧ St w0 w (dk ga Sa ca Qa da (D.am ((m - dn : Nat) : Int)) (dk gb Sb cb Qb db D [])) ∧
    Env 179 [(41, .slice A l2.length c), (42, .int .i64 (l2.length : Int)), (43, .int .i64 (k : Int)), (1, .int .i64 (m : Int)), (5, .pointer (some ⟨ga, 0, none⟩)), (6, .pointer (some ⟨gb, 0, none⟩)), (7, .int .i64 (dn : Int))] a) l2.length
    ⟨0, 0, DM.fresh 6, Qa, da, Qb, db, by omega, by omega, ⟨fresh_atN (by decide) (by decide), fresh_lv 6⟩, rfl, hS, hE.sub ⟨rfl, rfl, rfl, rfl, rfl, rfl, rfl, trivial⟩⟩ ?_
  clear hE a hS
  rintro q a w ⟨k, dn, D, Qa, da, Qb, db, hk, hdn, hfit, hlen, hS, hE⟩
  by_cases hk1 : k < l2.length
  · have hseg := flat_seg (c := Opn.cells) (size := 4) (l := l2) (opn_len l2) hk1
    have hok := hall2 _ (List.getElem_mem hk1)
    generalize l2[k] = o at hseg hok
    by_cases hk3 : o.k < 3
    · by_cases hact : dn = m ∧ o.acts
      · have hact2 := hact.2
        have hdm := hact.1
        unfold Opn.acts at hact2
        repeat' (first

          | (with_reducible refine wp_seq ?_)
          | (with_reducible refine c_region ?_)
          | (with_reducible refine wpList_nil ?_)
          | (with_reducible refine then_normal ?_)
          | (with_reducible refine wp_skip ?_)
          | (with_reducible refine wp_block ?_)
          | ((with_reducible refine g_move ?_); refine s_move hE rfl rfl ?_; clear hE a; intro a hE)
          | ((with_reducible refine g_bin .lss ?_); refine s_lss hE rfl rfl rfl ?_; clear hE a; intro a hE)
          | ((with_reducible refine g_bin .gtr ?_); refine s_gtr hE rfl rfl rfl ?_; clear hE a; intro a hE)
          | ((with_reducible refine g_bin .geq ?_); refine s_geq hE rfl rfl rfl ?_; clear hE a; intro a hE)
          | ((with_reducible refine g_bin .eql ?_); refine s_eql hE rfl rfl rfl ?_; clear hE a; intro a hE)
          | ((with_reducible refine g_fa ?_); refine s_fieldL hE rfl rfl rfl ?_; clear hE a; intro a hE)
          | ((with_reducible refine g_guard ?_); refine gd_yes hE rfl rfl rfl ?_)
          | ((with_reducible refine g_guard ?_); refine gd_no hE rfl rfl rfl rfl ?_; clear hE a; intro a hE)
          | ((with_reducible refine g_guard ?_); refine gd_un hE rfl rfl rfl ?_; clear hE a; intro a hE)
          | ((with_reducible refine g_guard ?_); refine gd_dec hE rfl rfl (fun hc hE2 => ?_) (fun hc hE2 => ?_) <;> (try omega) <;> (replace hE := hE2; clear hE2))
          | ((with_reducible refine g_pick ?_); refine s_pickT hE rfl rfl rfl ?_; clear hE a; intro a hE)
          | ((with_reducible refine g_pick ?_); refine s_pickF hE rfl rfl rfl ?_; clear hE a; intro a hE)
          | ((with_reducible refine g_cond ?_); refine c_true hE rfl ?_)
          | ((with_reducible refine g_cond ?_); refine c_dec hE rfl (fun hc => ?_) (fun hc => ?_) <;> try omega)
          | ((with_reducible refine g_call (f := 13) ?_); refine s_call hE rfl rfl rfl (kind _ w) ?_; rintro _ w ⟨rfl, hS1⟩; clear hE a; intro a hE; replace hS := hS.frame hS1; clear hS1; try simp only [List.cons_append, List.nil_append] at hS)
          | ((with_reducible refine g_ia ?_); refine s_idxR hE rfl rfl (by omega) (by omega) (by (first | exact Rd.st (by assumption) hS )) (by first | omega ) rfl ?_; clear hE a; intro a hE)
          | ((with_reducible refine g_load ?_); (first | (refine s_loadB (k := 0) hS hE rfl rfl rfl rfl ?_) ); clear hE a; intro a hE)
          | ((with_reducible refine g_alloc ?_); refine s_allocS hE hS rfl rfl ?_; clear hE a hS; intro g a w hE hS)
          | ((with_reducible refine g_load ?_); (first | (refine s_loadW (k := 0) hS hE rfl rfl rfl rfl ?_) ); clear hE a; intro a hE)
          | ((with_reducible refine g_store ?_); (first | (refine s_storeW (k := 0) hS hE rfl rfl rfl rfl rfl (by first | (simp [Value.oneCell']; done)) ?_) ); clear hS; intro w hS; simp only [List.set_cons_zero, List.set_cons_succ, Nat.add_zero] at hS)
          | ((with_reducible refine g_load ?_); refine s_elemR hE rfl (by (first | exact Rd.st (by assumption) hS )) (by first | exact hseg ) (by first | rfl ) (by rfl) rfl ?_; clear hE a; intro a hE))
        all_goals
          have hz : ((m - dn : Nat) : Int) = 0 := by omega
          rw [hz] at hS
          have hatA := atN_am (m := 0) hfit.at_ (by omega)
          have hopA := hatA.ops
          have ed := does_am_dead hfit.lv hlen hact.2
          have hatD := atN_dd hfit.at_
          have hopD := hatD.ops
          have hplD : D.pend.length ≤ 100000 := hfit.at_.ok.plen
          skip
          refine s_call hE rfl rfl rfl (does o hok.1 hok.2 hatA.ok (by omega) (front1 hS)) ?_
          rw [ed]
          rintro _ w ⟨rfl, Qa', da', hS⟩; clear hE a; intro a hE
          repeat' (first

            | (with_reducible refine wp_seq ?_)
            | (with_reducible refine c_region ?_)
            | (with_reducible refine wpList_nil ?_)
            | (with_reducible refine then_normal ?_)
            | ((with_reducible refine g_move ?_); refine s_move hE rfl rfl ?_; clear hE a; intro a hE)
            | ((with_reducible refine g_assign ?_); refine s_assign hE rfl rfl ?_; clear hE a; intro a hE)
            | ((with_reducible refine g_bin .neq ?_); refine s_neq hE rfl rfl rfl ?_; clear hE a; intro a hE)
            | ((with_reducible refine g_extract ?_); refine s_extract hE rfl rfl rfl ?_; clear hE a; intro a hE)
            | ((with_reducible refine g_guard ?_); refine gd_yes hE rfl rfl rfl ?_)
            | ((with_reducible refine g_alloc ?_); refine s_allocS hE hS rfl rfl ?_; clear hE a hS; intro g a w hE hS)
            | ((with_reducible refine g_store ?_); (first | (refine s_storeW (k := 0) hS hE rfl rfl rfl rfl rfl (by first | exact bys_one _ ) ?_) ); clear hS; intro w hS; simp only [List.set_cons_zero, List.set_cons_succ, Nat.add_zero] at hS)
            )
          refine s_call hE rfl rfl rfl (ddead (front1 hS)) ?_
          rintro _ w ⟨rfl, hS⟩; clear hE a; intro a hE
          repeat' (first

            | (with_reducible refine wp_seq ?_)
            | (with_reducible refine c_region ?_)
            | (with_reducible refine wpList_nil ?_)
            | (with_reducible refine then_normal ?_)
            | (with_reducible refine wp_skip ?_)
            | ((with_reducible refine g_move ?_); refine s_move hE rfl rfl ?_; clear hE a; intro a hE)
            | ((with_reducible refine g_un .not ?_); refine s_notb hE rfl rfl ?_; clear hE a; intro a hE)
            | ((with_reducible refine g_guard ?_); refine gd_yes hE rfl rfl rfl ?_)
            | ((with_reducible refine g_pick ?_); refine s_pickF hE rfl rfl rfl ?_; clear hE a; intro a hE)
            | ((with_reducible refine g_cond ?_); refine c_false hE rfl ?_)
            )
          refine s_call hE rfl rfl rfl (read_ 0 hatD.ok (by omega) hS) ?_
          rw [read_dd]
          rintro _ w ⟨rfl, hS⟩; clear hE a; intro a hE
          repeat' (first

            | (with_reducible refine wp_seq ?_)
            | (with_reducible refine c_region ?_)
            | (with_reducible refine wpList_nil ?_)
            | (with_reducible refine then_normal ?_)
            | ((with_reducible refine g_move ?_); refine s_move hE rfl rfl ?_; clear hE a; intro a hE)
            | ((with_reducible refine g_assign ?_); refine s_assign hE rfl rfl ?_; clear hE a; intro a hE)
            | ((with_reducible refine g_bin .neq ?_); refine s_neq hE rfl rfl rfl ?_; clear hE a; intro a hE)
            | ((with_reducible refine g_extract ?_); refine s_extract hE rfl rfl rfl ?_; clear hE a; intro a hE)
            | ((with_reducible refine g_guard ?_); refine gd_yes hE rfl rfl rfl ?_)
            | ((with_reducible refine g_alloc ?_); refine s_allocS hE hS rfl rfl ?_; clear hE a hS; intro g a w hE hS)
            | ((with_reducible refine g_store ?_); (first | (refine s_storeW (k := 0) hS hE rfl rfl rfl rfl rfl (by first | exact bys_one _ ) ?_) ); clear hS; intro w hS; simp only [List.set_cons_zero, List.set_cons_succ, Nat.add_zero] at hS)
            )
          refine s_call hE rfl rfl rfl (arm 5 (by omega) (front1 hS)) ?_
          rw [arm_dd]
          rintro _ w ⟨rfl, hS⟩; clear hE a; intro a hE
          repeat' (first

            | ((with_reducible refine g_move ?_); refine s_move hE rfl rfl ?_; clear hE a; intro a hE)
            | ((with_reducible refine g_bin .neq ?_); refine s_neq hE rfl rfl rfl ?_; clear hE a; intro a hE)
            | ((with_reducible refine g_guard ?_); refine gd_yes hE rfl rfl rfl ?_)
            | ((with_reducible refine g_pick ?_); refine s_pickF hE rfl rfl rfl ?_; clear hE a; intro a hE)
            )
          refine s_call hE rfl rfl rfl (sync hatD.ok (by omega) hS) ?_
          rw [sync_dd]
          rintro _ w ⟨rfl, Qa', da', hS⟩; clear hE a; intro a hE
          repeat' (first

            | ((with_reducible refine g_move ?_); refine s_move hE rfl rfl ?_; clear hE a; intro a hE)
            | ((with_reducible refine g_bin .neq ?_); refine s_neq hE rfl rfl rfl ?_; clear hE a; intro a hE)
            | ((with_reducible refine g_guard ?_); refine gd_yes hE rfl rfl rfl ?_)
            | ((with_reducible refine g_pick ?_); refine s_pickF hE rfl rfl rfl ?_; clear hE a; intro a hE)
            )
          refine s_call hE rfl rfl rfl (fail 1 (by omega) hS) ?_
          rw [fail_dd]
          rintro _ w ⟨rfl, hS⟩; clear hE a; intro a hE
          repeat' (first

            | (with_reducible refine wp_seq ?_)
            | (with_reducible refine c_region ?_)
            | (with_reducible refine wpList_nil ?_)
            | (with_reducible refine then_normal ?_)
            | (with_reducible refine wp_skip ?_)
            | ((with_reducible refine g_move ?_); refine s_move hE rfl rfl ?_; clear hE a; intro a hE)
            | ((with_reducible refine g_bin .neq ?_); refine s_neq hE rfl rfl rfl ?_; clear hE a; intro a hE)
            | ((with_reducible refine g_guard ?_); refine gd_yes hE rfl rfl rfl ?_)
            | ((with_reducible refine g_pick ?_); refine s_pickF hE rfl rfl rfl ?_; clear hE a; intro a hE)
            | ((with_reducible refine g_cond ?_); refine c_false hE rfl ?_)
            )
          refine s_call hE rfl rfl rfl (pending hatD.ok hS) ?_
          rintro _ w ⟨Ap, cp, rfl, hS⟩; clear hE a; intro a hE
          repeat' (first

            | (with_reducible refine wp_seq ?_)
            | (with_reducible refine c_region ?_)
            | (with_reducible refine wpList_nil ?_)
            | (with_reducible refine then_normal ?_)
            | ((with_reducible refine g_move ?_); refine s_move hE rfl rfl ?_; clear hE a; intro a hE)
            | ((with_reducible refine g_assign ?_); refine s_assign hE rfl rfl ?_; clear hE a; intro a hE)
            | ((with_reducible refine g_blt .len ?_); refine s_len hE rfl rfl ?_; clear hE a; intro a hE)
            )
          refine s_make hE hS rfl rfl (by omega) (by omega) (by show (1 : Int) * ((D.pend.length : Nat) : Int) ≤ 281474976710656; omega) (by show ((D.pend.length : Nat) : Int) ≤ 9223372036854775807; omega) rfl ?_
          clear hE a hS; intro gk a w hE hS
          have emk : (madeCells (Value.bool false).cells (((D.pend.length : Nat) : Int).toNat * 1)).toList.take (((D.pend.length : Nat) : Int).toNat * 1) = (trues D.pend.length 0).map Value.bool := by
            rw [Int.toNat_natCast]
            exact (made_rep D.pend.length 0 (Value.bool false) _ rfl).trans (by simp [trues])
          rw [emk] at hS
          rw [Int.toNat_natCast] at hE hS
          generalize hpn : D.pend.length = pn at hE hS hplD
          repeat' (first

            | (with_reducible refine wp_seq ?_)
            | (with_reducible refine c_region ?_)
            | (with_reducible refine wpList_nil ?_)
            | (with_reducible refine then_normal ?_)
            | (with_reducible refine wp_block ?_)
            | ((with_reducible refine g_move ?_); refine s_move hE rfl rfl ?_; clear hE a; intro a hE)
            | ((with_reducible refine g_assign ?_); refine s_assign hE rfl rfl ?_; clear hE a; intro a hE)
            | ((with_reducible refine g_blt .len ?_); refine s_len hE rfl rfl ?_; clear hE a; intro a hE)
            )
          refine wp_loop_ghost (fun q a w => ∃ (i : Nat), i + q = pn ∧ St w0 w (hRow 4 1 (some ⟨gk, 0, none⟩) pn pn ((trues pn i).map Value.bool) :: dk ga Sa ca Qa' da' D.dd (dk gb Sb cb Qb db D [])) ∧
            Env 179 [(114, .int .i64 (pn : Int)), (115, .int .i64 (i : Int)), (15, .slice (some ⟨gk, 0, none⟩) pn pn), (5, .pointer (some ⟨ga, 0, none⟩)), (6, .pointer (some ⟨gb, 0, none⟩))] a) pn ⟨0, by omega, ?_, hE.sub ⟨rfl, rfl, rfl, rfl, rfl, trivial⟩⟩ ?_
          · exact ((((hS.drop 1).drop 4).drop 4).drop 4)
          clear hE a hS
          rintro q a w ⟨i, hi, hS, hE⟩
          by_cases hi1 : i < pn
          · have htl : ((trues pn i).map Value.bool).length = pn := by rw [List.length_map, trues_len (by omega)]
            repeat' (first

              | (with_reducible refine wp_seq ?_)
              | (with_reducible refine c_region ?_)
              | (with_reducible refine wpList_nil ?_)
              | (with_reducible refine then_normal ?_)
              | (with_reducible refine wp_skip ?_)
              | (with_reducible refine wp_block ?_)
              | (with_reducible refine block_normal ?_)
              | ((with_reducible refine g_move ?_); refine s_move hE rfl rfl ?_; clear hE a; intro a hE)
              | ((with_reducible refine g_assign ?_); refine s_assign hE rfl rfl ?_; clear hE a; intro a hE)
              | ((with_reducible refine g_bin .lss ?_); refine s_lss hE rfl rfl rfl ?_; clear hE a; intro a hE)
              | ((with_reducible refine g_bin .add ?_); refine s_add hE rfl rfl rfl (by first  | exact wrap64_in (by omega) ) ?_; clear hE a; intro a hE)
              | ((with_reducible refine g_cond ?_); refine c_dec hE rfl (fun hc => ?_) (fun hc => ?_) <;> try omega)
              | ((with_reducible refine g_ia ?_); refine s_idxR hE rfl rfl (by omega) (by omega) (by (first | exact hS.rd )) (by first | omega ) rfl ?_; clear hE a; intro a hE)
              | ((with_reducible refine g_store ?_); (first | (refine s_storeR1 (k := 0) hS hE rfl rfl rfl rfl (by first | omega ) rfl ?_) ); clear hS; intro w hS; simp only [List.set_cons_zero, List.set_cons_succ, Nat.add_zero] at hS)
              )
            rw [Int.toNat_natCast, Nat.mul_one, trues_set hi1] at hS
            exact ⟨q - 1, by omega, i + 1, by omega, hS, hE.sub ⟨rfl, rfl, rfl, rfl, rfl, trivial⟩⟩
          · obtain rfl : i = pn := by omega
            rw [trues_all] at hS
            have hkl : (List.replicate i true).length = i := List.length_replicate
            have hcr := crash_atN hatD (List.replicate i true)
            have hopb := hfit.at_.ops
            rw [← hpn] at hcr
            obtain ⟨hclv, hcvec, hclen⟩ := crash_vec (D := D.dd) hatD.ok
            repeat' (first

              | (with_reducible refine wp_seq ?_)
              | (with_reducible refine c_region ?_)
              | (with_reducible refine wpList_nil ?_)
              | (with_reducible refine then_normal ?_)
              | (with_reducible refine wp_exit ?_)
              | (with_reducible refine then_exit ?_)
              | (with_reducible refine block_same ?_)
              | ((with_reducible refine g_move ?_); refine s_move hE rfl rfl ?_; clear hE a; intro a hE)
              | ((with_reducible refine g_bin .lss ?_); refine s_lss hE rfl rfl rfl ?_; clear hE a; intro a hE)
              | ((with_reducible refine g_cond ?_); refine c_dec hE rfl (fun hc => ?_) (fun hc => ?_) <;> try omega)
              )
            have hcc := crash (some ⟨gk, 0, none⟩) i (List.replicate i true) hatD.ok (fun w' L h => h.rdAt (k := L.length) (by rw [List.getElem?_append_right (Nat.le_refl _), Nat.sub_self]; rfl)) (by omega) (front1 hS)
            rw [hkl] at hcc
            refine s_call hE rfl rfl rfl hcc ?_
            rw [← hpn]
            rintro _ w ⟨rfl, Qa2, da2, hS⟩; clear hE a; intro a hE
            have hcv2 : (D.dd.crash (List.replicate D.pend.length true)).vec = D.vec := hcvec
            have hcl2 : (D.dd.crash (List.replicate D.pend.length true)).safe.length = 6 := hclen.trans hlen
            generalize D.dd.crash (List.replicate D.pend.length true) = E at hS hclv hcv2 hcl2 hcr
            repeat' (first

              | ((with_reducible refine g_move ?_); refine s_move hE rfl rfl ?_; clear hE a; intro a hE)
              | ((with_reducible refine g_bin .eql ?_); refine s_eql hE rfl rfl rfl ?_; clear hE a; intro a hE)
              | ((with_reducible refine g_guard ?_); refine gd_yes hE rfl rfl rfl ?_)
              )
            refine s_call hE rfl rfl rfl (held hcr (by omega) hS) ?_
            rintro _ w ⟨A3, c3, rfl, hS⟩; clear hE a; intro a hE
            rw [hold_vec hclv, hcv2, hcl2] at hS
            rw [hcl2] at hE
            dsimp only at hS
            repeat' (first

              | ((with_reducible refine g_move ?_); refine s_move hE rfl rfl ?_; clear hE a; intro a hE)
              | ((with_reducible refine g_guard ?_); refine gd_yes hE rfl rfl rfl ?_)
              )
            have hS2 := frontL (D := D) [_, _, _, _, _] hS
            simp only [List.cons_append, List.nil_append] at hS2
            clear hS; have hS := hS2; clear hS2
            refine s_call hE rfl rfl rfl (held hfit.at_ (by omega) hS) ?_
            rintro _ w ⟨A4, c4, rfl, hS⟩; clear hE a; intro a hE
            rw [hold_vec hfit.lv, hlen] at hS
            rw [hlen] at hE
            dsimp only at hS
            have hvo := vec_ok hfit.at_.ok
            have hvl : D.vec.length = 6 := (vec_len D).trans hlen
            repeat' (first

              | ((with_reducible refine g_guard ?_); refine gd_yes hE rfl rfl rfl ?_)
              )
            refine s_call hE rfl rfl rfl (same A3 c3 D.vec A4 c4 D.vec 6 6 w (hS.rdAt (k := 4) rfl) (hS.rdAt (k := 0) rfl) hvo hvo hvl.symm hvl.symm (by omega)) ?_
            rintro _ w ⟨rfl, hS1⟩; clear hE a; intro a hE; replace hS := hS.frame hS1; clear hS1; try simp only [List.cons_append, List.nil_append] at hS
            rw [decide_eq_true rfl] at hE
            repeat' (first

              | (with_reducible refine wpList_nil ?_)
              | (with_reducible refine then_normal ?_)
              | (with_reducible refine wp_ret ?_)
              | (with_reducible refine then_ret ?_)
              | (with_reducible refine block_ret ?_)
              | ((with_reducible refine g_assign ?_); refine s_assign hE rfl rfl ?_; clear hE a; intro a hE)
              | ((with_reducible refine g_pick ?_); refine s_pickT hE rfl rfl rfl ?_; clear hE a; intro a hE)
              )
            exact ret1 hE rfl rfl ⟨rfl, hS.nil⟩
      · have hact2 := hact
        unfold Opn.acts at hact2
        repeat' (first

          | (with_reducible refine wp_seq ?_)
          | (with_reducible refine c_region ?_)
          | (with_reducible refine wpList_nil ?_)
          | (with_reducible refine then_normal ?_)
          | (with_reducible refine wp_skip ?_)
          | (with_reducible refine wp_block ?_)
          | ((with_reducible refine g_move ?_); refine s_move hE rfl rfl ?_; clear hE a; intro a hE)
          | ((with_reducible refine g_bin .lss ?_); refine s_lss hE rfl rfl rfl ?_; clear hE a; intro a hE)
          | ((with_reducible refine g_bin .gtr ?_); refine s_gtr hE rfl rfl rfl ?_; clear hE a; intro a hE)
          | ((with_reducible refine g_bin .geq ?_); refine s_geq hE rfl rfl rfl ?_; clear hE a; intro a hE)
          | ((with_reducible refine g_bin .eql ?_); refine s_eql hE rfl rfl rfl ?_; clear hE a; intro a hE)
          | ((with_reducible refine g_fa ?_); refine s_fieldL hE rfl rfl rfl ?_; clear hE a; intro a hE)
          | ((with_reducible refine g_guard ?_); refine gd_yes hE rfl rfl rfl ?_)
          | ((with_reducible refine g_guard ?_); refine gd_no hE rfl rfl rfl rfl ?_; clear hE a; intro a hE)
          | ((with_reducible refine g_guard ?_); refine gd_un hE rfl rfl rfl ?_; clear hE a; intro a hE)
          | ((with_reducible refine g_guard ?_); refine gd_dec hE rfl rfl (fun hc hE2 => ?_) (fun hc hE2 => ?_) <;> (try omega) <;> (replace hE := hE2; clear hE2))
          | ((with_reducible refine g_pick ?_); refine s_pickT hE rfl rfl rfl ?_; clear hE a; intro a hE)
          | ((with_reducible refine g_pick ?_); refine s_pickF hE rfl rfl rfl ?_; clear hE a; intro a hE)
          | ((with_reducible refine g_cond ?_); refine c_false hE rfl ?_)
          | ((with_reducible refine g_cond ?_); refine c_dec hE rfl (fun hc => ?_) (fun hc => ?_) <;> try omega)
          | ((with_reducible refine g_call (f := 13) ?_); refine s_call hE rfl rfl rfl (kind _ w) ?_; rintro _ w ⟨rfl, hS1⟩; clear hE a; intro a hE; replace hS := hS.frame hS1; clear hS1; try simp only [List.cons_append, List.nil_append] at hS)
          | ((with_reducible refine g_ia ?_); refine s_idxR hE rfl rfl (by omega) (by omega) (by (first | exact Rd.st (by assumption) hS )) (by first | omega ) rfl ?_; clear hE a; intro a hE)
          | ((with_reducible refine g_load ?_); (first | (refine s_loadB (k := 0) hS hE rfl rfl rfl rfl ?_) ); clear hE a; intro a hE)
          | ((with_reducible refine g_alloc ?_); refine s_allocS hE hS rfl rfl ?_; clear hE a hS; intro g a w hE hS)
          | ((with_reducible refine g_load ?_); (first | (refine s_loadW (k := 0) hS hE rfl rfl rfl rfl ?_) ); clear hE a; intro a hE)
          | ((with_reducible refine g_store ?_); (first | (refine s_storeW (k := 0) hS hE rfl rfl rfl rfl rfl (by first | (simp [Value.oneCell']; done)) ?_) ); clear hS; intro w hS; simp only [List.set_cons_zero, List.set_cons_succ, Nat.add_zero] at hS)
          | ((with_reducible refine g_load ?_); refine s_elemR hE rfl (by (first | exact Rd.st (by assumption) hS )) (by first | exact hseg ) (by first | rfl ) (by rfl) rfl ?_; clear hE a; intro a hE))
        all_goals
          have hne : ((m - dn : Nat) : Int) = 0 → ¬ o.acts := fun e q => hact ⟨by omega, q⟩
          have ed := does_am hfit.lv hlen hk3 hne
          have hatA := atN_am (m := ((m - dn : Nat) : Int)) hfit.at_ (by omega)
          have hopA := hatA.ops
          obtain ⟨hfit2, hvec2, hlen2⟩ := does_fits hfit (by omega) hok.1 hk3
          have hacts := does_acts hfit.lv hlen hk3
          have hbd : Blk.ok (D.does o).2.1 := does_blk hfit.at_.ok o
          rw [hlen] at hlen2
          skip
          refine s_call hE rfl rfl rfl (does o hok.1 hok.2 hatA.ok (by omega) (front1 hS)) ?_
          rw [ed]
          dsimp only
          rintro _ w ⟨rfl, Qa', da', hS⟩; clear hE a; intro a hE
          have hd2 := fun (H : List HP) (w : World) => does (Q := Qb) (d := db) (g := gb) (S := Sb) (c := cb) (D := D) (w0 := w0) (w := w) (H := H) o hok.1 hok.2 hfit.at_.ok (by have := hfit.at_.ops; omega)
          generalize D.does o = r at hS hE hfit2 hlen2 hbd hd2 hacts
          obtain ⟨D2, b2, e2⟩ := r
          dsimp only at hS hE hfit2 hlen2 hbd hd2 hacts
          have hbl : (bys b2).length = 64 := by rw [bys_length]; exact hbd.1
          have hbl2 := hbd.1
          have hdf := hfit2.lv.dead
          repeat' (first

            | (with_reducible refine wp_seq ?_)
            | (with_reducible refine c_region ?_)
            | (with_reducible refine wpList_nil ?_)
            | (with_reducible refine then_normal ?_)
            | ((with_reducible refine g_move ?_); refine s_move hE rfl rfl ?_; clear hE a; intro a hE)
            | ((with_reducible refine g_assign ?_); refine s_assign hE rfl rfl ?_; clear hE a; intro a hE)
            | ((with_reducible refine g_extract ?_); refine s_extract hE rfl rfl rfl ?_; clear hE a; intro a hE)
            | ((with_reducible refine g_alloc ?_); refine s_allocS hE hS rfl rfl ?_; clear hE a hS; intro g a w hE hS)
            | ((with_reducible refine g_load ?_); (first | (refine s_loadW (k := 4) hS hE rfl rfl rfl rfl ?_) ); clear hE a; intro a hE)
            | ((with_reducible refine g_store ?_); (first | (refine s_storeW (k := 0) hS hE rfl rfl rfl (by assumption) (by first | rfl ) (by first | exact bys_one _ ) ?_) ); clear hS; intro w hS; simp only [List.set_cons_zero, List.set_cons_succ, Nat.add_zero] at hS)
            )
          have hS2 := frontL [_, _, _, _, _] hS
          simp only [List.cons_append, List.nil_append] at hS2
          clear hS; have hS := hS2; clear hS2
          refine s_call hE rfl rfl rfl (hd2 _ _ hS) ?_
          rintro _ w ⟨rfl, Qb', db', hS⟩; clear hE a; intro a hE
          repeat' (first

            | (with_reducible refine wp_seq ?_)
            | (with_reducible refine c_region ?_)
            | (with_reducible refine wpList_nil ?_)
            | (with_reducible refine then_normal ?_)
            | ((with_reducible refine g_move ?_); refine s_move hE rfl rfl ?_; clear hE a; intro a hE)
            | ((with_reducible refine g_assign ?_); refine s_assign hE rfl rfl ?_; clear hE a; intro a hE)
            | ((with_reducible refine g_bin .neq ?_); refine s_neq hE rfl rfl rfl ?_; clear hE a; intro a hE)
            | ((with_reducible refine g_extract ?_); refine s_extract hE rfl rfl rfl ?_; clear hE a; intro a hE)
            | ((with_reducible refine g_guard ?_); refine gd_yes hE rfl rfl rfl ?_)
            | ((with_reducible refine g_guard ?_); refine gd_dec hE rfl rfl (fun hc hE2 => ?_) (fun hc hE2 => ?_) <;> (try omega) <;> (replace hE := hE2; clear hE2))
            | ((with_reducible refine g_pick ?_); refine s_pickF hE rfl rfl rfl ?_; clear hE a; intro a hE)
            | ((with_reducible refine g_bin .neq ?_); refine s_val hE rfl rfl rfl (r_neS hE rfl rfl (by first | assumption )) ?_; clear hE a; intro a hE)
            | ((with_reducible refine g_alloc ?_); refine s_allocS hE hS rfl rfl ?_; clear hE a hS; intro g a w hE hS)
            | ((with_reducible refine g_load ?_); (first | (refine s_loadW (k := 0) hS hE rfl rfl (by first | assumption ) rfl ?_) | (refine s_loadW (k := 4) hS hE rfl rfl (by first | assumption ) rfl ?_) ); clear hE a; intro a hE)
            | ((with_reducible refine g_store ?_); (first | (refine s_storeW (k := 0) hS hE rfl rfl rfl (by assumption) (by first | rfl ) (by first | exact bys_one _ ) ?_) ); clear hS; intro w hS; simp only [List.set_cons_zero, List.set_cons_succ, Nat.add_zero] at hS)
            )
          have hS2 := frontL (D := D2.am (if 0 < o.k ∧ e2 = 0 then ((m - dn : Nat) : Int) - 1 else ((m - dn : Nat) : Int))) [_, _, _, _, _] hS
          simp only [List.cons_append, List.nil_append] at hS2
          clear hS; have hS := hS2; clear hS2
          refine s_call hE rfl rfl rfl (ddead hS) ?_
          rintro _ w ⟨rfl, hS⟩; clear hE a; intro a hE
          rw [show (D2.am _).dead = false from hdf] at hE
          repeat' (first

            | (with_reducible refine wp_seq ?_)
            | (with_reducible refine c_region ?_)
            | (with_reducible refine wpList_nil ?_)
            | (with_reducible refine then_normal ?_)
            | (with_reducible refine wp_skip ?_)
            | (with_reducible refine block_normal ?_)
            | ((with_reducible refine g_move ?_); refine s_move hE rfl rfl ?_; clear hE a; intro a hE)
            | ((with_reducible refine g_assign ?_); refine s_assign hE rfl rfl ?_; clear hE a; intro a hE)
            | ((with_reducible refine g_bin .gtr ?_); refine s_gtr hE rfl rfl rfl ?_; clear hE a; intro a hE)
            | ((with_reducible refine g_bin .eql ?_); refine s_eql hE rfl rfl rfl ?_; clear hE a; intro a hE)
            | ((with_reducible refine g_bin .add ?_); refine s_add hE rfl rfl rfl (by first  | exact wrap64_in (by omega) ) ?_; clear hE a; intro a hE)
            | ((with_reducible refine g_guard ?_); refine gd_yes hE rfl rfl rfl ?_)
            | ((with_reducible refine g_guard ?_); refine gd_no hE rfl rfl rfl rfl ?_; clear hE a; intro a hE)
            | ((with_reducible refine g_guard ?_); refine gd_dec hE rfl rfl (fun hc hE2 => ?_) (fun hc hE2 => ?_) <;> (try omega) <;> (replace hE := hE2; clear hE2))
            | ((with_reducible refine g_pick ?_); refine s_pickT hE rfl rfl rfl ?_; clear hE a; intro a hE)
            | ((with_reducible refine g_pick ?_); refine s_pickF hE rfl rfl rfl ?_; clear hE a; intro a hE)
            | ((with_reducible refine g_cond ?_); refine c_false hE rfl ?_)
            | ((with_reducible refine g_cond ?_); refine c_dec hE rfl (fun hc => ?_) (fun hc => ?_) <;> try omega)
            | ((with_reducible refine g_call (f := 13) ?_); refine s_call hE rfl rfl rfl (kind _ w) ?_; rintro _ w ⟨rfl, hS1⟩; clear hE a; intro a hE; replace hS := hS.frame hS1; clear hS1; try simp only [List.cons_append, List.nil_append] at hS)
            | ((with_reducible refine g_load ?_); (first | (refine s_loadW (k := 8) hS hE rfl rfl rfl rfl ?_) ); clear hE a; intro a hE)
            )
          all_goals
            by_cases hz : 0 < o.k ∧ e2 = 0
            · have hlt : dn < m := by
                rcases Nat.lt_or_ge dn m with h1 | h1
                · exact h1
                · exact absurd ⟨by omega, hacts hz.1 hz.2⟩ hact
              rw [if_pos hz, show ((m - dn : Nat) : Int) - 1 = ((m - (dn + 1) : Nat) : Int) by omega] at hS
              first
                | (exfalso; omega)
                | exact ⟨q - 1, by omega, k + 1, dn + 1, D2, _, _, _, _, by omega, by omega, hfit2, hlen2, ((hS.drop 3).drop 6).drop 6, hE.sub ⟨rfl, rfl, rfl, rfl, rfl, rfl, rfl, trivial⟩⟩
            · rw [if_neg hz] at hS
              first
                | (exfalso; omega)
                | exact ⟨q - 1, by omega, k + 1, dn, D2, _, _, _, _, by omega, by omega, hfit2, hlen2, ((hS.drop 3).drop 6).drop 6, hE.sub ⟨rfl, rfl, rfl, rfl, rfl, rfl, rfl, trivial⟩⟩
    · repeat' (first

        | (with_reducible refine wp_seq ?_)
        | (with_reducible refine c_region ?_)
        | (with_reducible refine wpList_nil ?_)
        | (with_reducible refine then_normal ?_)
        | (with_reducible refine wp_skip ?_)
        | (with_reducible refine wp_block ?_)
        | (with_reducible refine wp_exit ?_)
        | (with_reducible refine then_exit ?_)
        | (with_reducible refine block_same ?_)
        | ((with_reducible refine g_move ?_); refine s_move hE rfl rfl ?_; clear hE a; intro a hE)
        | ((with_reducible refine g_bin .lss ?_); refine s_lss hE rfl rfl rfl ?_; clear hE a; intro a hE)
        | ((with_reducible refine g_bin .gtr ?_); refine s_gtr hE rfl rfl rfl ?_; clear hE a; intro a hE)
        | ((with_reducible refine g_bin .add ?_); refine s_add hE rfl rfl rfl (by first | exact wrap64_in (by omega) ) ?_; clear hE a; intro a hE)
        | ((with_reducible refine g_cond ?_); refine c_dec hE rfl (fun hc => ?_) (fun hc => ?_) <;> try omega)
        | ((with_reducible refine g_call (f := 13) ?_); refine s_call hE rfl rfl rfl (kind _ w) ?_; rintro _ w ⟨rfl, hS1⟩; clear hE a; intro a hE; replace hS := hS.frame hS1; clear hS1; try simp only [List.cons_append, List.nil_append] at hS)
        | ((with_reducible refine g_ia ?_); refine s_idxR hE rfl rfl (by omega) (by omega) (by (first | exact Rd.st (by assumption) hS )) (by first | omega ) rfl ?_; clear hE a; intro a hE)
        | ((with_reducible refine g_alloc ?_); refine s_allocS hE hS rfl rfl ?_; clear hE a hS; intro g a w hE hS)
        | ((with_reducible refine g_load ?_); (first | (refine s_loadW (k := 0) hS hE rfl rfl rfl rfl ?_) ); clear hE a; intro a hE)
        | ((with_reducible refine g_store ?_); (first | (refine s_storeW (k := 0) hS hE rfl rfl rfl rfl rfl (by first | (simp [Value.oneCell']; done)) ?_) ); clear hS; intro w hS; simp only [List.set_cons_zero, List.set_cons_succ, Nat.add_zero] at hS)
        | ((with_reducible refine g_load ?_); refine s_elemR hE rfl (by (first | exact Rd.st (by assumption) hS )) (by first | exact hseg ) (by first | rfl ) (by rfl) rfl ?_; clear hE a; intro a hE))
      exact ⟨q - 1, by omega, k + 1, dn, D, Qa, da, Qb, db, by omega, hdn, fits_mono hfit (by omega), hlen, hS.tail, hE.sub ⟨rfl, rfl, rfl, rfl, rfl, rfl, rfl, trivial⟩⟩
  · obtain rfl : k = l2.length := by omega
    have hop := hfit.at_.ops
    have hvo := vec_ok hfit.at_.ok
    have hvl : D.vec.length = 6 := (vec_len D).trans hlen
    have hha := hold_am hfit.lv ((m - dn : Nat) : Int) 6 (by omega)
    have hhl := hold_lv hfit.lv 6 (by omega)
    have hhv := hold_vec hfit.lv
    rw [hlen] at hhv
    rw [hhv] at hha
    have hatA := atN_am (m := ((m - dn : Nat) : Int)) hfit.at_ (by omega)
    have hheld := fun (hS : St w0 w (dk ga Sa ca Qa da (D.am ((m - dn : Nat) : Int)) (dk gb Sb cb Qb db D []))) => held hatA (by omega) hS
    rw [hlen, hha] at hheld
    have hheld2 := fun (H : List HP) (w : World) (hS : St w0 w (dk gb Sb cb Qb db D H)) => held hfit.at_ (by omega) hS
    rw [hlen, hhv] at hheld2
    dsimp only at hheld hheld2
    repeat' (first

      | (with_reducible refine wp_seq ?_)
      | (with_reducible refine c_region ?_)
      | (with_reducible refine wpList_nil ?_)
      | (with_reducible refine then_normal ?_)
      | (with_reducible refine wp_exit ?_)
      | (with_reducible refine then_exit ?_)
      | (with_reducible refine block_same ?_)
      | ((with_reducible refine g_move ?_); refine s_move hE rfl rfl ?_; clear hE a; intro a hE)
      | ((with_reducible refine g_bin .lss ?_); refine s_lss hE rfl rfl rfl ?_; clear hE a; intro a hE)
      | ((with_reducible refine g_cond ?_); refine c_dec hE rfl (fun hc => ?_) (fun hc => ?_) <;> try omega)
      )
    refine s_call hE rfl rfl rfl (hheld hS) ?_
    rintro _ w ⟨A3, c3, rfl, hS⟩; clear hE a; intro a hE
    repeat' (first

      | ((with_reducible refine g_move ?_); refine s_move hE rfl rfl ?_; clear hE a; intro a hE)
      )
    have hS2 := frontL (D := D) [_, _, _, _] hS
    simp only [List.cons_append, List.nil_append] at hS2
    clear hS; have hS := hS2; clear hS2
    refine s_call hE rfl rfl rfl (hheld2 _ _ hS) ?_
    rintro _ w ⟨A4, c4, rfl, hS⟩; clear hE a; intro a hE
    skip
    refine s_call hE rfl rfl rfl (same A3 c3 D.vec A4 c4 D.vec 6 6 w (hS.rdAt (k := 4) rfl) (hS.rdAt (k := 0) rfl) hvo hvo hvl.symm hvl.symm (by omega)) ?_
    rintro _ w ⟨rfl, hS1⟩; clear hE a; intro a hE; replace hS := hS.frame hS1; clear hS1; try simp only [List.cons_append, List.nil_append] at hS
    rw [decide_eq_true rfl] at hE
    repeat' (first

      | ((with_reducible refine g_move ?_); refine s_move hE rfl rfl ?_; clear hE a; intro a hE)
      | ((with_reducible refine g_guard ?_); refine gd_yes hE rfl rfl rfl ?_)
      )
    have hS2 := frontL (D := DM.am { D with ops := D.ops + (6 : Nat) } ((m - dn : Nat) : Int)) [_, _, _, _, _] hS
    simp only [List.cons_append, List.nil_append] at hS2
    clear hS; have hS := hS2; clear hS2
    refine s_call hE rfl rfl rfl (dops hS) ?_
    rintro _ w ⟨rfl, hS⟩; clear hE a; intro a hE
    repeat' (first

      | ((with_reducible refine g_move ?_); refine s_move hE rfl rfl ?_; clear hE a; intro a hE)
      | ((with_reducible refine g_guard ?_); refine gd_yes hE rfl rfl rfl ?_)
      )
    have hS2 := frontL (D := { D with ops := D.ops + (6 : Nat) }) [_, _, _, _] hS
    simp only [List.cons_append, List.nil_append] at hS2
    clear hS; have hS := hS2; clear hS2
    refine s_call hE rfl rfl rfl (dops hS) ?_
    rintro _ w ⟨rfl, hS⟩; clear hE a; intro a hE
    repeat' (first

      | (with_reducible refine wpList_nil ?_)
      | (with_reducible refine then_normal ?_)
      | (with_reducible refine wp_ret ?_)
      | ((with_reducible refine g_assign ?_); refine s_assign hE rfl rfl ?_; clear hE a; intro a hE)
      | ((with_reducible refine g_bin .eql ?_); refine s_eql hE rfl rfl rfl ?_; clear hE a; intro a hE)
      | ((with_reducible refine g_guard ?_); refine gd_yes hE rfl rfl rfl ?_)
      | ((with_reducible refine g_pick ?_); refine s_pickT hE rfl rfl rfl ?_; clear hE a; intro a hE)
      )
    exact ret1 hE rfl rfl ⟨by rw [decide_eq_true rfl], hS.nil⟩
end
end Go.Proofs.Ytnnamckabjhflaa
