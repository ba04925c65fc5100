/-
  Nothing that was synced is lost by a crash.
-/
import Derived.Test.YtnnamckabjhflaaDT
namespace Go.Proofs.Ytnnamckabjhflaa
open Go.RowKit
set_option linter.unusedVariables false
set_option linter.unusedSimpArgs false
attribute [local irreducible] Rd hRow hBlk hRd hAll Fn hMarks
attribute [local simp] Wr.cells Opn.cells

abbrev KT := Option Addr × Nat × List Bool
def KT.ok (W : World) (q : KT) : Prop := Rd W q.1 (q.2.2.flatMap fun b => [Value.bool b]) ∧ q.2.2.length ≤ q.2.1 ∧ q.2.1 ≤ maxLen ∧ q.2.2.length * 1 ≤ 140737488351232 ∧ ∀ b ∈ q.2.2, True ∧ [Value.bool b].length = 1
theorem KT.rd {W : World} {q : KT} (h : q.ok W) : Rd W q.1 (q.2.2.map Value.bool) := by
  have e : ∀ l : List Bool, (l.flatMap fun b => [Value.bool b]) = l.map Value.bool := by
    intro l
    induction l with
    | nil => rfl
    | cons b l ih => rw [List.flatMap_cons, ih]; rfl
  have := h.1
  rw [e] at this
  exact this
theorem ones_set (k : Nat) : (List.replicate (k + 1) (Value.bool false)).set k (.bool true) = (ones k).map Value.bool := by
  unfold ones
  rw [List.replicate_succ', List.set_append_right _ _ (by simp), List.length_replicate, Nat.sub_self, List.map_append, List.map_replicate]
  rfl
section
variable {g : Nat} {S : Option Addr} {c : Nat} {Q : Option Addr} {d : Nat} {D : DM} {H : List HP} {w0 w : World}
set_option maxHeartbeats 16000000
theorem backL (L : List HP) (hS : St w0 w (dk g S c Q d D (L ++ H))) : St w0 w (L ++ dk g S c Q d D H) :=
  St.perm hS (by
    have := ((List.perm_append_comm (l₁ := L) (l₂ := dk g S c Q d D [])).append_right H).symm
    rw [List.append_assoc, List.append_assoc] at this
    exact this)
theorem held6 {n : Nat} (hf : D.fits n) (hn : n ≤ 70000) (hl : D.safe.length = 6) (hS : St w0 w (dk g S c Q d D H)) :
    Fn Try.prog 15 [.pointer (some ⟨g, 0, none⟩)] w fun v w' => ∃ (A' : Option Addr) (c' : Nat) (D' : DM), v = .slice A' 6 c' ∧ D'.fits (n + 6) ∧ D'.safe = D.safe ∧ D'.pend = D.pend ∧ D'.vec = D.vec ∧ St w0 w' (hRow 27 64 A' 6 c' (D.vec.flatMap bys) :: dk g S c Q d D' H) := by
  have h := held hf.at_ (by omega) hS
  rw [hold_vec hf.lv, hl] at h
  refine Fn.mono h ?_
  rintro v w' ⟨A', c', hv, hS'⟩
  exact ⟨A', c', { D with ops := D.ops + (6 : Nat) }, hv, fits_ops hf (Nat.le_refl _) (by omega), rfl, rfl, rfl, hS'⟩
theorem crash6 {n : Nat} (hf : D.fits n) (K : Option Addr) (m : Nat) (keep : List Bool) (hr : ∀ w' L, St w0 w' (L ++ H) → Rd w' K (keep.map .bool)) (hl : keep.length ≤ 9223372036854775806) (hS : St w0 w (dk g S c Q d D H)) :
    Fn Try.prog 29 [.pointer (some ⟨g, 0, none⟩), .slice K keep.length m] w fun v w' => ∃ (D' : DM) (Q' : Option Addr) (d' : Nat), v = .int .i64 0 ∧ D' = D.crash keep ∧ D'.fits n ∧ D'.safe.length = D.safe.length ∧ St w0 w' (dk g S c Q' d' D' H) := by
  refine Fn.mono (crash K m keep hf.at_.ok hr hl hS) ?_
  rintro v w' ⟨hv, Q', d', hS'⟩
  exact ⟨D.crash keep, Q', d', hv, rfl, ⟨crash_atN hf.at_ keep, crash_lv D keep⟩, crash_len D keep, hS'⟩
theorem sync6 {n : Nat} (hf : D.fits n) (hn : n ≤ 70000) (hl : D.safe.length = 6) (hS : St w0 w (dk g S c Q d D H)) :
    Fn Try.prog 26 [.pointer (some ⟨g, 0, none⟩)] w fun v w' => ∃ (D' : DM) (Q' : Option Addr) (d' : Nat), v = .int .i64 0 ∧ D'.fits (n + 1) ∧ D'.pend = [] ∧ D'.vec = D.vec ∧ D'.safe.length = 6 ∧ St w0 w' (dk g S c Q' d' D' H) := by
  have e := sync_lv hf.lv (by omega)
  have ha := sync_atN hf.at_ (by omega)
  refine Fn.mono (sync hf.at_.ok (by have := hf.at_.ops; omega) hS) ?_
  rintro v w' ⟨hv, Q', d', hS'⟩
  rw [e] at hv hS' ha
  exact ⟨_, Q', d', hv, ⟨ha, ⟨hf.lv.dead, hf.lv.armed, hf.lv.fails⟩⟩, rfl, vec_sync hf.at_.ok _, (settle_len _ _).trans hl, hS'⟩
theorem law_DiskSafe (y : LT) (z : KT) (w0 : World) (h : y.ok w0) (hz : z.ok w0) : Fn Try.prog 7 [.slice y.1 y.2.2.length y.2.1, .slice z.1 z.2.2.length z.2.1] w0 fun v w' => v = .bool true ∧ St w0 w' [] := by
  rw [← LT.len]
  have hr := LT.rd h
  have hall := LT.all h
  obtain ⟨hcap, hbig⟩ := LT.cap h
  have hrz := KT.rd hz
  have hlz : z.2.2.length ≤ 140737488351232 := by have := hz.2.2.2.1; omega
  generalize y.opns = l at hr hall hcap hbig
  generalize y.1 = A at hr
  generalize y.2.1 = c at hcap
  generalize z.2.2 = keep at hrz hlz
  generalize z.1 = B at hrz
  generalize z.2.1 = cz
  refine enter 163 Try.func7 rfl rfl rfl ?_
  intro a hE
  have hS := St.start w0
  repeat' (first

    | (with_reducible refine wp_seq ?_)
    | (with_reducible refine c_region ?_)
    | (with_reducible refine wpList_nil ?_)
    | (with_reducible refine then_normal ?_)
    | ((with_reducible refine g_assign ?_); refine s_assign hE rfl rfl ?_; clear hE a; intro a hE)
    )
  refine s_call hE rfl rfl rfl (wakes w0) ?_
  rintro _ w ⟨rfl, hS1⟩; clear hE a; intro a hE; replace hS := hS.frame hS1; clear hS1; try simp only [List.cons_append, List.nil_append] at hS
  repeat' (first

    | (with_reducible refine wp_seq ?_)
    | (with_reducible refine c_region ?_)
    | (with_reducible refine wpList_nil ?_)
    | (with_reducible refine then_normal ?_)
    | (with_reducible refine wp_skip ?_)
    | ((with_reducible refine g_move ?_); refine s_move hE rfl rfl ?_; clear hE a; intro a hE)
    | ((with_reducible refine g_un .not ?_); refine s_notb hE rfl rfl ?_; clear hE a; intro a hE)
    | ((with_reducible refine g_cond ?_); refine c_false hE rfl ?_)
    )
  refine s_call hE rfl rfl rfl (worn A _ 0 c l w (hr.st hS) rfl hcap hbig fun o ho => ⟨(hall o ho).1, Rd.st (hall o ho).2 hS⟩) ?_
  rintro _ w ⟨gd, Sd, cd, Qd, dd, rfl, hS1⟩; clear hE a; intro a hE; replace hS := hS.frame hS1; clear hS1; try simp only [List.cons_append, List.nil_append] at hS
  have hlt : (l.take 120).length = min l.length 120 := by rw [List.length_take, Nat.min_comm]
  have hl2 : (l.take 120).length ≤ 120 := by rw [hlt]; omega
  obtain ⟨hfit0, _, hlen⟩ := worn_fits hl2 fun o ho => (hall o (List.mem_of_mem_take ho)).1
  have hfit : ((DM.fresh 6).wear (l.take 120)).fits 120 := fits_mono hfit0 hl2
  generalize (DM.fresh 6).wear (l.take 120) = D at hS hfit hlen
  clear hfit0
  repeat' (first

    | (with_reducible refine wp_seq ?_)
    | (with_reducible refine c_region ?_)
    | (with_reducible refine wpList_nil ?_)
    | (with_reducible refine then_normal ?_)
    | (with_reducible refine wp_skip ?_)
    | ((with_reducible refine g_move ?_); refine s_move hE rfl rfl ?_; clear hE a; intro a hE)
    | ((with_reducible refine g_assign ?_); refine s_assign hE rfl rfl ?_; clear hE a; intro a hE)
    | ((with_reducible refine g_cond ?_); refine c_false hE rfl ?_)
    | ((with_reducible refine g_bin .eql ?_); refine s_val hE rfl rfl rfl (r_eqp hE rfl rfl) ?_; clear hE a; intro a hE)
    )
  refine s_call hE rfl rfl rfl (held6 hfit (by omega) hlen hS) ?_
  rintro _ w ⟨An, cn, D1, rfl, hf1, hs1, hp1, hv1, hS⟩; clear hE a; intro a hE
  have hvo := vec_ok hfit.at_.ok
  have hvl : D.vec.length = 6 := (vec_len D).trans hlen
  rw [← hv1] at hS hvo hvl
  have hl1 : D1.safe.length = 6 := by rw [hs1]; exact hlen
  have hpl : D1.pend.length ≤ 100000 := hf1.at_.ok.plen
  clear hfit hs1 hp1 hv1 hlen
  repeat' (first

    | (with_reducible refine wp_seq ?_)
    | (with_reducible refine c_region ?_)
    | (with_reducible refine wpList_nil ?_)
    | (with_reducible refine then_normal ?_)
    | ((with_reducible refine g_move ?_); refine s_move hE rfl rfl ?_; clear hE a; intro a hE)
    | ((with_reducible refine g_assign ?_); refine s_assign hE rfl rfl ?_; clear hE a; intro a hE)
    )
  have hS2 := frontL (D := D1) ([_]) hS
  simp only [List.cons_append, List.nil_append] at hS2
  clear hS; have hS := hS2; clear hS2
  refine s_call hE rfl rfl rfl (copy hf1.at_.ok hS) ?_
  rintro _ w ⟨g7, S7, c7, Q7, d7, rfl, hS⟩; clear hE a; intro a hE
  repeat' (first

    | ((with_reducible refine g_move ?_); refine s_move hE rfl rfl ?_; clear hE a; intro a hE)
    )
  have hS2 := frontL (D := D1) ([_, _, _]) hS
  simp only [List.cons_append, List.nil_append] at hS2
  clear hS; have hS := hS2; clear hS2
  refine s_call hE rfl rfl rfl (copy hf1.at_.ok hS) ?_
  rintro _ w ⟨g8, S8, c8, Q8, d8, rfl, hS⟩; clear hE a; intro a hE
  repeat' (first

    | ((with_reducible refine g_move ?_); refine s_move hE rfl rfl ?_; clear hE a; intro a hE)
    )
  have hS2 := frontL (D := D1) ([_, _, _]) hS
  simp only [List.cons_append, List.nil_append] at hS2
  clear hS; have hS := hS2; clear hS2
  refine s_call hE rfl rfl rfl (copy hf1.at_.ok hS) ?_
  rintro _ w ⟨g9, S9, c9, Q9, d9, rfl, hS⟩; clear hE a; intro a hE
  repeat' (first

    | (with_reducible refine wp_seq ?_)
    | (with_reducible refine c_region ?_)
    | (with_reducible refine wpList_nil ?_)
    | (with_reducible refine then_normal ?_)
    | ((with_reducible refine g_move ?_); refine s_move hE rfl rfl ?_; clear hE a; intro a hE)
    | ((with_reducible refine g_assign ?_); refine s_assign hE rfl rfl ?_; clear hE a; intro a hE)
    )
  have hS2 := frontL (D := D1) ([_, _, _]) hS
  simp only [List.cons_append, List.nil_append] at hS2
  clear hS; have hS := hS2; clear hS2
  refine s_call hE rfl rfl rfl (pending hf1.at_.ok hS) ?_
  rintro _ w ⟨A5, c5, rfl, hS⟩; clear hE a; intro a hE
  repeat' (first

    | ((with_reducible refine g_blt .len ?_); refine s_len hE rfl rfl ?_; clear hE a; intro a hE)
    )
  refine s_make hE hS rfl rfl (by omega) (by omega) (by show (1 : Int) * ((D1.pend.length : Nat) : Int) ≤ 281474976710656; omega) (by show ((D1.pend.length : Nat) : Int) ≤ 9223372036854775807; omega) rfl ?_
  clear hE a hS; intro gk a w hE hS
  have emk : (madeCells (Value.bool false).cells (((D1.pend.length : Nat) : Int).toNat * 1)).toList.take (((D1.pend.length : Nat) : Int).toNat * 1) = (trues D1.pend.length 0).map Value.bool := by
    rw [Int.toNat_natCast]
    exact (made_rep D1.pend.length 0 (Value.bool false) _ rfl).trans (by simp [trues])
  rw [emk] at hS
  rw [Int.toNat_natCast] at hE hS
  replace hS := hS.drop 1
  simp only [List.eraseIdx_cons_succ, List.eraseIdx_cons_zero] at hS
  repeat' (first

    | (with_reducible refine wp_seq ?_)
    | (with_reducible refine c_region ?_)
    | (with_reducible refine wpList_nil ?_)
    | (with_reducible refine then_normal ?_)
    | (with_reducible refine wp_block ?_)
    | ((with_reducible refine g_move ?_); refine s_move hE rfl rfl ?_; clear hE a; intro a hE)
    | ((with_reducible refine g_assign ?_); refine s_assign hE rfl rfl ?_; clear hE a; intro a hE)
    | ((with_reducible refine g_blt .len ?_); refine s_len hE rfl rfl ?_; clear hE a; intro a hE)
    )
  generalize hpn : D1.pend.length = pn at hE
  refine wp_loop_ghost (fun q a w => ∃ (i : Nat), i + q = pn ∧ St w0 w (hRow 4 1 (some ⟨gk, 0, none⟩) pn pn ((trues pn i).map Value.bool) :: dk gd Sd cd Qd dd D1 (dk g9 S9 c9 Q9 d9 D1 (dk g8 S8 c8 Q8 d8 D1 (dk g7 S7 c7 Q7 d7 D1 [hRow 27 64 An 6 cn (D1.vec.flatMap bys)])))) ∧
    Env 163 [(42, .int .i64 (pn : Int)), (43, .int .i64 (i : Int)), (10, .slice (some ⟨gk, 0, none⟩) pn pn), (1, .slice B keep.length cz), (5, .pointer (some ⟨gd, 0, none⟩)), (6, .slice An 6 cn), (7, .pointer (some ⟨g7, 0, none⟩)), (8, .pointer (some ⟨g8, 0, none⟩)), (9, .pointer (some ⟨g9, 0, none⟩))] a) pn ⟨0, by omega, by rw [← hpn]; exact hS, hE.sub ⟨rfl, rfl, rfl, rfl, rfl, rfl, rfl, rfl, rfl, trivial⟩⟩ ?_
  clear hE a hS
  rintro q a w ⟨i, hi, hS, hE⟩
  by_cases hi1 : i < pn
  · have htl : ((trues pn i).map Value.bool).length = pn := by rw [List.length_map, trues_len (by omega)]
    repeat' (first

      | (with_reducible refine wp_seq ?_)
      | (with_reducible refine c_region ?_)
      | (with_reducible refine wpList_nil ?_)
      | (with_reducible refine then_normal ?_)
      | (with_reducible refine wp_skip ?_)
      | (with_reducible refine wp_block ?_)
      | (with_reducible refine block_normal ?_)
      | ((with_reducible refine g_move ?_); refine s_move hE rfl rfl ?_; clear hE a; intro a hE)
      | ((with_reducible refine g_assign ?_); refine s_assign hE rfl rfl ?_; clear hE a; intro a hE)
      | ((with_reducible refine g_bin .lss ?_); refine s_lss hE rfl rfl rfl ?_; clear hE a; intro a hE)
      | ((with_reducible refine g_bin .add ?_); refine s_add hE rfl rfl rfl (by first  | exact wrap64_in (by omega) ) ?_; clear hE a; intro a hE)
      | ((with_reducible refine g_cond ?_); refine c_dec hE rfl (fun hc => ?_) (fun hc => ?_) <;> try omega)
      | ((with_reducible refine g_ia ?_); refine s_idxR hE rfl rfl (by omega) (by omega) (by (first | exact hS.rd )) (by first | omega ) rfl ?_; clear hE a; intro a hE)
      | ((with_reducible refine g_store ?_); (first | (refine s_storeR1 (k := 0) hS hE rfl rfl rfl rfl (by first | omega ) rfl ?_) ); clear hS; intro w hS; simp only [List.set_cons_zero, List.set_cons_succ, Nat.add_zero] at hS)
      )
    rw [Int.toNat_natCast, Nat.mul_one, trues_set hi1] at hS
    exact ⟨q - 1, by omega, i + 1, by omega, hS, hE.sub ⟨rfl, rfl, rfl, rfl, rfl, rfl, rfl, rfl, rfl, trivial⟩⟩
  · obtain rfl : i = pn := by omega
    rw [trues_all] at hS
    have hkl : (List.replicate i true).length = i := List.length_replicate
    repeat' (first

      | (with_reducible refine wp_seq ?_)
      | (with_reducible refine c_region ?_)
      | (with_reducible refine wpList_nil ?_)
      | (with_reducible refine then_normal ?_)
      | (with_reducible refine wp_exit ?_)
      | (with_reducible refine then_exit ?_)
      | (with_reducible refine block_same ?_)
      | ((with_reducible refine g_move ?_); refine s_move hE rfl rfl ?_; clear hE a; intro a hE)
      | ((with_reducible refine g_bin .lss ?_); refine s_lss hE rfl rfl rfl ?_; clear hE a; intro a hE)
      | ((with_reducible refine g_cond ?_); refine c_dec hE rfl (fun hc => ?_) (fun hc => ?_) <;> try omega)
      )
    have hS2 := frontL (D := D1) ([_, _, _, _, _, _, _, _, _, _]) hS
    simp only [List.cons_append, List.nil_append] at hS2
    clear hS; have hS := hS2; clear hS2
    have hcc := crash6 hf1 (some ⟨gk, 0, none⟩) i (List.replicate i true) (fun w' L h => h.rdAt (k := L.length) (by rw [List.getElem?_append_right (Nat.le_refl _), Nat.sub_self]; rfl)) (by omega) hS
    rw [hkl, ← hpn] at hcc
    rw [← hpn] at hE
    refine s_call hE rfl rfl rfl hcc ?_
    clear hcc
    rintro _ w ⟨E1, Q7, d7, rfl, hE1, hfE1, hlE1, hS⟩; clear hE a; intro a hE
    have hvE1 : E1.vec = D1.vec := by rw [hE1]; exact (crash_vec hf1.at_.ok).2.1
    repeat' (first

      | ((with_reducible refine g_move ?_); refine s_move hE rfl rfl ?_; clear hE a; intro a hE)
      | ((with_reducible refine g_bin .neq ?_); refine s_neq hE rfl rfl rfl ?_; clear hE a; intro a hE)
      | ((with_reducible refine g_guard ?_); refine gd_yes hE rfl rfl rfl ?_)
      )
    have hS2 := frontL (D := D1) ([_, _, _, _, _, _, _]) hS
    simp only [List.cons_append, List.nil_append] at hS2
    clear hS; have hS := hS2; clear hS2
    refine s_call hE rfl rfl rfl (crash6 hf1 none 0 [] (fun w' L h => Rd.nil) (by decide) hS) ?_
    rintro _ w ⟨E2, Q9, d9, rfl, hE2, hfE2, hlE2, hS⟩; clear hE a; intro a hE
    have hvE2 : E2.vec = D1.safe := by rw [hE2]; exact crash_none D1
    repeat' (first

      | ((with_reducible refine g_move ?_); refine s_move hE rfl rfl ?_; clear hE a; intro a hE)
      | ((with_reducible refine g_bin .neq ?_); refine s_neq hE rfl rfl rfl ?_; clear hE a; intro a hE)
      | ((with_reducible refine g_guard ?_); refine gd_yes hE rfl rfl rfl ?_)
      | ((with_reducible refine g_pick ?_); refine s_pickF hE rfl rfl rfl ?_; clear hE a; intro a hE)
      )
    have hS2 := frontL (D := D1) ([_, _, _, _, _, _, _]) hS
    simp only [List.cons_append, List.nil_append] at hS2
    clear hS; have hS := hS2; clear hS2
    refine s_call hE rfl rfl rfl (sync6 hf1 (by omega) hl1 hS) ?_
    rintro _ w ⟨D2, Qd, dd, rfl, hf2, hpE2, hv2, hl2, hS⟩; clear hE a; intro a hE
    repeat' (first

      | ((with_reducible refine g_move ?_); refine s_move hE rfl rfl ?_; clear hE a; intro a hE)
      | ((with_reducible refine g_bin .neq ?_); refine s_neq hE rfl rfl rfl ?_; clear hE a; intro a hE)
      | ((with_reducible refine g_guard ?_); refine gd_yes hE rfl rfl rfl ?_)
      | ((with_reducible refine g_pick ?_); refine s_pickF hE rfl rfl rfl ?_; clear hE a; intro a hE)
      )
    refine s_call hE rfl rfl rfl (crash6 hf2 none 0 [] (fun w' L h => Rd.nil) (by decide) hS) ?_
    rintro _ w ⟨E3, Qd, dd, rfl, hE3, hfE3, hlE3, hS⟩; clear hE a; intro a hE
    have hvE3 : E3.vec = D1.vec := by rw [hE3, crash_none D2, ← vec_nil hpE2, hv2]
    repeat' (first

      | (with_reducible refine wp_seq ?_)
      | (with_reducible refine c_region ?_)
      | (with_reducible refine wpList_nil ?_)
      | (with_reducible refine then_normal ?_)
      | (with_reducible refine wp_skip ?_)
      | ((with_reducible refine g_move ?_); refine s_move hE rfl rfl ?_; clear hE a; intro a hE)
      | ((with_reducible refine g_bin .neq ?_); refine s_neq hE rfl rfl rfl ?_; clear hE a; intro a hE)
      | ((with_reducible refine g_guard ?_); refine gd_yes hE rfl rfl rfl ?_)
      | ((with_reducible refine g_pick ?_); refine s_pickF hE rfl rfl rfl ?_; clear hE a; intro a hE)
      | ((with_reducible refine g_cond ?_); refine c_false hE rfl ?_)
      )
    have hS2 := frontL (D := E1) ([_, _, _, _, _, _]) hS
    simp only [List.cons_append, List.nil_append] at hS2
    clear hS; have hS := hS2; clear hS2
    refine s_call hE rfl rfl rfl (held6 hfE1 (by omega) (hlE1.trans hl1) hS) ?_
    rintro _ w ⟨A6, c6, E1', rfl, hfE1', _, _, _, hS⟩; clear hE a; intro a hE
    rw [hvE1] at hS
    repeat' (first

      | ((with_reducible refine g_move ?_); refine s_move hE rfl rfl ?_; clear hE a; intro a hE)
      )
    refine s_call hE rfl rfl rfl (same A6 c6 D1.vec An cn D1.vec 6 6 w (hS.rdAt (k := 0) rfl) (hS.rdAt (k := 14) rfl) hvo hvo hvl.symm hvl.symm (by omega)) ?_
    rintro _ w ⟨rfl, hS1⟩; clear hE a; intro a hE; replace hS := hS.frame hS1; clear hS1; try simp only [List.cons_append, List.nil_append] at hS
    rw [decide_eq_true rfl] at hE
    repeat' (first

      | ((with_reducible refine g_move ?_); refine s_move hE rfl rfl ?_; clear hE a; intro a hE)
      | ((with_reducible refine g_un .not ?_); refine s_notb hE rfl rfl ?_; clear hE a; intro a hE)
      | ((with_reducible refine g_guard ?_); refine gd_yes hE rfl rfl rfl ?_)
      )
    have hS2 := frontL (D := E3) ([_, _, _, _]) hS
    simp only [List.cons_append, List.nil_append] at hS2
    clear hS; have hS := hS2; clear hS2
    refine s_call hE rfl rfl rfl (held6 hfE3 (by omega) (hlE3.trans hl2) hS) ?_
    rintro _ w ⟨A7, c77, E3', rfl, hfE3', _, _, _, hS⟩; clear hE a; intro a hE
    rw [hvE3] at hS
    repeat' (first

      | ((with_reducible refine g_move ?_); refine s_move hE rfl rfl ?_; clear hE a; intro a hE)
      | ((with_reducible refine g_guard ?_); refine gd_yes hE rfl rfl rfl ?_)
      )
    refine s_call hE rfl rfl rfl (same A7 c77 D1.vec An cn D1.vec 6 6 w (hS.rdAt (k := 0) rfl) (hS.rdAt (k := 15) rfl) hvo hvo hvl.symm hvl.symm (by omega)) ?_
    rintro _ w ⟨rfl, hS1⟩; clear hE a; intro a hE; replace hS := hS.frame hS1; clear hS1; try simp only [List.cons_append, List.nil_append] at hS
    rw [decide_eq_true rfl] at hE
    replace hS := ((hS.tail.tail.tail.tail.tail.tail.tail.tail).drop 3).drop 6
    simp only [List.eraseIdx_cons_succ, List.eraseIdx_cons_zero] at hS
    repeat' (first

      | (with_reducible refine wp_seq ?_)
      | (with_reducible refine c_region ?_)
      | (with_reducible refine wpList_nil ?_)
      | (with_reducible refine then_normal ?_)
      | (with_reducible refine wp_skip ?_)
      | ((with_reducible refine g_move ?_); refine s_move hE rfl rfl ?_; clear hE a; intro a hE)
      | ((with_reducible refine g_un .not ?_); refine s_notb hE rfl rfl ?_; clear hE a; intro a hE)
      | ((with_reducible refine g_guard ?_); refine gd_yes hE rfl rfl rfl ?_)
      | ((with_reducible refine g_pick ?_); refine s_pickF hE rfl rfl rfl ?_; clear hE a; intro a hE)
      | ((with_reducible refine g_cond ?_); refine c_false hE rfl ?_)
      )
    have hS2 := frontL (D := D1) ([_, _, _]) hS
    simp only [List.cons_append, List.nil_append] at hS2
    clear hS; have hS := hS2; clear hS2
    refine s_call hE rfl rfl rfl (pending hf1.at_.ok hS) ?_
    rintro _ w ⟨Ap, cp, rfl, hS⟩; clear hE a; intro a hE
    repeat' (first

      | (with_reducible refine wp_seq ?_)
      | (with_reducible refine c_region ?_)
      | (with_reducible refine wpList_nil ?_)
      | (with_reducible refine then_normal ?_)
      | ((with_reducible refine g_move ?_); refine s_move hE rfl rfl ?_; clear hE a; intro a hE)
      | ((with_reducible refine g_assign ?_); refine s_assign hE rfl rfl ?_; clear hE a; intro a hE)
      )
    have hS2 := frontL (D := D1) ([_]) hS
    simp only [List.cons_append, List.nil_append] at hS2
    clear hS; have hS := hS2; clear hS2
    refine s_call hE rfl rfl rfl (copy hf1.at_.ok hS) ?_
    rintro _ w ⟨gt, St_, ct, Qt, dt, rfl, hS⟩; clear hE a; intro a hE
    repeat' (first

      | (with_reducible refine wp_seq ?_)
      | (with_reducible refine c_region ?_)
      | (with_reducible refine wpList_nil ?_)
      | (with_reducible refine then_normal ?_)
      | ((with_reducible refine g_move ?_); refine s_move hE rfl rfl ?_; clear hE a; intro a hE)
      | ((with_reducible refine g_assign ?_); refine s_assign hE rfl rfl ?_; clear hE a; intro a hE)
      )
    have hS2 := frontL (D := E2) ([_, _, _, _, _, _, _]) hS
    simp only [List.cons_append, List.nil_append] at hS2
    clear hS; have hS := hS2; clear hS2
    refine s_call hE rfl rfl rfl (held6 hfE2 (by omega) (hlE2.trans hl1) hS) ?_
    rintro _ w ⟨Aw, cw, E2', rfl, hfE2', _, _, _, hS⟩; clear hE a; intro a hE
    rw [hvE2] at hS
    repeat' (first

      | (with_reducible refine wp_seq ?_)
      | (with_reducible refine c_region ?_)
      | (with_reducible refine wpList_nil ?_)
      | (with_reducible refine then_normal ?_)
      | ((with_reducible refine g_move ?_); refine s_move hE rfl rfl ?_; clear hE a; intro a hE)
      | ((with_reducible refine g_assign ?_); refine s_assign hE rfl rfl ?_; clear hE a; intro a hE)
      )
    have hS2 := frontL (D := D1) ([_, _, _, _, _, _, _]) hS
    simp only [List.cons_append, List.nil_append] at hS2
    clear hS; have hS := hS2; clear hS2
    refine s_call hE rfl rfl rfl (crash6 hf1 B cz keep (fun w' L h => Rd.st hrz h) (by omega) hS) ?_
    rintro _ w ⟨E4, Q8, d8, rfl, hE4, hfE4, hlE4, hS⟩; clear hE a; intro a hE
    repeat' (first

      | (with_reducible refine wp_seq ?_)
      | (with_reducible refine c_region ?_)
      | (with_reducible refine wpList_nil ?_)
      | (with_reducible refine then_normal ?_)
      | (with_reducible refine wp_skip ?_)
      | ((with_reducible refine g_move ?_); refine s_move hE rfl rfl ?_; clear hE a; intro a hE)
      | ((with_reducible refine g_bin .neq ?_); refine s_neq hE rfl rfl rfl ?_; clear hE a; intro a hE)
      | ((with_reducible refine g_guard ?_); refine gd_yes hE rfl rfl rfl ?_)
      | ((with_reducible refine g_pick ?_); refine s_pickF hE rfl rfl rfl ?_; clear hE a; intro a hE)
      | ((with_reducible refine g_cond ?_); refine c_false hE rfl ?_)
      | ((with_reducible refine g_bin .eql ?_); refine s_val hE rfl rfl rfl (r_eqp hE rfl rfl) ?_; clear hE a; intro a hE)
      )
    refine s_call hE rfl rfl rfl (held6 hfE4 (by omega) (hlE4.trans hl1) hS) ?_
    rintro _ w ⟨Ag, cg, E4', rfl, hfE4', _, hpE4, _, hS⟩; clear hE a; intro a hE
    have hp4 : E4'.pend = [] := by rw [hpE4, hE4]; rfl
    replace hS := ((hS.drop 5).drop 5).drop 5
    simp only [List.eraseIdx_cons_succ, List.eraseIdx_cons_zero] at hS
    have hGl : E4.vec.length = 6 := (vec_len E4).trans (hlE4.trans hl1)
    have hGo := vec_ok hfE4.at_.ok
    have hcov : ∀ i, i < 6 → E4.vec.getD i noughts = D1.safe.getD i noughts ∨ ∃ (k : Nat) (h : k < D1.pend.length), (D1.pend[k]'h).at_ = i ∧ E4.vec.getD i noughts = (D1.pend[k]'h).b := by
      intro i hi
      rw [hE4]
      exact crash_held hf1.at_.ok keep i (by omega)
    have hso := hf1.at_.ok.safe
    have hfG : (E4.vec.flatMap bys).length = 6 * 64 := by rw [flat_len (blk_len hGo), hGl]
    have hfs : (D1.safe.flatMap bys).length = 6 * 64 := by rw [flat_len (blk_len hso), hl1]
    generalize E4.vec = G at hS hGl hGo hcov hfG
    repeat' (first

      | (with_reducible refine wp_seq ?_)
      | (with_reducible refine c_region ?_)
      | (with_reducible refine wpList_nil ?_)
      | (with_reducible refine then_normal ?_)
      | (with_reducible refine wp_block ?_)
      | ((with_reducible refine g_move ?_); refine s_move hE rfl rfl ?_; clear hE a; intro a hE)
      | ((with_reducible refine g_assign ?_); refine s_assign hE rfl rfl ?_; clear hE a; intro a hE)
      | ((with_reducible refine g_blt .len ?_); refine s_len hE rfl rfl ?_; clear hE a; intro a hE)
      )
    refine wp_loop_ghost (fun q a w => ∃ (j : Nat), j + q = 6 ∧ St w0 w (hRow 27 64 Ag 6 cg (G.flatMap bys) :: dk g8 S8 c8 Q8 d8 E4' (hRow 27 64 Aw 6 cw (D1.safe.flatMap bys) :: dk gt St_ ct Qt dt D1 [hRow 3 1 Ap D1.pend.length cp (ints (D1.pend.map Wr.at_))])) ∧
      Env 163 [(98, .int .i64 6), (99, .int .i64 (j : Int)), (8, .pointer (some ⟨g8, 0, none⟩)), (12, .slice Ap D1.pend.length cp), (13, .pointer (some ⟨gt, 0, none⟩)), (14, .slice Aw 6 cw), (15, .slice Ag 6 cg)] a) 6 ⟨0, by omega, hS, hE.sub ⟨rfl, rfl, rfl, rfl, rfl, rfl, rfl, trivial⟩⟩ ?_
    clear hE a hS
    rintro q a w ⟨j, hj, hS, hE⟩
    by_cases hj1 : j < 6
    · have hjG : j < G.length := by omega
      have hjs : j < D1.safe.length := by omega
      have hsegG := flat_seg (c := bys) (size := 64) (l := G) (blk_len hGo) hjG
      have hsegs := flat_seg (c := bys) (size := 64) (l := D1.safe) (blk_len hso) hjs
      have hcj := hcov j hj1
      have eG : G.getD j noughts = G[j] := by rw [List.getD_eq_getElem?_getD, List.getElem?_eq_getElem hjG]; rfl
      have es : D1.safe.getD j noughts = D1.safe[j] := by rw [List.getD_eq_getElem?_getD, List.getElem?_eq_getElem hjs]; rfl
      rw [eG, es] at hcj
      have hblG := blk_len hGo _ (List.getElem_mem hjG)
      have hbls := blk_len hso _ (List.getElem_mem hjs)
      have hlG := (hGo _ (List.getElem_mem hjG)).1
      have hls := (hso _ (List.getElem_mem hjs)).1
      generalize G[j] = x at hsegG hcj hblG hlG
      generalize D1.safe[j] = y0 at hsegs hcj hbls hls
      repeat' (first

        | (with_reducible refine wp_seq ?_)
        | (with_reducible refine c_region ?_)
        | (with_reducible refine wpList_nil ?_)
        | (with_reducible refine then_normal ?_)
        | (with_reducible refine wp_skip ?_)
        | (with_reducible refine wp_block ?_)
        | ((with_reducible refine g_move ?_); refine s_move hE rfl rfl ?_; clear hE a; intro a hE)
        | ((with_reducible refine g_assign ?_); refine s_assign hE rfl rfl ?_; clear hE a; intro a hE)
        | ((with_reducible refine g_bin .lss ?_); refine s_lss hE rfl rfl rfl ?_; clear hE a; intro a hE)
        | ((with_reducible refine g_cond ?_); refine c_dec hE rfl (fun hc => ?_) (fun hc => ?_) <;> try omega)
        )
      refine c_ordS hS 9 ((.rd 0 (.rd 1 (.rd 2 (.rd 3 (.rd 4 (.rd 5 (.rd 6 (.rd 7 (.rd 8 (.lt 9 .done))))))))))) mixed (by decide +kernel) ?_
      clear hS; intro w hS
      repeat' (first
        | (with_reducible refine o_rd rfl ?_)
        | ((with_reducible refine q_move ?_); refine d_val hE hS rfl (fun w hS => r_move hE rfl) ?_; clear hE a; intro a hE)
        | ((with_reducible refine q_ia ?_); refine d_val hE hS rfl (fun w hS => r_idxR hE rfl rfl (by omega) (by omega) (by (first | exact hS.rd | exact hS.rdAt (k := 4) rfl )) (by first | omega )) ?_; clear hE a; intro a hE)
        | ((with_reducible refine q_bin .eql ?_); refine d_val hE hS rfl (fun w hS => r_eqA hE rfl rfl (by first | assumption ) (by first | assumption )) ?_; clear hE a; intro a hE)
        | ((with_reducible refine o_lt rfl ?_))
        | ((with_reducible refine q_load ?_); refine d_val hE hS rfl (fun w hS => r_elemR hE rfl (by first | exact hS.rd | exact hS.rdAt (k := 4) rfl ) (by first | exact hsegG | exact hsegs) (by first | assumption) rfl) ?_; clear hE a; intro a hE)
        )
      repeat' (first

        | (with_reducible refine wpList_nil ?_)
        | ((with_reducible refine g_assign ?_); refine s_assign hE rfl rfl ?_; clear hE a; intro a hE)
        )
      refine o_backL ?_
      repeat' (first
        | (with_reducible refine o_done ?_)
        )
      repeat' (first

        | (with_reducible refine wp_seq ?_)
        | (with_reducible refine c_region ?_)
        | (with_reducible refine wpList_nil ?_)
        | (with_reducible refine then_normal ?_)
        | (with_reducible refine wp_block ?_)
        | ((with_reducible refine g_move ?_); refine s_move hE rfl rfl ?_; clear hE a; intro a hE)
        | ((with_reducible refine g_blt .len ?_); refine s_len hE rfl rfl ?_; clear hE a; intro a hE)
        )
      have hil : (ints (D1.pend.map Wr.at_)).length = D1.pend.length := by rw [ints_len, List.length_map]
      refine wp_loop_ghost (fun q a w => ∃ (k : Nat) (fine : Bool), k + q = D1.pend.length ∧ (fine = true ∨ ∃ (k' : Nat) (h : k' < D1.pend.length), k ≤ k' ∧ (D1.pend[k']'h).at_ = j ∧ x = (D1.pend[k']'h).b) ∧ St w0 w (hRow 27 64 Ag 6 cg (G.flatMap bys) :: dk g8 S8 c8 Q8 d8 E4' (hRow 27 64 Aw 6 cw (D1.safe.flatMap bys) :: dk gt St_ ct Qt dt D1 [hRow 3 1 Ap D1.pend.length cp (ints (D1.pend.map Wr.at_))])) ∧
        Env 163 [(112, .int .i64 (D1.pend.length : Int)), (113, .int .i64 (k : Int)), (16, .int .i64 (j : Int)), (17, .bool fine), (98, .int .i64 6), (99, .int .i64 (j : Int)), (8, .pointer (some ⟨g8, 0, none⟩)), (12, .slice Ap D1.pend.length cp), (13, .pointer (some ⟨gt, 0, none⟩)), (14, .slice Aw 6 cw), (15, .slice Ag 6 cg)] a) D1.pend.length
        ⟨0, decide (x = y0), by omega, by rcases hcj with h | ⟨k', h, h1, h2⟩; exact .inl (decide_eq_true h); exact .inr ⟨k', h, Nat.zero_le _, h1, h2⟩, hS, hE.sub ⟨rfl, rfl, rfl, rfl, rfl, rfl, rfl, rfl, rfl, rfl, rfl, trivial⟩⟩ ?_
      clear hE a hS
      rintro q2 a w ⟨k, fine, hk, hfine, hS, hE⟩
      by_cases hk1 : k < D1.pend.length
      · have hone := fun (hi : (D1.pend[k]'hk1).at_ = j) => crash_one hf1.at_.ok hk1 hi
        have hpk : (ints (D1.pend.map Wr.at_))[(k : Int).toNat * 1]? = some (.int .i64 (D1.pend[k].at_ : Int)) := by
          rw [Int.toNat_natCast, Nat.mul_one]
          unfold ints
          rw [List.getElem?_map, List.getElem?_map, List.getElem?_eq_getElem hk1]
          rfl
        repeat' (first

          | (with_reducible refine wp_seq ?_)
          | (with_reducible refine c_region ?_)
          | (with_reducible refine wpList_nil ?_)
          | (with_reducible refine then_normal ?_)
          | (with_reducible refine wp_skip ?_)
          | (with_reducible refine wp_block ?_)
          | ((with_reducible refine g_move ?_); refine s_move hE rfl rfl ?_; clear hE a; intro a hE)
          | ((with_reducible refine g_assign ?_); refine s_assign hE rfl rfl ?_; clear hE a; intro a hE)
          | ((with_reducible refine g_bin .lss ?_); refine s_lss hE rfl rfl rfl ?_; clear hE a; intro a hE)
          | ((with_reducible refine g_bin .add ?_); refine s_add hE rfl rfl rfl (by first  | exact wrap64_in (by omega) ) ?_; clear hE a; intro a hE)
          | ((with_reducible refine g_cond ?_); refine c_dec hE rfl (fun hc => ?_) (fun hc => ?_) <;> try omega)
          )
        refine s_make hE hS rfl rfl (by omega) (by omega) (by show (1 : Int) * ((k : Int) + 1) ≤ 281474976710656; omega) (by omega) rfl ?_
        clear hE a hS; intro go a w hE hS
        have hk1n : ((k : Int) + 1).toNat = k + 1 := by omega
        have emk2 : (madeCells (Value.bool false).cells ((k + 1) * 1)).toList.take ((k + 1) * 1) = List.replicate (k + 1) (.bool false) :=
          (made_rep (k + 1) 0 (Value.bool false) _ rfl).trans (by simp)
        rw [hk1n] at hE hS
        rw [emk2] at hS
        have htl : (List.replicate (k + 1) (Value.bool false)).length = k + 1 := List.length_replicate
        repeat' (first

          | (with_reducible refine wp_seq ?_)
          | (with_reducible refine c_region ?_)
          | (with_reducible refine wpList_nil ?_)
          | (with_reducible refine then_normal ?_)
          | ((with_reducible refine g_move ?_); refine s_move hE rfl rfl ?_; clear hE a; intro a hE)
          | ((with_reducible refine g_assign ?_); refine s_assign hE rfl rfl ?_; clear hE a; intro a hE)
          | ((with_reducible refine g_ia ?_); refine s_idxR hE rfl rfl (by omega) (by omega) (by (first | exact hS.rd )) (by first | omega ) rfl ?_; clear hE a; intro a hE)
          | ((with_reducible refine g_store ?_); (first | (refine s_storeR1 (k := 0) hS hE rfl rfl rfl rfl (by first | omega ) rfl ?_) ); clear hS; intro w hS; simp only [List.set_cons_zero, List.set_cons_succ, Nat.add_zero] at hS)
          )
        rw [Int.toNat_natCast, Nat.mul_one, ones_set] at hS
        have hS2 := frontL (D := D1) ([_, _, _, _, _, _]) hS
        simp only [List.cons_append, List.nil_append] at hS2
        clear hS; have hS := hS2; clear hS2
        refine s_call hE rfl rfl rfl (copy hf1.at_.ok hS) ?_
        rintro _ w ⟨gc, Sc, cc, Qc, dc, rfl, hS⟩; clear hE a; intro a hE
        repeat' (first

          | (with_reducible refine wp_seq ?_)
          | (with_reducible refine c_region ?_)
          | (with_reducible refine wpList_nil ?_)
          | (with_reducible refine then_normal ?_)
          | ((with_reducible refine g_move ?_); refine s_move hE rfl rfl ?_; clear hE a; intro a hE)
          | ((with_reducible refine g_assign ?_); refine s_assign hE rfl rfl ?_; clear hE a; intro a hE)
          )
        have hcc := crash6 hf1 (some ⟨go, 0, none⟩) (k + 1) (ones k) (fun w' L h => h.rdAt (k := L.length + 3) (by rw [List.getElem?_append_right (Nat.le_add_right _ _), Nat.add_sub_cancel_left]; rfl)) (by rw [ones_len]; omega) hS
        rw [ones_len] at hcc
        refine s_call hE rfl rfl rfl hcc ?_
        clear hcc
        rintro _ w ⟨E5, Qc, dc, rfl, hE5, hfE5, hlE5, hS⟩; clear hE a; intro a hE
        rw [← hE5] at hone
        repeat' (first

          | (with_reducible refine wp_seq ?_)
          | (with_reducible refine c_region ?_)
          | (with_reducible refine wpList_nil ?_)
          | (with_reducible refine then_normal ?_)
          | ((with_reducible refine g_move ?_); refine s_move hE rfl rfl ?_; clear hE a; intro a hE)
          )
        refine s_call hE rfl rfl rfl (read_ (j : Int) hfE5.at_.ok (by have := hfE5.at_.ops; omega) hS) ?_
        rintro _ w ⟨rfl, hS⟩; clear hE a; intro a hE
        have hbo := read_blk hfE5.at_.ok (j : Int)
        generalize E5.read (j : Int) = r at hE hS hone hbo
        obtain ⟨E6, b, e6⟩ := r
        dsimp only at hE hS hone hbo
        have hbl : (bys b).length = 64 := by rw [bys_length]; exact hbo.1
        have hbl2 := hbo.1
        repeat' (first

          | (with_reducible refine wpList_nil ?_)
          | (with_reducible refine then_normal ?_)
          | ((with_reducible refine g_move ?_); refine s_move hE rfl rfl ?_; clear hE a; intro a hE)
          | ((with_reducible refine g_assign ?_); refine s_assign hE rfl rfl ?_; clear hE a; intro a hE)
          | ((with_reducible refine g_extract ?_); refine s_extract hE rfl rfl rfl ?_; clear hE a; intro a hE)
          | ((with_reducible refine g_alloc ?_); refine s_allocS hE hS rfl rfl ?_; clear hE a hS; intro g a w hE hS)
          | ((with_reducible refine g_store ?_); (first | (refine s_storeW (k := 0) hS hE rfl rfl rfl (by assumption) (by first | rfl ) (by first | exact bys_one _ ) ?_) ); clear hS; intro w hS; simp only [List.set_cons_zero, List.set_cons_succ, Nat.add_zero] at hS)
          )
        replace hS := ((hS.drop 1).drop 1).drop 1
        simp only [List.eraseIdx_cons_succ, List.eraseIdx_cons_zero] at hS
        refine c_ordS hS 17 ((.rd 0 (.rd 1 (.rd 2 (.rd 3 (.rd 4 (.rd 5 (.rd 6 (.rd 7 (.rd 8 (.rd 9 (.rd 10 (.rd 11 (.rd 12 (.rd 13 (.rd 14 (.rd 15 (.rd 16 (.lt 17 .done))))))))))))))))))) mixed (by decide +kernel) ?_
        clear hS; intro w hS
        repeat' (first
          | (with_reducible refine o_rd rfl ?_)
          | ((with_reducible refine q_move ?_); refine d_val hE hS rfl (fun w hS => r_move hE rfl) ?_; clear hE a; intro a hE)
          | ((with_reducible refine q_bin .eql ?_); refine d_val hE hS rfl (fun w hS => r_eql hE rfl rfl) ?_; clear hE a; intro a hE)
          | ((with_reducible refine q_guard ?_); refine d_yes hE rfl rfl rfl ?_)
          | ((with_reducible refine q_guard ?_); refine d_no hE hS rfl rfl rfl rfl ?_; clear hE a; intro a hE)
          | ((with_reducible refine q_guard ?_); refine d_un hE hS rfl rfl rfl ?_; clear hE a; intro a hE)
          | ((with_reducible refine q_guard ?_); refine d_dec hE rfl rfl (fun hc hE2 => ?_) (fun hc hE2 => ?_) <;> (try omega) <;> (replace hE := hE2; clear hE2))
          | ((with_reducible refine q_guard ?_); refine d_bool hE rfl rfl (fun hc hE2 => ?_) (fun hc hE2 => ?_) <;> (replace hE := hE2; clear hE2))
          | ((with_reducible refine q_pick ?_); refine d_val hE hS rfl (fun w hS => r_pickT hE rfl rfl) ?_; clear hE a; intro a hE)
          | ((with_reducible refine q_pick ?_); refine d_val hE hS rfl (fun w hS => r_pickF hE rfl rfl) ?_; clear hE a; intro a hE)
          | ((with_reducible refine q_ia ?_); refine d_val hE hS rfl (fun w hS => r_idxR hE rfl rfl (by omega) (by omega) (by (first | exact hS.rdAt (k := 5) rfl | exact hS.rdAt (k := 10) rfl )) (by first | omega )) ?_; clear hE a; intro a hE)
          | ((with_reducible refine q_load ?_); refine d_val hE hS rfl (fun w hS => r_loadR hE rfl (by (first | exact hS.rdAt (k := 10) rfl )) (by first | exact hpk )) ?_; clear hE a; intro a hE)
          | ((with_reducible refine q_bin .eql ?_); refine d_val hE hS rfl (fun w hS => r_eqA hE rfl rfl (by first | assumption ) (by first | assumption )) ?_; clear hE a; intro a hE)
          | ((with_reducible refine o_lt rfl ?_))
          | ((with_reducible refine q_load ?_); refine d_val hE hS rfl (fun w hS => r_elemR hE rfl (by first | exact hS.rdAt (k := 2) rfl | exact hS.rdAt (k := 5) rfl ) (by first | exact hsegG| rfl) (by first | assumption) rfl) ?_; clear hE a; intro a hE)
          | ((with_reducible refine q_load ?_); (first | (refine d_val hE hS rfl (fun w hS => r_loadW (k := 0) hS hE rfl rfl (by assumption)) ?_) ); clear hE a; intro a hE)
          )
        all_goals
          repeat' (first

            | (with_reducible refine wpList_nil ?_)
            | ((with_reducible refine g_assign ?_); refine s_assign hE rfl rfl ?_; clear hE a; intro a hE)
            )
          refine o_backL ?_
          repeat' (first
            | (with_reducible refine o_done ?_)
            )
          repeat' (first

            | (with_reducible refine c_region ?_)
            | (with_reducible refine wpList_nil ?_)
            | (with_reducible refine then_normal ?_)
            | (with_reducible refine block_normal ?_)
            | ((with_reducible refine g_move ?_); refine s_move hE rfl rfl ?_; clear hE a; intro a hE)
            | ((with_reducible refine g_bin .add ?_); refine s_add hE rfl rfl rfl (by first  | exact wrap64_in (by omega) ) ?_; clear hE a; intro a hE)
            )
          replace hS := backL (D := D1) [_, _, _, _, _] (hS.tail.drop 3)
          simp only [List.eraseIdx_cons_succ, List.eraseIdx_cons_zero, List.cons_append, List.nil_append] at hS
        · exact ⟨q2 - 1, by omega, k + 1, true, by omega, .inl rfl, hS, hE.sub ⟨rfl, rfl, rfl, rfl, rfl, rfl, rfl, rfl, rfl, rfl, rfl, trivial⟩⟩
        · refine ⟨q2 - 1, by omega, k + 1, decide (x = b), by omega, ?_, hS, hE.sub ⟨rfl, rfl, rfl, rfl, rfl, rfl, rfl, rfl, rfl, rfl, rfl, trivial⟩⟩
          have hat : D1.pend[k].at_ = j := by omega
          rcases hfine with h | ⟨k', h, h1, h2, h3⟩
          · exact absurd h (by rw [show fine = false by assumption]; decide)
          · rcases Nat.lt_or_ge k k' with h4 | h4
            · exact .inr ⟨k', h, h4, h2, h3⟩
            · obtain rfl : k = k' := by omega
              exact .inl (decide_eq_true (h3.trans (hone hat).symm))
        · refine ⟨q2 - 1, by omega, k + 1, false, by omega, ?_, hS, hE.sub ⟨rfl, rfl, rfl, rfl, rfl, rfl, rfl, rfl, rfl, rfl, rfl, trivial⟩⟩
          rcases hfine with h | ⟨k', h, h1, h2, h3⟩
          · exact absurd h (by rw [show fine = false by assumption]; decide)
          · rcases Nat.lt_or_ge k k' with h4 | h4
            · exact .inr ⟨k', h, h4, h2, h3⟩
            · obtain rfl : k = k' := by omega
              exact absurd h2 (by omega)
      · obtain rfl : k = D1.pend.length := by omega
        have hft : fine = true := by
          rcases hfine with h | ⟨k', h, h1, _⟩
          · exact h
          · omega
        subst hft
        repeat' (first

          | (with_reducible refine wp_seq ?_)
          | (with_reducible refine c_region ?_)
          | (with_reducible refine wpList_nil ?_)
          | (with_reducible refine then_normal ?_)
          | (with_reducible refine wp_skip ?_)
          | (with_reducible refine block_normal ?_)
          | (with_reducible refine wp_exit ?_)
          | (with_reducible refine then_exit ?_)
          | (with_reducible refine block_same ?_)
          | ((with_reducible refine g_move ?_); refine s_move hE rfl rfl ?_; clear hE a; intro a hE)
          | ((with_reducible refine g_bin .lss ?_); refine s_lss hE rfl rfl rfl ?_; clear hE a; intro a hE)
          | ((with_reducible refine g_bin .add ?_); refine s_add hE rfl rfl rfl (by first  | exact wrap64_in (by omega) ) ?_; clear hE a; intro a hE)
          | ((with_reducible refine g_un .not ?_); refine s_notb hE rfl rfl ?_; clear hE a; intro a hE)
          | ((with_reducible refine g_cond ?_); refine c_false hE rfl ?_)
          | ((with_reducible refine g_cond ?_); refine c_dec hE rfl (fun hc => ?_) (fun hc => ?_) <;> try omega)
          )
        exact ⟨q - 1, by omega, j + 1, by omega, hS, hE.sub ⟨rfl, rfl, rfl, rfl, rfl, rfl, rfl, trivial⟩⟩
    · obtain rfl : j = 6 := by omega
      have hd4 := hfE4'.lv.dead
      have hl4 : E4'.pend.length = 0 := by rw [hp4]; rfl
      repeat' (first

        | (with_reducible refine wp_seq ?_)
        | (with_reducible refine c_region ?_)
        | (with_reducible refine wpList_nil ?_)
        | (with_reducible refine then_normal ?_)
        | (with_reducible refine wp_exit ?_)
        | (with_reducible refine then_exit ?_)
        | (with_reducible refine block_same ?_)
        | ((with_reducible refine g_move ?_); refine s_move hE rfl rfl ?_; clear hE a; intro a hE)
        | ((with_reducible refine g_bin .lss ?_); refine s_lss hE rfl rfl rfl ?_; clear hE a; intro a hE)
        | ((with_reducible refine g_cond ?_); refine c_false hE rfl ?_)
        )
      have hS2 := frontL (D := E4') ([_]) hS
      simp only [List.cons_append, List.nil_append] at hS2
      clear hS; have hS := hS2; clear hS2
      refine s_call hE rfl rfl rfl (pending hfE4'.at_.ok hS) ?_
      rw [hl4]
      rintro _ w ⟨Az, czz, rfl, hS⟩; clear hE a; intro a hE
      repeat' (first

        | ((with_reducible refine g_move ?_); refine s_move hE rfl rfl ?_; clear hE a; intro a hE)
        | ((with_reducible refine g_bin .eql ?_); refine s_eql hE rfl rfl rfl ?_; clear hE a; intro a hE)
        | ((with_reducible refine g_blt .len ?_); refine s_len hE rfl rfl ?_; clear hE a; intro a hE)
        | ((with_reducible refine g_guard ?_); refine gd_yes hE rfl rfl rfl ?_)
        )
      have hS2 := frontL (D := E4') ([_]) hS
      simp only [List.cons_append, List.nil_append] at hS2
      clear hS; have hS := hS2; clear hS2
      refine s_call hE rfl rfl rfl (ddead hS) ?_
      rintro _ w ⟨rfl, hS⟩; clear hE a; intro a hE
      rw [hd4] at hE
      repeat' (first

        | (with_reducible refine wpList_nil ?_)
        | (with_reducible refine then_normal ?_)
        | (with_reducible refine wp_ret ?_)
        | ((with_reducible refine g_assign ?_); refine s_assign hE rfl rfl ?_; clear hE a; intro a hE)
        | ((with_reducible refine g_un .not ?_); refine s_notb hE rfl rfl ?_; clear hE a; intro a hE)
        | ((with_reducible refine g_guard ?_); refine gd_yes hE rfl rfl rfl ?_)
        | ((with_reducible refine g_pick ?_); refine s_pickT hE rfl rfl rfl ?_; clear hE a; intro a hE)
        )
      exact ret1 hE rfl rfl ⟨rfl, hS.nil⟩
end
end Go.Proofs.Ytnnamckabjhflaa
