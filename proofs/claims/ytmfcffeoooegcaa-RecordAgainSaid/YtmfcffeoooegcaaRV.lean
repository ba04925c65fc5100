/-
  The law RecordBack.
-/
import Derived.Test.YtmfcffeoooegcaaRU
import Derived.Test.YtmfcffeoooegcaaRS
namespace Go.Proofs.Ytmfcffeoooegcaa
open Go.RowKit
set_option linter.unusedVariables false
set_option linter.unusedSimpArgs false
attribute [local irreducible] Rd hRow hBlk hRd hAll Fn hRdr
attribute [local simp] Rc.cells

theorem rec_enc_bs {r : Rc} (hw : r.wf) (hR : r.right) : Bs r.enc := by
  have hb : ∀ n x, Bs (beb n x) := fun n x => beb_bs n x
  obtain ⟨h1, h2, h3, h4, h5, h6, h7, h8, h9, h10, h11⟩ := hw
  obtain ⟨q1, q2, q3, q4, q5, q6, q7, q8, q9, q10, q11, q12⟩ := hR
  have o1 : Bs [r.k.toNat] := Bs.one (by omega)
  have o2 : Bs [r.p.toNat, r.s.toNat] := (Bs.one (x := r.p.toNat) (by omega)).append (Bs.one (x := r.s.toNat) (by omega))
  have o3 : Bs [r.o.length] := Bs.one (by omega)
  have o4 : Bs [r.w.length] := Bs.one (by omega)
  unfold Rc.enc
  refine (((o1.append (hb _ _)).append (hb _ _)).append (hb _ _)).append ?_
  split
  · exact ((((o2.append o3).append h8).append o4).append h9)
  · split
    · exact (((o2.append o4).append h9).append (hb _ _))
    · exact Bs.nil
theorem max_tmod (k : Int) (n : Nat) : (if k < 0 then 0 else k).tmod (n : Int) = ((k.toNat % n : Nat) : Int) := by
  split
  · rename_i h
    have : k.toNat = 0 := by omega
    rw [this, Nat.zero_mod]; simp
  · rename_i h
    obtain ⟨m, rfl⟩ := Int.eq_ofNat_of_zero_le (show 0 ≤ k by omega)
    exact tmod_nat _ _
set_option maxHeartbeats 4000000 in
theorem back (r : Rc) (k : Int) (hk : -9223372036854775808 ≤ k ∧ k ≤ 9223372036854775807) (A : Option Addr) (c : Nat) (ys : List Nat) (w0 : World) (hrd : r.rd w0) (hw : r.wf) (hr : Rd w0 A (bys ys)) (hx : Bs ys) (hcap : ys.length ≤ c) (hl : ys.length ≤ 140737488351232) : Fn Try.prog 5 [.agg r.cells.toArray, .int .i64 k, .slice A ys.length c] w0 fun v w' => v = .bool true ∧ St w0 w' [] := by
  have he := fun h : r.right => Rc.enc_length h
  refine enter 74 Try.func5 rfl rfl rfl ?_
  intro a hE
  have hS := St.start w0
  repeat' (first
    | (with_reducible refine wp_seq ?_)
    | (with_reducible refine c_region ?_)
    | (with_reducible refine wpList_nil ?_)
    | (with_reducible refine then_normal ?_)
    | (with_reducible refine wp_skip ?_)
    | ((with_reducible refine g_assign ?_); refine s_assign hE rfl rfl ?_; clear hE a; intro a hE)
    | ((with_reducible refine g_un .not ?_); refine s_notb hE rfl rfl ?_; clear hE a; intro a hE)
    | ((with_reducible refine g_cond ?_); refine c_false hE rfl ?_)
    | ((with_reducible refine g_call (f := 9) ?_); refine s_call hE rfl rfl rfl (wakes w) ?_; rintro _ w ⟨rfl, hS1⟩; clear hE a; intro a hE; replace hS := hS.frame hS1; clear hS1; try simp only [List.cons_append, List.nil_append] at hS)
    | ((with_reducible refine g_box ?_); refine s_boxS hE hS rfl rfl ?_; clear hE a hS; intro g a w hE hS)
    | ((with_reducible refine g_load ?_); (first | (refine s_loadW (k := 0) hS hE rfl rfl rfl rfl ?_) ); clear hE a; intro a hE)
    )
  refine s_litA hE hS rfl rfl rfl rfl rfl ?_
  clear hE a hS; intro g a w hE hS
  repeat' (first
    | (with_reducible refine wp_seq ?_)
    | (with_reducible refine c_region ?_)
    | (with_reducible refine wpList_nil ?_)
    | (with_reducible refine then_normal ?_)
    | (with_reducible refine wp_skip ?_)
    | (with_reducible refine wp_ret ?_)
    | (with_reducible refine then_ret ?_)
    | ((with_reducible refine g_move ?_); refine s_move hE rfl rfl ?_; clear hE a; intro a hE)
    | ((with_reducible refine g_assign ?_); refine s_assign hE rfl rfl ?_; clear hE a; intro a hE)
    | ((with_reducible refine g_bin .gtr ?_); refine s_gtr hE rfl rfl rfl ?_; clear hE a; intro a hE)
    | ((with_reducible refine g_blt .len ?_); refine s_len hE rfl rfl ?_; clear hE a; intro a hE)
    | ((with_reducible refine g_guard ?_); refine gd_yes hE rfl rfl rfl ?_)
    | ((with_reducible refine g_guard ?_); refine gd_no hE rfl rfl rfl rfl ?_; clear hE a; intro a hE)
    | ((with_reducible refine g_guard ?_); refine gd_dec hE rfl rfl (fun hc hE2 => ?_) (fun hc hE2 => ?_) <;> (try omega) <;> (replace hE := hE2; clear hE2))
    | ((with_reducible refine g_pick ?_); refine s_pickT hE rfl rfl rfl ?_; clear hE a; intro a hE)
    | ((with_reducible refine g_pick ?_); refine s_pickF hE rfl rfl rfl ?_; clear hE a; intro a hE)
    | ((with_reducible refine g_cond ?_); refine c_true hE rfl ?_)
    | ((with_reducible refine g_cond ?_); refine c_dec hE rfl (fun hc => ?_) (fun hc => ?_) <;> try omega)
    | ((with_reducible refine g_call (f := 10) ?_); refine s_call hE rfl rfl rfl (large _ _ [r] w (hS.rdAt (k := 0) rfl) (by show (1 : Nat) ≤ 9223372036854775806; decide)) ?_; rintro _ w ⟨rfl, hS1⟩; clear hE a; intro a hE; replace hS := hS.frame hS1; clear hS1; try simp only [List.cons_append, List.nil_append] at hS)
    | ((with_reducible refine g_load ?_); (first | (refine s_loadW (k := 1) hS hE rfl rfl rfl rfl ?_) ); clear hE a; intro a hE)
    )
  · exact ret1 hE rfl rfl ⟨rfl, hS.nil⟩
  · exact ret1 hE rfl rfl ⟨rfl, hS.nil⟩
  by_cases hR : r.right
  · have he := he hR
    refine s_call hE rfl rfl rfl (encode_ok r w (Rc.rd_st hrd hS) hw hR) ?_
    rintro _ w ⟨A1, c1, rfl, hS1⟩; clear hE a; intro a hE; replace hS := hS.frame hS1; clear hS1; try simp only [List.cons_append, List.nil_append] at hS
    repeat' (first
      | (with_reducible refine wp_seq ?_)
      | (with_reducible refine c_region ?_)
      | (with_reducible refine wpList_nil ?_)
      | (with_reducible refine then_normal ?_)
      | (with_reducible refine wp_skip ?_)
      | ((with_reducible refine g_move ?_); refine s_move hE rfl rfl ?_; clear hE a; intro a hE)
      | ((with_reducible refine g_assign ?_); refine s_assign hE rfl rfl ?_; clear hE a; intro a hE)
      | ((with_reducible refine g_bin .neq ?_); refine s_neq hE rfl rfl rfl ?_; clear hE a; intro a hE)
      | ((with_reducible refine g_extract ?_); refine s_extract hE rfl rfl rfl ?_; clear hE a; intro a hE)
      | ((with_reducible refine g_cond ?_); refine c_false hE rfl ?_)
      | ((with_reducible refine g_lit ?_); refine s_lit hE hS rfl rfl rfl rfl rfl (by simp [Value.oneCell']) rfl ?_; clear hE a hS; intro g a w hE hS)
      )
    refine s_appendB0 (k := 0) (ys := r.enc) hE hS rfl rfl rfl (hS.rdAt (k := 1) rfl) rfl rfl (by omega) rfl rfl rfl ?_
    clear hE a hS; intro A2 c2 a w hE hS
    repeat' (first
      | ((with_reducible refine g_move ?_); refine s_move hE rfl rfl ?_; clear hE a; intro a hE)
      | ((with_reducible refine g_blt .append ?_); (first | (refine s_appendAt (k := 0) hE hS rfl rfl rfl (by (first | exact Rd.st (by assumption) hS )) (by (first | (rw [bys_length, Nat.mul_one]))) (by (first | exact bys_one _ )) (by omega) rfl rfl rfl rfl ?_) ); clear hE a hS; intro A c a w hE hS; simp only [List.set_cons_zero, List.set_cons_succ, Nat.add_zero] at hS)
      )
    have e1 : r.enc.length + ys.length = (r.enc ++ ys).length := List.length_append.symm
    rw [e1] at hS hE; rw [← bys_append] at hS
    refine s_call hE rfl rfl rfl (decode _ _ (r.enc ++ ys) w (hS.rdAt (k := 0) rfl) ((rec_enc_bs hw hR).append hx) (by rw [← e1]; omega)) ?_
    rintro v w ⟨A3, c3, B3, d3, hv, hS1⟩
    rw [decM_back hw hR ys] at hv hS1; dsimp only at hv hS1; subst hv; clear hE a; intro a hE; replace hS := hS.frame hS1; clear hS1; try simp only [List.cons_append, List.nil_append] at hS
    repeat' (first
      | (with_reducible refine wp_seq ?_)
      | (with_reducible refine c_region ?_)
      | (with_reducible refine wpList_nil ?_)
      | (with_reducible refine then_normal ?_)
      | ((with_reducible refine g_move ?_); refine s_move hE rfl rfl ?_; clear hE a; intro a hE)
      | ((with_reducible refine g_assign ?_); refine s_assign hE rfl rfl ?_; clear hE a; intro a hE)
      | ((with_reducible refine g_blt .len ?_); refine s_len hE rfl rfl ?_; clear hE a; intro a hE)
      | ((with_reducible refine g_blt .max ?_); refine s_max hE rfl rfl rfl (by first  | rfl) ?_; clear hE a; intro a hE)
      | ((with_reducible refine g_extract ?_); refine s_extract hE rfl rfl rfl ?_; clear hE a; intro a hE)
      | ((with_reducible refine g_alloc ?_); refine s_allocS hE hS rfl rfl ?_; clear hE a hS; intro g a w hE hS)
      | ((with_reducible refine g_store ?_); (first | (refine s_storeW (k := 0) hS hE rfl rfl rfl rfl rfl (by simp [Value.oneCell']) ?_) ); clear hS; intro w hS; simp only [List.set_cons_zero, List.set_cons_succ, Nat.add_zero] at hS)
      )
    have hp := enc_pos (r := r)
    refine s_rem (r := ((k.toNat % r.enc.length : Nat) : Int)) hE rfl rfl (by omega) rfl (max_tmod _ _) ?_
    clear hE a; intro a hE
    have hj := Nat.mod_lt k.toNat hp
    generalize hjj : k.toNat % r.enc.length = j at hE hj
    have hc1 := (hS.lenAt (k := 4) rfl).2.1
    refine s_val hE rfl rfl rfl (r_cutH (h := (j : Int)) hE rfl rfl (by omega)) ?_
    clear hE a; intro a hE
    rw [Int.toNat_natCast] at hE
    have e2 : (r.enc.take j).length = j := by rw [List.length_take]; omega
    have hrj : Rd w A1 (bys (r.enc.take j)) := by rw [bys_take]; exact (hS.rdAt (k := 4) rfl).take j
    have hd := decode A1 c1 (r.enc.take j) w hrj ((rec_enc_bs hw hR).take j) (by omega)
    rw [e2] at hd
    refine s_call hE rfl rfl rfl hd ?_
    rintro v w ⟨A4, c4, B4, d4, hv, hS1⟩
    rw [decM_short hw hR hj] at hv hS1; dsimp only at hv hS1; subst hv; clear hE a; intro a hE; replace hS := hS.frame hS1; clear hS1; try simp only [List.cons_append, List.nil_append] at hS
    repeat' (first
      | (with_reducible refine wp_seq ?_)
      | (with_reducible refine c_region ?_)
      | (with_reducible refine wpList_nil ?_)
      | (with_reducible refine then_normal ?_)
      | ((with_reducible refine g_move ?_); refine s_move hE rfl rfl ?_; clear hE a; intro a hE)
      | ((with_reducible refine g_assign ?_); refine s_assign hE rfl rfl ?_; clear hE a; intro a hE)
      | ((with_reducible refine g_bin .eql ?_); refine s_eql hE rfl rfl rfl ?_; clear hE a; intro a hE)
      | ((with_reducible refine g_blt .len ?_); refine s_len hE rfl rfl ?_; clear hE a; intro a hE)
      | ((with_reducible refine g_extract ?_); refine s_extract hE rfl rfl rfl ?_; clear hE a; intro a hE)
      | ((with_reducible refine g_guard ?_); refine gd_yes hE rfl rfl rfl ?_)
      | ((with_reducible refine g_guard ?_); refine gd_dec hE rfl rfl (fun hc hE2 => ?_) (fun hc hE2 => ?_) <;> (try omega) <;> (replace hE := hE2; clear hE2))
      | ((with_reducible refine g_pick ?_); refine s_pickT hE rfl rfl rfl ?_; clear hE a; intro a hE)
      | ((with_reducible refine g_alloc ?_); refine s_allocS hE hS rfl rfl ?_; clear hE a hS; intro g a w hE hS)
      | ((with_reducible refine g_load ?_); (first | (refine s_loadW (k := 3) hS hE rfl rfl rfl rfl ?_) | (refine s_loadW (k := 9) hS hE rfl rfl rfl rfl ?_)); clear hE a; intro a hE)
      | ((with_reducible refine g_store ?_); (first | (refine s_storeW (k := 0) hS hE rfl rfl rfl rfl rfl (by simp [Value.oneCell']) ?_) ); clear hS; intro w hS; simp only [List.set_cons_zero, List.set_cons_succ, Nat.add_zero] at hS)
      )
    · refine s_call hE rfl rfl rfl (same ((r.at_ none 0 none 0).at_ A3 c3 B3 d3) r w ⟨hS.rdAt (k := 4) rfl, hS.rdAt (k := 5) rfl⟩ (Rc.at_wf hw (hS.lenAt (k := 4) rfl).2.1 (hS.lenAt (k := 5) rfl).2.1) (Rc.rd_st hrd hS) hw) ?_
      rintro _ w ⟨rfl, hS1⟩; clear hE a; intro a hE; replace hS := hS.frame hS1; clear hS1; try simp only [List.cons_append, List.nil_append] at hS
      rw [decide_eq_true (show ((r.at_ none 0 none 0).at_ A3 c3 B3 d3).same r from ⟨rfl, rfl, rfl, rfl, rfl, rfl, rfl, rfl, rfl⟩)] at hE
      repeat' (first
        | (with_reducible refine wpList_nil ?_)
        | (with_reducible refine then_normal ?_)
        | (with_reducible refine wp_ret ?_)
        | ((with_reducible refine g_move ?_); refine s_move hE rfl rfl ?_; clear hE a; intro a hE)
        | ((with_reducible refine g_assign ?_); refine s_assign hE rfl rfl ?_; clear hE a; intro a hE)
        | ((with_reducible refine g_bin .eql ?_); refine s_eql hE rfl rfl rfl ?_; clear hE a; intro a hE)
        | ((with_reducible refine g_guard ?_); refine gd_yes hE rfl rfl rfl ?_)
        | ((with_reducible refine g_pick ?_); refine s_pickT hE rfl rfl rfl ?_; clear hE a; intro a hE)
        )
      exact ret1 hE rfl rfl ⟨rfl, hS.nil⟩
    all_goals skip
  · refine s_call hE rfl rfl rfl (encode_no r w (Rc.rd_st hrd hS) hw hR) ?_
    rintro _ w ⟨rfl, hS1⟩; clear hE a; intro a hE; replace hS := hS.frame hS1; clear hS1; try simp only [List.cons_append, List.nil_append] at hS
    repeat' (first
      | (with_reducible refine wp_seq ?_)
      | (with_reducible refine c_region ?_)
      | (with_reducible refine wpList_nil ?_)
      | (with_reducible refine then_normal ?_)
      | (with_reducible refine wp_ret ?_)
      | (with_reducible refine then_ret ?_)
      | ((with_reducible refine g_move ?_); refine s_move hE rfl rfl ?_; clear hE a; intro a hE)
      | ((with_reducible refine g_assign ?_); refine s_assign hE rfl rfl ?_; clear hE a; intro a hE)
      | ((with_reducible refine g_bin .eql ?_); refine s_eql hE rfl rfl rfl ?_; clear hE a; intro a hE)
      | ((with_reducible refine g_bin .neq ?_); refine s_neq hE rfl rfl rfl ?_; clear hE a; intro a hE)
      | ((with_reducible refine g_blt .len ?_); refine s_len hE rfl rfl ?_; clear hE a; intro a hE)
      | ((with_reducible refine g_extract ?_); refine s_extract hE rfl rfl rfl ?_; clear hE a; intro a hE)
      | ((with_reducible refine g_cond ?_); refine c_true hE rfl ?_)
      )
    exact ret1 hE rfl rfl ⟨rfl, hS.nil⟩
theorem law_RecordBack (y : RT) (k : Int) (A : Option Addr) (c : Nat) (ys : List Nat) (w0 : World) (h : y.ok w0) (hk : (Lit.int .i64 k).wf = true) (hr : Rd w0 A (bys ys)) (hx : Bs ys) (hcap : ys.length ≤ c) (hl : ys.length ≤ 140737488351232) : Fn Try.prog 5 [.agg y.cells.toArray, .int .i64 k, .slice A ys.length c] w0 fun v w' => v = .bool true ∧ St w0 w' [] := by
  rw [RT.cells_rc h]
  exact back y.rc k (wf_i64 hk) A c ys w0 (RT.rc_rd h) (RT.rc_wf h) hr hx hcap hl
end Go.Proofs.Ytmfcffeoooegcaa
