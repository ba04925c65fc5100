/-
  Contracts of record: the document's reading of a record with rows.
-/
import Derived.Test.YtmfcffeoooegcaaRP
namespace Go.Proofs.Ytmfcffeoooegcaa
open Go.RowKit
set_option linter.unusedVariables false
set_option linter.unusedSimpArgs false
attribute [local irreducible] Rd hRow hBlk hRd hAll Fn hRdr

theorem bys_octE {xs : List Nat} {i : Int} {k : Nat} (hi : i = (k : Int)) (h : k < xs.length) : (bys xs)[i.toNat * 1]? = some (.int .u8 ((oct xs k : Nat) : Int)) := by
  subst hi; exact bys_octI h
set_option maxHeartbeats 4000000 in
theorem rdecode1 (A : Option Addr) (c : Nat) (xs : List Nat) (w0 : World) (hr : Rd w0 A (bys xs)) (hx : Bs xs) (hcap : xs.length ≤ c) (hl : xs.length ≤ 140737488355328) (h0 : ¬ xs = []) (hk : oct xs 0 = 1) (hn : 25 ≤ xs.length) :
    Fn Try.prog 18 [.slice A xs.length c] w0 (rdecPost xs A w0) := by
  refine enter 140 Try.func18 rfl rfl rfl ?_
  intro a hE
  have hS := St.start w0
  have hl0 : 0 < xs.length := List.length_pos_iff.mpr h0
  have ho := oct_lt hx 0
  have ho25 := oct_lt hx 25
  have ho26 := oct_lt hx 26
  have ho27 := oct_lt hx 27
  have ho28 := oct_lt hx (28 + oct xs 27)
  repeat' (first
    | (with_reducible refine wp_seq ?_)
    | (with_reducible refine c_region ?_)
    | (with_reducible refine wpList_nil ?_)
    | (with_reducible refine then_normal ?_)
    | (with_reducible refine wp_skip ?_)
    | ((with_reducible refine g_move ?_); refine s_move hE rfl rfl ?_; clear hE a; intro a hE)
    | ((with_reducible refine g_assign ?_); refine s_assign hE rfl rfl ?_; clear hE a; intro a hE)
    | ((with_reducible refine g_bin .lss ?_); refine s_lss hE rfl rfl rfl ?_; clear hE a; intro a hE)
    | ((with_reducible refine g_bin .gtr ?_); refine s_gtr hE rfl rfl rfl ?_; clear hE a; intro a hE)
    | ((with_reducible refine g_bin .eql ?_); refine s_eql hE rfl rfl rfl ?_; clear hE a; intro a hE)
    | ((with_reducible refine g_conv ?_); refine s_conv hE rfl rfl (by first | exact wrap64_in (by omega) ) ?_; clear hE a; intro a hE)
    | ((with_reducible refine g_blt .len ?_); refine s_len hE rfl rfl ?_; clear hE a; intro a hE)
    | ((with_reducible refine g_fa ?_); refine s_fieldL hE rfl rfl rfl ?_; clear hE a; intro a hE)
    | ((with_reducible refine g_guard ?_); refine gd_yes hE rfl rfl rfl ?_)
    | ((with_reducible refine g_guard ?_); refine gd_dec hE rfl rfl (fun hc hE2 => ?_) (fun hc hE2 => ?_) <;> (try omega) <;> (replace hE := hE2; clear hE2))
    | ((with_reducible refine g_pick ?_); refine s_pickF hE rfl rfl rfl ?_; clear hE a; intro a hE)
    | ((with_reducible refine g_cond ?_); refine c_dec hE rfl (fun hc => ?_) (fun hc => ?_) <;> try omega)
    | ((with_reducible refine g_ia ?_); refine s_idxR hE rfl rfl (by omega) (by omega) (by (first | exact Rd.st (by assumption) hS )) (by first | (simp only [bys_length]; omega)) rfl ?_; clear hE a; intro a hE)
    | ((with_reducible refine g_load ?_); refine s_loadR hE rfl (by (first | exact Rd.st (by assumption) hS )) (by first | exact bys_octI (k := 0) hl0 ) rfl ?_; clear hE a; intro a hE)
    | ((with_reducible refine g_load ?_); (first | (refine s_loadB (k := 0) hS hE rfl rfl rfl rfl ?_) ); clear hE a; intro a hE)
    | ((with_reducible refine g_alloc ?_); refine s_allocS hE hS rfl rfl ?_; clear hE a hS; intro g a w hE hS)
    | ((with_reducible refine g_build ?_); refine s_build [_, _, _, _, _, _, _, _, _] hE rfl rfl rfl ?_; clear hE a; intro a hE)
    | ((with_reducible refine g_store ?_); (first | (refine s_storeW (k := 0) hS hE rfl rfl rfl rfl rfl (by simp [Value.oneCell']) ?_) ); clear hS; intro w hS; simp only [List.set_cons_zero, List.set_cons_succ, Nat.add_zero] at hS)
    )
  all_goals try (exfalso; omega)
  refine c_ordK hS 1 rfl 13 ((.rd 0 (.rd 1 (.rd 3 (.rd 4 (.rd 6 (.rd 7 (.ef 2 (.rd 9 (.ef 5 (.ef 8 (.ef 10 (.rd 11 (.ef 12 (.lt 13 (.lt 14 .done)))))))))))))))) mixed (by decide +kernel) ?_
  clear hS; intro w hF hS
  repeat' (first
    | (with_reducible refine o_rd rfl ?_)
    | ((with_reducible refine q_move ?_); refine d_val hE hS rfl (fun w hS => r_move hE rfl) ?_; clear hE a; intro a hE)
    | ((with_reducible refine q_slice ?_); refine d_val hE hS rfl (fun w hS => r_cutLH hE rfl rfl rfl (by omega) (by omega)) ?_; clear hE a; intro a hE)
    | ((with_reducible refine o_ef rfl ?_))
    )
  rw [show (9 : Int).toNat - (1 : Int).toNat = ((xs.drop 1).take 8).length from by rw [List.length_take, List.length_drop]; omega, show (17 : Int).toNat - (9 : Int).toNat = ((xs.drop 9).take 8).length from by rw [List.length_take, List.length_drop]; omega, show (25 : Int).toNat - (17 : Int).toNat = ((xs.drop 17).take 8).length from by rw [List.length_take, List.length_drop]; omega] at hE
  refine s_call hE rfl rfl rfl (rnumber _ _ ((xs.drop 1).take 8) w ((hr.st hF).cutB hcap (l := 1) 8) (bs_cut hx _ _) (cut_len _ _ _)) ?_
  rintro _ w ⟨rfl, hS1⟩; clear hE a; intro a hE; replace hF := hF.frame hS1; clear hS1; simp only [List.nil_append] at hF
  refine wpList_nil ?_
  refine o_back _ (fun _ h => h) (hF.only 1 rfl) ?_
  clear hS
  have hS := hF.only 1 rfl
  repeat' (first
    | (with_reducible refine o_rd rfl ?_)
    | ((with_reducible refine q_fa ?_); refine d_val hE hS rfl (fun w hS => r_fieldL hE rfl rfl) ?_; clear hE a; intro a hE)
    | ((with_reducible refine o_ef rfl ?_))
    )
  refine s_call hE rfl rfl rfl (rnumber _ _ ((xs.drop 9).take 8) w ((hr.st hF).cutB hcap (l := 9) 8) (bs_cut hx _ _) (cut_len _ _ _)) ?_
  rintro _ w ⟨rfl, hS1⟩; clear hE a; intro a hE; replace hF := hF.frame hS1; clear hS1; simp only [List.nil_append] at hF
  refine wpList_nil ?_
  refine o_back _ (fun _ h => h) (hF.only 1 rfl) ?_
  clear hS
  have hS := hF.only 1 rfl
  repeat' (first
    | ((with_reducible refine o_ef rfl ?_))
    )
  refine s_call hE rfl rfl rfl (rnumber _ _ ((xs.drop 17).take 8) w ((hr.st hF).cutB hcap (l := 17) 8) (bs_cut hx _ _) (cut_len _ _ _)) ?_
  rintro _ w ⟨rfl, hS1⟩; clear hE a; intro a hE; replace hF := hF.frame hS1; clear hS1; simp only [List.nil_append] at hF
  refine wpList_nil ?_
  refine o_back _ (fun _ h => h) (hF.only 1 rfl) ?_
  clear hS
  have hS := hF.only 1 rfl
  repeat' (first
    | ((with_reducible refine o_ef rfl ?_))
    )
  refine g_store ?_
  refine s_storeB (k := 0) hF hE rfl rfl rfl rfl rfl rfl ?_
  clear hF; intro w hF; simp only [List.set_cons_zero, List.set_cons_succ] at hF
  refine wpList_nil ?_
  refine o_back _ (fun _ h => h) (hF.only 1 rfl) ?_
  clear hS
  have hS := hF.only 1 rfl
  repeat' (first
    | (with_reducible refine o_rd rfl ?_)
    | ((with_reducible refine q_fa ?_); refine d_val hE hS rfl (fun w hS => r_fieldL hE rfl rfl) ?_; clear hE a; intro a hE)
    | ((with_reducible refine o_ef rfl ?_))
    )
  refine g_store ?_
  refine s_storeB (k := 0) hF hE rfl rfl rfl rfl rfl rfl ?_
  clear hF; intro w hF; simp only [List.set_cons_zero, List.set_cons_succ] at hF
  refine wpList_nil ?_
  refine o_back _ (fun _ h => h) (hF.only 1 rfl) ?_
  clear hS
  have hS := hF.only 1 rfl
  repeat' (first
    | ((with_reducible refine o_lt rfl ?_))
    )
  clear hS
  have hS := hF
  clear hF
  repeat' (first
    | (with_reducible refine wp_seq ?_)
    | (with_reducible refine c_region ?_)
    | (with_reducible refine wpList_nil ?_)
    | (with_reducible refine then_normal ?_)
    | (with_reducible refine wp_skip ?_)
    | (with_reducible refine wp_ret ?_)
    | (with_reducible refine then_ret ?_)
    | ((with_reducible refine g_move ?_); refine s_move hE rfl rfl ?_; clear hE a; intro a hE)
    | ((with_reducible refine g_assign ?_); refine s_assign hE rfl rfl ?_; clear hE a; intro a hE)
    | ((with_reducible refine g_bin .lss ?_); refine s_lss hE rfl rfl rfl ?_; clear hE a; intro a hE)
    | ((with_reducible refine g_bin .leq ?_); refine s_leq hE rfl rfl rfl ?_; clear hE a; intro a hE)
    | ((with_reducible refine g_blt .len ?_); refine s_len hE rfl rfl ?_; clear hE a; intro a hE)
    | ((with_reducible refine g_fa ?_); refine s_fieldL hE rfl rfl rfl ?_; clear hE a; intro a hE)
    | ((with_reducible refine g_cond ?_); refine c_dec hE rfl (fun hc => ?_) (fun hc => ?_) <;> try omega)
    | ((with_reducible refine g_load ?_); (first | (refine s_loadB (k := 0) hS hE rfl rfl rfl rfl ?_) ); clear hE a; intro a hE)
    | ((with_reducible refine g_store ?_); (first | (refine s_storeB (k := 0) hS hE rfl rfl rfl rfl rfl rfl ?_) ); clear hS; intro w hS; simp only [List.set_cons_zero, List.set_cons_succ, Nat.add_zero] at hS)
    | ((with_reducible refine g_build ?_); refine s_build [_, _, _, _, _, _, _, _, _] hE rfl rfl rfl ?_; clear hE a; intro a hE)
    | ((with_reducible refine g_store ?_); (first | (refine s_storeW (k := 1) hS hE rfl rfl rfl rfl rfl (by simp [Value.oneCell']) ?_) ); clear hS; intro w hS; simp only [List.set_cons_zero, List.set_cons_succ, Nat.add_zero] at hS)
    | (with_reducible refine o_done ?_)
    | ((with_reducible refine o_lt rfl ?_))
    | ((with_reducible refine o_backL ?_))
    )
  all_goals try (exfalso; omega)
  · exact retG (vs := [_, _, _]) hE rfl ⟨⟨_, rfl, res_W (k := 1) hS rfl rfl⟩, rfl, rfl, trivial⟩ (rdecZ (decM_none h0 (by omega) (parse1_none hk (by omega))) rfl hS.nil)
  · refine c_ordK hS 1 rfl 10 ((.rd 0 (.rd 1 (.rd 2 (.rd 3 (.rd 4 (.rd 5 (.rd 6 (.rd 7 (.rd 8 (.ef 9 (.lt 10 (.lt 11 .done))))))))))))) mixed (by decide +kernel) ?_
    clear hS; intro w hF hS
    repeat' (first
      | (with_reducible refine o_rd rfl ?_)
      | ((with_reducible refine q_move ?_); refine d_val hE hS rfl (fun w hS => r_move hE rfl) ?_; clear hE a; intro a hE)
      | ((with_reducible refine q_conv ?_); refine d_val hE hS rfl (fun w hS => r_conv hE rfl (by first | exact wrap64_in (by omega) )) ?_; clear hE a; intro a hE)
      | ((with_reducible refine q_fa ?_); refine d_val hE hS rfl (fun w hS => r_fieldL hE rfl rfl) ?_; clear hE a; intro a hE)
      | ((with_reducible refine q_ia ?_); refine d_val hE hS rfl (fun w hS => r_idxR hE rfl rfl (by omega) (by omega) (by (first | exact Rd.st (by assumption) hS )) (by first | (simp only [bys_length]; omega))) ?_; clear hE a; intro a hE)
      | ((with_reducible refine q_load ?_); refine d_val hE hS rfl (fun w hS => r_loadR hE rfl (by (first | exact Rd.st (by assumption) hS )) (by first | exact bys_octE (k := 25) (by omega) (by omega) | exact bys_octE (k := 26) (by omega) (by omega))) ?_; clear hE a; intro a hE)
      | ((with_reducible refine o_ef rfl ?_))
      )
    refine g_store ?_
    refine s_storeB (k := 0) hF hE rfl rfl rfl rfl rfl rfl ?_
    clear hF; intro w hF; simp only [List.set_cons_zero, List.set_cons_succ] at hF
    refine wpList_nil ?_
    refine o_back _ (fun _ h => h) (hF.only 1 rfl) ?_
    clear hS
    have hS := hF.only 1 rfl
    repeat' (first
      | ((with_reducible refine o_lt rfl ?_))
      )
    clear hS
    have hS := hF
    clear hF
    repeat' (first
      | (with_reducible refine wp_seq ?_)
      | (with_reducible refine c_region ?_)
      | (with_reducible refine wpList_nil ?_)
      | (with_reducible refine then_normal ?_)
      | (with_reducible refine wp_skip ?_)
      | (with_reducible refine wp_ret ?_)
      | (with_reducible refine then_ret ?_)
      | ((with_reducible refine g_move ?_); refine s_move hE rfl rfl ?_; clear hE a; intro a hE)
      | ((with_reducible refine g_assign ?_); refine s_assign hE rfl rfl ?_; clear hE a; intro a hE)
      | ((with_reducible refine g_bin .lss ?_); refine s_lss hE rfl rfl rfl ?_; clear hE a; intro a hE)
      | ((with_reducible refine g_bin .eql ?_); refine s_eql hE rfl rfl rfl ?_; clear hE a; intro a hE)
      | ((with_reducible refine g_bin .add ?_); refine s_add hE rfl rfl rfl (by first | exact wrap64_in (by omega) ) ?_; clear hE a; intro a hE)
      | ((with_reducible refine g_bin .sub ?_); refine s_sub hE rfl rfl rfl (by first | exact wrap64_in (by omega) ) ?_; clear hE a; intro a hE)
      | ((with_reducible refine g_conv ?_); refine s_conv hE rfl rfl (by first | exact wrap64_in (by omega) ) ?_; clear hE a; intro a hE)
      | ((with_reducible refine g_blt .len ?_); refine s_len hE rfl rfl ?_; clear hE a; intro a hE)
      | ((with_reducible refine g_fa ?_); refine s_fieldL hE rfl rfl rfl ?_; clear hE a; intro a hE)
      | ((with_reducible refine g_cond ?_); refine c_dec hE rfl (fun hc => ?_) (fun hc => ?_) <;> try omega)
      | ((with_reducible refine g_ia ?_); refine s_idxR hE rfl rfl (by omega) (by omega) (by (first | exact Rd.st (by assumption) hS )) (by first | (simp only [bys_length]; omega)) rfl ?_; clear hE a; intro a hE)
      | ((with_reducible refine g_load ?_); refine s_loadR hE rfl (by (first | exact Rd.st (by assumption) hS )) (by first | exact bys_octE (k := 27) (by omega) (by omega) | exact bys_octE (k := 28 + oct xs 27) (by omega) (by omega) ) rfl ?_; clear hE a; intro a hE)
      | ((with_reducible refine g_load ?_); (first | (refine s_loadB (k := 0) hS hE rfl rfl rfl rfl ?_) ); clear hE a; intro a hE)
      | ((with_reducible refine g_store ?_); (first | (refine s_storeB (k := 0) hS hE rfl rfl rfl rfl rfl rfl ?_) ); clear hS; intro w hS; simp only [List.set_cons_zero, List.set_cons_succ, Nat.add_zero] at hS)
      | ((with_reducible refine g_build ?_); refine s_build [_, _, _, _, _, _, _, _, _] hE rfl rfl rfl ?_; clear hE a; intro a hE)
      | ((with_reducible refine g_load ?_); (first | (refine s_loadW (k := 0) hS hE rfl rfl rfl rfl ?_) ); clear hE a; intro a hE)
      | ((with_reducible refine g_store ?_); (first | (refine s_storeW (k := 1) hS hE rfl rfl rfl rfl rfl (by simp [Value.oneCell']) ?_) ); clear hS; intro w hS; simp only [List.set_cons_zero, List.set_cons_succ, Nat.add_zero] at hS)
      | ((with_reducible refine g_slice ?_); refine s_val hE rfl rfl rfl (r_cutLH hE rfl rfl rfl (by omega) (by omega)) ?_; clear hE a; intro a hE)
      | (with_reducible refine o_done ?_)
      | ((with_reducible refine o_lt rfl ?_))
      | ((with_reducible refine o_backL ?_))
      )
    · exact retG (vs := [_, _, _]) hE rfl ⟨⟨_, rfl, res_W (k := 1) hS rfl rfl⟩, rfl, rfl, trivial⟩ (rdecZ (decM_none h0 (by omega) (parse1_none hk (by omega))) rfl hS.nil)
    · exact retG (vs := [_, _, _]) hE rfl ⟨⟨_, rfl, res_W (k := 1) hS rfl rfl⟩, rfl, rfl, trivial⟩ (rdecZ (decM_none h0 (by omega) (parse1_none hk (by omega))) rfl hS.nil)
    · have l1 : ((xs.drop 28).take (oct xs 27)).length = oct xs 27 := by rw [List.length_take, List.length_drop]; omega
      have l2 : ((xs.drop (28 + oct xs 27 + 1)).take (oct xs (28 + oct xs 27))).length = oct xs (28 + oct xs 27) := by rw [List.length_take, List.length_drop]; omega
      rw [show (27 + 1 + (oct xs 27 : Int)).toNat - (27 + 1 : Int).toNat = ((xs.drop 28).take (oct xs 27)).length from by rw [l1]; omega,
        show (27 + 1 + (oct xs 27 : Int) + 1 + (oct xs (28 + oct xs 27) : Int)).toNat - (27 + 1 + (oct xs 27 : Int) + 1).toNat = ((xs.drop (28 + oct xs 27 + 1)).take (oct xs (28 + oct xs 27))).length from by rw [l2]; omega,
        show (27 + 1 + (oct xs 27 : Int) + 1).toNat = 28 + oct xs 27 + 1 from by omega, show (27 + 1 : Int).toNat = 28 from by omega] at hS hE
      have hP := parse1_some hk (by omega)
      have hcut := fun w1 (h1 : Rd w1 A (bys xs)) => And.intro (h1.cutB hcap (l := 28) (oct xs 27)) (h1.cutB hcap (l := 28 + oct xs 27 + 1) (oct xs (28 + oct xs 27)))
      have hc1 : ((xs.drop 28).take (oct xs 27)).length ≤ c - 28 := by omega
      have hc2 : ((xs.drop (28 + oct xs 27 + 1)).take (oct xs (28 + oct xs 27))).length ≤ c - (28 + oct xs 27 + 1) := by omega
      refine s_call hE rfl rfl rfl (rright (P1 xs _ _ _ _) w (hcut w (hr.st hS)) (P1_wf hx hc1 hc2)) ?_
      rintro _ w ⟨rfl, hS1⟩; clear hE a; intro a hE; replace hS := hS.frame hS1; clear hS1; try simp only [List.cons_append, List.nil_append] at hS
      repeat' (first
        | (with_reducible refine wp_seq ?_)
        | (with_reducible refine c_region ?_)
        | (with_reducible refine wpList_nil ?_)
        | (with_reducible refine then_normal ?_)
        | (with_reducible refine wp_skip ?_)
        | (with_reducible refine wp_ret ?_)
        | (with_reducible refine then_ret ?_)
        | ((with_reducible refine g_move ?_); refine s_move hE rfl rfl ?_; clear hE a; intro a hE)
        | ((with_reducible refine g_assign ?_); refine s_assign hE rfl rfl ?_; clear hE a; intro a hE)
        | ((with_reducible refine g_un .not ?_); refine s_not hE rfl rfl ?_; clear hE a; intro a hE)
        | ((with_reducible refine g_cond ?_); refine c_dec hE rfl (fun hc => ?_) (fun hc => ?_) <;> try omega)
        | ((with_reducible refine g_build ?_); refine s_build [_, _, _, _, _, _, _, _, _] hE rfl rfl rfl ?_; clear hE a; intro a hE)
        | ((with_reducible refine g_load ?_); (first | (refine s_loadW (k := 0) hS hE rfl rfl rfl rfl ?_) ); clear hE a; intro a hE)
        | ((with_reducible refine g_store ?_); (first | (refine s_storeW (k := 1) hS hE rfl rfl rfl rfl rfl (by simp [Value.oneCell']) ?_) ); clear hS; intro w hS; simp only [List.set_cons_zero, List.set_cons_succ, Nat.add_zero] at hS)
        )
      · exact retG (vs := [_, _, _]) hE rfl ⟨⟨_, rfl, res_W (k := 1) hS rfl rfl⟩, rfl, rfl, trivial⟩ (rdecZ (decM_no h0 (by omega) hP hc) rfl hS.nil)
      · rw [show (27 + 1 + (oct xs 27 : Int) + 1 + (oct xs (28 + oct xs 27) : Int)) = ((28 + oct xs 27 + 1 + oct xs (28 + oct xs 27) : Nat) : Int) from by omega] at hE
        refine retG (vs := [_, _, _]) hE rfl ⟨⟨_, rfl, res_W (k := 1) hS rfl rfl⟩, rfl, rfl, trivial⟩ ?_
        unfold rdecPost
        rw [decM_yes h0 (by omega) hP (Decidable.not_not.mp hc)]
        exact ⟨_, _, _, _, rfl, hcut, hc1, hc2, hS.nil⟩
set_option maxHeartbeats 4000000 in
theorem rdecode2 (A : Option Addr) (c : Nat) (xs : List Nat) (w0 : World) (hr : Rd w0 A (bys xs)) (hx : Bs xs) (hcap : xs.length ≤ c) (hl : xs.length ≤ 140737488355328) (h0 : ¬ xs = []) (hk : oct xs 0 = 2) (hn : 25 ≤ xs.length) :
    Fn Try.prog 18 [.slice A xs.length c] w0 (rdecPost xs A w0) := by
  refine enter 140 Try.func18 rfl rfl rfl ?_
  intro a hE
  have hS := St.start w0
  have hl0 : 0 < xs.length := List.length_pos_iff.mpr h0
  have ho := oct_lt hx 0
  have ho25 := oct_lt hx 25
  have ho26 := oct_lt hx 26
  have ho27 := oct_lt hx 27
  have ho28 := oct_lt hx (28 + oct xs 27)
  repeat' (first
    | (with_reducible refine wp_seq ?_)
    | (with_reducible refine c_region ?_)
    | (with_reducible refine wpList_nil ?_)
    | (with_reducible refine then_normal ?_)
    | (with_reducible refine wp_skip ?_)
    | ((with_reducible refine g_move ?_); refine s_move hE rfl rfl ?_; clear hE a; intro a hE)
    | ((with_reducible refine g_assign ?_); refine s_assign hE rfl rfl ?_; clear hE a; intro a hE)
    | ((with_reducible refine g_bin .lss ?_); refine s_lss hE rfl rfl rfl ?_; clear hE a; intro a hE)
    | ((with_reducible refine g_bin .gtr ?_); refine s_gtr hE rfl rfl rfl ?_; clear hE a; intro a hE)
    | ((with_reducible refine g_bin .eql ?_); refine s_eql hE rfl rfl rfl ?_; clear hE a; intro a hE)
    | ((with_reducible refine g_conv ?_); refine s_conv hE rfl rfl (by first | exact wrap64_in (by omega) ) ?_; clear hE a; intro a hE)
    | ((with_reducible refine g_blt .len ?_); refine s_len hE rfl rfl ?_; clear hE a; intro a hE)
    | ((with_reducible refine g_fa ?_); refine s_fieldL hE rfl rfl rfl ?_; clear hE a; intro a hE)
    | ((with_reducible refine g_guard ?_); refine gd_yes hE rfl rfl rfl ?_)
    | ((with_reducible refine g_guard ?_); refine gd_dec hE rfl rfl (fun hc hE2 => ?_) (fun hc hE2 => ?_) <;> (try omega) <;> (replace hE := hE2; clear hE2))
    | ((with_reducible refine g_pick ?_); refine s_pickF hE rfl rfl rfl ?_; clear hE a; intro a hE)
    | ((with_reducible refine g_cond ?_); refine c_dec hE rfl (fun hc => ?_) (fun hc => ?_) <;> try omega)
    | ((with_reducible refine g_ia ?_); refine s_idxR hE rfl rfl (by omega) (by omega) (by (first | exact Rd.st (by assumption) hS )) (by first | (simp only [bys_length]; omega)) rfl ?_; clear hE a; intro a hE)
    | ((with_reducible refine g_load ?_); refine s_loadR hE rfl (by (first | exact Rd.st (by assumption) hS )) (by first | exact bys_octI (k := 0) hl0 ) rfl ?_; clear hE a; intro a hE)
    | ((with_reducible refine g_load ?_); (first | (refine s_loadB (k := 0) hS hE rfl rfl rfl rfl ?_) ); clear hE a; intro a hE)
    | ((with_reducible refine g_alloc ?_); refine s_allocS hE hS rfl rfl ?_; clear hE a hS; intro g a w hE hS)
    | ((with_reducible refine g_build ?_); refine s_build [_, _, _, _, _, _, _, _, _] hE rfl rfl rfl ?_; clear hE a; intro a hE)
    | ((with_reducible refine g_store ?_); (first | (refine s_storeW (k := 0) hS hE rfl rfl rfl rfl rfl (by simp [Value.oneCell']) ?_) ); clear hS; intro w hS; simp only [List.set_cons_zero, List.set_cons_succ, Nat.add_zero] at hS)
    )
  all_goals try (exfalso; omega)
  refine c_ordK hS 1 rfl 13 ((.rd 0 (.rd 1 (.rd 3 (.rd 4 (.rd 6 (.rd 7 (.ef 2 (.rd 9 (.ef 5 (.ef 8 (.ef 10 (.rd 11 (.ef 12 (.lt 13 (.lt 14 .done)))))))))))))))) mixed (by decide +kernel) ?_
  clear hS; intro w hF hS
  repeat' (first
    | (with_reducible refine o_rd rfl ?_)
    | ((with_reducible refine q_move ?_); refine d_val hE hS rfl (fun w hS => r_move hE rfl) ?_; clear hE a; intro a hE)
    | ((with_reducible refine q_slice ?_); refine d_val hE hS rfl (fun w hS => r_cutLH hE rfl rfl rfl (by omega) (by omega)) ?_; clear hE a; intro a hE)
    | ((with_reducible refine o_ef rfl ?_))
    )
  rw [show (9 : Int).toNat - (1 : Int).toNat = ((xs.drop 1).take 8).length from by rw [List.length_take, List.length_drop]; omega, show (17 : Int).toNat - (9 : Int).toNat = ((xs.drop 9).take 8).length from by rw [List.length_take, List.length_drop]; omega, show (25 : Int).toNat - (17 : Int).toNat = ((xs.drop 17).take 8).length from by rw [List.length_take, List.length_drop]; omega] at hE
  refine s_call hE rfl rfl rfl (rnumber _ _ ((xs.drop 1).take 8) w ((hr.st hF).cutB hcap (l := 1) 8) (bs_cut hx _ _) (cut_len _ _ _)) ?_
  rintro _ w ⟨rfl, hS1⟩; clear hE a; intro a hE; replace hF := hF.frame hS1; clear hS1; simp only [List.nil_append] at hF
  refine wpList_nil ?_
  refine o_back _ (fun _ h => h) (hF.only 1 rfl) ?_
  clear hS
  have hS := hF.only 1 rfl
  repeat' (first
    | (with_reducible refine o_rd rfl ?_)
    | ((with_reducible refine q_fa ?_); refine d_val hE hS rfl (fun w hS => r_fieldL hE rfl rfl) ?_; clear hE a; intro a hE)
    | ((with_reducible refine o_ef rfl ?_))
    )
  refine s_call hE rfl rfl rfl (rnumber _ _ ((xs.drop 9).take 8) w ((hr.st hF).cutB hcap (l := 9) 8) (bs_cut hx _ _) (cut_len _ _ _)) ?_
  rintro _ w ⟨rfl, hS1⟩; clear hE a; intro a hE; replace hF := hF.frame hS1; clear hS1; simp only [List.nil_append] at hF
  refine wpList_nil ?_
  refine o_back _ (fun _ h => h) (hF.only 1 rfl) ?_
  clear hS
  have hS := hF.only 1 rfl
  repeat' (first
    | ((with_reducible refine o_ef rfl ?_))
    )
  refine s_call hE rfl rfl rfl (rnumber _ _ ((xs.drop 17).take 8) w ((hr.st hF).cutB hcap (l := 17) 8) (bs_cut hx _ _) (cut_len _ _ _)) ?_
  rintro _ w ⟨rfl, hS1⟩; clear hE a; intro a hE; replace hF := hF.frame hS1; clear hS1; simp only [List.nil_append] at hF
  refine wpList_nil ?_
  refine o_back _ (fun _ h => h) (hF.only 1 rfl) ?_
  clear hS
  have hS := hF.only 1 rfl
  repeat' (first
    | ((with_reducible refine o_ef rfl ?_))
    )
  refine g_store ?_
  refine s_storeB (k := 0) hF hE rfl rfl rfl rfl rfl rfl ?_
  clear hF; intro w hF; simp only [List.set_cons_zero, List.set_cons_succ] at hF
  refine wpList_nil ?_
  refine o_back _ (fun _ h => h) (hF.only 1 rfl) ?_
  clear hS
  have hS := hF.only 1 rfl
  repeat' (first
    | (with_reducible refine o_rd rfl ?_)
    | ((with_reducible refine q_fa ?_); refine d_val hE hS rfl (fun w hS => r_fieldL hE rfl rfl) ?_; clear hE a; intro a hE)
    | ((with_reducible refine o_ef rfl ?_))
    )
  refine g_store ?_
  refine s_storeB (k := 0) hF hE rfl rfl rfl rfl rfl rfl ?_
  clear hF; intro w hF; simp only [List.set_cons_zero, List.set_cons_succ] at hF
  refine wpList_nil ?_
  refine o_back _ (fun _ h => h) (hF.only 1 rfl) ?_
  clear hS
  have hS := hF.only 1 rfl
  repeat' (first
    | ((with_reducible refine o_lt rfl ?_))
    )
  clear hS
  have hS := hF
  clear hF
  repeat' (first
    | (with_reducible refine wp_seq ?_)
    | (with_reducible refine c_region ?_)
    | (with_reducible refine wpList_nil ?_)
    | (with_reducible refine then_normal ?_)
    | (with_reducible refine wp_skip ?_)
    | (with_reducible refine wp_ret ?_)
    | (with_reducible refine then_ret ?_)
    | ((with_reducible refine g_move ?_); refine s_move hE rfl rfl ?_; clear hE a; intro a hE)
    | ((with_reducible refine g_assign ?_); refine s_assign hE rfl rfl ?_; clear hE a; intro a hE)
    | ((with_reducible refine g_bin .lss ?_); refine s_lss hE rfl rfl rfl ?_; clear hE a; intro a hE)
    | ((with_reducible refine g_bin .leq ?_); refine s_leq hE rfl rfl rfl ?_; clear hE a; intro a hE)
    | ((with_reducible refine g_blt .len ?_); refine s_len hE rfl rfl ?_; clear hE a; intro a hE)
    | ((with_reducible refine g_fa ?_); refine s_fieldL hE rfl rfl rfl ?_; clear hE a; intro a hE)
    | ((with_reducible refine g_cond ?_); refine c_dec hE rfl (fun hc => ?_) (fun hc => ?_) <;> try omega)
    | ((with_reducible refine g_load ?_); (first | (refine s_loadB (k := 0) hS hE rfl rfl rfl rfl ?_) ); clear hE a; intro a hE)
    | ((with_reducible refine g_store ?_); (first | (refine s_storeB (k := 0) hS hE rfl rfl rfl rfl rfl rfl ?_) ); clear hS; intro w hS; simp only [List.set_cons_zero, List.set_cons_succ, Nat.add_zero] at hS)
    | ((with_reducible refine g_build ?_); refine s_build [_, _, _, _, _, _, _, _, _] hE rfl rfl rfl ?_; clear hE a; intro a hE)
    | ((with_reducible refine g_store ?_); (first | (refine s_storeW (k := 1) hS hE rfl rfl rfl rfl rfl (by simp [Value.oneCell']) ?_) ); clear hS; intro w hS; simp only [List.set_cons_zero, List.set_cons_succ, Nat.add_zero] at hS)
    | (with_reducible refine o_done ?_)
    | ((with_reducible refine o_lt rfl ?_))
    | ((with_reducible refine o_backL ?_))
    )
  all_goals try (exfalso; omega)
  · exact retG (vs := [_, _, _]) hE rfl ⟨⟨_, rfl, res_W (k := 1) hS rfl rfl⟩, rfl, rfl, trivial⟩ (rdecZ (decM_none h0 (by omega) (parse2_none hk (by omega))) rfl hS.nil)
  · refine c_ordK hS 1 rfl 10 ((.rd 0 (.rd 1 (.rd 2 (.rd 3 (.rd 4 (.rd 5 (.rd 6 (.rd 7 (.rd 8 (.ef 9 (.lt 10 (.lt 11 .done))))))))))))) mixed (by decide +kernel) ?_
    clear hS; intro w hF hS
    repeat' (first
      | (with_reducible refine o_rd rfl ?_)
      | ((with_reducible refine q_move ?_); refine d_val hE hS rfl (fun w hS => r_move hE rfl) ?_; clear hE a; intro a hE)
      | ((with_reducible refine q_conv ?_); refine d_val hE hS rfl (fun w hS => r_conv hE rfl (by first | exact wrap64_in (by omega) )) ?_; clear hE a; intro a hE)
      | ((with_reducible refine q_fa ?_); refine d_val hE hS rfl (fun w hS => r_fieldL hE rfl rfl) ?_; clear hE a; intro a hE)
      | ((with_reducible refine q_ia ?_); refine d_val hE hS rfl (fun w hS => r_idxR hE rfl rfl (by omega) (by omega) (by (first | exact Rd.st (by assumption) hS )) (by first | (simp only [bys_length]; omega))) ?_; clear hE a; intro a hE)
      | ((with_reducible refine q_load ?_); refine d_val hE hS rfl (fun w hS => r_loadR hE rfl (by (first | exact Rd.st (by assumption) hS )) (by first | exact bys_octE (k := 25) (by omega) (by omega) | exact bys_octE (k := 26) (by omega) (by omega))) ?_; clear hE a; intro a hE)
      | ((with_reducible refine o_ef rfl ?_))
      )
    refine g_store ?_
    refine s_storeB (k := 0) hF hE rfl rfl rfl rfl rfl rfl ?_
    clear hF; intro w hF; simp only [List.set_cons_zero, List.set_cons_succ] at hF
    refine wpList_nil ?_
    refine o_back _ (fun _ h => h) (hF.only 1 rfl) ?_
    clear hS
    have hS := hF.only 1 rfl
    repeat' (first
      | ((with_reducible refine o_lt rfl ?_))
      )
    clear hS
    have hS := hF
    clear hF
    repeat' (first
      | (with_reducible refine wp_seq ?_)
      | (with_reducible refine c_region ?_)
      | (with_reducible refine wpList_nil ?_)
      | (with_reducible refine then_normal ?_)
      | (with_reducible refine wp_skip ?_)
      | (with_reducible refine wp_ret ?_)
      | (with_reducible refine then_ret ?_)
      | ((with_reducible refine g_move ?_); refine s_move hE rfl rfl ?_; clear hE a; intro a hE)
      | ((with_reducible refine g_assign ?_); refine s_assign hE rfl rfl ?_; clear hE a; intro a hE)
      | ((with_reducible refine g_bin .lss ?_); refine s_lss hE rfl rfl rfl ?_; clear hE a; intro a hE)
      | ((with_reducible refine g_bin .eql ?_); refine s_eql hE rfl rfl rfl ?_; clear hE a; intro a hE)
      | ((with_reducible refine g_bin .add ?_); refine s_add hE rfl rfl rfl (by first | exact wrap64_in (by omega) ) ?_; clear hE a; intro a hE)
      | ((with_reducible refine g_bin .sub ?_); refine s_sub hE rfl rfl rfl (by first | exact wrap64_in (by omega) ) ?_; clear hE a; intro a hE)
      | ((with_reducible refine g_conv ?_); refine s_conv hE rfl rfl (by first | exact wrap64_in (by omega) ) ?_; clear hE a; intro a hE)
      | ((with_reducible refine g_blt .len ?_); refine s_len hE rfl rfl ?_; clear hE a; intro a hE)
      | ((with_reducible refine g_fa ?_); refine s_fieldL hE rfl rfl rfl ?_; clear hE a; intro a hE)
      | ((with_reducible refine g_cond ?_); refine c_dec hE rfl (fun hc => ?_) (fun hc => ?_) <;> try omega)
      | ((with_reducible refine g_ia ?_); refine s_idxR hE rfl rfl (by omega) (by omega) (by (first | exact Rd.st (by assumption) hS )) (by first | (simp only [bys_length]; omega)) rfl ?_; clear hE a; intro a hE)
      | ((with_reducible refine g_load ?_); refine s_loadR hE rfl (by (first | exact Rd.st (by assumption) hS )) (by first | exact bys_octE (k := 27) (by omega) (by omega) ) rfl ?_; clear hE a; intro a hE)
      | ((with_reducible refine g_load ?_); (first | (refine s_loadB (k := 0) hS hE rfl rfl rfl rfl ?_) ); clear hE a; intro a hE)
      | ((with_reducible refine g_store ?_); (first | (refine s_storeB (k := 0) hS hE rfl rfl rfl rfl rfl rfl ?_) ); clear hS; intro w hS; simp only [List.set_cons_zero, List.set_cons_succ, Nat.add_zero] at hS)
      | ((with_reducible refine g_build ?_); refine s_build [_, _, _, _, _, _, _, _, _] hE rfl rfl rfl ?_; clear hE a; intro a hE)
      | ((with_reducible refine g_store ?_); (first | (refine s_storeW (k := 1) hS hE rfl rfl rfl rfl rfl (by simp [Value.oneCell']) ?_) ); clear hS; intro w hS; simp only [List.set_cons_zero, List.set_cons_succ, Nat.add_zero] at hS)
      | ((with_reducible refine g_slice ?_); refine s_val hE rfl rfl rfl (r_cutLH hE rfl rfl rfl (by omega) (by omega)) ?_; clear hE a; intro a hE)
      | (with_reducible refine o_done ?_)
      | ((with_reducible refine o_lt rfl ?_))
      | ((with_reducible refine o_backL ?_))
      )
    all_goals try (exfalso; omega)
    · exact retG (vs := [_, _, _]) hE rfl ⟨⟨_, rfl, res_W (k := 1) hS rfl rfl⟩, rfl, rfl, trivial⟩ (rdecZ (decM_none h0 (by omega) (parse2_none hk (by omega))) rfl hS.nil)
    · exact retG (vs := [_, _, _]) hE rfl ⟨⟨_, rfl, res_W (k := 1) hS rfl rfl⟩, rfl, rfl, trivial⟩ (rdecZ (decM_none h0 (by omega) (parse2_none hk (by omega))) rfl hS.nil)
    · have l1 : ((xs.drop 28).take (oct xs 27)).length = oct xs 27 := by rw [List.length_take, List.length_drop]; omega
      have l2 : ((xs.drop (28 + oct xs 27)).take 8).length = 8 := by rw [List.length_take, List.length_drop]; omega
      rw [show (27 + 1 + (oct xs 27 : Int)).toNat - (27 + 1 : Int).toNat = ((xs.drop 28).take (oct xs 27)).length from by rw [l1]; omega, show (27 + 1 : Int).toNat = 28 from by omega] at hS
      rw [show (27 + 1 + (oct xs 27 : Int) + 8).toNat - (27 + 1 + (oct xs 27 : Int)).toNat = ((xs.drop (28 + oct xs 27)).take 8).length from by rw [l2]; omega,
        show (27 + 1 + (oct xs 27 : Int)).toNat = 28 + oct xs 27 from by omega] at hE
      have hP := parse2_some hk (by omega)
      have hcut := fun w1 (h1 : Rd w1 A (bys xs)) => And.intro (Rd.nil (w := w1) (A := none)) (h1.cutB hcap (l := 28) (oct xs 27))
      have hc2 : ((xs.drop 28).take (oct xs 27)).length ≤ c - 28 := by omega
      refine s_call hE rfl rfl rfl (rnumber _ _ ((xs.drop (28 + oct xs 27)).take 8) w ((hr.st hS).cutB hcap (l := 28 + oct xs 27) 8) (bs_cut hx _ _) (cut_len _ _ _)) ?_
      rintro _ w ⟨rfl, hS1⟩; clear hE a; intro a hE; replace hS := hS.frame hS1; clear hS1; try simp only [List.cons_append, List.nil_append] at hS
      repeat' (first
        | (with_reducible refine wp_seq ?_)
        | (with_reducible refine c_region ?_)
        | (with_reducible refine wpList_nil ?_)
        | (with_reducible refine then_normal ?_)
        | ((with_reducible refine g_move ?_); refine s_move hE rfl rfl ?_; clear hE a; intro a hE)
        | ((with_reducible refine g_assign ?_); refine s_assign hE rfl rfl ?_; clear hE a; intro a hE)
        | ((with_reducible refine g_bin .add ?_); refine s_add hE rfl rfl rfl (by first  | exact wrap64_in (by omega) ) ?_; clear hE a; intro a hE)
        | ((with_reducible refine g_fa ?_); refine s_fieldL hE rfl rfl rfl ?_; clear hE a; intro a hE)
        | ((with_reducible refine g_store ?_); (first | (refine s_storeB (k := 0) hS hE rfl rfl rfl rfl rfl rfl ?_) ); clear hS; intro w hS; simp only [List.set_cons_zero, List.set_cons_succ, Nat.add_zero] at hS)
        | ((with_reducible refine g_load ?_); (first | (refine s_loadW (k := 0) hS hE rfl rfl rfl rfl ?_) ); clear hE a; intro a hE)
        )
      refine s_call hE rfl rfl rfl (rright (P2 xs none 0 _ _) w (hcut w (hr.st hS)) (P2_wf hx hc2)) ?_
      rintro _ w ⟨rfl, hS1⟩; clear hE a; intro a hE; replace hS := hS.frame hS1; clear hS1; try simp only [List.cons_append, List.nil_append] at hS
      repeat' (first
        | (with_reducible refine wp_seq ?_)
        | (with_reducible refine c_region ?_)
        | (with_reducible refine wpList_nil ?_)
        | (with_reducible refine then_normal ?_)
        | (with_reducible refine wp_skip ?_)
        | (with_reducible refine wp_ret ?_)
        | (with_reducible refine then_ret ?_)
        | ((with_reducible refine g_move ?_); refine s_move hE rfl rfl ?_; clear hE a; intro a hE)
        | ((with_reducible refine g_assign ?_); refine s_assign hE rfl rfl ?_; clear hE a; intro a hE)
        | ((with_reducible refine g_un .not ?_); refine s_not hE rfl rfl ?_; clear hE a; intro a hE)
        | ((with_reducible refine g_cond ?_); refine c_dec hE rfl (fun hc => ?_) (fun hc => ?_) <;> try omega)
        | ((with_reducible refine g_build ?_); refine s_build [_, _, _, _, _, _, _, _, _] hE rfl rfl rfl ?_; clear hE a; intro a hE)
        | ((with_reducible refine g_load ?_); (first | (refine s_loadW (k := 0) hS hE rfl rfl rfl rfl ?_) ); clear hE a; intro a hE)
        | ((with_reducible refine g_store ?_); (first | (refine s_storeW (k := 1) hS hE rfl rfl rfl rfl rfl (by simp [Value.oneCell']) ?_) ); clear hS; intro w hS; simp only [List.set_cons_zero, List.set_cons_succ, Nat.add_zero] at hS)
        )
      · exact retG (vs := [_, _, _]) hE rfl ⟨⟨_, rfl, res_W (k := 1) hS rfl rfl⟩, rfl, rfl, trivial⟩ (rdecZ (decM_no h0 (by omega) hP hc) rfl hS.nil)
      · rw [show (27 + 1 + (oct xs 27 : Int) + 8) = ((28 + oct xs 27 + 8 : Nat) : Int) from by omega] at hE
        refine retG (vs := [_, _, _]) hE rfl ⟨⟨_, rfl, res_W (k := 1) hS rfl rfl⟩, rfl, rfl, trivial⟩ ?_
        unfold rdecPost
        rw [decM_yes h0 (by omega) hP (Decidable.not_not.mp hc)]
        exact ⟨_, _, _, _, rfl, hcut, Nat.le_refl _, hc2, hS.nil⟩
theorem rdecode (A : Option Addr) (c : Nat) (xs : List Nat) (w0 : World) (hr : Rd w0 A (bys xs)) (hx : Bs xs) (hcap : xs.length ≤ c) (hl : xs.length ≤ 140737488355328) :
    Fn Try.prog 18 [.slice A xs.length c] w0 (rdecPost xs A w0) := by
  by_cases h0 : xs = []
  · subst h0; exact rdecode0 A c w0
  · by_cases hk : oct xs 0 < 1 ∨ 4 < oct xs 0
    · exact rdecodeB A c xs w0 hr hx hl h0 hk
    · by_cases hn : xs.length < 25
      · exact rdecodeS A c xs w0 hr hx hcap hl h0 hk hn
      · rcases (by omega : oct xs 0 = 1 ∨ oct xs 0 = 2 ∨ (oct xs 0 = 3 ∨ oct xs 0 = 4)) with h | h | h
        · exact rdecode1 A c xs w0 hr hx hcap hl h0 h (by omega)
        · exact rdecode2 A c xs w0 hr hx hcap hl h0 h (by omega)
        · exact rdecode3 A c xs w0 hr hx hcap hl h0 h (by omega)
end Go.Proofs.Ytmfcffeoooegcaa
