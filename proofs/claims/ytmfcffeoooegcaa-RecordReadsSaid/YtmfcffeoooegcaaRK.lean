/-
  Contracts of record: a record read, all of it there.
-/
import Derived.Test.YtmfcffeoooegcaaRJ
namespace Go.Proofs.Ytmfcffeoooegcaa
open Go.RowKit
set_option linter.unusedVariables false
set_option linter.unusedSimpArgs false
attribute [local irreducible] Rd hRow hBlk hRd hAll Fn hRdr

theorem nb_lt {xs : List Nat} (hx : Bs xs) (i : Nat) : nb xs i < 18446744073709551616 :=
  bnum_lt64 (fun c hc => hx c (List.mem_of_mem_drop (List.mem_of_mem_take hc))) (by rw [List.length_take]; omega)
theorem bs_cut {xs : List Nat} (hx : Bs xs) (i n : Nat) : Bs ((xs.drop i).take n) := fun c hc => hx c (List.mem_of_mem_drop (List.mem_of_mem_take hc))
theorem cut_len (xs : List Nat) (i n : Nat) : ((xs.drop i).take n).length ≤ n := by rw [List.length_take]; omega
theorem P1_wf {xs : List Nat} (hx : Bs xs) {A : Option Addr} {c : Nat} {B : Option Addr} {d : Nat} (h1 : ((xs.drop 28).take (oct xs 27)).length ≤ c) (h2 : ((xs.drop (28 + oct xs 27 + 1)).take (oct xs (28 + oct xs 27))).length ≤ d) : (P1 xs A c B d).wf := by
  have a0 := oct_lt hx 0
  have a1 := oct_lt hx 25
  have a2 := oct_lt hx 26
  have a3 := oct_lt hx 27
  have a4 := oct_lt hx (28 + oct xs 27)
  have a5 := cut_len xs 28 (oct xs 27)
  have a6 := cut_len xs (28 + oct xs 27 + 1) (oct xs (28 + oct xs 27))
  refine ⟨nb_lt hx _, nb_lt hx _, nb_lt hx _, (by show (0 : Nat) < _; decide), ?_, ?_, ?_, bs_cut hx _ _, bs_cut hx _ _, ⟨h1, ?_⟩, ⟨h2, ?_⟩⟩ <;> dsimp only [P1] <;> omega
theorem P2_wf {xs : List Nat} (hx : Bs xs) {A : Option Addr} {c : Nat} {B : Option Addr} {d : Nat} (h2 : ((xs.drop 28).take (oct xs 27)).length ≤ d) : (P2 xs A c B d).wf := by
  have a0 := oct_lt hx 0
  have a1 := oct_lt hx 25
  have a2 := oct_lt hx 26
  have a3 := oct_lt hx 27
  have a5 := cut_len xs 28 (oct xs 27)
  refine ⟨nb_lt hx _, nb_lt hx _, nb_lt hx _, nb_lt hx _, ?_, ?_, ?_, fun c hc => (by cases hc), bs_cut hx _ _, ⟨Nat.zero_le _, Nat.zero_le _⟩, ⟨h2, ?_⟩⟩ <;> dsimp only [P2] <;> omega
theorem P3_wf {xs : List Nat} (hx : Bs xs) {A : Option Addr} {c : Nat} {B : Option Addr} {d : Nat} : (P3 xs A c B d).wf := by
  have a0 := oct_lt hx 0
  refine ⟨nb_lt hx _, nb_lt hx _, nb_lt hx _, (by show (0 : Nat) < _; decide), ?_, ?_, ?_, fun c hc => (by cases hc), fun c hc => (by cases hc), ⟨Nat.zero_le _, Nat.zero_le _⟩, ⟨Nat.zero_le _, Nat.zero_le _⟩⟩ <;> dsimp only [P3] <;> omega
set_option maxHeartbeats 4000000 in
theorem decode1s (A : Option Addr) (c : Nat) (xs : List Nat) (w0 : World) (hr : Rd w0 A (bys xs)) (hx : Bs xs) (hl : xs.length ≤ 140737488355328) (h0 : ¬ xs = []) (hk : oct xs 0 = 1) (hn : 29 ≤ xs.length ∧ 29 + oct xs 27 + oct xs (28 + oct xs 27) ≤ xs.length) :
    Fn Try.prog 17 [.slice A xs.length c] w0 (decPost xs w0) := by
  refine enter 89 Try.func17 rfl rfl rfl ?_
  intro a hE
  have hS := St.start w0
  have hl0 : 0 < xs.length := List.length_pos_iff.mpr h0
  have ho := oct_lt hx 0
  have hk' := hk
  have ho25 := oct_lt hx 25
  have ho26 := oct_lt hx 26
  unfold oct at ho hk' ho25 ho26
  repeat' (first
    | (with_reducible refine wp_seq ?_)
    | (with_reducible refine c_region ?_)
    | (with_reducible refine wpList_nil ?_)
    | (with_reducible refine then_normal ?_)
    | (with_reducible refine wp_skip ?_)
    | ((with_reducible refine g_move ?_); refine s_move hE rfl rfl ?_; clear hE a; intro a hE)
    | ((with_reducible refine g_assign ?_); refine s_assign hE rfl rfl ?_; clear hE a; intro a hE)
    | ((with_reducible refine g_bin .gtr ?_); refine s_gtr hE rfl rfl rfl ?_; clear hE a; intro a hE)
    | ((with_reducible refine g_un .not ?_); refine s_notb hE rfl rfl ?_; clear hE a; intro a hE)
    | ((with_reducible refine g_conv ?_); refine s_conv hE rfl rfl (by first  | exact wrap64_in (by omega) ) ?_; clear hE a; intro a hE)
    | ((with_reducible refine g_blt .len ?_); refine s_len hE rfl rfl ?_; clear hE a; intro a hE)
    | ((with_reducible refine g_extract ?_); refine s_extract hE rfl rfl rfl ?_; clear hE a; intro a hE)
    | ((with_reducible refine g_fa ?_); refine s_fieldL hE rfl rfl rfl ?_; clear hE a; intro a hE)
    | ((with_reducible refine g_guard ?_); refine gd_yes hE rfl rfl rfl ?_)
    | ((with_reducible refine g_guard ?_); refine gd_dec hE rfl rfl (fun hc hE2 => ?_) (fun hc hE2 => ?_) <;> (try omega) <;> (replace hE := hE2; clear hE2))
    | ((with_reducible refine g_pick ?_); refine s_pickT hE rfl rfl rfl ?_; clear hE a; intro a hE)
    | ((with_reducible refine g_cond ?_); refine c_false hE rfl ?_)
    | ((with_reducible refine g_call (f := 35) ?_); refine s_call hE rfl rfl rfl (read _ _ _ _ (by first | exact Rd.st (by assumption) hS ) (by first | omega )) ?_; rintro _ w ⟨g, _, _, rfl, hS1⟩; clear hE a; intro a hE; replace hS := hS.frame hS1; clear hS1; try simp only [List.cons_append, List.nil_append] at hS) | ((with_reducible refine g_call (f := 36) ?_); (first | (refine s_call hE rfl rfl rfl (u8_ok _ _ _ _ _ _ _ _ (hS.focus (k := 1) rfl) (by assumption) (by omega) (by omega) (by omega)) ?_; rintro _ w ⟨rfl, hS1⟩; clear hE a; intro a hE; have hS2 := St.unfocus (k := 1) rfl hS1; clear hS hS1; have hS := hS2; clear hS2; simp only [List.set_cons_zero, List.set_cons_succ, Nat.zero_add, Nat.reduceAdd] at hS) )) | ((with_reducible refine g_call (f := 31) ?_); (first | (refine s_call hE rfl rfl rfl (fieldsE1 _ _ (by omega)) ?_) ); rintro _ w ⟨rfl, rfl⟩; clear hE a; intro a hE)
    | ((with_reducible refine g_load ?_); (first | (refine s_loadB (k := 0) hS hE rfl rfl rfl rfl ?_) ); clear hE a; intro a hE)
    | ((with_reducible refine g_alloc ?_); refine s_allocS hE hS rfl rfl ?_; clear hE a hS; intro g a w hE hS)
    | ((with_reducible refine g_build ?_); refine s_build [_] hE rfl rfl rfl ?_; clear hE a; intro a hE)
    | ((with_reducible refine g_build ?_); refine s_build [_, _, _, _, _, _, _, _, _] hE rfl rfl rfl ?_; clear hE a; intro a hE)
    | ((with_reducible refine g_store ?_); (first | (refine s_storeW (k := 0) hS hE rfl rfl rfl rfl rfl (by simp [Value.oneCell']) ?_) ); clear hS; intro w hS; simp only [List.set_cons_zero, List.set_cons_succ, Nat.add_zero] at hS)
    )
  refine c_ordK hS 1 rfl 13 ((.rd 0 (.rd 1 (.rd 3 (.rd 4 (.rd 6 (.rd 7 (.ef 2 (.rd 9 (.ef 5 (.ef 8 (.ef 10 (.rd 11 (.ef 12 (.lt 13 (.lt 14 .done)))))))))))))))) mixed (by decide +kernel) ?_
  clear hS; intro w hF hS
  repeat' (first
    | (with_reducible refine o_rd rfl ?_)
    | ((with_reducible refine q_fa ?_); refine d_val hE hS rfl (fun w hS => r_fieldL hE rfl rfl) ?_; clear hE a; intro a hE)
    | ((with_reducible refine q_load ?_); (first | (refine d_val hE hS rfl (fun w hS => r_loadB (k := 0) hS hE rfl rfl rfl) ?_) ); clear hE a; intro a hE)
    | ((with_reducible refine o_ef rfl ?_))
    )
  first | (refine s_call hE rfl rfl rfl (u64_ok _ _ _ _ _ _ _ _ (hF.focus (k := 0) rfl) (by assumption) (by omega) (by omega) (by omega)) ?_; rintro _ w ⟨rfl, hS1⟩; clear hE a; intro a hE; have hF2 := St.unfocus (k := 0) rfl hS1; clear hF hS1; have hF := hF2; clear hF2; simp only [List.set_cons_zero, List.set_cons_succ, Nat.zero_add, Nat.reduceAdd] at hF) | (refine s_call hE rfl rfl rfl (u64_short _ _ _ _ _ _ _ _ (hF.focus (k := 0) rfl) (by assumption) (by omega) (by omega) (by omega)) ?_; rintro _ w ⟨rfl, hS1⟩; clear hE a; intro a hE; have hF2 := St.unfocus (k := 0) rfl hS1; clear hF hS1; have hF := hF2; clear hF2; simp only [List.set_cons_zero, List.set_cons_succ, Nat.zero_add, Nat.reduceAdd] at hF) | (refine s_call hE rfl rfl rfl (u64_err _ _ _ _ _ _ _ _ (hF.focus (k := 0) rfl) (by assumption) (by omega) (by omega)) ?_; rintro _ w ⟨rfl, hS1⟩; clear hE a; intro a hE; have hF2 := St.unfocus (k := 0) rfl hS1; clear hF hS1; have hF := hF2; clear hF2; simp only [List.set_cons_zero, List.set_cons_succ, Nat.zero_add, Nat.reduceAdd] at hF) | (refine s_call hE rfl rfl rfl (u64_ok _ _ _ _ _ _ _ _ (hF.focus (k := 1) rfl) (by assumption) (by omega) (by omega) (by omega)) ?_; rintro _ w ⟨rfl, hS1⟩; clear hE a; intro a hE; have hF2 := St.unfocus (k := 1) rfl hS1; clear hF hS1; have hF := hF2; clear hF2; simp only [List.set_cons_zero, List.set_cons_succ, Nat.zero_add, Nat.reduceAdd] at hF) | (refine s_call hE rfl rfl rfl (u64_short _ _ _ _ _ _ _ _ (hF.focus (k := 1) rfl) (by assumption) (by omega) (by omega) (by omega)) ?_; rintro _ w ⟨rfl, hS1⟩; clear hE a; intro a hE; have hF2 := St.unfocus (k := 1) rfl hS1; clear hF hS1; have hF := hF2; clear hF2; simp only [List.set_cons_zero, List.set_cons_succ, Nat.zero_add, Nat.reduceAdd] at hF) | (refine s_call hE rfl rfl rfl (u64_err _ _ _ _ _ _ _ _ (hF.focus (k := 1) rfl) (by assumption) (by omega) (by omega)) ?_; rintro _ w ⟨rfl, hS1⟩; clear hE a; intro a hE; have hF2 := St.unfocus (k := 1) rfl hS1; clear hF hS1; have hF := hF2; clear hF2; simp only [List.set_cons_zero, List.set_cons_succ, Nat.zero_add, Nat.reduceAdd] at hF) | (refine s_call hE rfl rfl rfl (u64_ok _ _ _ _ _ _ _ _ (hF.focus (k := 2) rfl) (by assumption) (by omega) (by omega) (by omega)) ?_; rintro _ w ⟨rfl, hS1⟩; clear hE a; intro a hE; have hF2 := St.unfocus (k := 2) rfl hS1; clear hF hS1; have hF := hF2; clear hF2; simp only [List.set_cons_zero, List.set_cons_succ, Nat.zero_add, Nat.reduceAdd] at hF) | (refine s_call hE rfl rfl rfl (u64_short _ _ _ _ _ _ _ _ (hF.focus (k := 2) rfl) (by assumption) (by omega) (by omega) (by omega)) ?_; rintro _ w ⟨rfl, hS1⟩; clear hE a; intro a hE; have hF2 := St.unfocus (k := 2) rfl hS1; clear hF hS1; have hF := hF2; clear hF2; simp only [List.set_cons_zero, List.set_cons_succ, Nat.zero_add, Nat.reduceAdd] at hF) | (refine s_call hE rfl rfl rfl (u64_err _ _ _ _ _ _ _ _ (hF.focus (k := 2) rfl) (by assumption) (by omega) (by omega)) ?_; rintro _ w ⟨rfl, hS1⟩; clear hE a; intro a hE; have hF2 := St.unfocus (k := 2) rfl hS1; clear hF hS1; have hF := hF2; clear hF2; simp only [List.set_cons_zero, List.set_cons_succ, Nat.zero_add, Nat.reduceAdd] at hF) | (refine s_call hE rfl rfl rfl (u64_ok _ _ _ _ _ _ _ _ (hF.focus (k := 3) rfl) (by assumption) (by omega) (by omega) (by omega)) ?_; rintro _ w ⟨rfl, hS1⟩; clear hE a; intro a hE; have hF2 := St.unfocus (k := 3) rfl hS1; clear hF hS1; have hF := hF2; clear hF2; simp only [List.set_cons_zero, List.set_cons_succ, Nat.zero_add, Nat.reduceAdd] at hF) | (refine s_call hE rfl rfl rfl (u64_short _ _ _ _ _ _ _ _ (hF.focus (k := 3) rfl) (by assumption) (by omega) (by omega) (by omega)) ?_; rintro _ w ⟨rfl, hS1⟩; clear hE a; intro a hE; have hF2 := St.unfocus (k := 3) rfl hS1; clear hF hS1; have hF := hF2; clear hF2; simp only [List.set_cons_zero, List.set_cons_succ, Nat.zero_add, Nat.reduceAdd] at hF) | (refine s_call hE rfl rfl rfl (u64_err _ _ _ _ _ _ _ _ (hF.focus (k := 3) rfl) (by assumption) (by omega) (by omega)) ?_; rintro _ w ⟨rfl, hS1⟩; clear hE a; intro a hE; have hF2 := St.unfocus (k := 3) rfl hS1; clear hF hS1; have hF := hF2; clear hF2; simp only [List.set_cons_zero, List.set_cons_succ, Nat.zero_add, Nat.reduceAdd] at hF) | (refine s_call hE rfl rfl rfl (u64_ok _ _ _ _ _ _ _ _ (hF.focus (k := 4) rfl) (by assumption) (by omega) (by omega) (by omega)) ?_; rintro _ w ⟨rfl, hS1⟩; clear hE a; intro a hE; have hF2 := St.unfocus (k := 4) rfl hS1; clear hF hS1; have hF := hF2; clear hF2; simp only [List.set_cons_zero, List.set_cons_succ, Nat.zero_add, Nat.reduceAdd] at hF) | (refine s_call hE rfl rfl rfl (u64_short _ _ _ _ _ _ _ _ (hF.focus (k := 4) rfl) (by assumption) (by omega) (by omega) (by omega)) ?_; rintro _ w ⟨rfl, hS1⟩; clear hE a; intro a hE; have hF2 := St.unfocus (k := 4) rfl hS1; clear hF hS1; have hF := hF2; clear hF2; simp only [List.set_cons_zero, List.set_cons_succ, Nat.zero_add, Nat.reduceAdd] at hF) | (refine s_call hE rfl rfl rfl (u64_err _ _ _ _ _ _ _ _ (hF.focus (k := 4) rfl) (by assumption) (by omega) (by omega)) ?_; rintro _ w ⟨rfl, hS1⟩; clear hE a; intro a hE; have hF2 := St.unfocus (k := 4) rfl hS1; clear hF hS1; have hF := hF2; clear hF2; simp only [List.set_cons_zero, List.set_cons_succ, Nat.zero_add, Nat.reduceAdd] at hF)
  refine wpList_nil ?_
  refine o_back _ (fun _ h => h) (hF.only 1 rfl) ?_
  clear hS
  have hS := hF.only 1 rfl
  repeat' (first
    | (with_reducible refine o_rd rfl ?_)
    | ((with_reducible refine q_fa ?_); refine d_val hE hS rfl (fun w hS => r_fieldL hE rfl rfl) ?_; clear hE a; intro a hE)
    | ((with_reducible refine o_ef rfl ?_))
    )
  first | (refine s_call hE rfl rfl rfl (u64_ok _ _ _ _ _ _ _ _ (hF.focus (k := 0) rfl) (by assumption) (by omega) (by omega) (by omega)) ?_; rintro _ w ⟨rfl, hS1⟩; clear hE a; intro a hE; have hF2 := St.unfocus (k := 0) rfl hS1; clear hF hS1; have hF := hF2; clear hF2; simp only [List.set_cons_zero, List.set_cons_succ, Nat.zero_add, Nat.reduceAdd] at hF) | (refine s_call hE rfl rfl rfl (u64_short _ _ _ _ _ _ _ _ (hF.focus (k := 0) rfl) (by assumption) (by omega) (by omega) (by omega)) ?_; rintro _ w ⟨rfl, hS1⟩; clear hE a; intro a hE; have hF2 := St.unfocus (k := 0) rfl hS1; clear hF hS1; have hF := hF2; clear hF2; simp only [List.set_cons_zero, List.set_cons_succ, Nat.zero_add, Nat.reduceAdd] at hF) | (refine s_call hE rfl rfl rfl (u64_err _ _ _ _ _ _ _ _ (hF.focus (k := 0) rfl) (by assumption) (by omega) (by omega)) ?_; rintro _ w ⟨rfl, hS1⟩; clear hE a; intro a hE; have hF2 := St.unfocus (k := 0) rfl hS1; clear hF hS1; have hF := hF2; clear hF2; simp only [List.set_cons_zero, List.set_cons_succ, Nat.zero_add, Nat.reduceAdd] at hF) | (refine s_call hE rfl rfl rfl (u64_ok _ _ _ _ _ _ _ _ (hF.focus (k := 1) rfl) (by assumption) (by omega) (by omega) (by omega)) ?_; rintro _ w ⟨rfl, hS1⟩; clear hE a; intro a hE; have hF2 := St.unfocus (k := 1) rfl hS1; clear hF hS1; have hF := hF2; clear hF2; simp only [List.set_cons_zero, List.set_cons_succ, Nat.zero_add, Nat.reduceAdd] at hF) | (refine s_call hE rfl rfl rfl (u64_short _ _ _ _ _ _ _ _ (hF.focus (k := 1) rfl) (by assumption) (by omega) (by omega) (by omega)) ?_; rintro _ w ⟨rfl, hS1⟩; clear hE a; intro a hE; have hF2 := St.unfocus (k := 1) rfl hS1; clear hF hS1; have hF := hF2; clear hF2; simp only [List.set_cons_zero, List.set_cons_succ, Nat.zero_add, Nat.reduceAdd] at hF) | (refine s_call hE rfl rfl rfl (u64_err _ _ _ _ _ _ _ _ (hF.focus (k := 1) rfl) (by assumption) (by omega) (by omega)) ?_; rintro _ w ⟨rfl, hS1⟩; clear hE a; intro a hE; have hF2 := St.unfocus (k := 1) rfl hS1; clear hF hS1; have hF := hF2; clear hF2; simp only [List.set_cons_zero, List.set_cons_succ, Nat.zero_add, Nat.reduceAdd] at hF) | (refine s_call hE rfl rfl rfl (u64_ok _ _ _ _ _ _ _ _ (hF.focus (k := 2) rfl) (by assumption) (by omega) (by omega) (by omega)) ?_; rintro _ w ⟨rfl, hS1⟩; clear hE a; intro a hE; have hF2 := St.unfocus (k := 2) rfl hS1; clear hF hS1; have hF := hF2; clear hF2; simp only [List.set_cons_zero, List.set_cons_succ, Nat.zero_add, Nat.reduceAdd] at hF) | (refine s_call hE rfl rfl rfl (u64_short _ _ _ _ _ _ _ _ (hF.focus (k := 2) rfl) (by assumption) (by omega) (by omega) (by omega)) ?_; rintro _ w ⟨rfl, hS1⟩; clear hE a; intro a hE; have hF2 := St.unfocus (k := 2) rfl hS1; clear hF hS1; have hF := hF2; clear hF2; simp only [List.set_cons_zero, List.set_cons_succ, Nat.zero_add, Nat.reduceAdd] at hF) | (refine s_call hE rfl rfl rfl (u64_err _ _ _ _ _ _ _ _ (hF.focus (k := 2) rfl) (by assumption) (by omega) (by omega)) ?_; rintro _ w ⟨rfl, hS1⟩; clear hE a; intro a hE; have hF2 := St.unfocus (k := 2) rfl hS1; clear hF hS1; have hF := hF2; clear hF2; simp only [List.set_cons_zero, List.set_cons_succ, Nat.zero_add, Nat.reduceAdd] at hF) | (refine s_call hE rfl rfl rfl (u64_ok _ _ _ _ _ _ _ _ (hF.focus (k := 3) rfl) (by assumption) (by omega) (by omega) (by omega)) ?_; rintro _ w ⟨rfl, hS1⟩; clear hE a; intro a hE; have hF2 := St.unfocus (k := 3) rfl hS1; clear hF hS1; have hF := hF2; clear hF2; simp only [List.set_cons_zero, List.set_cons_succ, Nat.zero_add, Nat.reduceAdd] at hF) | (refine s_call hE rfl rfl rfl (u64_short _ _ _ _ _ _ _ _ (hF.focus (k := 3) rfl) (by assumption) (by omega) (by omega) (by omega)) ?_; rintro _ w ⟨rfl, hS1⟩; clear hE a; intro a hE; have hF2 := St.unfocus (k := 3) rfl hS1; clear hF hS1; have hF := hF2; clear hF2; simp only [List.set_cons_zero, List.set_cons_succ, Nat.zero_add, Nat.reduceAdd] at hF) | (refine s_call hE rfl rfl rfl (u64_err _ _ _ _ _ _ _ _ (hF.focus (k := 3) rfl) (by assumption) (by omega) (by omega)) ?_; rintro _ w ⟨rfl, hS1⟩; clear hE a; intro a hE; have hF2 := St.unfocus (k := 3) rfl hS1; clear hF hS1; have hF := hF2; clear hF2; simp only [List.set_cons_zero, List.set_cons_succ, Nat.zero_add, Nat.reduceAdd] at hF) | (refine s_call hE rfl rfl rfl (u64_ok _ _ _ _ _ _ _ _ (hF.focus (k := 4) rfl) (by assumption) (by omega) (by omega) (by omega)) ?_; rintro _ w ⟨rfl, hS1⟩; clear hE a; intro a hE; have hF2 := St.unfocus (k := 4) rfl hS1; clear hF hS1; have hF := hF2; clear hF2; simp only [List.set_cons_zero, List.set_cons_succ, Nat.zero_add, Nat.reduceAdd] at hF) | (refine s_call hE rfl rfl rfl (u64_short _ _ _ _ _ _ _ _ (hF.focus (k := 4) rfl) (by assumption) (by omega) (by omega) (by omega)) ?_; rintro _ w ⟨rfl, hS1⟩; clear hE a; intro a hE; have hF2 := St.unfocus (k := 4) rfl hS1; clear hF hS1; have hF := hF2; clear hF2; simp only [List.set_cons_zero, List.set_cons_succ, Nat.zero_add, Nat.reduceAdd] at hF) | (refine s_call hE rfl rfl rfl (u64_err _ _ _ _ _ _ _ _ (hF.focus (k := 4) rfl) (by assumption) (by omega) (by omega)) ?_; rintro _ w ⟨rfl, hS1⟩; clear hE a; intro a hE; have hF2 := St.unfocus (k := 4) rfl hS1; clear hF hS1; have hF := hF2; clear hF2; simp only [List.set_cons_zero, List.set_cons_succ, Nat.zero_add, Nat.reduceAdd] at hF)
  refine wpList_nil ?_
  refine o_back _ (fun _ h => h) (hF.only 1 rfl) ?_
  clear hS
  have hS := hF.only 1 rfl
  repeat' (first
    | ((with_reducible refine o_ef rfl ?_))
    )
  first | (refine s_call hE rfl rfl rfl (u64_ok _ _ _ _ _ _ _ _ (hF.focus (k := 0) rfl) (by assumption) (by omega) (by omega) (by omega)) ?_; rintro _ w ⟨rfl, hS1⟩; clear hE a; intro a hE; have hF2 := St.unfocus (k := 0) rfl hS1; clear hF hS1; have hF := hF2; clear hF2; simp only [List.set_cons_zero, List.set_cons_succ, Nat.zero_add, Nat.reduceAdd] at hF) | (refine s_call hE rfl rfl rfl (u64_short _ _ _ _ _ _ _ _ (hF.focus (k := 0) rfl) (by assumption) (by omega) (by omega) (by omega)) ?_; rintro _ w ⟨rfl, hS1⟩; clear hE a; intro a hE; have hF2 := St.unfocus (k := 0) rfl hS1; clear hF hS1; have hF := hF2; clear hF2; simp only [List.set_cons_zero, List.set_cons_succ, Nat.zero_add, Nat.reduceAdd] at hF) | (refine s_call hE rfl rfl rfl (u64_err _ _ _ _ _ _ _ _ (hF.focus (k := 0) rfl) (by assumption) (by omega) (by omega)) ?_; rintro _ w ⟨rfl, hS1⟩; clear hE a; intro a hE; have hF2 := St.unfocus (k := 0) rfl hS1; clear hF hS1; have hF := hF2; clear hF2; simp only [List.set_cons_zero, List.set_cons_succ, Nat.zero_add, Nat.reduceAdd] at hF) | (refine s_call hE rfl rfl rfl (u64_ok _ _ _ _ _ _ _ _ (hF.focus (k := 1) rfl) (by assumption) (by omega) (by omega) (by omega)) ?_; rintro _ w ⟨rfl, hS1⟩; clear hE a; intro a hE; have hF2 := St.unfocus (k := 1) rfl hS1; clear hF hS1; have hF := hF2; clear hF2; simp only [List.set_cons_zero, List.set_cons_succ, Nat.zero_add, Nat.reduceAdd] at hF) | (refine s_call hE rfl rfl rfl (u64_short _ _ _ _ _ _ _ _ (hF.focus (k := 1) rfl) (by assumption) (by omega) (by omega) (by omega)) ?_; rintro _ w ⟨rfl, hS1⟩; clear hE a; intro a hE; have hF2 := St.unfocus (k := 1) rfl hS1; clear hF hS1; have hF := hF2; clear hF2; simp only [List.set_cons_zero, List.set_cons_succ, Nat.zero_add, Nat.reduceAdd] at hF) | (refine s_call hE rfl rfl rfl (u64_err _ _ _ _ _ _ _ _ (hF.focus (k := 1) rfl) (by assumption) (by omega) (by omega)) ?_; rintro _ w ⟨rfl, hS1⟩; clear hE a; intro a hE; have hF2 := St.unfocus (k := 1) rfl hS1; clear hF hS1; have hF := hF2; clear hF2; simp only [List.set_cons_zero, List.set_cons_succ, Nat.zero_add, Nat.reduceAdd] at hF) | (refine s_call hE rfl rfl rfl (u64_ok _ _ _ _ _ _ _ _ (hF.focus (k := 2) rfl) (by assumption) (by omega) (by omega) (by omega)) ?_; rintro _ w ⟨rfl, hS1⟩; clear hE a; intro a hE; have hF2 := St.unfocus (k := 2) rfl hS1; clear hF hS1; have hF := hF2; clear hF2; simp only [List.set_cons_zero, List.set_cons_succ, Nat.zero_add, Nat.reduceAdd] at hF) | (refine s_call hE rfl rfl rfl (u64_short _ _ _ _ _ _ _ _ (hF.focus (k := 2) rfl) (by assumption) (by omega) (by omega) (by omega)) ?_; rintro _ w ⟨rfl, hS1⟩; clear hE a; intro a hE; have hF2 := St.unfocus (k := 2) rfl hS1; clear hF hS1; have hF := hF2; clear hF2; simp only [List.set_cons_zero, List.set_cons_succ, Nat.zero_add, Nat.reduceAdd] at hF) | (refine s_call hE rfl rfl rfl (u64_err _ _ _ _ _ _ _ _ (hF.focus (k := 2) rfl) (by assumption) (by omega) (by omega)) ?_; rintro _ w ⟨rfl, hS1⟩; clear hE a; intro a hE; have hF2 := St.unfocus (k := 2) rfl hS1; clear hF hS1; have hF := hF2; clear hF2; simp only [List.set_cons_zero, List.set_cons_succ, Nat.zero_add, Nat.reduceAdd] at hF) | (refine s_call hE rfl rfl rfl (u64_ok _ _ _ _ _ _ _ _ (hF.focus (k := 3) rfl) (by assumption) (by omega) (by omega) (by omega)) ?_; rintro _ w ⟨rfl, hS1⟩; clear hE a; intro a hE; have hF2 := St.unfocus (k := 3) rfl hS1; clear hF hS1; have hF := hF2; clear hF2; simp only [List.set_cons_zero, List.set_cons_succ, Nat.zero_add, Nat.reduceAdd] at hF) | (refine s_call hE rfl rfl rfl (u64_short _ _ _ _ _ _ _ _ (hF.focus (k := 3) rfl) (by assumption) (by omega) (by omega) (by omega)) ?_; rintro _ w ⟨rfl, hS1⟩; clear hE a; intro a hE; have hF2 := St.unfocus (k := 3) rfl hS1; clear hF hS1; have hF := hF2; clear hF2; simp only [List.set_cons_zero, List.set_cons_succ, Nat.zero_add, Nat.reduceAdd] at hF) | (refine s_call hE rfl rfl rfl (u64_err _ _ _ _ _ _ _ _ (hF.focus (k := 3) rfl) (by assumption) (by omega) (by omega)) ?_; rintro _ w ⟨rfl, hS1⟩; clear hE a; intro a hE; have hF2 := St.unfocus (k := 3) rfl hS1; clear hF hS1; have hF := hF2; clear hF2; simp only [List.set_cons_zero, List.set_cons_succ, Nat.zero_add, Nat.reduceAdd] at hF) | (refine s_call hE rfl rfl rfl (u64_ok _ _ _ _ _ _ _ _ (hF.focus (k := 4) rfl) (by assumption) (by omega) (by omega) (by omega)) ?_; rintro _ w ⟨rfl, hS1⟩; clear hE a; intro a hE; have hF2 := St.unfocus (k := 4) rfl hS1; clear hF hS1; have hF := hF2; clear hF2; simp only [List.set_cons_zero, List.set_cons_succ, Nat.zero_add, Nat.reduceAdd] at hF) | (refine s_call hE rfl rfl rfl (u64_short _ _ _ _ _ _ _ _ (hF.focus (k := 4) rfl) (by assumption) (by omega) (by omega) (by omega)) ?_; rintro _ w ⟨rfl, hS1⟩; clear hE a; intro a hE; have hF2 := St.unfocus (k := 4) rfl hS1; clear hF hS1; have hF := hF2; clear hF2; simp only [List.set_cons_zero, List.set_cons_succ, Nat.zero_add, Nat.reduceAdd] at hF) | (refine s_call hE rfl rfl rfl (u64_err _ _ _ _ _ _ _ _ (hF.focus (k := 4) rfl) (by assumption) (by omega) (by omega)) ?_; rintro _ w ⟨rfl, hS1⟩; clear hE a; intro a hE; have hF2 := St.unfocus (k := 4) rfl hS1; clear hF hS1; have hF := hF2; clear hF2; simp only [List.set_cons_zero, List.set_cons_succ, Nat.zero_add, Nat.reduceAdd] at hF)
  refine wpList_nil ?_
  refine o_back _ (fun _ h => h) (hF.only 1 rfl) ?_
  clear hS
  have hS := hF.only 1 rfl
  repeat' (first
    | ((with_reducible refine o_ef rfl ?_))
    )
  refine g_store ?_
  refine s_storeB (k := 0) hF hE rfl rfl rfl rfl rfl rfl ?_
  clear hF; intro w hF; simp only [List.set_cons_zero, List.set_cons_succ] at hF
  refine wpList_nil ?_
  refine o_back _ (fun _ h => h) (hF.only 1 rfl) ?_
  clear hS
  have hS := hF.only 1 rfl
  repeat' (first
    | (with_reducible refine o_rd rfl ?_)
    | ((with_reducible refine q_fa ?_); refine d_val hE hS rfl (fun w hS => r_fieldL hE rfl rfl) ?_; clear hE a; intro a hE)
    | ((with_reducible refine o_ef rfl ?_))
    )
  refine g_store ?_
  refine s_storeB (k := 0) hF hE rfl rfl rfl rfl rfl rfl ?_
  clear hF; intro w hF; simp only [List.set_cons_zero, List.set_cons_succ] at hF
  refine wpList_nil ?_
  refine o_back _ (fun _ h => h) (hF.only 1 rfl) ?_
  clear hS
  have hS := hF.only 1 rfl
  repeat' (first
    | ((with_reducible refine o_lt rfl ?_))
    )
  clear hS
  have hS := hF
  clear hF
  repeat' (first
    | (with_reducible refine wp_seq ?_)
    | (with_reducible refine c_region ?_)
    | (with_reducible refine wpList_nil ?_)
    | (with_reducible refine then_normal ?_)
    | ((with_reducible refine g_move ?_); refine s_move hE rfl rfl ?_; clear hE a; intro a hE)
    | ((with_reducible refine g_fa ?_); refine s_fieldL hE rfl rfl rfl ?_; clear hE a; intro a hE)
    | ((with_reducible refine g_cond ?_); refine c_true hE rfl ?_)
    | ((with_reducible refine g_call (f := 32) ?_); (first | (refine s_call hE rfl rfl rfl (has _ _ true _ (by decide +kernel)) ?_) ); rintro _ w ⟨rfl, rfl⟩; clear hE a; intro a hE) | ((with_reducible refine g_store ?_); (first | (refine s_storeB (k := 0) hS hE rfl rfl rfl rfl rfl rfl ?_) ); clear hS; intro w hS; simp only [List.set_cons_zero, List.set_cons_succ, Nat.add_zero] at hS)
    | (with_reducible refine o_done ?_)
    | ((with_reducible refine o_lt rfl ?_))
    | ((with_reducible refine o_backL ?_))
    )
  refine c_ordK hS 1 rfl 10 ((.rd 0 (.rd 1 (.rd 4 (.rd 5 (.ef 2 (.rd 3 (.rd 8 (.ef 6 (.rd 7 (.ef 9 (.lt 10 (.lt 11 .done))))))))))))) mixed (by decide +kernel) ?_
  clear hS; intro w hF hS
  repeat' (first
    | (with_reducible refine o_rd rfl ?_)
    | ((with_reducible refine q_fa ?_); refine d_val hE hS rfl (fun w hS => r_fieldL hE rfl rfl) ?_; clear hE a; intro a hE)
    | ((with_reducible refine q_load ?_); (first | (refine d_val hE hS rfl (fun w hS => r_loadB (k := 0) hS hE rfl rfl rfl) ?_) ); clear hE a; intro a hE)
    | ((with_reducible refine o_ef rfl ?_))
    )
  first | (refine s_call hE rfl rfl rfl (u8_ok _ _ _ _ _ _ _ _ (hF.focus (k := 0) rfl) (by assumption) (by omega) (by omega) (by omega)) ?_; rintro _ w ⟨rfl, hS1⟩; clear hE a; intro a hE; have hF2 := St.unfocus (k := 0) rfl hS1; clear hF hS1; have hF := hF2; clear hF2; simp only [List.set_cons_zero, List.set_cons_succ, Nat.zero_add, Nat.reduceAdd] at hF) | (refine s_call hE rfl rfl rfl (u8_short _ _ _ _ _ _ _ _ (hF.focus (k := 0) rfl) (by assumption) (by omega) (by omega) (by omega)) ?_; rintro _ w ⟨rfl, hS1⟩; clear hE a; intro a hE; have hF2 := St.unfocus (k := 0) rfl hS1; clear hF hS1; have hF := hF2; clear hF2; simp only [List.set_cons_zero, List.set_cons_succ, Nat.zero_add, Nat.reduceAdd] at hF) | (refine s_call hE rfl rfl rfl (u8_err _ _ _ _ _ _ _ _ (hF.focus (k := 0) rfl) (by assumption) (by omega) (by omega)) ?_; rintro _ w ⟨rfl, hS1⟩; clear hE a; intro a hE; have hF2 := St.unfocus (k := 0) rfl hS1; clear hF hS1; have hF := hF2; clear hF2; simp only [List.set_cons_zero, List.set_cons_succ, Nat.zero_add, Nat.reduceAdd] at hF) | (refine s_call hE rfl rfl rfl (u8_ok _ _ _ _ _ _ _ _ (hF.focus (k := 1) rfl) (by assumption) (by omega) (by omega) (by omega)) ?_; rintro _ w ⟨rfl, hS1⟩; clear hE a; intro a hE; have hF2 := St.unfocus (k := 1) rfl hS1; clear hF hS1; have hF := hF2; clear hF2; simp only [List.set_cons_zero, List.set_cons_succ, Nat.zero_add, Nat.reduceAdd] at hF) | (refine s_call hE rfl rfl rfl (u8_short _ _ _ _ _ _ _ _ (hF.focus (k := 1) rfl) (by assumption) (by omega) (by omega) (by omega)) ?_; rintro _ w ⟨rfl, hS1⟩; clear hE a; intro a hE; have hF2 := St.unfocus (k := 1) rfl hS1; clear hF hS1; have hF := hF2; clear hF2; simp only [List.set_cons_zero, List.set_cons_succ, Nat.zero_add, Nat.reduceAdd] at hF) | (refine s_call hE rfl rfl rfl (u8_err _ _ _ _ _ _ _ _ (hF.focus (k := 1) rfl) (by assumption) (by omega) (by omega)) ?_; rintro _ w ⟨rfl, hS1⟩; clear hE a; intro a hE; have hF2 := St.unfocus (k := 1) rfl hS1; clear hF hS1; have hF := hF2; clear hF2; simp only [List.set_cons_zero, List.set_cons_succ, Nat.zero_add, Nat.reduceAdd] at hF) | (refine s_call hE rfl rfl rfl (u8_ok _ _ _ _ _ _ _ _ (hF.focus (k := 2) rfl) (by assumption) (by omega) (by omega) (by omega)) ?_; rintro _ w ⟨rfl, hS1⟩; clear hE a; intro a hE; have hF2 := St.unfocus (k := 2) rfl hS1; clear hF hS1; have hF := hF2; clear hF2; simp only [List.set_cons_zero, List.set_cons_succ, Nat.zero_add, Nat.reduceAdd] at hF) | (refine s_call hE rfl rfl rfl (u8_short _ _ _ _ _ _ _ _ (hF.focus (k := 2) rfl) (by assumption) (by omega) (by omega) (by omega)) ?_; rintro _ w ⟨rfl, hS1⟩; clear hE a; intro a hE; have hF2 := St.unfocus (k := 2) rfl hS1; clear hF hS1; have hF := hF2; clear hF2; simp only [List.set_cons_zero, List.set_cons_succ, Nat.zero_add, Nat.reduceAdd] at hF) | (refine s_call hE rfl rfl rfl (u8_err _ _ _ _ _ _ _ _ (hF.focus (k := 2) rfl) (by assumption) (by omega) (by omega)) ?_; rintro _ w ⟨rfl, hS1⟩; clear hE a; intro a hE; have hF2 := St.unfocus (k := 2) rfl hS1; clear hF hS1; have hF := hF2; clear hF2; simp only [List.set_cons_zero, List.set_cons_succ, Nat.zero_add, Nat.reduceAdd] at hF) | (refine s_call hE rfl rfl rfl (u8_ok _ _ _ _ _ _ _ _ (hF.focus (k := 3) rfl) (by assumption) (by omega) (by omega) (by omega)) ?_; rintro _ w ⟨rfl, hS1⟩; clear hE a; intro a hE; have hF2 := St.unfocus (k := 3) rfl hS1; clear hF hS1; have hF := hF2; clear hF2; simp only [List.set_cons_zero, List.set_cons_succ, Nat.zero_add, Nat.reduceAdd] at hF) | (refine s_call hE rfl rfl rfl (u8_short _ _ _ _ _ _ _ _ (hF.focus (k := 3) rfl) (by assumption) (by omega) (by omega) (by omega)) ?_; rintro _ w ⟨rfl, hS1⟩; clear hE a; intro a hE; have hF2 := St.unfocus (k := 3) rfl hS1; clear hF hS1; have hF := hF2; clear hF2; simp only [List.set_cons_zero, List.set_cons_succ, Nat.zero_add, Nat.reduceAdd] at hF) | (refine s_call hE rfl rfl rfl (u8_err _ _ _ _ _ _ _ _ (hF.focus (k := 3) rfl) (by assumption) (by omega) (by omega)) ?_; rintro _ w ⟨rfl, hS1⟩; clear hE a; intro a hE; have hF2 := St.unfocus (k := 3) rfl hS1; clear hF hS1; have hF := hF2; clear hF2; simp only [List.set_cons_zero, List.set_cons_succ, Nat.zero_add, Nat.reduceAdd] at hF) | (refine s_call hE rfl rfl rfl (u8_ok _ _ _ _ _ _ _ _ (hF.focus (k := 4) rfl) (by assumption) (by omega) (by omega) (by omega)) ?_; rintro _ w ⟨rfl, hS1⟩; clear hE a; intro a hE; have hF2 := St.unfocus (k := 4) rfl hS1; clear hF hS1; have hF := hF2; clear hF2; simp only [List.set_cons_zero, List.set_cons_succ, Nat.zero_add, Nat.reduceAdd] at hF) | (refine s_call hE rfl rfl rfl (u8_short _ _ _ _ _ _ _ _ (hF.focus (k := 4) rfl) (by assumption) (by omega) (by omega) (by omega)) ?_; rintro _ w ⟨rfl, hS1⟩; clear hE a; intro a hE; have hF2 := St.unfocus (k := 4) rfl hS1; clear hF hS1; have hF := hF2; clear hF2; simp only [List.set_cons_zero, List.set_cons_succ, Nat.zero_add, Nat.reduceAdd] at hF) | (refine s_call hE rfl rfl rfl (u8_err _ _ _ _ _ _ _ _ (hF.focus (k := 4) rfl) (by assumption) (by omega) (by omega)) ?_; rintro _ w ⟨rfl, hS1⟩; clear hE a; intro a hE; have hF2 := St.unfocus (k := 4) rfl hS1; clear hF hS1; have hF := hF2; clear hF2; simp only [List.set_cons_zero, List.set_cons_succ, Nat.zero_add, Nat.reduceAdd] at hF)
  refine wpList_nil ?_
  refine o_back _ (fun _ h => h) (hF.only 1 rfl) ?_
  clear hS
  have hS := hF.only 1 rfl
  repeat' (first
    | (with_reducible refine o_rd rfl ?_)
    | ((with_reducible refine q_conv ?_); refine d_val hE hS rfl (fun w hS => r_conv hE rfl (by first | exact wrap64_in (by omega) )) ?_; clear hE a; intro a hE)
    | ((with_reducible refine q_fa ?_); refine d_val hE hS rfl (fun w hS => r_fieldL hE rfl rfl) ?_; clear hE a; intro a hE)
    | ((with_reducible refine o_ef rfl ?_))
    )
  first | (refine s_call hE rfl rfl rfl (u8_ok _ _ _ _ _ _ _ _ (hF.focus (k := 0) rfl) (by assumption) (by omega) (by omega) (by omega)) ?_; rintro _ w ⟨rfl, hS1⟩; clear hE a; intro a hE; have hF2 := St.unfocus (k := 0) rfl hS1; clear hF hS1; have hF := hF2; clear hF2; simp only [List.set_cons_zero, List.set_cons_succ, Nat.zero_add, Nat.reduceAdd] at hF) | (refine s_call hE rfl rfl rfl (u8_short _ _ _ _ _ _ _ _ (hF.focus (k := 0) rfl) (by assumption) (by omega) (by omega) (by omega)) ?_; rintro _ w ⟨rfl, hS1⟩; clear hE a; intro a hE; have hF2 := St.unfocus (k := 0) rfl hS1; clear hF hS1; have hF := hF2; clear hF2; simp only [List.set_cons_zero, List.set_cons_succ, Nat.zero_add, Nat.reduceAdd] at hF) | (refine s_call hE rfl rfl rfl (u8_err _ _ _ _ _ _ _ _ (hF.focus (k := 0) rfl) (by assumption) (by omega) (by omega)) ?_; rintro _ w ⟨rfl, hS1⟩; clear hE a; intro a hE; have hF2 := St.unfocus (k := 0) rfl hS1; clear hF hS1; have hF := hF2; clear hF2; simp only [List.set_cons_zero, List.set_cons_succ, Nat.zero_add, Nat.reduceAdd] at hF) | (refine s_call hE rfl rfl rfl (u8_ok _ _ _ _ _ _ _ _ (hF.focus (k := 1) rfl) (by assumption) (by omega) (by omega) (by omega)) ?_; rintro _ w ⟨rfl, hS1⟩; clear hE a; intro a hE; have hF2 := St.unfocus (k := 1) rfl hS1; clear hF hS1; have hF := hF2; clear hF2; simp only [List.set_cons_zero, List.set_cons_succ, Nat.zero_add, Nat.reduceAdd] at hF) | (refine s_call hE rfl rfl rfl (u8_short _ _ _ _ _ _ _ _ (hF.focus (k := 1) rfl) (by assumption) (by omega) (by omega) (by omega)) ?_; rintro _ w ⟨rfl, hS1⟩; clear hE a; intro a hE; have hF2 := St.unfocus (k := 1) rfl hS1; clear hF hS1; have hF := hF2; clear hF2; simp only [List.set_cons_zero, List.set_cons_succ, Nat.zero_add, Nat.reduceAdd] at hF) | (refine s_call hE rfl rfl rfl (u8_err _ _ _ _ _ _ _ _ (hF.focus (k := 1) rfl) (by assumption) (by omega) (by omega)) ?_; rintro _ w ⟨rfl, hS1⟩; clear hE a; intro a hE; have hF2 := St.unfocus (k := 1) rfl hS1; clear hF hS1; have hF := hF2; clear hF2; simp only [List.set_cons_zero, List.set_cons_succ, Nat.zero_add, Nat.reduceAdd] at hF) | (refine s_call hE rfl rfl rfl (u8_ok _ _ _ _ _ _ _ _ (hF.focus (k := 2) rfl) (by assumption) (by omega) (by omega) (by omega)) ?_; rintro _ w ⟨rfl, hS1⟩; clear hE a; intro a hE; have hF2 := St.unfocus (k := 2) rfl hS1; clear hF hS1; have hF := hF2; clear hF2; simp only [List.set_cons_zero, List.set_cons_succ, Nat.zero_add, Nat.reduceAdd] at hF) | (refine s_call hE rfl rfl rfl (u8_short _ _ _ _ _ _ _ _ (hF.focus (k := 2) rfl) (by assumption) (by omega) (by omega) (by omega)) ?_; rintro _ w ⟨rfl, hS1⟩; clear hE a; intro a hE; have hF2 := St.unfocus (k := 2) rfl hS1; clear hF hS1; have hF := hF2; clear hF2; simp only [List.set_cons_zero, List.set_cons_succ, Nat.zero_add, Nat.reduceAdd] at hF) | (refine s_call hE rfl rfl rfl (u8_err _ _ _ _ _ _ _ _ (hF.focus (k := 2) rfl) (by assumption) (by omega) (by omega)) ?_; rintro _ w ⟨rfl, hS1⟩; clear hE a; intro a hE; have hF2 := St.unfocus (k := 2) rfl hS1; clear hF hS1; have hF := hF2; clear hF2; simp only [List.set_cons_zero, List.set_cons_succ, Nat.zero_add, Nat.reduceAdd] at hF) | (refine s_call hE rfl rfl rfl (u8_ok _ _ _ _ _ _ _ _ (hF.focus (k := 3) rfl) (by assumption) (by omega) (by omega) (by omega)) ?_; rintro _ w ⟨rfl, hS1⟩; clear hE a; intro a hE; have hF2 := St.unfocus (k := 3) rfl hS1; clear hF hS1; have hF := hF2; clear hF2; simp only [List.set_cons_zero, List.set_cons_succ, Nat.zero_add, Nat.reduceAdd] at hF) | (refine s_call hE rfl rfl rfl (u8_short _ _ _ _ _ _ _ _ (hF.focus (k := 3) rfl) (by assumption) (by omega) (by omega) (by omega)) ?_; rintro _ w ⟨rfl, hS1⟩; clear hE a; intro a hE; have hF2 := St.unfocus (k := 3) rfl hS1; clear hF hS1; have hF := hF2; clear hF2; simp only [List.set_cons_zero, List.set_cons_succ, Nat.zero_add, Nat.reduceAdd] at hF) | (refine s_call hE rfl rfl rfl (u8_err _ _ _ _ _ _ _ _ (hF.focus (k := 3) rfl) (by assumption) (by omega) (by omega)) ?_; rintro _ w ⟨rfl, hS1⟩; clear hE a; intro a hE; have hF2 := St.unfocus (k := 3) rfl hS1; clear hF hS1; have hF := hF2; clear hF2; simp only [List.set_cons_zero, List.set_cons_succ, Nat.zero_add, Nat.reduceAdd] at hF) | (refine s_call hE rfl rfl rfl (u8_ok _ _ _ _ _ _ _ _ (hF.focus (k := 4) rfl) (by assumption) (by omega) (by omega) (by omega)) ?_; rintro _ w ⟨rfl, hS1⟩; clear hE a; intro a hE; have hF2 := St.unfocus (k := 4) rfl hS1; clear hF hS1; have hF := hF2; clear hF2; simp only [List.set_cons_zero, List.set_cons_succ, Nat.zero_add, Nat.reduceAdd] at hF) | (refine s_call hE rfl rfl rfl (u8_short _ _ _ _ _ _ _ _ (hF.focus (k := 4) rfl) (by assumption) (by omega) (by omega) (by omega)) ?_; rintro _ w ⟨rfl, hS1⟩; clear hE a; intro a hE; have hF2 := St.unfocus (k := 4) rfl hS1; clear hF hS1; have hF := hF2; clear hF2; simp only [List.set_cons_zero, List.set_cons_succ, Nat.zero_add, Nat.reduceAdd] at hF) | (refine s_call hE rfl rfl rfl (u8_err _ _ _ _ _ _ _ _ (hF.focus (k := 4) rfl) (by assumption) (by omega) (by omega)) ?_; rintro _ w ⟨rfl, hS1⟩; clear hE a; intro a hE; have hF2 := St.unfocus (k := 4) rfl hS1; clear hF hS1; have hF := hF2; clear hF2; simp only [List.set_cons_zero, List.set_cons_succ, Nat.zero_add, Nat.reduceAdd] at hF)
  refine wpList_nil ?_
  refine o_back _ (fun _ h => h) (hF.only 1 rfl) ?_
  clear hS
  have hS := hF.only 1 rfl
  repeat' (first
    | (with_reducible refine o_rd rfl ?_)
    | ((with_reducible refine q_conv ?_); refine d_val hE hS rfl (fun w hS => r_conv hE rfl (by first | exact wrap64_in (by omega) )) ?_; clear hE a; intro a hE)
    | ((with_reducible refine o_ef rfl ?_))
    )
  refine g_store ?_
  refine s_storeB (k := 0) hF hE rfl rfl rfl rfl rfl rfl ?_
  clear hF; intro w hF; simp only [List.set_cons_zero, List.set_cons_succ] at hF
  refine wpList_nil ?_
  refine o_back _ (fun _ h => h) (hF.only 1 rfl) ?_
  clear hS
  have hS := hF.only 1 rfl
  repeat' (first
    | ((with_reducible refine o_lt rfl ?_))
    )
  clear hS
  have hS := hF
  clear hF
  repeat' (first
    | (with_reducible refine wp_seq ?_)
    | (with_reducible refine c_region ?_)
    | (with_reducible refine wpList_nil ?_)
    | (with_reducible refine then_normal ?_)
    | (with_reducible refine wp_skip ?_)
    | (with_reducible refine wp_block ?_)
    | ((with_reducible refine g_move ?_); refine s_move hE rfl rfl ?_; clear hE a; intro a hE)
    | ((with_reducible refine g_assign ?_); refine s_assign hE rfl rfl ?_; clear hE a; intro a hE)
    | ((with_reducible refine g_bin .neq ?_); refine s_neq hE rfl rfl rfl ?_; clear hE a; intro a hE)
    | ((with_reducible refine g_fa ?_); refine s_fieldL hE rfl rfl rfl ?_; clear hE a; intro a hE)
    | ((with_reducible refine g_cond ?_); refine c_true hE rfl ?_)
    | ((with_reducible refine g_cond ?_); refine c_false hE rfl ?_)
    | ((with_reducible refine g_call (f := 32) ?_); (first | (refine s_call hE rfl rfl rfl (has _ _ true _ (by decide +kernel)) ?_) | (refine s_call hE rfl rfl rfl (has _ _ false _ (by decide +kernel)) ?_)); rintro _ w ⟨rfl, rfl⟩; clear hE a; intro a hE) | ((with_reducible refine g_call (f := 38) ?_); (first | (refine s_call hE rfl rfl rfl (item_ok _ _ _ _ _ _ _ _ (hS.focus (k := 2) rfl) (by assumption) (by omega) (by omega) (by omega)) ?_; rintro _ w ⟨_, _, rfl, hS1⟩; clear hE a; intro a hE; have hS2 := St.unfocus2 (k := 2) rfl hS1; clear hS hS1; have hS := hS2; clear hS2; simp only [List.set_cons_zero, List.set_cons_succ, Nat.zero_add, Nat.reduceAdd] at hS) | (refine s_call hE rfl rfl rfl (item_ok _ _ _ _ _ _ _ _ (hS.focus (k := 3) rfl) (by assumption) (by omega) (by omega) (by omega)) ?_; rintro _ w ⟨_, _, rfl, hS1⟩; clear hE a; intro a hE; have hS2 := St.unfocus2 (k := 3) rfl hS1; clear hS hS1; have hS := hS2; clear hS2; simp only [List.set_cons_zero, List.set_cons_succ, Nat.zero_add, Nat.reduceAdd] at hS) )) | ((with_reducible refine g_call (f := 39) ?_); (first | (refine s_call hE rfl rfl rfl (rerr _ _ _ _ _ _ _ _ _ (hS.focus (k := 4) rfl)) ?_; rintro _ w ⟨rfl, hS1⟩; clear hE a; intro a hE; have hS2 := St.unfocus (k := 4) rfl hS1; clear hS hS1; have hS := hS2; clear hS2; simp only [List.set_cons_zero, List.set_cons_succ] at hS) )) | ((with_reducible refine g_load ?_); (first | (refine s_loadB (k := 3) hS hE rfl rfl rfl rfl ?_) ); clear hE a; intro a hE)
    | ((with_reducible refine g_store ?_); (first | (refine s_storeB (k := 0) hS hE rfl rfl rfl rfl rfl rfl ?_) | (refine s_storeB (k := 1) hS hE rfl rfl rfl rfl rfl rfl ?_) | (refine s_storeB (k := 2) hS hE rfl rfl rfl rfl rfl rfl ?_) ); clear hS; intro w hS; simp only [List.set_cons_zero, List.set_cons_succ, Nat.add_zero] at hS)
    | ((with_reducible refine g_load ?_); (first | (refine s_loadW (k := 1) hS hE rfl rfl rfl rfl ?_) | (refine s_loadW (k := 2) hS hE rfl rfl rfl rfl ?_) ); clear hE a; intro a hE)
    | (with_reducible refine o_done ?_)
    | ((with_reducible refine o_lt rfl ?_))
    | ((with_reducible refine o_backL ?_))
    )
  have a4 := oct_lt hx (28 + oct xs 27)
  have hP := parse1_some hk hn
  unfold decPost
  by_cases hR : (P1 xs none 0 none 0).right
  · refine s_call hE rfl rfl rfl (check_ok (P1 xs _ _ _ _) w ⟨hS.rdAt (k := 1) rfl, hS.rdAt (k := 0) rfl⟩ (P1_wf hx (hS.lenAt (k := 1) rfl).2.1 (hS.lenAt (k := 0) rfl).2.1) hR) ?_
    rintro _ w ⟨rfl, hS1⟩; clear hE a; intro a hE; replace hS := hS.frame hS1; clear hS1; try simp only [List.cons_append, List.nil_append] at hS
    repeat' (first
      | (with_reducible refine wp_seq ?_)
      | (with_reducible refine wpList_nil ?_)
      | (with_reducible refine then_normal ?_)
      | (with_reducible refine wp_skip ?_)
      | (with_reducible refine block_normal ?_)
      | ((with_reducible refine g_assign ?_); refine s_assign hE rfl rfl ?_; clear hE a; intro a hE)
      | ((with_reducible refine g_bin .neq ?_); refine s_neq hE rfl rfl rfl ?_; clear hE a; intro a hE)
      | ((with_reducible refine g_cond ?_); refine c_false hE rfl ?_)
      )
    refine c_ordK2 hS 2 2 rfl rfl 8 ((.rd 0 (.rd 1 (.rd 2 (.rd 3 (.rd 4 (.ef 5 (.rd 6 (.ef 7 (.lt 8 (.lt 9 .done))))))))))) mixed (by decide +kernel) ?_
    clear hS; intro w hF hS
    repeat' (first
      | (with_reducible refine o_rd rfl ?_)
      | ((with_reducible refine q_move ?_); refine d_val hE hS rfl (fun w hS => r_move hE rfl) ?_; clear hE a; intro a hE)
      | ((with_reducible refine q_blt .len ?_); refine d_val hE hS rfl (fun w hS => r_len hE rfl) ?_; clear hE a; intro a hE)
      | ((with_reducible refine q_fa ?_); refine d_val hE hS rfl (fun w hS => r_fieldL hE rfl rfl) ?_; clear hE a; intro a hE)
      | ((with_reducible refine q_load ?_); (first | (refine d_val hE hS rfl (fun w hS => r_loadB (k := 0) hS hE rfl rfl rfl) ?_) ); clear hE a; intro a hE)
      | ((with_reducible refine q_load ?_); (first | (refine d_val hE hS rfl (fun w hS => r_loadW (k := 1) hS hE rfl rfl rfl) ?_) ); clear hE a; intro a hE)
      | ((with_reducible refine o_ef rfl ?_))
      )
    refine s_call hE rfl rfl rfl (left _ _ _ _ _ _ _ _ _ (hF.focus (k := 4) rfl) (by omega) (by omega)) ?_
    rintro _ w ⟨rfl, hS1⟩; clear hE a; intro a hE; have hF2 := St.unfocus (k := 4) rfl hS1; clear hF hS1; have hF := hF2; clear hF2; simp only [List.set_cons_zero, List.set_cons_succ] at hF
    refine wpList_nil ?_
    refine o_back _ (fun _ h => h) (hF.only2 2 2 rfl rfl) ?_
    clear hS
    have hS := hF.only2 2 2 rfl rfl
    repeat' (first
      | (with_reducible refine o_rd rfl ?_)
      | ((with_reducible refine q_bin .sub ?_); refine d_val hE hS rfl (fun w hS => r_sub hE rfl rfl (by first | exact subN (by omega) (by omega) )) ?_; clear hE a; intro a hE)
      | ((with_reducible refine o_ef rfl ?_))
      )
    refine g_store ?_
    refine s_storeW (k := 5) hF hE rfl rfl rfl rfl rfl (by simp [Value.oneCell']) ?_
    clear hF; intro w hF; simp only [List.set_cons_zero, List.set_cons_succ] at hF
    refine wpList_nil ?_
    refine o_back _ (fun _ h => h) (hF.only2 2 2 rfl rfl) ?_
    clear hS
    have hS := hF
    clear hF
    repeat' (first
      | (with_reducible refine wpList_nil ?_)
      | (with_reducible refine then_normal ?_)
      | (with_reducible refine wp_ret ?_)
      | ((with_reducible refine g_assign ?_); refine s_assign hE rfl rfl ?_; clear hE a; intro a hE)
      | (with_reducible refine o_done ?_)
      | ((with_reducible refine o_lt rfl ?_))
      | ((with_reducible refine o_backL ?_))
      )
    rw [decM_yes h0 (by omega) hP hR]
    rw [show xs.length - (xs.length - (28 + oct xs 27 + 1 + oct xs (28 + oct xs 27))) = 28 + oct xs 27 + 1 + oct xs (28 + oct xs 27) from by omega] at hE
    exact retG (vs := [_, _, _]) hE rfl ⟨⟨_, rfl, res_W (k := 5) hS rfl rfl⟩, rfl, rfl, trivial⟩ ⟨_, _, _, _, rfl, hS.p1.keep2⟩
  · refine s_call hE rfl rfl rfl (check_no (P1 xs _ _ _ _) w ⟨hS.rdAt (k := 1) rfl, hS.rdAt (k := 0) rfl⟩ (P1_wf hx (hS.lenAt (k := 1) rfl).2.1 (hS.lenAt (k := 0) rfl).2.1) hR) ?_
    rintro _ w ⟨rfl, hS1⟩; clear hE a; intro a hE; replace hS := hS.frame hS1; clear hS1; try simp only [List.cons_append, List.nil_append] at hS
    repeat' (first
      | (with_reducible refine wp_seq ?_)
      | (with_reducible refine c_region ?_)
      | (with_reducible refine wpList_nil ?_)
      | (with_reducible refine then_normal ?_)
      | (with_reducible refine wp_ret ?_)
      | (with_reducible refine then_ret ?_)
      | (with_reducible refine block_ret ?_)
      | ((with_reducible refine g_assign ?_); refine s_assign hE rfl rfl ?_; clear hE a; intro a hE)
      | ((with_reducible refine g_bin .neq ?_); refine s_neq hE rfl rfl rfl ?_; clear hE a; intro a hE)
      | ((with_reducible refine g_cond ?_); refine c_true hE rfl ?_)
      | ((with_reducible refine g_build ?_); refine s_build [_, _, _, _, _, _, _, _, _] hE rfl rfl rfl ?_; clear hE a; intro a hE)
      | ((with_reducible refine g_store ?_); (first | (refine s_storeW (k := 5) hS hE rfl rfl rfl rfl rfl (by simp [Value.oneCell']) ?_) ); clear hS; intro w hS; simp only [List.set_cons_zero, List.set_cons_succ, Nat.add_zero] at hS)
      )
    rw [decM_no h0 (by omega) hP hR]
    exact retG (vs := [_, _, _]) hE rfl ⟨⟨_, rfl, res_W (k := 5) hS rfl rfl⟩, rfl, rfl, trivial⟩ ⟨none, 0, none, 0, rfl, (hS.nil.rowNil _ _).rowNil _ _⟩
set_option maxHeartbeats 4000000 in
theorem decode2s (A : Option Addr) (c : Nat) (xs : List Nat) (w0 : World) (hr : Rd w0 A (bys xs)) (hx : Bs xs) (hl : xs.length ≤ 140737488355328) (h0 : ¬ xs = []) (hk : oct xs 0 = 2) (hn : 28 ≤ xs.length ∧ 36 + oct xs 27 ≤ xs.length) :
    Fn Try.prog 17 [.slice A xs.length c] w0 (decPost xs w0) := by
  refine enter 89 Try.func17 rfl rfl rfl ?_
  intro a hE
  have hS := St.start w0
  have hl0 : 0 < xs.length := List.length_pos_iff.mpr h0
  have ho := oct_lt hx 0
  have hk' := hk
  have ho25 := oct_lt hx 25
  have ho26 := oct_lt hx 26
  unfold oct at ho hk' ho25 ho26
  repeat' (first
    | (with_reducible refine wp_seq ?_)
    | (with_reducible refine c_region ?_)
    | (with_reducible refine wpList_nil ?_)
    | (with_reducible refine then_normal ?_)
    | (with_reducible refine wp_skip ?_)
    | ((with_reducible refine g_move ?_); refine s_move hE rfl rfl ?_; clear hE a; intro a hE)
    | ((with_reducible refine g_assign ?_); refine s_assign hE rfl rfl ?_; clear hE a; intro a hE)
    | ((with_reducible refine g_bin .gtr ?_); refine s_gtr hE rfl rfl rfl ?_; clear hE a; intro a hE)
    | ((with_reducible refine g_un .not ?_); refine s_notb hE rfl rfl ?_; clear hE a; intro a hE)
    | ((with_reducible refine g_conv ?_); refine s_conv hE rfl rfl (by first  | exact wrap64_in (by omega) ) ?_; clear hE a; intro a hE)
    | ((with_reducible refine g_blt .len ?_); refine s_len hE rfl rfl ?_; clear hE a; intro a hE)
    | ((with_reducible refine g_extract ?_); refine s_extract hE rfl rfl rfl ?_; clear hE a; intro a hE)
    | ((with_reducible refine g_fa ?_); refine s_fieldL hE rfl rfl rfl ?_; clear hE a; intro a hE)
    | ((with_reducible refine g_guard ?_); refine gd_yes hE rfl rfl rfl ?_)
    | ((with_reducible refine g_guard ?_); refine gd_dec hE rfl rfl (fun hc hE2 => ?_) (fun hc hE2 => ?_) <;> (try omega) <;> (replace hE := hE2; clear hE2))
    | ((with_reducible refine g_pick ?_); refine s_pickT hE rfl rfl rfl ?_; clear hE a; intro a hE)
    | ((with_reducible refine g_cond ?_); refine c_false hE rfl ?_)
    | ((with_reducible refine g_call (f := 35) ?_); refine s_call hE rfl rfl rfl (read _ _ _ _ (by first | exact Rd.st (by assumption) hS ) (by first | omega )) ?_; rintro _ w ⟨g, _, _, rfl, hS1⟩; clear hE a; intro a hE; replace hS := hS.frame hS1; clear hS1; try simp only [List.cons_append, List.nil_append] at hS) | ((with_reducible refine g_call (f := 36) ?_); (first | (refine s_call hE rfl rfl rfl (u8_ok _ _ _ _ _ _ _ _ (hS.focus (k := 1) rfl) (by assumption) (by omega) (by omega) (by omega)) ?_; rintro _ w ⟨rfl, hS1⟩; clear hE a; intro a hE; have hS2 := St.unfocus (k := 1) rfl hS1; clear hS hS1; have hS := hS2; clear hS2; simp only [List.set_cons_zero, List.set_cons_succ, Nat.zero_add, Nat.reduceAdd] at hS) )) | ((with_reducible refine g_call (f := 31) ?_); (first | (refine s_call hE rfl rfl rfl (fieldsE2 _ _ (by omega)) ?_) ); rintro _ w ⟨rfl, rfl⟩; clear hE a; intro a hE)
    | ((with_reducible refine g_load ?_); (first | (refine s_loadB (k := 0) hS hE rfl rfl rfl rfl ?_) ); clear hE a; intro a hE)
    | ((with_reducible refine g_alloc ?_); refine s_allocS hE hS rfl rfl ?_; clear hE a hS; intro g a w hE hS)
    | ((with_reducible refine g_build ?_); refine s_build [_] hE rfl rfl rfl ?_; clear hE a; intro a hE)
    | ((with_reducible refine g_build ?_); refine s_build [_, _, _, _, _, _, _, _, _] hE rfl rfl rfl ?_; clear hE a; intro a hE)
    | ((with_reducible refine g_store ?_); (first | (refine s_storeW (k := 0) hS hE rfl rfl rfl rfl rfl (by simp [Value.oneCell']) ?_) ); clear hS; intro w hS; simp only [List.set_cons_zero, List.set_cons_succ, Nat.add_zero] at hS)
    )
  refine c_ordK hS 1 rfl 13 ((.rd 0 (.rd 1 (.rd 3 (.rd 4 (.rd 6 (.rd 7 (.ef 2 (.rd 9 (.ef 5 (.ef 8 (.ef 10 (.rd 11 (.ef 12 (.lt 13 (.lt 14 .done)))))))))))))))) mixed (by decide +kernel) ?_
  clear hS; intro w hF hS
  repeat' (first
    | (with_reducible refine o_rd rfl ?_)
    | ((with_reducible refine q_fa ?_); refine d_val hE hS rfl (fun w hS => r_fieldL hE rfl rfl) ?_; clear hE a; intro a hE)
    | ((with_reducible refine q_load ?_); (first | (refine d_val hE hS rfl (fun w hS => r_loadB (k := 0) hS hE rfl rfl rfl) ?_) ); clear hE a; intro a hE)
    | ((with_reducible refine o_ef rfl ?_))
    )
  first | (refine s_call hE rfl rfl rfl (u64_ok _ _ _ _ _ _ _ _ (hF.focus (k := 0) rfl) (by assumption) (by omega) (by omega) (by omega)) ?_; rintro _ w ⟨rfl, hS1⟩; clear hE a; intro a hE; have hF2 := St.unfocus (k := 0) rfl hS1; clear hF hS1; have hF := hF2; clear hF2; simp only [List.set_cons_zero, List.set_cons_succ, Nat.zero_add, Nat.reduceAdd] at hF) | (refine s_call hE rfl rfl rfl (u64_short _ _ _ _ _ _ _ _ (hF.focus (k := 0) rfl) (by assumption) (by omega) (by omega) (by omega)) ?_; rintro _ w ⟨rfl, hS1⟩; clear hE a; intro a hE; have hF2 := St.unfocus (k := 0) rfl hS1; clear hF hS1; have hF := hF2; clear hF2; simp only [List.set_cons_zero, List.set_cons_succ, Nat.zero_add, Nat.reduceAdd] at hF) | (refine s_call hE rfl rfl rfl (u64_err _ _ _ _ _ _ _ _ (hF.focus (k := 0) rfl) (by assumption) (by omega) (by omega)) ?_; rintro _ w ⟨rfl, hS1⟩; clear hE a; intro a hE; have hF2 := St.unfocus (k := 0) rfl hS1; clear hF hS1; have hF := hF2; clear hF2; simp only [List.set_cons_zero, List.set_cons_succ, Nat.zero_add, Nat.reduceAdd] at hF) | (refine s_call hE rfl rfl rfl (u64_ok _ _ _ _ _ _ _ _ (hF.focus (k := 1) rfl) (by assumption) (by omega) (by omega) (by omega)) ?_; rintro _ w ⟨rfl, hS1⟩; clear hE a; intro a hE; have hF2 := St.unfocus (k := 1) rfl hS1; clear hF hS1; have hF := hF2; clear hF2; simp only [List.set_cons_zero, List.set_cons_succ, Nat.zero_add, Nat.reduceAdd] at hF) | (refine s_call hE rfl rfl rfl (u64_short _ _ _ _ _ _ _ _ (hF.focus (k := 1) rfl) (by assumption) (by omega) (by omega) (by omega)) ?_; rintro _ w ⟨rfl, hS1⟩; clear hE a; intro a hE; have hF2 := St.unfocus (k := 1) rfl hS1; clear hF hS1; have hF := hF2; clear hF2; simp only [List.set_cons_zero, List.set_cons_succ, Nat.zero_add, Nat.reduceAdd] at hF) | (refine s_call hE rfl rfl rfl (u64_err _ _ _ _ _ _ _ _ (hF.focus (k := 1) rfl) (by assumption) (by omega) (by omega)) ?_; rintro _ w ⟨rfl, hS1⟩; clear hE a; intro a hE; have hF2 := St.unfocus (k := 1) rfl hS1; clear hF hS1; have hF := hF2; clear hF2; simp only [List.set_cons_zero, List.set_cons_succ, Nat.zero_add, Nat.reduceAdd] at hF) | (refine s_call hE rfl rfl rfl (u64_ok _ _ _ _ _ _ _ _ (hF.focus (k := 2) rfl) (by assumption) (by omega) (by omega) (by omega)) ?_; rintro _ w ⟨rfl, hS1⟩; clear hE a; intro a hE; have hF2 := St.unfocus (k := 2) rfl hS1; clear hF hS1; have hF := hF2; clear hF2; simp only [List.set_cons_zero, List.set_cons_succ, Nat.zero_add, Nat.reduceAdd] at hF) | (refine s_call hE rfl rfl rfl (u64_short _ _ _ _ _ _ _ _ (hF.focus (k := 2) rfl) (by assumption) (by omega) (by omega) (by omega)) ?_; rintro _ w ⟨rfl, hS1⟩; clear hE a; intro a hE; have hF2 := St.unfocus (k := 2) rfl hS1; clear hF hS1; have hF := hF2; clear hF2; simp only [List.set_cons_zero, List.set_cons_succ, Nat.zero_add, Nat.reduceAdd] at hF) | (refine s_call hE rfl rfl rfl (u64_err _ _ _ _ _ _ _ _ (hF.focus (k := 2) rfl) (by assumption) (by omega) (by omega)) ?_; rintro _ w ⟨rfl, hS1⟩; clear hE a; intro a hE; have hF2 := St.unfocus (k := 2) rfl hS1; clear hF hS1; have hF := hF2; clear hF2; simp only [List.set_cons_zero, List.set_cons_succ, Nat.zero_add, Nat.reduceAdd] at hF) | (refine s_call hE rfl rfl rfl (u64_ok _ _ _ _ _ _ _ _ (hF.focus (k := 3) rfl) (by assumption) (by omega) (by omega) (by omega)) ?_; rintro _ w ⟨rfl, hS1⟩; clear hE a; intro a hE; have hF2 := St.unfocus (k := 3) rfl hS1; clear hF hS1; have hF := hF2; clear hF2; simp only [List.set_cons_zero, List.set_cons_succ, Nat.zero_add, Nat.reduceAdd] at hF) | (refine s_call hE rfl rfl rfl (u64_short _ _ _ _ _ _ _ _ (hF.focus (k := 3) rfl) (by assumption) (by omega) (by omega) (by omega)) ?_; rintro _ w ⟨rfl, hS1⟩; clear hE a; intro a hE; have hF2 := St.unfocus (k := 3) rfl hS1; clear hF hS1; have hF := hF2; clear hF2; simp only [List.set_cons_zero, List.set_cons_succ, Nat.zero_add, Nat.reduceAdd] at hF) | (refine s_call hE rfl rfl rfl (u64_err _ _ _ _ _ _ _ _ (hF.focus (k := 3) rfl) (by assumption) (by omega) (by omega)) ?_; rintro _ w ⟨rfl, hS1⟩; clear hE a; intro a hE; have hF2 := St.unfocus (k := 3) rfl hS1; clear hF hS1; have hF := hF2; clear hF2; simp only [List.set_cons_zero, List.set_cons_succ, Nat.zero_add, Nat.reduceAdd] at hF) | (refine s_call hE rfl rfl rfl (u64_ok _ _ _ _ _ _ _ _ (hF.focus (k := 4) rfl) (by assumption) (by omega) (by omega) (by omega)) ?_; rintro _ w ⟨rfl, hS1⟩; clear hE a; intro a hE; have hF2 := St.unfocus (k := 4) rfl hS1; clear hF hS1; have hF := hF2; clear hF2; simp only [List.set_cons_zero, List.set_cons_succ, Nat.zero_add, Nat.reduceAdd] at hF) | (refine s_call hE rfl rfl rfl (u64_short _ _ _ _ _ _ _ _ (hF.focus (k := 4) rfl) (by assumption) (by omega) (by omega) (by omega)) ?_; rintro _ w ⟨rfl, hS1⟩; clear hE a; intro a hE; have hF2 := St.unfocus (k := 4) rfl hS1; clear hF hS1; have hF := hF2; clear hF2; simp only [List.set_cons_zero, List.set_cons_succ, Nat.zero_add, Nat.reduceAdd] at hF) | (refine s_call hE rfl rfl rfl (u64_err _ _ _ _ _ _ _ _ (hF.focus (k := 4) rfl) (by assumption) (by omega) (by omega)) ?_; rintro _ w ⟨rfl, hS1⟩; clear hE a; intro a hE; have hF2 := St.unfocus (k := 4) rfl hS1; clear hF hS1; have hF := hF2; clear hF2; simp only [List.set_cons_zero, List.set_cons_succ, Nat.zero_add, Nat.reduceAdd] at hF)
  refine wpList_nil ?_
  refine o_back _ (fun _ h => h) (hF.only 1 rfl) ?_
  clear hS
  have hS := hF.only 1 rfl
  repeat' (first
    | (with_reducible refine o_rd rfl ?_)
    | ((with_reducible refine q_fa ?_); refine d_val hE hS rfl (fun w hS => r_fieldL hE rfl rfl) ?_; clear hE a; intro a hE)
    | ((with_reducible refine o_ef rfl ?_))
    )
  first | (refine s_call hE rfl rfl rfl (u64_ok _ _ _ _ _ _ _ _ (hF.focus (k := 0) rfl) (by assumption) (by omega) (by omega) (by omega)) ?_; rintro _ w ⟨rfl, hS1⟩; clear hE a; intro a hE; have hF2 := St.unfocus (k := 0) rfl hS1; clear hF hS1; have hF := hF2; clear hF2; simp only [List.set_cons_zero, List.set_cons_succ, Nat.zero_add, Nat.reduceAdd] at hF) | (refine s_call hE rfl rfl rfl (u64_short _ _ _ _ _ _ _ _ (hF.focus (k := 0) rfl) (by assumption) (by omega) (by omega) (by omega)) ?_; rintro _ w ⟨rfl, hS1⟩; clear hE a; intro a hE; have hF2 := St.unfocus (k := 0) rfl hS1; clear hF hS1; have hF := hF2; clear hF2; simp only [List.set_cons_zero, List.set_cons_succ, Nat.zero_add, Nat.reduceAdd] at hF) | (refine s_call hE rfl rfl rfl (u64_err _ _ _ _ _ _ _ _ (hF.focus (k := 0) rfl) (by assumption) (by omega) (by omega)) ?_; rintro _ w ⟨rfl, hS1⟩; clear hE a; intro a hE; have hF2 := St.unfocus (k := 0) rfl hS1; clear hF hS1; have hF := hF2; clear hF2; simp only [List.set_cons_zero, List.set_cons_succ, Nat.zero_add, Nat.reduceAdd] at hF) | (refine s_call hE rfl rfl rfl (u64_ok _ _ _ _ _ _ _ _ (hF.focus (k := 1) rfl) (by assumption) (by omega) (by omega) (by omega)) ?_; rintro _ w ⟨rfl, hS1⟩; clear hE a; intro a hE; have hF2 := St.unfocus (k := 1) rfl hS1; clear hF hS1; have hF := hF2; clear hF2; simp only [List.set_cons_zero, List.set_cons_succ, Nat.zero_add, Nat.reduceAdd] at hF) | (refine s_call hE rfl rfl rfl (u64_short _ _ _ _ _ _ _ _ (hF.focus (k := 1) rfl) (by assumption) (by omega) (by omega) (by omega)) ?_; rintro _ w ⟨rfl, hS1⟩; clear hE a; intro a hE; have hF2 := St.unfocus (k := 1) rfl hS1; clear hF hS1; have hF := hF2; clear hF2; simp only [List.set_cons_zero, List.set_cons_succ, Nat.zero_add, Nat.reduceAdd] at hF) | (refine s_call hE rfl rfl rfl (u64_err _ _ _ _ _ _ _ _ (hF.focus (k := 1) rfl) (by assumption) (by omega) (by omega)) ?_; rintro _ w ⟨rfl, hS1⟩; clear hE a; intro a hE; have hF2 := St.unfocus (k := 1) rfl hS1; clear hF hS1; have hF := hF2; clear hF2; simp only [List.set_cons_zero, List.set_cons_succ, Nat.zero_add, Nat.reduceAdd] at hF) | (refine s_call hE rfl rfl rfl (u64_ok _ _ _ _ _ _ _ _ (hF.focus (k := 2) rfl) (by assumption) (by omega) (by omega) (by omega)) ?_; rintro _ w ⟨rfl, hS1⟩; clear hE a; intro a hE; have hF2 := St.unfocus (k := 2) rfl hS1; clear hF hS1; have hF := hF2; clear hF2; simp only [List.set_cons_zero, List.set_cons_succ, Nat.zero_add, Nat.reduceAdd] at hF) | (refine s_call hE rfl rfl rfl (u64_short _ _ _ _ _ _ _ _ (hF.focus (k := 2) rfl) (by assumption) (by omega) (by omega) (by omega)) ?_; rintro _ w ⟨rfl, hS1⟩; clear hE a; intro a hE; have hF2 := St.unfocus (k := 2) rfl hS1; clear hF hS1; have hF := hF2; clear hF2; simp only [List.set_cons_zero, List.set_cons_succ, Nat.zero_add, Nat.reduceAdd] at hF) | (refine s_call hE rfl rfl rfl (u64_err _ _ _ _ _ _ _ _ (hF.focus (k := 2) rfl) (by assumption) (by omega) (by omega)) ?_; rintro _ w ⟨rfl, hS1⟩; clear hE a; intro a hE; have hF2 := St.unfocus (k := 2) rfl hS1; clear hF hS1; have hF := hF2; clear hF2; simp only [List.set_cons_zero, List.set_cons_succ, Nat.zero_add, Nat.reduceAdd] at hF) | (refine s_call hE rfl rfl rfl (u64_ok _ _ _ _ _ _ _ _ (hF.focus (k := 3) rfl) (by assumption) (by omega) (by omega) (by omega)) ?_; rintro _ w ⟨rfl, hS1⟩; clear hE a; intro a hE; have hF2 := St.unfocus (k := 3) rfl hS1; clear hF hS1; have hF := hF2; clear hF2; simp only [List.set_cons_zero, List.set_cons_succ, Nat.zero_add, Nat.reduceAdd] at hF) | (refine s_call hE rfl rfl rfl (u64_short _ _ _ _ _ _ _ _ (hF.focus (k := 3) rfl) (by assumption) (by omega) (by omega) (by omega)) ?_; rintro _ w ⟨rfl, hS1⟩; clear hE a; intro a hE; have hF2 := St.unfocus (k := 3) rfl hS1; clear hF hS1; have hF := hF2; clear hF2; simp only [List.set_cons_zero, List.set_cons_succ, Nat.zero_add, Nat.reduceAdd] at hF) | (refine s_call hE rfl rfl rfl (u64_err _ _ _ _ _ _ _ _ (hF.focus (k := 3) rfl) (by assumption) (by omega) (by omega)) ?_; rintro _ w ⟨rfl, hS1⟩; clear hE a; intro a hE; have hF2 := St.unfocus (k := 3) rfl hS1; clear hF hS1; have hF := hF2; clear hF2; simp only [List.set_cons_zero, List.set_cons_succ, Nat.zero_add, Nat.reduceAdd] at hF) | (refine s_call hE rfl rfl rfl (u64_ok _ _ _ _ _ _ _ _ (hF.focus (k := 4) rfl) (by assumption) (by omega) (by omega) (by omega)) ?_; rintro _ w ⟨rfl, hS1⟩; clear hE a; intro a hE; have hF2 := St.unfocus (k := 4) rfl hS1; clear hF hS1; have hF := hF2; clear hF2; simp only [List.set_cons_zero, List.set_cons_succ, Nat.zero_add, Nat.reduceAdd] at hF) | (refine s_call hE rfl rfl rfl (u64_short _ _ _ _ _ _ _ _ (hF.focus (k := 4) rfl) (by assumption) (by omega) (by omega) (by omega)) ?_; rintro _ w ⟨rfl, hS1⟩; clear hE a; intro a hE; have hF2 := St.unfocus (k := 4) rfl hS1; clear hF hS1; have hF := hF2; clear hF2; simp only [List.set_cons_zero, List.set_cons_succ, Nat.zero_add, Nat.reduceAdd] at hF) | (refine s_call hE rfl rfl rfl (u64_err _ _ _ _ _ _ _ _ (hF.focus (k := 4) rfl) (by assumption) (by omega) (by omega)) ?_; rintro _ w ⟨rfl, hS1⟩; clear hE a; intro a hE; have hF2 := St.unfocus (k := 4) rfl hS1; clear hF hS1; have hF := hF2; clear hF2; simp only [List.set_cons_zero, List.set_cons_succ, Nat.zero_add, Nat.reduceAdd] at hF)
  refine wpList_nil ?_
  refine o_back _ (fun _ h => h) (hF.only 1 rfl) ?_
  clear hS
  have hS := hF.only 1 rfl
  repeat' (first
    | ((with_reducible refine o_ef rfl ?_))
    )
  first | (refine s_call hE rfl rfl rfl (u64_ok _ _ _ _ _ _ _ _ (hF.focus (k := 0) rfl) (by assumption) (by omega) (by omega) (by omega)) ?_; rintro _ w ⟨rfl, hS1⟩; clear hE a; intro a hE; have hF2 := St.unfocus (k := 0) rfl hS1; clear hF hS1; have hF := hF2; clear hF2; simp only [List.set_cons_zero, List.set_cons_succ, Nat.zero_add, Nat.reduceAdd] at hF) | (refine s_call hE rfl rfl rfl (u64_short _ _ _ _ _ _ _ _ (hF.focus (k := 0) rfl) (by assumption) (by omega) (by omega) (by omega)) ?_; rintro _ w ⟨rfl, hS1⟩; clear hE a; intro a hE; have hF2 := St.unfocus (k := 0) rfl hS1; clear hF hS1; have hF := hF2; clear hF2; simp only [List.set_cons_zero, List.set_cons_succ, Nat.zero_add, Nat.reduceAdd] at hF) | (refine s_call hE rfl rfl rfl (u64_err _ _ _ _ _ _ _ _ (hF.focus (k := 0) rfl) (by assumption) (by omega) (by omega)) ?_; rintro _ w ⟨rfl, hS1⟩; clear hE a; intro a hE; have hF2 := St.unfocus (k := 0) rfl hS1; clear hF hS1; have hF := hF2; clear hF2; simp only [List.set_cons_zero, List.set_cons_succ, Nat.zero_add, Nat.reduceAdd] at hF) | (refine s_call hE rfl rfl rfl (u64_ok _ _ _ _ _ _ _ _ (hF.focus (k := 1) rfl) (by assumption) (by omega) (by omega) (by omega)) ?_; rintro _ w ⟨rfl, hS1⟩; clear hE a; intro a hE; have hF2 := St.unfocus (k := 1) rfl hS1; clear hF hS1; have hF := hF2; clear hF2; simp only [List.set_cons_zero, List.set_cons_succ, Nat.zero_add, Nat.reduceAdd] at hF) | (refine s_call hE rfl rfl rfl (u64_short _ _ _ _ _ _ _ _ (hF.focus (k := 1) rfl) (by assumption) (by omega) (by omega) (by omega)) ?_; rintro _ w ⟨rfl, hS1⟩; clear hE a; intro a hE; have hF2 := St.unfocus (k := 1) rfl hS1; clear hF hS1; have hF := hF2; clear hF2; simp only [List.set_cons_zero, List.set_cons_succ, Nat.zero_add, Nat.reduceAdd] at hF) | (refine s_call hE rfl rfl rfl (u64_err _ _ _ _ _ _ _ _ (hF.focus (k := 1) rfl) (by assumption) (by omega) (by omega)) ?_; rintro _ w ⟨rfl, hS1⟩; clear hE a; intro a hE; have hF2 := St.unfocus (k := 1) rfl hS1; clear hF hS1; have hF := hF2; clear hF2; simp only [List.set_cons_zero, List.set_cons_succ, Nat.zero_add, Nat.reduceAdd] at hF) | (refine s_call hE rfl rfl rfl (u64_ok _ _ _ _ _ _ _ _ (hF.focus (k := 2) rfl) (by assumption) (by omega) (by omega) (by omega)) ?_; rintro _ w ⟨rfl, hS1⟩; clear hE a; intro a hE; have hF2 := St.unfocus (k := 2) rfl hS1; clear hF hS1; have hF := hF2; clear hF2; simp only [List.set_cons_zero, List.set_cons_succ, Nat.zero_add, Nat.reduceAdd] at hF) | (refine s_call hE rfl rfl rfl (u64_short _ _ _ _ _ _ _ _ (hF.focus (k := 2) rfl) (by assumption) (by omega) (by omega) (by omega)) ?_; rintro _ w ⟨rfl, hS1⟩; clear hE a; intro a hE; have hF2 := St.unfocus (k := 2) rfl hS1; clear hF hS1; have hF := hF2; clear hF2; simp only [List.set_cons_zero, List.set_cons_succ, Nat.zero_add, Nat.reduceAdd] at hF) | (refine s_call hE rfl rfl rfl (u64_err _ _ _ _ _ _ _ _ (hF.focus (k := 2) rfl) (by assumption) (by omega) (by omega)) ?_; rintro _ w ⟨rfl, hS1⟩; clear hE a; intro a hE; have hF2 := St.unfocus (k := 2) rfl hS1; clear hF hS1; have hF := hF2; clear hF2; simp only [List.set_cons_zero, List.set_cons_succ, Nat.zero_add, Nat.reduceAdd] at hF) | (refine s_call hE rfl rfl rfl (u64_ok _ _ _ _ _ _ _ _ (hF.focus (k := 3) rfl) (by assumption) (by omega) (by omega) (by omega)) ?_; rintro _ w ⟨rfl, hS1⟩; clear hE a; intro a hE; have hF2 := St.unfocus (k := 3) rfl hS1; clear hF hS1; have hF := hF2; clear hF2; simp only [List.set_cons_zero, List.set_cons_succ, Nat.zero_add, Nat.reduceAdd] at hF) | (refine s_call hE rfl rfl rfl (u64_short _ _ _ _ _ _ _ _ (hF.focus (k := 3) rfl) (by assumption) (by omega) (by omega) (by omega)) ?_; rintro _ w ⟨rfl, hS1⟩; clear hE a; intro a hE; have hF2 := St.unfocus (k := 3) rfl hS1; clear hF hS1; have hF := hF2; clear hF2; simp only [List.set_cons_zero, List.set_cons_succ, Nat.zero_add, Nat.reduceAdd] at hF) | (refine s_call hE rfl rfl rfl (u64_err _ _ _ _ _ _ _ _ (hF.focus (k := 3) rfl) (by assumption) (by omega) (by omega)) ?_; rintro _ w ⟨rfl, hS1⟩; clear hE a; intro a hE; have hF2 := St.unfocus (k := 3) rfl hS1; clear hF hS1; have hF := hF2; clear hF2; simp only [List.set_cons_zero, List.set_cons_succ, Nat.zero_add, Nat.reduceAdd] at hF) | (refine s_call hE rfl rfl rfl (u64_ok _ _ _ _ _ _ _ _ (hF.focus (k := 4) rfl) (by assumption) (by omega) (by omega) (by omega)) ?_; rintro _ w ⟨rfl, hS1⟩; clear hE a; intro a hE; have hF2 := St.unfocus (k := 4) rfl hS1; clear hF hS1; have hF := hF2; clear hF2; simp only [List.set_cons_zero, List.set_cons_succ, Nat.zero_add, Nat.reduceAdd] at hF) | (refine s_call hE rfl rfl rfl (u64_short _ _ _ _ _ _ _ _ (hF.focus (k := 4) rfl) (by assumption) (by omega) (by omega) (by omega)) ?_; rintro _ w ⟨rfl, hS1⟩; clear hE a; intro a hE; have hF2 := St.unfocus (k := 4) rfl hS1; clear hF hS1; have hF := hF2; clear hF2; simp only [List.set_cons_zero, List.set_cons_succ, Nat.zero_add, Nat.reduceAdd] at hF) | (refine s_call hE rfl rfl rfl (u64_err _ _ _ _ _ _ _ _ (hF.focus (k := 4) rfl) (by assumption) (by omega) (by omega)) ?_; rintro _ w ⟨rfl, hS1⟩; clear hE a; intro a hE; have hF2 := St.unfocus (k := 4) rfl hS1; clear hF hS1; have hF := hF2; clear hF2; simp only [List.set_cons_zero, List.set_cons_succ, Nat.zero_add, Nat.reduceAdd] at hF)
  refine wpList_nil ?_
  refine o_back _ (fun _ h => h) (hF.only 1 rfl) ?_
  clear hS
  have hS := hF.only 1 rfl
  repeat' (first
    | ((with_reducible refine o_ef rfl ?_))
    )
  refine g_store ?_
  refine s_storeB (k := 0) hF hE rfl rfl rfl rfl rfl rfl ?_
  clear hF; intro w hF; simp only [List.set_cons_zero, List.set_cons_succ] at hF
  refine wpList_nil ?_
  refine o_back _ (fun _ h => h) (hF.only 1 rfl) ?_
  clear hS
  have hS := hF.only 1 rfl
  repeat' (first
    | (with_reducible refine o_rd rfl ?_)
    | ((with_reducible refine q_fa ?_); refine d_val hE hS rfl (fun w hS => r_fieldL hE rfl rfl) ?_; clear hE a; intro a hE)
    | ((with_reducible refine o_ef rfl ?_))
    )
  refine g_store ?_
  refine s_storeB (k := 0) hF hE rfl rfl rfl rfl rfl rfl ?_
  clear hF; intro w hF; simp only [List.set_cons_zero, List.set_cons_succ] at hF
  refine wpList_nil ?_
  refine o_back _ (fun _ h => h) (hF.only 1 rfl) ?_
  clear hS
  have hS := hF.only 1 rfl
  repeat' (first
    | ((with_reducible refine o_lt rfl ?_))
    )
  clear hS
  have hS := hF
  clear hF
  repeat' (first
    | (with_reducible refine wp_seq ?_)
    | (with_reducible refine c_region ?_)
    | (with_reducible refine wpList_nil ?_)
    | (with_reducible refine then_normal ?_)
    | ((with_reducible refine g_move ?_); refine s_move hE rfl rfl ?_; clear hE a; intro a hE)
    | ((with_reducible refine g_fa ?_); refine s_fieldL hE rfl rfl rfl ?_; clear hE a; intro a hE)
    | ((with_reducible refine g_cond ?_); refine c_true hE rfl ?_)
    | ((with_reducible refine g_call (f := 32) ?_); (first | (refine s_call hE rfl rfl rfl (has _ _ true _ (by decide +kernel)) ?_) ); rintro _ w ⟨rfl, rfl⟩; clear hE a; intro a hE) | ((with_reducible refine g_store ?_); (first | (refine s_storeB (k := 0) hS hE rfl rfl rfl rfl rfl rfl ?_) ); clear hS; intro w hS; simp only [List.set_cons_zero, List.set_cons_succ, Nat.add_zero] at hS)
    | (with_reducible refine o_done ?_)
    | ((with_reducible refine o_lt rfl ?_))
    | ((with_reducible refine o_backL ?_))
    )
  refine c_ordK hS 1 rfl 10 ((.rd 0 (.rd 1 (.rd 4 (.rd 5 (.ef 2 (.rd 3 (.rd 8 (.ef 6 (.rd 7 (.ef 9 (.lt 10 (.lt 11 .done))))))))))))) mixed (by decide +kernel) ?_
  clear hS; intro w hF hS
  repeat' (first
    | (with_reducible refine o_rd rfl ?_)
    | ((with_reducible refine q_fa ?_); refine d_val hE hS rfl (fun w hS => r_fieldL hE rfl rfl) ?_; clear hE a; intro a hE)
    | ((with_reducible refine q_load ?_); (first | (refine d_val hE hS rfl (fun w hS => r_loadB (k := 0) hS hE rfl rfl rfl) ?_) ); clear hE a; intro a hE)
    | ((with_reducible refine o_ef rfl ?_))
    )
  first | (refine s_call hE rfl rfl rfl (u8_ok _ _ _ _ _ _ _ _ (hF.focus (k := 0) rfl) (by assumption) (by omega) (by omega) (by omega)) ?_; rintro _ w ⟨rfl, hS1⟩; clear hE a; intro a hE; have hF2 := St.unfocus (k := 0) rfl hS1; clear hF hS1; have hF := hF2; clear hF2; simp only [List.set_cons_zero, List.set_cons_succ, Nat.zero_add, Nat.reduceAdd] at hF) | (refine s_call hE rfl rfl rfl (u8_short _ _ _ _ _ _ _ _ (hF.focus (k := 0) rfl) (by assumption) (by omega) (by omega) (by omega)) ?_; rintro _ w ⟨rfl, hS1⟩; clear hE a; intro a hE; have hF2 := St.unfocus (k := 0) rfl hS1; clear hF hS1; have hF := hF2; clear hF2; simp only [List.set_cons_zero, List.set_cons_succ, Nat.zero_add, Nat.reduceAdd] at hF) | (refine s_call hE rfl rfl rfl (u8_err _ _ _ _ _ _ _ _ (hF.focus (k := 0) rfl) (by assumption) (by omega) (by omega)) ?_; rintro _ w ⟨rfl, hS1⟩; clear hE a; intro a hE; have hF2 := St.unfocus (k := 0) rfl hS1; clear hF hS1; have hF := hF2; clear hF2; simp only [List.set_cons_zero, List.set_cons_succ, Nat.zero_add, Nat.reduceAdd] at hF) | (refine s_call hE rfl rfl rfl (u8_ok _ _ _ _ _ _ _ _ (hF.focus (k := 1) rfl) (by assumption) (by omega) (by omega) (by omega)) ?_; rintro _ w ⟨rfl, hS1⟩; clear hE a; intro a hE; have hF2 := St.unfocus (k := 1) rfl hS1; clear hF hS1; have hF := hF2; clear hF2; simp only [List.set_cons_zero, List.set_cons_succ, Nat.zero_add, Nat.reduceAdd] at hF) | (refine s_call hE rfl rfl rfl (u8_short _ _ _ _ _ _ _ _ (hF.focus (k := 1) rfl) (by assumption) (by omega) (by omega) (by omega)) ?_; rintro _ w ⟨rfl, hS1⟩; clear hE a; intro a hE; have hF2 := St.unfocus (k := 1) rfl hS1; clear hF hS1; have hF := hF2; clear hF2; simp only [List.set_cons_zero, List.set_cons_succ, Nat.zero_add, Nat.reduceAdd] at hF) | (refine s_call hE rfl rfl rfl (u8_err _ _ _ _ _ _ _ _ (hF.focus (k := 1) rfl) (by assumption) (by omega) (by omega)) ?_; rintro _ w ⟨rfl, hS1⟩; clear hE a; intro a hE; have hF2 := St.unfocus (k := 1) rfl hS1; clear hF hS1; have hF := hF2; clear hF2; simp only [List.set_cons_zero, List.set_cons_succ, Nat.zero_add, Nat.reduceAdd] at hF) | (refine s_call hE rfl rfl rfl (u8_ok _ _ _ _ _ _ _ _ (hF.focus (k := 2) rfl) (by assumption) (by omega) (by omega) (by omega)) ?_; rintro _ w ⟨rfl, hS1⟩; clear hE a; intro a hE; have hF2 := St.unfocus (k := 2) rfl hS1; clear hF hS1; have hF := hF2; clear hF2; simp only [List.set_cons_zero, List.set_cons_succ, Nat.zero_add, Nat.reduceAdd] at hF) | (refine s_call hE rfl rfl rfl (u8_short _ _ _ _ _ _ _ _ (hF.focus (k := 2) rfl) (by assumption) (by omega) (by omega) (by omega)) ?_; rintro _ w ⟨rfl, hS1⟩; clear hE a; intro a hE; have hF2 := St.unfocus (k := 2) rfl hS1; clear hF hS1; have hF := hF2; clear hF2; simp only [List.set_cons_zero, List.set_cons_succ, Nat.zero_add, Nat.reduceAdd] at hF) | (refine s_call hE rfl rfl rfl (u8_err _ _ _ _ _ _ _ _ (hF.focus (k := 2) rfl) (by assumption) (by omega) (by omega)) ?_; rintro _ w ⟨rfl, hS1⟩; clear hE a; intro a hE; have hF2 := St.unfocus (k := 2) rfl hS1; clear hF hS1; have hF := hF2; clear hF2; simp only [List.set_cons_zero, List.set_cons_succ, Nat.zero_add, Nat.reduceAdd] at hF) | (refine s_call hE rfl rfl rfl (u8_ok _ _ _ _ _ _ _ _ (hF.focus (k := 3) rfl) (by assumption) (by omega) (by omega) (by omega)) ?_; rintro _ w ⟨rfl, hS1⟩; clear hE a; intro a hE; have hF2 := St.unfocus (k := 3) rfl hS1; clear hF hS1; have hF := hF2; clear hF2; simp only [List.set_cons_zero, List.set_cons_succ, Nat.zero_add, Nat.reduceAdd] at hF) | (refine s_call hE rfl rfl rfl (u8_short _ _ _ _ _ _ _ _ (hF.focus (k := 3) rfl) (by assumption) (by omega) (by omega) (by omega)) ?_; rintro _ w ⟨rfl, hS1⟩; clear hE a; intro a hE; have hF2 := St.unfocus (k := 3) rfl hS1; clear hF hS1; have hF := hF2; clear hF2; simp only [List.set_cons_zero, List.set_cons_succ, Nat.zero_add, Nat.reduceAdd] at hF) | (refine s_call hE rfl rfl rfl (u8_err _ _ _ _ _ _ _ _ (hF.focus (k := 3) rfl) (by assumption) (by omega) (by omega)) ?_; rintro _ w ⟨rfl, hS1⟩; clear hE a; intro a hE; have hF2 := St.unfocus (k := 3) rfl hS1; clear hF hS1; have hF := hF2; clear hF2; simp only [List.set_cons_zero, List.set_cons_succ, Nat.zero_add, Nat.reduceAdd] at hF) | (refine s_call hE rfl rfl rfl (u8_ok _ _ _ _ _ _ _ _ (hF.focus (k := 4) rfl) (by assumption) (by omega) (by omega) (by omega)) ?_; rintro _ w ⟨rfl, hS1⟩; clear hE a; intro a hE; have hF2 := St.unfocus (k := 4) rfl hS1; clear hF hS1; have hF := hF2; clear hF2; simp only [List.set_cons_zero, List.set_cons_succ, Nat.zero_add, Nat.reduceAdd] at hF) | (refine s_call hE rfl rfl rfl (u8_short _ _ _ _ _ _ _ _ (hF.focus (k := 4) rfl) (by assumption) (by omega) (by omega) (by omega)) ?_; rintro _ w ⟨rfl, hS1⟩; clear hE a; intro a hE; have hF2 := St.unfocus (k := 4) rfl hS1; clear hF hS1; have hF := hF2; clear hF2; simp only [List.set_cons_zero, List.set_cons_succ, Nat.zero_add, Nat.reduceAdd] at hF) | (refine s_call hE rfl rfl rfl (u8_err _ _ _ _ _ _ _ _ (hF.focus (k := 4) rfl) (by assumption) (by omega) (by omega)) ?_; rintro _ w ⟨rfl, hS1⟩; clear hE a; intro a hE; have hF2 := St.unfocus (k := 4) rfl hS1; clear hF hS1; have hF := hF2; clear hF2; simp only [List.set_cons_zero, List.set_cons_succ, Nat.zero_add, Nat.reduceAdd] at hF)
  refine wpList_nil ?_
  refine o_back _ (fun _ h => h) (hF.only 1 rfl) ?_
  clear hS
  have hS := hF.only 1 rfl
  repeat' (first
    | (with_reducible refine o_rd rfl ?_)
    | ((with_reducible refine q_conv ?_); refine d_val hE hS rfl (fun w hS => r_conv hE rfl (by first | exact wrap64_in (by omega) )) ?_; clear hE a; intro a hE)
    | ((with_reducible refine q_fa ?_); refine d_val hE hS rfl (fun w hS => r_fieldL hE rfl rfl) ?_; clear hE a; intro a hE)
    | ((with_reducible refine o_ef rfl ?_))
    )
  first | (refine s_call hE rfl rfl rfl (u8_ok _ _ _ _ _ _ _ _ (hF.focus (k := 0) rfl) (by assumption) (by omega) (by omega) (by omega)) ?_; rintro _ w ⟨rfl, hS1⟩; clear hE a; intro a hE; have hF2 := St.unfocus (k := 0) rfl hS1; clear hF hS1; have hF := hF2; clear hF2; simp only [List.set_cons_zero, List.set_cons_succ, Nat.zero_add, Nat.reduceAdd] at hF) | (refine s_call hE rfl rfl rfl (u8_short _ _ _ _ _ _ _ _ (hF.focus (k := 0) rfl) (by assumption) (by omega) (by omega) (by omega)) ?_; rintro _ w ⟨rfl, hS1⟩; clear hE a; intro a hE; have hF2 := St.unfocus (k := 0) rfl hS1; clear hF hS1; have hF := hF2; clear hF2; simp only [List.set_cons_zero, List.set_cons_succ, Nat.zero_add, Nat.reduceAdd] at hF) | (refine s_call hE rfl rfl rfl (u8_err _ _ _ _ _ _ _ _ (hF.focus (k := 0) rfl) (by assumption) (by omega) (by omega)) ?_; rintro _ w ⟨rfl, hS1⟩; clear hE a; intro a hE; have hF2 := St.unfocus (k := 0) rfl hS1; clear hF hS1; have hF := hF2; clear hF2; simp only [List.set_cons_zero, List.set_cons_succ, Nat.zero_add, Nat.reduceAdd] at hF) | (refine s_call hE rfl rfl rfl (u8_ok _ _ _ _ _ _ _ _ (hF.focus (k := 1) rfl) (by assumption) (by omega) (by omega) (by omega)) ?_; rintro _ w ⟨rfl, hS1⟩; clear hE a; intro a hE; have hF2 := St.unfocus (k := 1) rfl hS1; clear hF hS1; have hF := hF2; clear hF2; simp only [List.set_cons_zero, List.set_cons_succ, Nat.zero_add, Nat.reduceAdd] at hF) | (refine s_call hE rfl rfl rfl (u8_short _ _ _ _ _ _ _ _ (hF.focus (k := 1) rfl) (by assumption) (by omega) (by omega) (by omega)) ?_; rintro _ w ⟨rfl, hS1⟩; clear hE a; intro a hE; have hF2 := St.unfocus (k := 1) rfl hS1; clear hF hS1; have hF := hF2; clear hF2; simp only [List.set_cons_zero, List.set_cons_succ, Nat.zero_add, Nat.reduceAdd] at hF) | (refine s_call hE rfl rfl rfl (u8_err _ _ _ _ _ _ _ _ (hF.focus (k := 1) rfl) (by assumption) (by omega) (by omega)) ?_; rintro _ w ⟨rfl, hS1⟩; clear hE a; intro a hE; have hF2 := St.unfocus (k := 1) rfl hS1; clear hF hS1; have hF := hF2; clear hF2; simp only [List.set_cons_zero, List.set_cons_succ, Nat.zero_add, Nat.reduceAdd] at hF) | (refine s_call hE rfl rfl rfl (u8_ok _ _ _ _ _ _ _ _ (hF.focus (k := 2) rfl) (by assumption) (by omega) (by omega) (by omega)) ?_; rintro _ w ⟨rfl, hS1⟩; clear hE a; intro a hE; have hF2 := St.unfocus (k := 2) rfl hS1; clear hF hS1; have hF := hF2; clear hF2; simp only [List.set_cons_zero, List.set_cons_succ, Nat.zero_add, Nat.reduceAdd] at hF) | (refine s_call hE rfl rfl rfl (u8_short _ _ _ _ _ _ _ _ (hF.focus (k := 2) rfl) (by assumption) (by omega) (by omega) (by omega)) ?_; rintro _ w ⟨rfl, hS1⟩; clear hE a; intro a hE; have hF2 := St.unfocus (k := 2) rfl hS1; clear hF hS1; have hF := hF2; clear hF2; simp only [List.set_cons_zero, List.set_cons_succ, Nat.zero_add, Nat.reduceAdd] at hF) | (refine s_call hE rfl rfl rfl (u8_err _ _ _ _ _ _ _ _ (hF.focus (k := 2) rfl) (by assumption) (by omega) (by omega)) ?_; rintro _ w ⟨rfl, hS1⟩; clear hE a; intro a hE; have hF2 := St.unfocus (k := 2) rfl hS1; clear hF hS1; have hF := hF2; clear hF2; simp only [List.set_cons_zero, List.set_cons_succ, Nat.zero_add, Nat.reduceAdd] at hF) | (refine s_call hE rfl rfl rfl (u8_ok _ _ _ _ _ _ _ _ (hF.focus (k := 3) rfl) (by assumption) (by omega) (by omega) (by omega)) ?_; rintro _ w ⟨rfl, hS1⟩; clear hE a; intro a hE; have hF2 := St.unfocus (k := 3) rfl hS1; clear hF hS1; have hF := hF2; clear hF2; simp only [List.set_cons_zero, List.set_cons_succ, Nat.zero_add, Nat.reduceAdd] at hF) | (refine s_call hE rfl rfl rfl (u8_short _ _ _ _ _ _ _ _ (hF.focus (k := 3) rfl) (by assumption) (by omega) (by omega) (by omega)) ?_; rintro _ w ⟨rfl, hS1⟩; clear hE a; intro a hE; have hF2 := St.unfocus (k := 3) rfl hS1; clear hF hS1; have hF := hF2; clear hF2; simp only [List.set_cons_zero, List.set_cons_succ, Nat.zero_add, Nat.reduceAdd] at hF) | (refine s_call hE rfl rfl rfl (u8_err _ _ _ _ _ _ _ _ (hF.focus (k := 3) rfl) (by assumption) (by omega) (by omega)) ?_; rintro _ w ⟨rfl, hS1⟩; clear hE a; intro a hE; have hF2 := St.unfocus (k := 3) rfl hS1; clear hF hS1; have hF := hF2; clear hF2; simp only [List.set_cons_zero, List.set_cons_succ, Nat.zero_add, Nat.reduceAdd] at hF) | (refine s_call hE rfl rfl rfl (u8_ok _ _ _ _ _ _ _ _ (hF.focus (k := 4) rfl) (by assumption) (by omega) (by omega) (by omega)) ?_; rintro _ w ⟨rfl, hS1⟩; clear hE a; intro a hE; have hF2 := St.unfocus (k := 4) rfl hS1; clear hF hS1; have hF := hF2; clear hF2; simp only [List.set_cons_zero, List.set_cons_succ, Nat.zero_add, Nat.reduceAdd] at hF) | (refine s_call hE rfl rfl rfl (u8_short _ _ _ _ _ _ _ _ (hF.focus (k := 4) rfl) (by assumption) (by omega) (by omega) (by omega)) ?_; rintro _ w ⟨rfl, hS1⟩; clear hE a; intro a hE; have hF2 := St.unfocus (k := 4) rfl hS1; clear hF hS1; have hF := hF2; clear hF2; simp only [List.set_cons_zero, List.set_cons_succ, Nat.zero_add, Nat.reduceAdd] at hF) | (refine s_call hE rfl rfl rfl (u8_err _ _ _ _ _ _ _ _ (hF.focus (k := 4) rfl) (by assumption) (by omega) (by omega)) ?_; rintro _ w ⟨rfl, hS1⟩; clear hE a; intro a hE; have hF2 := St.unfocus (k := 4) rfl hS1; clear hF hS1; have hF := hF2; clear hF2; simp only [List.set_cons_zero, List.set_cons_succ, Nat.zero_add, Nat.reduceAdd] at hF)
  refine wpList_nil ?_
  refine o_back _ (fun _ h => h) (hF.only 1 rfl) ?_
  clear hS
  have hS := hF.only 1 rfl
  repeat' (first
    | (with_reducible refine o_rd rfl ?_)
    | ((with_reducible refine q_conv ?_); refine d_val hE hS rfl (fun w hS => r_conv hE rfl (by first | exact wrap64_in (by omega) )) ?_; clear hE a; intro a hE)
    | ((with_reducible refine o_ef rfl ?_))
    )
  refine g_store ?_
  refine s_storeB (k := 0) hF hE rfl rfl rfl rfl rfl rfl ?_
  clear hF; intro w hF; simp only [List.set_cons_zero, List.set_cons_succ] at hF
  refine wpList_nil ?_
  refine o_back _ (fun _ h => h) (hF.only 1 rfl) ?_
  clear hS
  have hS := hF.only 1 rfl
  repeat' (first
    | ((with_reducible refine o_lt rfl ?_))
    )
  clear hS
  have hS := hF
  clear hF
  repeat' (first
    | (with_reducible refine wp_seq ?_)
    | (with_reducible refine c_region ?_)
    | (with_reducible refine wpList_nil ?_)
    | (with_reducible refine then_normal ?_)
    | (with_reducible refine wp_skip ?_)
    | (with_reducible refine wp_block ?_)
    | ((with_reducible refine g_move ?_); refine s_move hE rfl rfl ?_; clear hE a; intro a hE)
    | ((with_reducible refine g_assign ?_); refine s_assign hE rfl rfl ?_; clear hE a; intro a hE)
    | ((with_reducible refine g_bin .neq ?_); refine s_neq hE rfl rfl rfl ?_; clear hE a; intro a hE)
    | ((with_reducible refine g_fa ?_); refine s_fieldL hE rfl rfl rfl ?_; clear hE a; intro a hE)
    | ((with_reducible refine g_cond ?_); refine c_true hE rfl ?_)
    | ((with_reducible refine g_cond ?_); refine c_false hE rfl ?_)
    | ((with_reducible refine g_call (f := 32) ?_); (first | (refine s_call hE rfl rfl rfl (has _ _ true _ (by decide +kernel)) ?_) | (refine s_call hE rfl rfl rfl (has _ _ false _ (by decide +kernel)) ?_)); rintro _ w ⟨rfl, rfl⟩; clear hE a; intro a hE) | ((with_reducible refine g_call (f := 38) ?_); (first | (refine s_call hE rfl rfl rfl (item_ok _ _ _ _ _ _ _ _ (hS.focus (k := 2) rfl) (by assumption) (by omega) (by omega) (by omega)) ?_; rintro _ w ⟨_, _, rfl, hS1⟩; clear hE a; intro a hE; have hS2 := St.unfocus2 (k := 2) rfl hS1; clear hS hS1; have hS := hS2; clear hS2; simp only [List.set_cons_zero, List.set_cons_succ, Nat.zero_add, Nat.reduceAdd] at hS) )) | ((with_reducible refine g_call (f := 37) ?_); (first | (refine s_call hE rfl rfl rfl (u64_ok _ _ _ _ _ _ _ _ (hS.focus (k := 3) rfl) (by assumption) (by omega) (by omega) (by omega)) ?_; rintro _ w ⟨rfl, hS1⟩; clear hE a; intro a hE; have hS2 := St.unfocus (k := 3) rfl hS1; clear hS hS1; have hS := hS2; clear hS2; simp only [List.set_cons_zero, List.set_cons_succ, Nat.zero_add, Nat.reduceAdd] at hS) )) | ((with_reducible refine g_call (f := 39) ?_); (first | (refine s_call hE rfl rfl rfl (rerr _ _ _ _ _ _ _ _ _ (hS.focus (k := 3) rfl)) ?_; rintro _ w ⟨rfl, hS1⟩; clear hE a; intro a hE; have hS2 := St.unfocus (k := 3) rfl hS1; clear hS hS1; have hS := hS2; clear hS2; simp only [List.set_cons_zero, List.set_cons_succ] at hS) )) | ((with_reducible refine g_load ?_); (first | (refine s_loadB (k := 2) hS hE rfl rfl rfl rfl ?_) ); clear hE a; intro a hE)
    | ((with_reducible refine g_store ?_); (first | (refine s_storeB (k := 0) hS hE rfl rfl rfl rfl rfl rfl ?_) | (refine s_storeB (k := 1) hS hE rfl rfl rfl rfl rfl rfl ?_) ); clear hS; intro w hS; simp only [List.set_cons_zero, List.set_cons_succ, Nat.add_zero] at hS)
    | ((with_reducible refine g_load ?_); (first | (refine s_loadW (k := 1) hS hE rfl rfl rfl rfl ?_) ); clear hE a; intro a hE)
    | (with_reducible refine o_done ?_)
    | ((with_reducible refine o_lt rfl ?_))
    | ((with_reducible refine o_backL ?_))
    )
  have a4 := oct_lt hx 27
  have hP := parse2_some hk hn
  unfold decPost
  by_cases hR : (P2 xs none 0 none 0).right
  · refine s_call hE rfl rfl rfl (check_ok (P2 xs none 0 _ _) w ⟨Rd.nil, hS.rdAt (k := 0) rfl⟩ (P2_wf hx (hS.lenAt (k := 0) rfl).2.1) hR) ?_
    rintro _ w ⟨rfl, hS1⟩; clear hE a; intro a hE; replace hS := hS.frame hS1; clear hS1; try simp only [List.cons_append, List.nil_append] at hS
    repeat' (first
      | (with_reducible refine wp_seq ?_)
      | (with_reducible refine wpList_nil ?_)
      | (with_reducible refine then_normal ?_)
      | (with_reducible refine wp_skip ?_)
      | (with_reducible refine block_normal ?_)
      | ((with_reducible refine g_assign ?_); refine s_assign hE rfl rfl ?_; clear hE a; intro a hE)
      | ((with_reducible refine g_bin .neq ?_); refine s_neq hE rfl rfl rfl ?_; clear hE a; intro a hE)
      | ((with_reducible refine g_cond ?_); refine c_false hE rfl ?_)
      )
    refine c_ordK2 hS 1 1 rfl rfl 8 ((.rd 0 (.rd 1 (.rd 2 (.rd 3 (.rd 4 (.ef 5 (.rd 6 (.ef 7 (.lt 8 (.lt 9 .done))))))))))) mixed (by decide +kernel) ?_
    clear hS; intro w hF hS
    repeat' (first
      | (with_reducible refine o_rd rfl ?_)
      | ((with_reducible refine q_move ?_); refine d_val hE hS rfl (fun w hS => r_move hE rfl) ?_; clear hE a; intro a hE)
      | ((with_reducible refine q_blt .len ?_); refine d_val hE hS rfl (fun w hS => r_len hE rfl) ?_; clear hE a; intro a hE)
      | ((with_reducible refine q_fa ?_); refine d_val hE hS rfl (fun w hS => r_fieldL hE rfl rfl) ?_; clear hE a; intro a hE)
      | ((with_reducible refine q_load ?_); (first | (refine d_val hE hS rfl (fun w hS => r_loadB (k := 0) hS hE rfl rfl rfl) ?_) ); clear hE a; intro a hE)
      | ((with_reducible refine q_load ?_); (first | (refine d_val hE hS rfl (fun w hS => r_loadW (k := 1) hS hE rfl rfl rfl) ?_) ); clear hE a; intro a hE)
      | ((with_reducible refine o_ef rfl ?_))
      )
    refine s_call hE rfl rfl rfl (left _ _ _ _ _ _ _ _ _ (hF.focus (k := 3) rfl) (by omega) (by omega)) ?_
    rintro _ w ⟨rfl, hS1⟩; clear hE a; intro a hE; have hF2 := St.unfocus (k := 3) rfl hS1; clear hF hS1; have hF := hF2; clear hF2; simp only [List.set_cons_zero, List.set_cons_succ] at hF
    refine wpList_nil ?_
    refine o_back _ (fun _ h => h) (hF.only2 1 1 rfl rfl) ?_
    clear hS
    have hS := hF.only2 1 1 rfl rfl
    repeat' (first
      | (with_reducible refine o_rd rfl ?_)
      | ((with_reducible refine q_bin .sub ?_); refine d_val hE hS rfl (fun w hS => r_sub hE rfl rfl (by first | exact subN (by omega) (by omega) )) ?_; clear hE a; intro a hE)
      | ((with_reducible refine o_ef rfl ?_))
      )
    refine g_store ?_
    refine s_storeW (k := 4) hF hE rfl rfl rfl rfl rfl (by simp [Value.oneCell']) ?_
    clear hF; intro w hF; simp only [List.set_cons_zero, List.set_cons_succ] at hF
    refine wpList_nil ?_
    refine o_back _ (fun _ h => h) (hF.only2 1 1 rfl rfl) ?_
    clear hS
    have hS := hF
    clear hF
    repeat' (first
      | (with_reducible refine wpList_nil ?_)
      | (with_reducible refine then_normal ?_)
      | (with_reducible refine wp_ret ?_)
      | ((with_reducible refine g_assign ?_); refine s_assign hE rfl rfl ?_; clear hE a; intro a hE)
      | (with_reducible refine o_done ?_)
      | ((with_reducible refine o_lt rfl ?_))
      | ((with_reducible refine o_backL ?_))
      )
    rw [decM_yes h0 (by omega) hP hR]
    rw [show xs.length - (xs.length - (28 + oct xs 27 + 8)) = 28 + oct xs 27 + 8 from by omega] at hE
    exact retG (vs := [_, _, _]) hE rfl ⟨⟨_, rfl, res_W (k := 4) hS rfl rfl⟩, rfl, rfl, trivial⟩ ⟨_, _, _, _, rfl, (hS.only 0 rfl).rowNil _ _⟩
  · refine s_call hE rfl rfl rfl (check_no (P2 xs none 0 _ _) w ⟨Rd.nil, hS.rdAt (k := 0) rfl⟩ (P2_wf hx (hS.lenAt (k := 0) rfl).2.1) hR) ?_
    rintro _ w ⟨rfl, hS1⟩; clear hE a; intro a hE; replace hS := hS.frame hS1; clear hS1; try simp only [List.cons_append, List.nil_append] at hS
    repeat' (first
      | (with_reducible refine wp_seq ?_)
      | (with_reducible refine c_region ?_)
      | (with_reducible refine wpList_nil ?_)
      | (with_reducible refine then_normal ?_)
      | (with_reducible refine wp_ret ?_)
      | (with_reducible refine then_ret ?_)
      | (with_reducible refine block_ret ?_)
      | ((with_reducible refine g_assign ?_); refine s_assign hE rfl rfl ?_; clear hE a; intro a hE)
      | ((with_reducible refine g_bin .neq ?_); refine s_neq hE rfl rfl rfl ?_; clear hE a; intro a hE)
      | ((with_reducible refine g_cond ?_); refine c_true hE rfl ?_)
      | ((with_reducible refine g_build ?_); refine s_build [_, _, _, _, _, _, _, _, _] hE rfl rfl rfl ?_; clear hE a; intro a hE)
      | ((with_reducible refine g_store ?_); (first | (refine s_storeW (k := 4) hS hE rfl rfl rfl rfl rfl (by simp [Value.oneCell']) ?_) ); clear hS; intro w hS; simp only [List.set_cons_zero, List.set_cons_succ, Nat.add_zero] at hS)
      )
    rw [decM_no h0 (by omega) hP hR]
    exact retG (vs := [_, _, _]) hE rfl ⟨⟨_, rfl, res_W (k := 4) hS rfl rfl⟩, rfl, rfl, trivial⟩ ⟨none, 0, none, 0, rfl, (hS.nil.rowNil _ _).rowNil _ _⟩
set_option maxHeartbeats 4000000 in
theorem decode3s (A : Option Addr) (c : Nat) (xs : List Nat) (w0 : World) (hr : Rd w0 A (bys xs)) (hx : Bs xs) (hl : xs.length ≤ 140737488355328) (h0 : ¬ xs = []) (hk : oct xs 0 = 3) (hn : 25 ≤ xs.length) :
    Fn Try.prog 17 [.slice A xs.length c] w0 (decPost xs w0) := by
  refine enter 89 Try.func17 rfl rfl rfl ?_
  intro a hE
  have hS := St.start w0
  have hl0 : 0 < xs.length := List.length_pos_iff.mpr h0
  have ho := oct_lt hx 0
  have hk' := hk
  have ho25 := oct_lt hx 25
  have ho26 := oct_lt hx 26
  unfold oct at ho hk' ho25 ho26
  repeat' (first
    | (with_reducible refine wp_seq ?_)
    | (with_reducible refine c_region ?_)
    | (with_reducible refine wpList_nil ?_)
    | (with_reducible refine then_normal ?_)
    | (with_reducible refine wp_skip ?_)
    | ((with_reducible refine g_move ?_); refine s_move hE rfl rfl ?_; clear hE a; intro a hE)
    | ((with_reducible refine g_assign ?_); refine s_assign hE rfl rfl ?_; clear hE a; intro a hE)
    | ((with_reducible refine g_bin .gtr ?_); refine s_gtr hE rfl rfl rfl ?_; clear hE a; intro a hE)
    | ((with_reducible refine g_un .not ?_); refine s_notb hE rfl rfl ?_; clear hE a; intro a hE)
    | ((with_reducible refine g_conv ?_); refine s_conv hE rfl rfl (by first  | exact wrap64_in (by omega) ) ?_; clear hE a; intro a hE)
    | ((with_reducible refine g_blt .len ?_); refine s_len hE rfl rfl ?_; clear hE a; intro a hE)
    | ((with_reducible refine g_extract ?_); refine s_extract hE rfl rfl rfl ?_; clear hE a; intro a hE)
    | ((with_reducible refine g_fa ?_); refine s_fieldL hE rfl rfl rfl ?_; clear hE a; intro a hE)
    | ((with_reducible refine g_guard ?_); refine gd_yes hE rfl rfl rfl ?_)
    | ((with_reducible refine g_guard ?_); refine gd_dec hE rfl rfl (fun hc hE2 => ?_) (fun hc hE2 => ?_) <;> (try omega) <;> (replace hE := hE2; clear hE2))
    | ((with_reducible refine g_pick ?_); refine s_pickT hE rfl rfl rfl ?_; clear hE a; intro a hE)
    | ((with_reducible refine g_cond ?_); refine c_false hE rfl ?_)
    | ((with_reducible refine g_call (f := 35) ?_); refine s_call hE rfl rfl rfl (read _ _ _ _ (by first | exact Rd.st (by assumption) hS ) (by first | omega )) ?_; rintro _ w ⟨g, _, _, rfl, hS1⟩; clear hE a; intro a hE; replace hS := hS.frame hS1; clear hS1; try simp only [List.cons_append, List.nil_append] at hS) | ((with_reducible refine g_call (f := 36) ?_); (first | (refine s_call hE rfl rfl rfl (u8_ok _ _ _ _ _ _ _ _ (hS.focus (k := 1) rfl) (by assumption) (by omega) (by omega) (by omega)) ?_; rintro _ w ⟨rfl, hS1⟩; clear hE a; intro a hE; have hS2 := St.unfocus (k := 1) rfl hS1; clear hS hS1; have hS := hS2; clear hS2; simp only [List.set_cons_zero, List.set_cons_succ, Nat.zero_add, Nat.reduceAdd] at hS) )) | ((with_reducible refine g_call (f := 31) ?_); (first | (refine s_call hE rfl rfl rfl (fieldsE3 _ _ (by omega)) ?_) ); rintro _ w ⟨rfl, rfl⟩; clear hE a; intro a hE)
    | ((with_reducible refine g_load ?_); (first | (refine s_loadB (k := 0) hS hE rfl rfl rfl rfl ?_) ); clear hE a; intro a hE)
    | ((with_reducible refine g_alloc ?_); refine s_allocS hE hS rfl rfl ?_; clear hE a hS; intro g a w hE hS)
    | ((with_reducible refine g_build ?_); refine s_build [_] hE rfl rfl rfl ?_; clear hE a; intro a hE)
    | ((with_reducible refine g_build ?_); refine s_build [_, _, _, _, _, _, _, _, _] hE rfl rfl rfl ?_; clear hE a; intro a hE)
    | ((with_reducible refine g_store ?_); (first | (refine s_storeW (k := 0) hS hE rfl rfl rfl rfl rfl (by simp [Value.oneCell']) ?_) ); clear hS; intro w hS; simp only [List.set_cons_zero, List.set_cons_succ, Nat.add_zero] at hS)
    )
  refine c_ordK hS 1 rfl 13 ((.rd 0 (.rd 1 (.rd 3 (.rd 4 (.rd 6 (.rd 7 (.ef 2 (.rd 9 (.ef 5 (.ef 8 (.ef 10 (.rd 11 (.ef 12 (.lt 13 (.lt 14 .done)))))))))))))))) mixed (by decide +kernel) ?_
  clear hS; intro w hF hS
  repeat' (first
    | (with_reducible refine o_rd rfl ?_)
    | ((with_reducible refine q_fa ?_); refine d_val hE hS rfl (fun w hS => r_fieldL hE rfl rfl) ?_; clear hE a; intro a hE)
    | ((with_reducible refine q_load ?_); (first | (refine d_val hE hS rfl (fun w hS => r_loadB (k := 0) hS hE rfl rfl rfl) ?_) ); clear hE a; intro a hE)
    | ((with_reducible refine o_ef rfl ?_))
    )
  first | (refine s_call hE rfl rfl rfl (u64_ok _ _ _ _ _ _ _ _ (hF.focus (k := 0) rfl) (by assumption) (by omega) (by omega) (by omega)) ?_; rintro _ w ⟨rfl, hS1⟩; clear hE a; intro a hE; have hF2 := St.unfocus (k := 0) rfl hS1; clear hF hS1; have hF := hF2; clear hF2; simp only [List.set_cons_zero, List.set_cons_succ, Nat.zero_add, Nat.reduceAdd] at hF) | (refine s_call hE rfl rfl rfl (u64_short _ _ _ _ _ _ _ _ (hF.focus (k := 0) rfl) (by assumption) (by omega) (by omega) (by omega)) ?_; rintro _ w ⟨rfl, hS1⟩; clear hE a; intro a hE; have hF2 := St.unfocus (k := 0) rfl hS1; clear hF hS1; have hF := hF2; clear hF2; simp only [List.set_cons_zero, List.set_cons_succ, Nat.zero_add, Nat.reduceAdd] at hF) | (refine s_call hE rfl rfl rfl (u64_err _ _ _ _ _ _ _ _ (hF.focus (k := 0) rfl) (by assumption) (by omega) (by omega)) ?_; rintro _ w ⟨rfl, hS1⟩; clear hE a; intro a hE; have hF2 := St.unfocus (k := 0) rfl hS1; clear hF hS1; have hF := hF2; clear hF2; simp only [List.set_cons_zero, List.set_cons_succ, Nat.zero_add, Nat.reduceAdd] at hF) | (refine s_call hE rfl rfl rfl (u64_ok _ _ _ _ _ _ _ _ (hF.focus (k := 1) rfl) (by assumption) (by omega) (by omega) (by omega)) ?_; rintro _ w ⟨rfl, hS1⟩; clear hE a; intro a hE; have hF2 := St.unfocus (k := 1) rfl hS1; clear hF hS1; have hF := hF2; clear hF2; simp only [List.set_cons_zero, List.set_cons_succ, Nat.zero_add, Nat.reduceAdd] at hF) | (refine s_call hE rfl rfl rfl (u64_short _ _ _ _ _ _ _ _ (hF.focus (k := 1) rfl) (by assumption) (by omega) (by omega) (by omega)) ?_; rintro _ w ⟨rfl, hS1⟩; clear hE a; intro a hE; have hF2 := St.unfocus (k := 1) rfl hS1; clear hF hS1; have hF := hF2; clear hF2; simp only [List.set_cons_zero, List.set_cons_succ, Nat.zero_add, Nat.reduceAdd] at hF) | (refine s_call hE rfl rfl rfl (u64_err _ _ _ _ _ _ _ _ (hF.focus (k := 1) rfl) (by assumption) (by omega) (by omega)) ?_; rintro _ w ⟨rfl, hS1⟩; clear hE a; intro a hE; have hF2 := St.unfocus (k := 1) rfl hS1; clear hF hS1; have hF := hF2; clear hF2; simp only [List.set_cons_zero, List.set_cons_succ, Nat.zero_add, Nat.reduceAdd] at hF) | (refine s_call hE rfl rfl rfl (u64_ok _ _ _ _ _ _ _ _ (hF.focus (k := 2) rfl) (by assumption) (by omega) (by omega) (by omega)) ?_; rintro _ w ⟨rfl, hS1⟩; clear hE a; intro a hE; have hF2 := St.unfocus (k := 2) rfl hS1; clear hF hS1; have hF := hF2; clear hF2; simp only [List.set_cons_zero, List.set_cons_succ, Nat.zero_add, Nat.reduceAdd] at hF) | (refine s_call hE rfl rfl rfl (u64_short _ _ _ _ _ _ _ _ (hF.focus (k := 2) rfl) (by assumption) (by omega) (by omega) (by omega)) ?_; rintro _ w ⟨rfl, hS1⟩; clear hE a; intro a hE; have hF2 := St.unfocus (k := 2) rfl hS1; clear hF hS1; have hF := hF2; clear hF2; simp only [List.set_cons_zero, List.set_cons_succ, Nat.zero_add, Nat.reduceAdd] at hF) | (refine s_call hE rfl rfl rfl (u64_err _ _ _ _ _ _ _ _ (hF.focus (k := 2) rfl) (by assumption) (by omega) (by omega)) ?_; rintro _ w ⟨rfl, hS1⟩; clear hE a; intro a hE; have hF2 := St.unfocus (k := 2) rfl hS1; clear hF hS1; have hF := hF2; clear hF2; simp only [List.set_cons_zero, List.set_cons_succ, Nat.zero_add, Nat.reduceAdd] at hF) | (refine s_call hE rfl rfl rfl (u64_ok _ _ _ _ _ _ _ _ (hF.focus (k := 3) rfl) (by assumption) (by omega) (by omega) (by omega)) ?_; rintro _ w ⟨rfl, hS1⟩; clear hE a; intro a hE; have hF2 := St.unfocus (k := 3) rfl hS1; clear hF hS1; have hF := hF2; clear hF2; simp only [List.set_cons_zero, List.set_cons_succ, Nat.zero_add, Nat.reduceAdd] at hF) | (refine s_call hE rfl rfl rfl (u64_short _ _ _ _ _ _ _ _ (hF.focus (k := 3) rfl) (by assumption) (by omega) (by omega) (by omega)) ?_; rintro _ w ⟨rfl, hS1⟩; clear hE a; intro a hE; have hF2 := St.unfocus (k := 3) rfl hS1; clear hF hS1; have hF := hF2; clear hF2; simp only [List.set_cons_zero, List.set_cons_succ, Nat.zero_add, Nat.reduceAdd] at hF) | (refine s_call hE rfl rfl rfl (u64_err _ _ _ _ _ _ _ _ (hF.focus (k := 3) rfl) (by assumption) (by omega) (by omega)) ?_; rintro _ w ⟨rfl, hS1⟩; clear hE a; intro a hE; have hF2 := St.unfocus (k := 3) rfl hS1; clear hF hS1; have hF := hF2; clear hF2; simp only [List.set_cons_zero, List.set_cons_succ, Nat.zero_add, Nat.reduceAdd] at hF) | (refine s_call hE rfl rfl rfl (u64_ok _ _ _ _ _ _ _ _ (hF.focus (k := 4) rfl) (by assumption) (by omega) (by omega) (by omega)) ?_; rintro _ w ⟨rfl, hS1⟩; clear hE a; intro a hE; have hF2 := St.unfocus (k := 4) rfl hS1; clear hF hS1; have hF := hF2; clear hF2; simp only [List.set_cons_zero, List.set_cons_succ, Nat.zero_add, Nat.reduceAdd] at hF) | (refine s_call hE rfl rfl rfl (u64_short _ _ _ _ _ _ _ _ (hF.focus (k := 4) rfl) (by assumption) (by omega) (by omega) (by omega)) ?_; rintro _ w ⟨rfl, hS1⟩; clear hE a; intro a hE; have hF2 := St.unfocus (k := 4) rfl hS1; clear hF hS1; have hF := hF2; clear hF2; simp only [List.set_cons_zero, List.set_cons_succ, Nat.zero_add, Nat.reduceAdd] at hF) | (refine s_call hE rfl rfl rfl (u64_err _ _ _ _ _ _ _ _ (hF.focus (k := 4) rfl) (by assumption) (by omega) (by omega)) ?_; rintro _ w ⟨rfl, hS1⟩; clear hE a; intro a hE; have hF2 := St.unfocus (k := 4) rfl hS1; clear hF hS1; have hF := hF2; clear hF2; simp only [List.set_cons_zero, List.set_cons_succ, Nat.zero_add, Nat.reduceAdd] at hF)
  refine wpList_nil ?_
  refine o_back _ (fun _ h => h) (hF.only 1 rfl) ?_
  clear hS
  have hS := hF.only 1 rfl
  repeat' (first
    | (with_reducible refine o_rd rfl ?_)
    | ((with_reducible refine q_fa ?_); refine d_val hE hS rfl (fun w hS => r_fieldL hE rfl rfl) ?_; clear hE a; intro a hE)
    | ((with_reducible refine o_ef rfl ?_))
    )
  first | (refine s_call hE rfl rfl rfl (u64_ok _ _ _ _ _ _ _ _ (hF.focus (k := 0) rfl) (by assumption) (by omega) (by omega) (by omega)) ?_; rintro _ w ⟨rfl, hS1⟩; clear hE a; intro a hE; have hF2 := St.unfocus (k := 0) rfl hS1; clear hF hS1; have hF := hF2; clear hF2; simp only [List.set_cons_zero, List.set_cons_succ, Nat.zero_add, Nat.reduceAdd] at hF) | (refine s_call hE rfl rfl rfl (u64_short _ _ _ _ _ _ _ _ (hF.focus (k := 0) rfl) (by assumption) (by omega) (by omega) (by omega)) ?_; rintro _ w ⟨rfl, hS1⟩; clear hE a; intro a hE; have hF2 := St.unfocus (k := 0) rfl hS1; clear hF hS1; have hF := hF2; clear hF2; simp only [List.set_cons_zero, List.set_cons_succ, Nat.zero_add, Nat.reduceAdd] at hF) | (refine s_call hE rfl rfl rfl (u64_err _ _ _ _ _ _ _ _ (hF.focus (k := 0) rfl) (by assumption) (by omega) (by omega)) ?_; rintro _ w ⟨rfl, hS1⟩; clear hE a; intro a hE; have hF2 := St.unfocus (k := 0) rfl hS1; clear hF hS1; have hF := hF2; clear hF2; simp only [List.set_cons_zero, List.set_cons_succ, Nat.zero_add, Nat.reduceAdd] at hF) | (refine s_call hE rfl rfl rfl (u64_ok _ _ _ _ _ _ _ _ (hF.focus (k := 1) rfl) (by assumption) (by omega) (by omega) (by omega)) ?_; rintro _ w ⟨rfl, hS1⟩; clear hE a; intro a hE; have hF2 := St.unfocus (k := 1) rfl hS1; clear hF hS1; have hF := hF2; clear hF2; simp only [List.set_cons_zero, List.set_cons_succ, Nat.zero_add, Nat.reduceAdd] at hF) | (refine s_call hE rfl rfl rfl (u64_short _ _ _ _ _ _ _ _ (hF.focus (k := 1) rfl) (by assumption) (by omega) (by omega) (by omega)) ?_; rintro _ w ⟨rfl, hS1⟩; clear hE a; intro a hE; have hF2 := St.unfocus (k := 1) rfl hS1; clear hF hS1; have hF := hF2; clear hF2; simp only [List.set_cons_zero, List.set_cons_succ, Nat.zero_add, Nat.reduceAdd] at hF) | (refine s_call hE rfl rfl rfl (u64_err _ _ _ _ _ _ _ _ (hF.focus (k := 1) rfl) (by assumption) (by omega) (by omega)) ?_; rintro _ w ⟨rfl, hS1⟩; clear hE a; intro a hE; have hF2 := St.unfocus (k := 1) rfl hS1; clear hF hS1; have hF := hF2; clear hF2; simp only [List.set_cons_zero, List.set_cons_succ, Nat.zero_add, Nat.reduceAdd] at hF) | (refine s_call hE rfl rfl rfl (u64_ok _ _ _ _ _ _ _ _ (hF.focus (k := 2) rfl) (by assumption) (by omega) (by omega) (by omega)) ?_; rintro _ w ⟨rfl, hS1⟩; clear hE a; intro a hE; have hF2 := St.unfocus (k := 2) rfl hS1; clear hF hS1; have hF := hF2; clear hF2; simp only [List.set_cons_zero, List.set_cons_succ, Nat.zero_add, Nat.reduceAdd] at hF) | (refine s_call hE rfl rfl rfl (u64_short _ _ _ _ _ _ _ _ (hF.focus (k := 2) rfl) (by assumption) (by omega) (by omega) (by omega)) ?_; rintro _ w ⟨rfl, hS1⟩; clear hE a; intro a hE; have hF2 := St.unfocus (k := 2) rfl hS1; clear hF hS1; have hF := hF2; clear hF2; simp only [List.set_cons_zero, List.set_cons_succ, Nat.zero_add, Nat.reduceAdd] at hF) | (refine s_call hE rfl rfl rfl (u64_err _ _ _ _ _ _ _ _ (hF.focus (k := 2) rfl) (by assumption) (by omega) (by omega)) ?_; rintro _ w ⟨rfl, hS1⟩; clear hE a; intro a hE; have hF2 := St.unfocus (k := 2) rfl hS1; clear hF hS1; have hF := hF2; clear hF2; simp only [List.set_cons_zero, List.set_cons_succ, Nat.zero_add, Nat.reduceAdd] at hF) | (refine s_call hE rfl rfl rfl (u64_ok _ _ _ _ _ _ _ _ (hF.focus (k := 3) rfl) (by assumption) (by omega) (by omega) (by omega)) ?_; rintro _ w ⟨rfl, hS1⟩; clear hE a; intro a hE; have hF2 := St.unfocus (k := 3) rfl hS1; clear hF hS1; have hF := hF2; clear hF2; simp only [List.set_cons_zero, List.set_cons_succ, Nat.zero_add, Nat.reduceAdd] at hF) | (refine s_call hE rfl rfl rfl (u64_short _ _ _ _ _ _ _ _ (hF.focus (k := 3) rfl) (by assumption) (by omega) (by omega) (by omega)) ?_; rintro _ w ⟨rfl, hS1⟩; clear hE a; intro a hE; have hF2 := St.unfocus (k := 3) rfl hS1; clear hF hS1; have hF := hF2; clear hF2; simp only [List.set_cons_zero, List.set_cons_succ, Nat.zero_add, Nat.reduceAdd] at hF) | (refine s_call hE rfl rfl rfl (u64_err _ _ _ _ _ _ _ _ (hF.focus (k := 3) rfl) (by assumption) (by omega) (by omega)) ?_; rintro _ w ⟨rfl, hS1⟩; clear hE a; intro a hE; have hF2 := St.unfocus (k := 3) rfl hS1; clear hF hS1; have hF := hF2; clear hF2; simp only [List.set_cons_zero, List.set_cons_succ, Nat.zero_add, Nat.reduceAdd] at hF) | (refine s_call hE rfl rfl rfl (u64_ok _ _ _ _ _ _ _ _ (hF.focus (k := 4) rfl) (by assumption) (by omega) (by omega) (by omega)) ?_; rintro _ w ⟨rfl, hS1⟩; clear hE a; intro a hE; have hF2 := St.unfocus (k := 4) rfl hS1; clear hF hS1; have hF := hF2; clear hF2; simp only [List.set_cons_zero, List.set_cons_succ, Nat.zero_add, Nat.reduceAdd] at hF) | (refine s_call hE rfl rfl rfl (u64_short _ _ _ _ _ _ _ _ (hF.focus (k := 4) rfl) (by assumption) (by omega) (by omega) (by omega)) ?_; rintro _ w ⟨rfl, hS1⟩; clear hE a; intro a hE; have hF2 := St.unfocus (k := 4) rfl hS1; clear hF hS1; have hF := hF2; clear hF2; simp only [List.set_cons_zero, List.set_cons_succ, Nat.zero_add, Nat.reduceAdd] at hF) | (refine s_call hE rfl rfl rfl (u64_err _ _ _ _ _ _ _ _ (hF.focus (k := 4) rfl) (by assumption) (by omega) (by omega)) ?_; rintro _ w ⟨rfl, hS1⟩; clear hE a; intro a hE; have hF2 := St.unfocus (k := 4) rfl hS1; clear hF hS1; have hF := hF2; clear hF2; simp only [List.set_cons_zero, List.set_cons_succ, Nat.zero_add, Nat.reduceAdd] at hF)
  refine wpList_nil ?_
  refine o_back _ (fun _ h => h) (hF.only 1 rfl) ?_
  clear hS
  have hS := hF.only 1 rfl
  repeat' (first
    | ((with_reducible refine o_ef rfl ?_))
    )
  first | (refine s_call hE rfl rfl rfl (u64_ok _ _ _ _ _ _ _ _ (hF.focus (k := 0) rfl) (by assumption) (by omega) (by omega) (by omega)) ?_; rintro _ w ⟨rfl, hS1⟩; clear hE a; intro a hE; have hF2 := St.unfocus (k := 0) rfl hS1; clear hF hS1; have hF := hF2; clear hF2; simp only [List.set_cons_zero, List.set_cons_succ, Nat.zero_add, Nat.reduceAdd] at hF) | (refine s_call hE rfl rfl rfl (u64_short _ _ _ _ _ _ _ _ (hF.focus (k := 0) rfl) (by assumption) (by omega) (by omega) (by omega)) ?_; rintro _ w ⟨rfl, hS1⟩; clear hE a; intro a hE; have hF2 := St.unfocus (k := 0) rfl hS1; clear hF hS1; have hF := hF2; clear hF2; simp only [List.set_cons_zero, List.set_cons_succ, Nat.zero_add, Nat.reduceAdd] at hF) | (refine s_call hE rfl rfl rfl (u64_err _ _ _ _ _ _ _ _ (hF.focus (k := 0) rfl) (by assumption) (by omega) (by omega)) ?_; rintro _ w ⟨rfl, hS1⟩; clear hE a; intro a hE; have hF2 := St.unfocus (k := 0) rfl hS1; clear hF hS1; have hF := hF2; clear hF2; simp only [List.set_cons_zero, List.set_cons_succ, Nat.zero_add, Nat.reduceAdd] at hF) | (refine s_call hE rfl rfl rfl (u64_ok _ _ _ _ _ _ _ _ (hF.focus (k := 1) rfl) (by assumption) (by omega) (by omega) (by omega)) ?_; rintro _ w ⟨rfl, hS1⟩; clear hE a; intro a hE; have hF2 := St.unfocus (k := 1) rfl hS1; clear hF hS1; have hF := hF2; clear hF2; simp only [List.set_cons_zero, List.set_cons_succ, Nat.zero_add, Nat.reduceAdd] at hF) | (refine s_call hE rfl rfl rfl (u64_short _ _ _ _ _ _ _ _ (hF.focus (k := 1) rfl) (by assumption) (by omega) (by omega) (by omega)) ?_; rintro _ w ⟨rfl, hS1⟩; clear hE a; intro a hE; have hF2 := St.unfocus (k := 1) rfl hS1; clear hF hS1; have hF := hF2; clear hF2; simp only [List.set_cons_zero, List.set_cons_succ, Nat.zero_add, Nat.reduceAdd] at hF) | (refine s_call hE rfl rfl rfl (u64_err _ _ _ _ _ _ _ _ (hF.focus (k := 1) rfl) (by assumption) (by omega) (by omega)) ?_; rintro _ w ⟨rfl, hS1⟩; clear hE a; intro a hE; have hF2 := St.unfocus (k := 1) rfl hS1; clear hF hS1; have hF := hF2; clear hF2; simp only [List.set_cons_zero, List.set_cons_succ, Nat.zero_add, Nat.reduceAdd] at hF) | (refine s_call hE rfl rfl rfl (u64_ok _ _ _ _ _ _ _ _ (hF.focus (k := 2) rfl) (by assumption) (by omega) (by omega) (by omega)) ?_; rintro _ w ⟨rfl, hS1⟩; clear hE a; intro a hE; have hF2 := St.unfocus (k := 2) rfl hS1; clear hF hS1; have hF := hF2; clear hF2; simp only [List.set_cons_zero, List.set_cons_succ, Nat.zero_add, Nat.reduceAdd] at hF) | (refine s_call hE rfl rfl rfl (u64_short _ _ _ _ _ _ _ _ (hF.focus (k := 2) rfl) (by assumption) (by omega) (by omega) (by omega)) ?_; rintro _ w ⟨rfl, hS1⟩; clear hE a; intro a hE; have hF2 := St.unfocus (k := 2) rfl hS1; clear hF hS1; have hF := hF2; clear hF2; simp only [List.set_cons_zero, List.set_cons_succ, Nat.zero_add, Nat.reduceAdd] at hF) | (refine s_call hE rfl rfl rfl (u64_err _ _ _ _ _ _ _ _ (hF.focus (k := 2) rfl) (by assumption) (by omega) (by omega)) ?_; rintro _ w ⟨rfl, hS1⟩; clear hE a; intro a hE; have hF2 := St.unfocus (k := 2) rfl hS1; clear hF hS1; have hF := hF2; clear hF2; simp only [List.set_cons_zero, List.set_cons_succ, Nat.zero_add, Nat.reduceAdd] at hF) | (refine s_call hE rfl rfl rfl (u64_ok _ _ _ _ _ _ _ _ (hF.focus (k := 3) rfl) (by assumption) (by omega) (by omega) (by omega)) ?_; rintro _ w ⟨rfl, hS1⟩; clear hE a; intro a hE; have hF2 := St.unfocus (k := 3) rfl hS1; clear hF hS1; have hF := hF2; clear hF2; simp only [List.set_cons_zero, List.set_cons_succ, Nat.zero_add, Nat.reduceAdd] at hF) | (refine s_call hE rfl rfl rfl (u64_short _ _ _ _ _ _ _ _ (hF.focus (k := 3) rfl) (by assumption) (by omega) (by omega) (by omega)) ?_; rintro _ w ⟨rfl, hS1⟩; clear hE a; intro a hE; have hF2 := St.unfocus (k := 3) rfl hS1; clear hF hS1; have hF := hF2; clear hF2; simp only [List.set_cons_zero, List.set_cons_succ, Nat.zero_add, Nat.reduceAdd] at hF) | (refine s_call hE rfl rfl rfl (u64_err _ _ _ _ _ _ _ _ (hF.focus (k := 3) rfl) (by assumption) (by omega) (by omega)) ?_; rintro _ w ⟨rfl, hS1⟩; clear hE a; intro a hE; have hF2 := St.unfocus (k := 3) rfl hS1; clear hF hS1; have hF := hF2; clear hF2; simp only [List.set_cons_zero, List.set_cons_succ, Nat.zero_add, Nat.reduceAdd] at hF) | (refine s_call hE rfl rfl rfl (u64_ok _ _ _ _ _ _ _ _ (hF.focus (k := 4) rfl) (by assumption) (by omega) (by omega) (by omega)) ?_; rintro _ w ⟨rfl, hS1⟩; clear hE a; intro a hE; have hF2 := St.unfocus (k := 4) rfl hS1; clear hF hS1; have hF := hF2; clear hF2; simp only [List.set_cons_zero, List.set_cons_succ, Nat.zero_add, Nat.reduceAdd] at hF) | (refine s_call hE rfl rfl rfl (u64_short _ _ _ _ _ _ _ _ (hF.focus (k := 4) rfl) (by assumption) (by omega) (by omega) (by omega)) ?_; rintro _ w ⟨rfl, hS1⟩; clear hE a; intro a hE; have hF2 := St.unfocus (k := 4) rfl hS1; clear hF hS1; have hF := hF2; clear hF2; simp only [List.set_cons_zero, List.set_cons_succ, Nat.zero_add, Nat.reduceAdd] at hF) | (refine s_call hE rfl rfl rfl (u64_err _ _ _ _ _ _ _ _ (hF.focus (k := 4) rfl) (by assumption) (by omega) (by omega)) ?_; rintro _ w ⟨rfl, hS1⟩; clear hE a; intro a hE; have hF2 := St.unfocus (k := 4) rfl hS1; clear hF hS1; have hF := hF2; clear hF2; simp only [List.set_cons_zero, List.set_cons_succ, Nat.zero_add, Nat.reduceAdd] at hF)
  refine wpList_nil ?_
  refine o_back _ (fun _ h => h) (hF.only 1 rfl) ?_
  clear hS
  have hS := hF.only 1 rfl
  repeat' (first
    | ((with_reducible refine o_ef rfl ?_))
    )
  refine g_store ?_
  refine s_storeB (k := 0) hF hE rfl rfl rfl rfl rfl rfl ?_
  clear hF; intro w hF; simp only [List.set_cons_zero, List.set_cons_succ] at hF
  refine wpList_nil ?_
  refine o_back _ (fun _ h => h) (hF.only 1 rfl) ?_
  clear hS
  have hS := hF.only 1 rfl
  repeat' (first
    | (with_reducible refine o_rd rfl ?_)
    | ((with_reducible refine q_fa ?_); refine d_val hE hS rfl (fun w hS => r_fieldL hE rfl rfl) ?_; clear hE a; intro a hE)
    | ((with_reducible refine o_ef rfl ?_))
    )
  refine g_store ?_
  refine s_storeB (k := 0) hF hE rfl rfl rfl rfl rfl rfl ?_
  clear hF; intro w hF; simp only [List.set_cons_zero, List.set_cons_succ] at hF
  refine wpList_nil ?_
  refine o_back _ (fun _ h => h) (hF.only 1 rfl) ?_
  clear hS
  have hS := hF.only 1 rfl
  repeat' (first
    | ((with_reducible refine o_lt rfl ?_))
    )
  clear hS
  have hS := hF
  clear hF
  repeat' (first
    | (with_reducible refine wp_seq ?_)
    | (with_reducible refine c_region ?_)
    | (with_reducible refine wpList_nil ?_)
    | (with_reducible refine then_normal ?_)
    | (with_reducible refine wp_skip ?_)
    | (with_reducible refine wp_block ?_)
    | ((with_reducible refine g_move ?_); refine s_move hE rfl rfl ?_; clear hE a; intro a hE)
    | ((with_reducible refine g_assign ?_); refine s_assign hE rfl rfl ?_; clear hE a; intro a hE)
    | ((with_reducible refine g_bin .neq ?_); refine s_neq hE rfl rfl rfl ?_; clear hE a; intro a hE)
    | ((with_reducible refine g_fa ?_); refine s_fieldL hE rfl rfl rfl ?_; clear hE a; intro a hE)
    | ((with_reducible refine g_cond ?_); refine c_false hE rfl ?_)
    | ((with_reducible refine g_call (f := 32) ?_); (first | (refine s_call hE rfl rfl rfl (has _ _ false _ (by decide +kernel)) ?_)); rintro _ w ⟨rfl, rfl⟩; clear hE a; intro a hE) | ((with_reducible refine g_call (f := 39) ?_); (first | (refine s_call hE rfl rfl rfl (rerr _ _ _ _ _ _ _ _ _ (hS.focus (k := 2) rfl)) ?_; rintro _ w ⟨rfl, hS1⟩; clear hE a; intro a hE; have hS2 := St.unfocus (k := 2) rfl hS1; clear hS hS1; have hS := hS2; clear hS2; simp only [List.set_cons_zero, List.set_cons_succ] at hS) )) | ((with_reducible refine g_load ?_); (first | (refine s_loadB (k := 1) hS hE rfl rfl rfl rfl ?_) ); clear hE a; intro a hE)
    | ((with_reducible refine g_store ?_); (first | (refine s_storeB (k := 0) hS hE rfl rfl rfl rfl rfl rfl ?_) ); clear hS; intro w hS; simp only [List.set_cons_zero, List.set_cons_succ, Nat.add_zero] at hS)
    | ((with_reducible refine g_load ?_); (first | (refine s_loadW (k := 0) hS hE rfl rfl rfl rfl ?_) ); clear hE a; intro a hE)
    | (with_reducible refine o_done ?_)
    | ((with_reducible refine o_lt rfl ?_))
    | ((with_reducible refine o_backL ?_))
    )
  have a4 := oct_lt hx 27
  have hP := parse3_some (by omega) hn
  unfold decPost
  by_cases hR : (P3 xs none 0 none 0).right
  · refine s_call hE rfl rfl rfl (check_ok (P3 xs none 0 none 0) w ⟨Rd.nil, Rd.nil⟩ (P3_wf hx) hR) ?_
    rintro _ w ⟨rfl, hS1⟩; clear hE a; intro a hE; replace hS := hS.frame hS1; clear hS1; try simp only [List.cons_append, List.nil_append] at hS
    repeat' (first
      | (with_reducible refine wp_seq ?_)
      | (with_reducible refine wpList_nil ?_)
      | (with_reducible refine then_normal ?_)
      | (with_reducible refine wp_skip ?_)
      | (with_reducible refine block_normal ?_)
      | ((with_reducible refine g_assign ?_); refine s_assign hE rfl rfl ?_; clear hE a; intro a hE)
      | ((with_reducible refine g_bin .neq ?_); refine s_neq hE rfl rfl rfl ?_; clear hE a; intro a hE)
      | ((with_reducible refine g_cond ?_); refine c_false hE rfl ?_)
      )
    refine c_ordK2 hS 0 0 rfl rfl 8 ((.rd 0 (.rd 1 (.rd 2 (.rd 3 (.rd 4 (.ef 5 (.rd 6 (.ef 7 (.lt 8 (.lt 9 .done))))))))))) mixed (by decide +kernel) ?_
    clear hS; intro w hF hS
    repeat' (first
      | (with_reducible refine o_rd rfl ?_)
      | ((with_reducible refine q_move ?_); refine d_val hE hS rfl (fun w hS => r_move hE rfl) ?_; clear hE a; intro a hE)
      | ((with_reducible refine q_blt .len ?_); refine d_val hE hS rfl (fun w hS => r_len hE rfl) ?_; clear hE a; intro a hE)
      | ((with_reducible refine q_fa ?_); refine d_val hE hS rfl (fun w hS => r_fieldL hE rfl rfl) ?_; clear hE a; intro a hE)
      | ((with_reducible refine q_load ?_); (first | (refine d_val hE hS rfl (fun w hS => r_loadB (k := 0) hS hE rfl rfl rfl) ?_) ); clear hE a; intro a hE)
      | ((with_reducible refine q_load ?_); (first | (refine d_val hE hS rfl (fun w hS => r_loadW (k := 1) hS hE rfl rfl rfl) ?_) ); clear hE a; intro a hE)
      | ((with_reducible refine o_ef rfl ?_))
      )
    refine s_call hE rfl rfl rfl (left _ _ _ _ _ _ _ _ _ (hF.focus (k := 2) rfl) (by omega) (by omega)) ?_
    rintro _ w ⟨rfl, hS1⟩; clear hE a; intro a hE; have hF2 := St.unfocus (k := 2) rfl hS1; clear hF hS1; have hF := hF2; clear hF2; simp only [List.set_cons_zero, List.set_cons_succ] at hF
    refine wpList_nil ?_
    refine o_back _ (fun _ h => h) (hF.only2 0 0 rfl rfl) ?_
    clear hS
    have hS := hF.only2 0 0 rfl rfl
    repeat' (first
      | (with_reducible refine o_rd rfl ?_)
      | ((with_reducible refine q_bin .sub ?_); refine d_val hE hS rfl (fun w hS => r_sub hE rfl rfl (by first | exact subN (by omega) (by omega) )) ?_; clear hE a; intro a hE)
      | ((with_reducible refine o_ef rfl ?_))
      )
    refine g_store ?_
    refine s_storeW (k := 3) hF hE rfl rfl rfl rfl rfl (by simp [Value.oneCell']) ?_
    clear hF; intro w hF; simp only [List.set_cons_zero, List.set_cons_succ] at hF
    refine wpList_nil ?_
    refine o_back _ (fun _ h => h) (hF.only2 0 0 rfl rfl) ?_
    clear hS
    have hS := hF
    clear hF
    repeat' (first
      | (with_reducible refine wpList_nil ?_)
      | (with_reducible refine then_normal ?_)
      | (with_reducible refine wp_ret ?_)
      | ((with_reducible refine g_assign ?_); refine s_assign hE rfl rfl ?_; clear hE a; intro a hE)
      | (with_reducible refine o_done ?_)
      | ((with_reducible refine o_lt rfl ?_))
      | ((with_reducible refine o_backL ?_))
      )
    rw [decM_yes h0 (by omega) hP hR]
    rw [show xs.length - (xs.length - (25)) = 25 from by omega] at hE
    exact retG (vs := [_, _, _]) hE rfl ⟨⟨_, rfl, res_W (k := 3) hS rfl rfl⟩, rfl, rfl, trivial⟩ ⟨_, _, _, _, rfl, (hS.nil.rowNil _ _).rowNil _ _⟩
  · refine s_call hE rfl rfl rfl (check_no (P3 xs none 0 none 0) w ⟨Rd.nil, Rd.nil⟩ (P3_wf hx) hR) ?_
    rintro _ w ⟨rfl, hS1⟩; clear hE a; intro a hE; replace hS := hS.frame hS1; clear hS1; try simp only [List.cons_append, List.nil_append] at hS
    repeat' (first
      | (with_reducible refine wp_seq ?_)
      | (with_reducible refine c_region ?_)
      | (with_reducible refine wpList_nil ?_)
      | (with_reducible refine then_normal ?_)
      | (with_reducible refine wp_ret ?_)
      | (with_reducible refine then_ret ?_)
      | (with_reducible refine block_ret ?_)
      | ((with_reducible refine g_assign ?_); refine s_assign hE rfl rfl ?_; clear hE a; intro a hE)
      | ((with_reducible refine g_bin .neq ?_); refine s_neq hE rfl rfl rfl ?_; clear hE a; intro a hE)
      | ((with_reducible refine g_cond ?_); refine c_true hE rfl ?_)
      | ((with_reducible refine g_build ?_); refine s_build [_, _, _, _, _, _, _, _, _] hE rfl rfl rfl ?_; clear hE a; intro a hE)
      | ((with_reducible refine g_store ?_); (first | (refine s_storeW (k := 3) hS hE rfl rfl rfl rfl rfl (by simp [Value.oneCell']) ?_) ); clear hS; intro w hS; simp only [List.set_cons_zero, List.set_cons_succ, Nat.add_zero] at hS)
      )
    rw [decM_no h0 (by omega) hP hR]
    exact retG (vs := [_, _, _]) hE rfl ⟨⟨_, rfl, res_W (k := 3) hS rfl rfl⟩, rfl, rfl, trivial⟩ ⟨none, 0, none, 0, rfl, (hS.nil.rowNil _ _).rowNil _ _⟩
set_option maxHeartbeats 4000000 in
theorem decode4s (A : Option Addr) (c : Nat) (xs : List Nat) (w0 : World) (hr : Rd w0 A (bys xs)) (hx : Bs xs) (hl : xs.length ≤ 140737488355328) (h0 : ¬ xs = []) (hk : oct xs 0 = 4) (hn : 25 ≤ xs.length) :
    Fn Try.prog 17 [.slice A xs.length c] w0 (decPost xs w0) := by
  refine enter 89 Try.func17 rfl rfl rfl ?_
  intro a hE
  have hS := St.start w0
  have hl0 : 0 < xs.length := List.length_pos_iff.mpr h0
  have ho := oct_lt hx 0
  have hk' := hk
  have ho25 := oct_lt hx 25
  have ho26 := oct_lt hx 26
  unfold oct at ho hk' ho25 ho26
  repeat' (first
    | (with_reducible refine wp_seq ?_)
    | (with_reducible refine c_region ?_)
    | (with_reducible refine wpList_nil ?_)
    | (with_reducible refine then_normal ?_)
    | (with_reducible refine wp_skip ?_)
    | ((with_reducible refine g_move ?_); refine s_move hE rfl rfl ?_; clear hE a; intro a hE)
    | ((with_reducible refine g_assign ?_); refine s_assign hE rfl rfl ?_; clear hE a; intro a hE)
    | ((with_reducible refine g_bin .gtr ?_); refine s_gtr hE rfl rfl rfl ?_; clear hE a; intro a hE)
    | ((with_reducible refine g_un .not ?_); refine s_notb hE rfl rfl ?_; clear hE a; intro a hE)
    | ((with_reducible refine g_conv ?_); refine s_conv hE rfl rfl (by first  | exact wrap64_in (by omega) ) ?_; clear hE a; intro a hE)
    | ((with_reducible refine g_blt .len ?_); refine s_len hE rfl rfl ?_; clear hE a; intro a hE)
    | ((with_reducible refine g_extract ?_); refine s_extract hE rfl rfl rfl ?_; clear hE a; intro a hE)
    | ((with_reducible refine g_fa ?_); refine s_fieldL hE rfl rfl rfl ?_; clear hE a; intro a hE)
    | ((with_reducible refine g_guard ?_); refine gd_yes hE rfl rfl rfl ?_)
    | ((with_reducible refine g_guard ?_); refine gd_dec hE rfl rfl (fun hc hE2 => ?_) (fun hc hE2 => ?_) <;> (try omega) <;> (replace hE := hE2; clear hE2))
    | ((with_reducible refine g_pick ?_); refine s_pickT hE rfl rfl rfl ?_; clear hE a; intro a hE)
    | ((with_reducible refine g_cond ?_); refine c_false hE rfl ?_)
    | ((with_reducible refine g_call (f := 35) ?_); refine s_call hE rfl rfl rfl (read _ _ _ _ (by first | exact Rd.st (by assumption) hS ) (by first | omega )) ?_; rintro _ w ⟨g, _, _, rfl, hS1⟩; clear hE a; intro a hE; replace hS := hS.frame hS1; clear hS1; try simp only [List.cons_append, List.nil_append] at hS) | ((with_reducible refine g_call (f := 36) ?_); (first | (refine s_call hE rfl rfl rfl (u8_ok _ _ _ _ _ _ _ _ (hS.focus (k := 1) rfl) (by assumption) (by omega) (by omega) (by omega)) ?_; rintro _ w ⟨rfl, hS1⟩; clear hE a; intro a hE; have hS2 := St.unfocus (k := 1) rfl hS1; clear hS hS1; have hS := hS2; clear hS2; simp only [List.set_cons_zero, List.set_cons_succ, Nat.zero_add, Nat.reduceAdd] at hS) )) | ((with_reducible refine g_call (f := 31) ?_); (first | (refine s_call hE rfl rfl rfl (fieldsE4 _ _ (by omega)) ?_) ); rintro _ w ⟨rfl, rfl⟩; clear hE a; intro a hE)
    | ((with_reducible refine g_load ?_); (first | (refine s_loadB (k := 0) hS hE rfl rfl rfl rfl ?_) ); clear hE a; intro a hE)
    | ((with_reducible refine g_alloc ?_); refine s_allocS hE hS rfl rfl ?_; clear hE a hS; intro g a w hE hS)
    | ((with_reducible refine g_build ?_); refine s_build [_] hE rfl rfl rfl ?_; clear hE a; intro a hE)
    | ((with_reducible refine g_build ?_); refine s_build [_, _, _, _, _, _, _, _, _] hE rfl rfl rfl ?_; clear hE a; intro a hE)
    | ((with_reducible refine g_store ?_); (first | (refine s_storeW (k := 0) hS hE rfl rfl rfl rfl rfl (by simp [Value.oneCell']) ?_) ); clear hS; intro w hS; simp only [List.set_cons_zero, List.set_cons_succ, Nat.add_zero] at hS)
    )
  refine c_ordK hS 1 rfl 13 ((.rd 0 (.rd 1 (.rd 3 (.rd 4 (.rd 6 (.rd 7 (.ef 2 (.rd 9 (.ef 5 (.ef 8 (.ef 10 (.rd 11 (.ef 12 (.lt 13 (.lt 14 .done)))))))))))))))) mixed (by decide +kernel) ?_
  clear hS; intro w hF hS
  repeat' (first
    | (with_reducible refine o_rd rfl ?_)
    | ((with_reducible refine q_fa ?_); refine d_val hE hS rfl (fun w hS => r_fieldL hE rfl rfl) ?_; clear hE a; intro a hE)
    | ((with_reducible refine q_load ?_); (first | (refine d_val hE hS rfl (fun w hS => r_loadB (k := 0) hS hE rfl rfl rfl) ?_) ); clear hE a; intro a hE)
    | ((with_reducible refine o_ef rfl ?_))
    )
  first | (refine s_call hE rfl rfl rfl (u64_ok _ _ _ _ _ _ _ _ (hF.focus (k := 0) rfl) (by assumption) (by omega) (by omega) (by omega)) ?_; rintro _ w ⟨rfl, hS1⟩; clear hE a; intro a hE; have hF2 := St.unfocus (k := 0) rfl hS1; clear hF hS1; have hF := hF2; clear hF2; simp only [List.set_cons_zero, List.set_cons_succ, Nat.zero_add, Nat.reduceAdd] at hF) | (refine s_call hE rfl rfl rfl (u64_short _ _ _ _ _ _ _ _ (hF.focus (k := 0) rfl) (by assumption) (by omega) (by omega) (by omega)) ?_; rintro _ w ⟨rfl, hS1⟩; clear hE a; intro a hE; have hF2 := St.unfocus (k := 0) rfl hS1; clear hF hS1; have hF := hF2; clear hF2; simp only [List.set_cons_zero, List.set_cons_succ, Nat.zero_add, Nat.reduceAdd] at hF) | (refine s_call hE rfl rfl rfl (u64_err _ _ _ _ _ _ _ _ (hF.focus (k := 0) rfl) (by assumption) (by omega) (by omega)) ?_; rintro _ w ⟨rfl, hS1⟩; clear hE a; intro a hE; have hF2 := St.unfocus (k := 0) rfl hS1; clear hF hS1; have hF := hF2; clear hF2; simp only [List.set_cons_zero, List.set_cons_succ, Nat.zero_add, Nat.reduceAdd] at hF) | (refine s_call hE rfl rfl rfl (u64_ok _ _ _ _ _ _ _ _ (hF.focus (k := 1) rfl) (by assumption) (by omega) (by omega) (by omega)) ?_; rintro _ w ⟨rfl, hS1⟩; clear hE a; intro a hE; have hF2 := St.unfocus (k := 1) rfl hS1; clear hF hS1; have hF := hF2; clear hF2; simp only [List.set_cons_zero, List.set_cons_succ, Nat.zero_add, Nat.reduceAdd] at hF) | (refine s_call hE rfl rfl rfl (u64_short _ _ _ _ _ _ _ _ (hF.focus (k := 1) rfl) (by assumption) (by omega) (by omega) (by omega)) ?_; rintro _ w ⟨rfl, hS1⟩; clear hE a; intro a hE; have hF2 := St.unfocus (k := 1) rfl hS1; clear hF hS1; have hF := hF2; clear hF2; simp only [List.set_cons_zero, List.set_cons_succ, Nat.zero_add, Nat.reduceAdd] at hF) | (refine s_call hE rfl rfl rfl (u64_err _ _ _ _ _ _ _ _ (hF.focus (k := 1) rfl) (by assumption) (by omega) (by omega)) ?_; rintro _ w ⟨rfl, hS1⟩; clear hE a; intro a hE; have hF2 := St.unfocus (k := 1) rfl hS1; clear hF hS1; have hF := hF2; clear hF2; simp only [List.set_cons_zero, List.set_cons_succ, Nat.zero_add, Nat.reduceAdd] at hF) | (refine s_call hE rfl rfl rfl (u64_ok _ _ _ _ _ _ _ _ (hF.focus (k := 2) rfl) (by assumption) (by omega) (by omega) (by omega)) ?_; rintro _ w ⟨rfl, hS1⟩; clear hE a; intro a hE; have hF2 := St.unfocus (k := 2) rfl hS1; clear hF hS1; have hF := hF2; clear hF2; simp only [List.set_cons_zero, List.set_cons_succ, Nat.zero_add, Nat.reduceAdd] at hF) | (refine s_call hE rfl rfl rfl (u64_short _ _ _ _ _ _ _ _ (hF.focus (k := 2) rfl) (by assumption) (by omega) (by omega) (by omega)) ?_; rintro _ w ⟨rfl, hS1⟩; clear hE a; intro a hE; have hF2 := St.unfocus (k := 2) rfl hS1; clear hF hS1; have hF := hF2; clear hF2; simp only [List.set_cons_zero, List.set_cons_succ, Nat.zero_add, Nat.reduceAdd] at hF) | (refine s_call hE rfl rfl rfl (u64_err _ _ _ _ _ _ _ _ (hF.focus (k := 2) rfl) (by assumption) (by omega) (by omega)) ?_; rintro _ w ⟨rfl, hS1⟩; clear hE a; intro a hE; have hF2 := St.unfocus (k := 2) rfl hS1; clear hF hS1; have hF := hF2; clear hF2; simp only [List.set_cons_zero, List.set_cons_succ, Nat.zero_add, Nat.reduceAdd] at hF) | (refine s_call hE rfl rfl rfl (u64_ok _ _ _ _ _ _ _ _ (hF.focus (k := 3) rfl) (by assumption) (by omega) (by omega) (by omega)) ?_; rintro _ w ⟨rfl, hS1⟩; clear hE a; intro a hE; have hF2 := St.unfocus (k := 3) rfl hS1; clear hF hS1; have hF := hF2; clear hF2; simp only [List.set_cons_zero, List.set_cons_succ, Nat.zero_add, Nat.reduceAdd] at hF) | (refine s_call hE rfl rfl rfl (u64_short _ _ _ _ _ _ _ _ (hF.focus (k := 3) rfl) (by assumption) (by omega) (by omega) (by omega)) ?_; rintro _ w ⟨rfl, hS1⟩; clear hE a; intro a hE; have hF2 := St.unfocus (k := 3) rfl hS1; clear hF hS1; have hF := hF2; clear hF2; simp only [List.set_cons_zero, List.set_cons_succ, Nat.zero_add, Nat.reduceAdd] at hF) | (refine s_call hE rfl rfl rfl (u64_err _ _ _ _ _ _ _ _ (hF.focus (k := 3) rfl) (by assumption) (by omega) (by omega)) ?_; rintro _ w ⟨rfl, hS1⟩; clear hE a; intro a hE; have hF2 := St.unfocus (k := 3) rfl hS1; clear hF hS1; have hF := hF2; clear hF2; simp only [List.set_cons_zero, List.set_cons_succ, Nat.zero_add, Nat.reduceAdd] at hF) | (refine s_call hE rfl rfl rfl (u64_ok _ _ _ _ _ _ _ _ (hF.focus (k := 4) rfl) (by assumption) (by omega) (by omega) (by omega)) ?_; rintro _ w ⟨rfl, hS1⟩; clear hE a; intro a hE; have hF2 := St.unfocus (k := 4) rfl hS1; clear hF hS1; have hF := hF2; clear hF2; simp only [List.set_cons_zero, List.set_cons_succ, Nat.zero_add, Nat.reduceAdd] at hF) | (refine s_call hE rfl rfl rfl (u64_short _ _ _ _ _ _ _ _ (hF.focus (k := 4) rfl) (by assumption) (by omega) (by omega) (by omega)) ?_; rintro _ w ⟨rfl, hS1⟩; clear hE a; intro a hE; have hF2 := St.unfocus (k := 4) rfl hS1; clear hF hS1; have hF := hF2; clear hF2; simp only [List.set_cons_zero, List.set_cons_succ, Nat.zero_add, Nat.reduceAdd] at hF) | (refine s_call hE rfl rfl rfl (u64_err _ _ _ _ _ _ _ _ (hF.focus (k := 4) rfl) (by assumption) (by omega) (by omega)) ?_; rintro _ w ⟨rfl, hS1⟩; clear hE a; intro a hE; have hF2 := St.unfocus (k := 4) rfl hS1; clear hF hS1; have hF := hF2; clear hF2; simp only [List.set_cons_zero, List.set_cons_succ, Nat.zero_add, Nat.reduceAdd] at hF)
  refine wpList_nil ?_
  refine o_back _ (fun _ h => h) (hF.only 1 rfl) ?_
  clear hS
  have hS := hF.only 1 rfl
  repeat' (first
    | (with_reducible refine o_rd rfl ?_)
    | ((with_reducible refine q_fa ?_); refine d_val hE hS rfl (fun w hS => r_fieldL hE rfl rfl) ?_; clear hE a; intro a hE)
    | ((with_reducible refine o_ef rfl ?_))
    )
  first | (refine s_call hE rfl rfl rfl (u64_ok _ _ _ _ _ _ _ _ (hF.focus (k := 0) rfl) (by assumption) (by omega) (by omega) (by omega)) ?_; rintro _ w ⟨rfl, hS1⟩; clear hE a; intro a hE; have hF2 := St.unfocus (k := 0) rfl hS1; clear hF hS1; have hF := hF2; clear hF2; simp only [List.set_cons_zero, List.set_cons_succ, Nat.zero_add, Nat.reduceAdd] at hF) | (refine s_call hE rfl rfl rfl (u64_short _ _ _ _ _ _ _ _ (hF.focus (k := 0) rfl) (by assumption) (by omega) (by omega) (by omega)) ?_; rintro _ w ⟨rfl, hS1⟩; clear hE a; intro a hE; have hF2 := St.unfocus (k := 0) rfl hS1; clear hF hS1; have hF := hF2; clear hF2; simp only [List.set_cons_zero, List.set_cons_succ, Nat.zero_add, Nat.reduceAdd] at hF) | (refine s_call hE rfl rfl rfl (u64_err _ _ _ _ _ _ _ _ (hF.focus (k := 0) rfl) (by assumption) (by omega) (by omega)) ?_; rintro _ w ⟨rfl, hS1⟩; clear hE a; intro a hE; have hF2 := St.unfocus (k := 0) rfl hS1; clear hF hS1; have hF := hF2; clear hF2; simp only [List.set_cons_zero, List.set_cons_succ, Nat.zero_add, Nat.reduceAdd] at hF) | (refine s_call hE rfl rfl rfl (u64_ok _ _ _ _ _ _ _ _ (hF.focus (k := 1) rfl) (by assumption) (by omega) (by omega) (by omega)) ?_; rintro _ w ⟨rfl, hS1⟩; clear hE a; intro a hE; have hF2 := St.unfocus (k := 1) rfl hS1; clear hF hS1; have hF := hF2; clear hF2; simp only [List.set_cons_zero, List.set_cons_succ, Nat.zero_add, Nat.reduceAdd] at hF) | (refine s_call hE rfl rfl rfl (u64_short _ _ _ _ _ _ _ _ (hF.focus (k := 1) rfl) (by assumption) (by omega) (by omega) (by omega)) ?_; rintro _ w ⟨rfl, hS1⟩; clear hE a; intro a hE; have hF2 := St.unfocus (k := 1) rfl hS1; clear hF hS1; have hF := hF2; clear hF2; simp only [List.set_cons_zero, List.set_cons_succ, Nat.zero_add, Nat.reduceAdd] at hF) | (refine s_call hE rfl rfl rfl (u64_err _ _ _ _ _ _ _ _ (hF.focus (k := 1) rfl) (by assumption) (by omega) (by omega)) ?_; rintro _ w ⟨rfl, hS1⟩; clear hE a; intro a hE; have hF2 := St.unfocus (k := 1) rfl hS1; clear hF hS1; have hF := hF2; clear hF2; simp only [List.set_cons_zero, List.set_cons_succ, Nat.zero_add, Nat.reduceAdd] at hF) | (refine s_call hE rfl rfl rfl (u64_ok _ _ _ _ _ _ _ _ (hF.focus (k := 2) rfl) (by assumption) (by omega) (by omega) (by omega)) ?_; rintro _ w ⟨rfl, hS1⟩; clear hE a; intro a hE; have hF2 := St.unfocus (k := 2) rfl hS1; clear hF hS1; have hF := hF2; clear hF2; simp only [List.set_cons_zero, List.set_cons_succ, Nat.zero_add, Nat.reduceAdd] at hF) | (refine s_call hE rfl rfl rfl (u64_short _ _ _ _ _ _ _ _ (hF.focus (k := 2) rfl) (by assumption) (by omega) (by omega) (by omega)) ?_; rintro _ w ⟨rfl, hS1⟩; clear hE a; intro a hE; have hF2 := St.unfocus (k := 2) rfl hS1; clear hF hS1; have hF := hF2; clear hF2; simp only [List.set_cons_zero, List.set_cons_succ, Nat.zero_add, Nat.reduceAdd] at hF) | (refine s_call hE rfl rfl rfl (u64_err _ _ _ _ _ _ _ _ (hF.focus (k := 2) rfl) (by assumption) (by omega) (by omega)) ?_; rintro _ w ⟨rfl, hS1⟩; clear hE a; intro a hE; have hF2 := St.unfocus (k := 2) rfl hS1; clear hF hS1; have hF := hF2; clear hF2; simp only [List.set_cons_zero, List.set_cons_succ, Nat.zero_add, Nat.reduceAdd] at hF) | (refine s_call hE rfl rfl rfl (u64_ok _ _ _ _ _ _ _ _ (hF.focus (k := 3) rfl) (by assumption) (by omega) (by omega) (by omega)) ?_; rintro _ w ⟨rfl, hS1⟩; clear hE a; intro a hE; have hF2 := St.unfocus (k := 3) rfl hS1; clear hF hS1; have hF := hF2; clear hF2; simp only [List.set_cons_zero, List.set_cons_succ, Nat.zero_add, Nat.reduceAdd] at hF) | (refine s_call hE rfl rfl rfl (u64_short _ _ _ _ _ _ _ _ (hF.focus (k := 3) rfl) (by assumption) (by omega) (by omega) (by omega)) ?_; rintro _ w ⟨rfl, hS1⟩; clear hE a; intro a hE; have hF2 := St.unfocus (k := 3) rfl hS1; clear hF hS1; have hF := hF2; clear hF2; simp only [List.set_cons_zero, List.set_cons_succ, Nat.zero_add, Nat.reduceAdd] at hF) | (refine s_call hE rfl rfl rfl (u64_err _ _ _ _ _ _ _ _ (hF.focus (k := 3) rfl) (by assumption) (by omega) (by omega)) ?_; rintro _ w ⟨rfl, hS1⟩; clear hE a; intro a hE; have hF2 := St.unfocus (k := 3) rfl hS1; clear hF hS1; have hF := hF2; clear hF2; simp only [List.set_cons_zero, List.set_cons_succ, Nat.zero_add, Nat.reduceAdd] at hF) | (refine s_call hE rfl rfl rfl (u64_ok _ _ _ _ _ _ _ _ (hF.focus (k := 4) rfl) (by assumption) (by omega) (by omega) (by omega)) ?_; rintro _ w ⟨rfl, hS1⟩; clear hE a; intro a hE; have hF2 := St.unfocus (k := 4) rfl hS1; clear hF hS1; have hF := hF2; clear hF2; simp only [List.set_cons_zero, List.set_cons_succ, Nat.zero_add, Nat.reduceAdd] at hF) | (refine s_call hE rfl rfl rfl (u64_short _ _ _ _ _ _ _ _ (hF.focus (k := 4) rfl) (by assumption) (by omega) (by omega) (by omega)) ?_; rintro _ w ⟨rfl, hS1⟩; clear hE a; intro a hE; have hF2 := St.unfocus (k := 4) rfl hS1; clear hF hS1; have hF := hF2; clear hF2; simp only [List.set_cons_zero, List.set_cons_succ, Nat.zero_add, Nat.reduceAdd] at hF) | (refine s_call hE rfl rfl rfl (u64_err _ _ _ _ _ _ _ _ (hF.focus (k := 4) rfl) (by assumption) (by omega) (by omega)) ?_; rintro _ w ⟨rfl, hS1⟩; clear hE a; intro a hE; have hF2 := St.unfocus (k := 4) rfl hS1; clear hF hS1; have hF := hF2; clear hF2; simp only [List.set_cons_zero, List.set_cons_succ, Nat.zero_add, Nat.reduceAdd] at hF)
  refine wpList_nil ?_
  refine o_back _ (fun _ h => h) (hF.only 1 rfl) ?_
  clear hS
  have hS := hF.only 1 rfl
  repeat' (first
    | ((with_reducible refine o_ef rfl ?_))
    )
  first | (refine s_call hE rfl rfl rfl (u64_ok _ _ _ _ _ _ _ _ (hF.focus (k := 0) rfl) (by assumption) (by omega) (by omega) (by omega)) ?_; rintro _ w ⟨rfl, hS1⟩; clear hE a; intro a hE; have hF2 := St.unfocus (k := 0) rfl hS1; clear hF hS1; have hF := hF2; clear hF2; simp only [List.set_cons_zero, List.set_cons_succ, Nat.zero_add, Nat.reduceAdd] at hF) | (refine s_call hE rfl rfl rfl (u64_short _ _ _ _ _ _ _ _ (hF.focus (k := 0) rfl) (by assumption) (by omega) (by omega) (by omega)) ?_; rintro _ w ⟨rfl, hS1⟩; clear hE a; intro a hE; have hF2 := St.unfocus (k := 0) rfl hS1; clear hF hS1; have hF := hF2; clear hF2; simp only [List.set_cons_zero, List.set_cons_succ, Nat.zero_add, Nat.reduceAdd] at hF) | (refine s_call hE rfl rfl rfl (u64_err _ _ _ _ _ _ _ _ (hF.focus (k := 0) rfl) (by assumption) (by omega) (by omega)) ?_; rintro _ w ⟨rfl, hS1⟩; clear hE a; intro a hE; have hF2 := St.unfocus (k := 0) rfl hS1; clear hF hS1; have hF := hF2; clear hF2; simp only [List.set_cons_zero, List.set_cons_succ, Nat.zero_add, Nat.reduceAdd] at hF) | (refine s_call hE rfl rfl rfl (u64_ok _ _ _ _ _ _ _ _ (hF.focus (k := 1) rfl) (by assumption) (by omega) (by omega) (by omega)) ?_; rintro _ w ⟨rfl, hS1⟩; clear hE a; intro a hE; have hF2 := St.unfocus (k := 1) rfl hS1; clear hF hS1; have hF := hF2; clear hF2; simp only [List.set_cons_zero, List.set_cons_succ, Nat.zero_add, Nat.reduceAdd] at hF) | (refine s_call hE rfl rfl rfl (u64_short _ _ _ _ _ _ _ _ (hF.focus (k := 1) rfl) (by assumption) (by omega) (by omega) (by omega)) ?_; rintro _ w ⟨rfl, hS1⟩; clear hE a; intro a hE; have hF2 := St.unfocus (k := 1) rfl hS1; clear hF hS1; have hF := hF2; clear hF2; simp only [List.set_cons_zero, List.set_cons_succ, Nat.zero_add, Nat.reduceAdd] at hF) | (refine s_call hE rfl rfl rfl (u64_err _ _ _ _ _ _ _ _ (hF.focus (k := 1) rfl) (by assumption) (by omega) (by omega)) ?_; rintro _ w ⟨rfl, hS1⟩; clear hE a; intro a hE; have hF2 := St.unfocus (k := 1) rfl hS1; clear hF hS1; have hF := hF2; clear hF2; simp only [List.set_cons_zero, List.set_cons_succ, Nat.zero_add, Nat.reduceAdd] at hF) | (refine s_call hE rfl rfl rfl (u64_ok _ _ _ _ _ _ _ _ (hF.focus (k := 2) rfl) (by assumption) (by omega) (by omega) (by omega)) ?_; rintro _ w ⟨rfl, hS1⟩; clear hE a; intro a hE; have hF2 := St.unfocus (k := 2) rfl hS1; clear hF hS1; have hF := hF2; clear hF2; simp only [List.set_cons_zero, List.set_cons_succ, Nat.zero_add, Nat.reduceAdd] at hF) | (refine s_call hE rfl rfl rfl (u64_short _ _ _ _ _ _ _ _ (hF.focus (k := 2) rfl) (by assumption) (by omega) (by omega) (by omega)) ?_; rintro _ w ⟨rfl, hS1⟩; clear hE a; intro a hE; have hF2 := St.unfocus (k := 2) rfl hS1; clear hF hS1; have hF := hF2; clear hF2; simp only [List.set_cons_zero, List.set_cons_succ, Nat.zero_add, Nat.reduceAdd] at hF) | (refine s_call hE rfl rfl rfl (u64_err _ _ _ _ _ _ _ _ (hF.focus (k := 2) rfl) (by assumption) (by omega) (by omega)) ?_; rintro _ w ⟨rfl, hS1⟩; clear hE a; intro a hE; have hF2 := St.unfocus (k := 2) rfl hS1; clear hF hS1; have hF := hF2; clear hF2; simp only [List.set_cons_zero, List.set_cons_succ, Nat.zero_add, Nat.reduceAdd] at hF) | (refine s_call hE rfl rfl rfl (u64_ok _ _ _ _ _ _ _ _ (hF.focus (k := 3) rfl) (by assumption) (by omega) (by omega) (by omega)) ?_; rintro _ w ⟨rfl, hS1⟩; clear hE a; intro a hE; have hF2 := St.unfocus (k := 3) rfl hS1; clear hF hS1; have hF := hF2; clear hF2; simp only [List.set_cons_zero, List.set_cons_succ, Nat.zero_add, Nat.reduceAdd] at hF) | (refine s_call hE rfl rfl rfl (u64_short _ _ _ _ _ _ _ _ (hF.focus (k := 3) rfl) (by assumption) (by omega) (by omega) (by omega)) ?_; rintro _ w ⟨rfl, hS1⟩; clear hE a; intro a hE; have hF2 := St.unfocus (k := 3) rfl hS1; clear hF hS1; have hF := hF2; clear hF2; simp only [List.set_cons_zero, List.set_cons_succ, Nat.zero_add, Nat.reduceAdd] at hF) | (refine s_call hE rfl rfl rfl (u64_err _ _ _ _ _ _ _ _ (hF.focus (k := 3) rfl) (by assumption) (by omega) (by omega)) ?_; rintro _ w ⟨rfl, hS1⟩; clear hE a; intro a hE; have hF2 := St.unfocus (k := 3) rfl hS1; clear hF hS1; have hF := hF2; clear hF2; simp only [List.set_cons_zero, List.set_cons_succ, Nat.zero_add, Nat.reduceAdd] at hF) | (refine s_call hE rfl rfl rfl (u64_ok _ _ _ _ _ _ _ _ (hF.focus (k := 4) rfl) (by assumption) (by omega) (by omega) (by omega)) ?_; rintro _ w ⟨rfl, hS1⟩; clear hE a; intro a hE; have hF2 := St.unfocus (k := 4) rfl hS1; clear hF hS1; have hF := hF2; clear hF2; simp only [List.set_cons_zero, List.set_cons_succ, Nat.zero_add, Nat.reduceAdd] at hF) | (refine s_call hE rfl rfl rfl (u64_short _ _ _ _ _ _ _ _ (hF.focus (k := 4) rfl) (by assumption) (by omega) (by omega) (by omega)) ?_; rintro _ w ⟨rfl, hS1⟩; clear hE a; intro a hE; have hF2 := St.unfocus (k := 4) rfl hS1; clear hF hS1; have hF := hF2; clear hF2; simp only [List.set_cons_zero, List.set_cons_succ, Nat.zero_add, Nat.reduceAdd] at hF) | (refine s_call hE rfl rfl rfl (u64_err _ _ _ _ _ _ _ _ (hF.focus (k := 4) rfl) (by assumption) (by omega) (by omega)) ?_; rintro _ w ⟨rfl, hS1⟩; clear hE a; intro a hE; have hF2 := St.unfocus (k := 4) rfl hS1; clear hF hS1; have hF := hF2; clear hF2; simp only [List.set_cons_zero, List.set_cons_succ, Nat.zero_add, Nat.reduceAdd] at hF)
  refine wpList_nil ?_
  refine o_back _ (fun _ h => h) (hF.only 1 rfl) ?_
  clear hS
  have hS := hF.only 1 rfl
  repeat' (first
    | ((with_reducible refine o_ef rfl ?_))
    )
  refine g_store ?_
  refine s_storeB (k := 0) hF hE rfl rfl rfl rfl rfl rfl ?_
  clear hF; intro w hF; simp only [List.set_cons_zero, List.set_cons_succ] at hF
  refine wpList_nil ?_
  refine o_back _ (fun _ h => h) (hF.only 1 rfl) ?_
  clear hS
  have hS := hF.only 1 rfl
  repeat' (first
    | (with_reducible refine o_rd rfl ?_)
    | ((with_reducible refine q_fa ?_); refine d_val hE hS rfl (fun w hS => r_fieldL hE rfl rfl) ?_; clear hE a; intro a hE)
    | ((with_reducible refine o_ef rfl ?_))
    )
  refine g_store ?_
  refine s_storeB (k := 0) hF hE rfl rfl rfl rfl rfl rfl ?_
  clear hF; intro w hF; simp only [List.set_cons_zero, List.set_cons_succ] at hF
  refine wpList_nil ?_
  refine o_back _ (fun _ h => h) (hF.only 1 rfl) ?_
  clear hS
  have hS := hF.only 1 rfl
  repeat' (first
    | ((with_reducible refine o_lt rfl ?_))
    )
  clear hS
  have hS := hF
  clear hF
  repeat' (first
    | (with_reducible refine wp_seq ?_)
    | (with_reducible refine c_region ?_)
    | (with_reducible refine wpList_nil ?_)
    | (with_reducible refine then_normal ?_)
    | (with_reducible refine wp_skip ?_)
    | (with_reducible refine wp_block ?_)
    | ((with_reducible refine g_move ?_); refine s_move hE rfl rfl ?_; clear hE a; intro a hE)
    | ((with_reducible refine g_assign ?_); refine s_assign hE rfl rfl ?_; clear hE a; intro a hE)
    | ((with_reducible refine g_bin .neq ?_); refine s_neq hE rfl rfl rfl ?_; clear hE a; intro a hE)
    | ((with_reducible refine g_fa ?_); refine s_fieldL hE rfl rfl rfl ?_; clear hE a; intro a hE)
    | ((with_reducible refine g_cond ?_); refine c_false hE rfl ?_)
    | ((with_reducible refine g_call (f := 32) ?_); (first | (refine s_call hE rfl rfl rfl (has _ _ false _ (by decide +kernel)) ?_)); rintro _ w ⟨rfl, rfl⟩; clear hE a; intro a hE) | ((with_reducible refine g_call (f := 39) ?_); (first | (refine s_call hE rfl rfl rfl (rerr _ _ _ _ _ _ _ _ _ (hS.focus (k := 2) rfl)) ?_; rintro _ w ⟨rfl, hS1⟩; clear hE a; intro a hE; have hS2 := St.unfocus (k := 2) rfl hS1; clear hS hS1; have hS := hS2; clear hS2; simp only [List.set_cons_zero, List.set_cons_succ] at hS) )) | ((with_reducible refine g_load ?_); (first | (refine s_loadB (k := 1) hS hE rfl rfl rfl rfl ?_) ); clear hE a; intro a hE)
    | ((with_reducible refine g_store ?_); (first | (refine s_storeB (k := 0) hS hE rfl rfl rfl rfl rfl rfl ?_) ); clear hS; intro w hS; simp only [List.set_cons_zero, List.set_cons_succ, Nat.add_zero] at hS)
    | ((with_reducible refine g_load ?_); (first | (refine s_loadW (k := 0) hS hE rfl rfl rfl rfl ?_) ); clear hE a; intro a hE)
    | (with_reducible refine o_done ?_)
    | ((with_reducible refine o_lt rfl ?_))
    | ((with_reducible refine o_backL ?_))
    )
  have a4 := oct_lt hx 27
  have hP := parse3_some (by omega) hn
  unfold decPost
  by_cases hR : (P3 xs none 0 none 0).right
  · refine s_call hE rfl rfl rfl (check_ok (P3 xs none 0 none 0) w ⟨Rd.nil, Rd.nil⟩ (P3_wf hx) hR) ?_
    rintro _ w ⟨rfl, hS1⟩; clear hE a; intro a hE; replace hS := hS.frame hS1; clear hS1; try simp only [List.cons_append, List.nil_append] at hS
    repeat' (first
      | (with_reducible refine wp_seq ?_)
      | (with_reducible refine wpList_nil ?_)
      | (with_reducible refine then_normal ?_)
      | (with_reducible refine wp_skip ?_)
      | (with_reducible refine block_normal ?_)
      | ((with_reducible refine g_assign ?_); refine s_assign hE rfl rfl ?_; clear hE a; intro a hE)
      | ((with_reducible refine g_bin .neq ?_); refine s_neq hE rfl rfl rfl ?_; clear hE a; intro a hE)
      | ((with_reducible refine g_cond ?_); refine c_false hE rfl ?_)
      )
    refine c_ordK2 hS 0 0 rfl rfl 8 ((.rd 0 (.rd 1 (.rd 2 (.rd 3 (.rd 4 (.ef 5 (.rd 6 (.ef 7 (.lt 8 (.lt 9 .done))))))))))) mixed (by decide +kernel) ?_
    clear hS; intro w hF hS
    repeat' (first
      | (with_reducible refine o_rd rfl ?_)
      | ((with_reducible refine q_move ?_); refine d_val hE hS rfl (fun w hS => r_move hE rfl) ?_; clear hE a; intro a hE)
      | ((with_reducible refine q_blt .len ?_); refine d_val hE hS rfl (fun w hS => r_len hE rfl) ?_; clear hE a; intro a hE)
      | ((with_reducible refine q_fa ?_); refine d_val hE hS rfl (fun w hS => r_fieldL hE rfl rfl) ?_; clear hE a; intro a hE)
      | ((with_reducible refine q_load ?_); (first | (refine d_val hE hS rfl (fun w hS => r_loadB (k := 0) hS hE rfl rfl rfl) ?_) ); clear hE a; intro a hE)
      | ((with_reducible refine q_load ?_); (first | (refine d_val hE hS rfl (fun w hS => r_loadW (k := 1) hS hE rfl rfl rfl) ?_) ); clear hE a; intro a hE)
      | ((with_reducible refine o_ef rfl ?_))
      )
    refine s_call hE rfl rfl rfl (left _ _ _ _ _ _ _ _ _ (hF.focus (k := 2) rfl) (by omega) (by omega)) ?_
    rintro _ w ⟨rfl, hS1⟩; clear hE a; intro a hE; have hF2 := St.unfocus (k := 2) rfl hS1; clear hF hS1; have hF := hF2; clear hF2; simp only [List.set_cons_zero, List.set_cons_succ] at hF
    refine wpList_nil ?_
    refine o_back _ (fun _ h => h) (hF.only2 0 0 rfl rfl) ?_
    clear hS
    have hS := hF.only2 0 0 rfl rfl
    repeat' (first
      | (with_reducible refine o_rd rfl ?_)
      | ((with_reducible refine q_bin .sub ?_); refine d_val hE hS rfl (fun w hS => r_sub hE rfl rfl (by first | exact subN (by omega) (by omega) )) ?_; clear hE a; intro a hE)
      | ((with_reducible refine o_ef rfl ?_))
      )
    refine g_store ?_
    refine s_storeW (k := 3) hF hE rfl rfl rfl rfl rfl (by simp [Value.oneCell']) ?_
    clear hF; intro w hF; simp only [List.set_cons_zero, List.set_cons_succ] at hF
    refine wpList_nil ?_
    refine o_back _ (fun _ h => h) (hF.only2 0 0 rfl rfl) ?_
    clear hS
    have hS := hF
    clear hF
    repeat' (first
      | (with_reducible refine wpList_nil ?_)
      | (with_reducible refine then_normal ?_)
      | (with_reducible refine wp_ret ?_)
      | ((with_reducible refine g_assign ?_); refine s_assign hE rfl rfl ?_; clear hE a; intro a hE)
      | (with_reducible refine o_done ?_)
      | ((with_reducible refine o_lt rfl ?_))
      | ((with_reducible refine o_backL ?_))
      )
    rw [decM_yes h0 (by omega) hP hR]
    rw [show xs.length - (xs.length - (25)) = 25 from by omega] at hE
    exact retG (vs := [_, _, _]) hE rfl ⟨⟨_, rfl, res_W (k := 3) hS rfl rfl⟩, rfl, rfl, trivial⟩ ⟨_, _, _, _, rfl, (hS.nil.rowNil _ _).rowNil _ _⟩
  · refine s_call hE rfl rfl rfl (check_no (P3 xs none 0 none 0) w ⟨Rd.nil, Rd.nil⟩ (P3_wf hx) hR) ?_
    rintro _ w ⟨rfl, hS1⟩; clear hE a; intro a hE; replace hS := hS.frame hS1; clear hS1; try simp only [List.cons_append, List.nil_append] at hS
    repeat' (first
      | (with_reducible refine wp_seq ?_)
      | (with_reducible refine c_region ?_)
      | (with_reducible refine wpList_nil ?_)
      | (with_reducible refine then_normal ?_)
      | (with_reducible refine wp_ret ?_)
      | (with_reducible refine then_ret ?_)
      | (with_reducible refine block_ret ?_)
      | ((with_reducible refine g_assign ?_); refine s_assign hE rfl rfl ?_; clear hE a; intro a hE)
      | ((with_reducible refine g_bin .neq ?_); refine s_neq hE rfl rfl rfl ?_; clear hE a; intro a hE)
      | ((with_reducible refine g_cond ?_); refine c_true hE rfl ?_)
      | ((with_reducible refine g_build ?_); refine s_build [_, _, _, _, _, _, _, _, _] hE rfl rfl rfl ?_; clear hE a; intro a hE)
      | ((with_reducible refine g_store ?_); (first | (refine s_storeW (k := 3) hS hE rfl rfl rfl rfl rfl (by simp [Value.oneCell']) ?_) ); clear hS; intro w hS; simp only [List.set_cons_zero, List.set_cons_succ, Nat.add_zero] at hS)
      )
    rw [decM_no h0 (by omega) hP hR]
    exact retG (vs := [_, _, _]) hE rfl ⟨⟨_, rfl, res_W (k := 3) hS rfl rfl⟩, rfl, rfl, trivial⟩ ⟨none, 0, none, 0, rfl, (hS.nil.rowNil _ _).rowNil _ _⟩
theorem decode (A : Option Addr) (c : Nat) (xs : List Nat) (w0 : World) (hr : Rd w0 A (bys xs)) (hx : Bs xs) (hl : xs.length ≤ 140737488355328) :
    Fn Try.prog 17 [.slice A xs.length c] w0 (decPost xs w0) := by
  by_cases h0 : xs = []
  · subst h0; exact decode0 A c w0
  · rcases (by omega : oct xs 0 = 1 ∨ oct xs 0 = 2 ∨ oct xs 0 = 3 ∨ oct xs 0 = 4 ∨ (oct xs 0 < 1 ∨ 4 < oct xs 0)) with hk | hk | hk | hk | hk
    · by_cases hn : 29 ≤ xs.length ∧ 29 + oct xs 27 + oct xs (28 + oct xs 27) ≤ xs.length
      · exact decode1s A c xs w0 hr hx hl h0 hk hn
      · exact decode1 A c xs w0 hr hx hl h0 hk (by omega)
    · by_cases hn : 28 ≤ xs.length ∧ 36 + oct xs 27 ≤ xs.length
      · exact decode2s A c xs w0 hr hx hl h0 hk hn
      · exact decode2 A c xs w0 hr hx hl h0 hk (by omega)
    · by_cases hn : 25 ≤ xs.length
      · exact decode3s A c xs w0 hr hx hl h0 hk hn
      · exact decode3 A c xs w0 hr hx hl h0 hk (by omega)
    · by_cases hn : 25 ≤ xs.length
      · exact decode4s A c xs w0 hr hx hl h0 hk hn
      · exact decode4 A c xs w0 hr hx hl h0 hk (by omega)
    · exact decodeB A c xs w0 hr hx hl h0 hk
end Go.Proofs.Ytmfcffeoooegcaa
