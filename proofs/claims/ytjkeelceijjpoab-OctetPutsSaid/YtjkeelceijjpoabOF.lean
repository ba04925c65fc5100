/-
  The laws of octets.
-/
import Derived.Test.YtjkeelceijjpoabOE
namespace Go.Proofs.Ytjkeelceijjpoab
open Go.RowKit
set_option linter.unusedVariables false
set_option linter.unusedSimpArgs false
attribute [local irreducible] Rd hRow hBlk hRd hAll Fn

theorem bs125 : Bs [1, 2, 5] := by intro x hx; simp at hx; omega
theorem wakes (w0 : World) : Fn Try.prog 9 [] w0 fun v w' => v = .bool true ∧ St w0 w' [] := by
  refine enter 27 Try.func9 rfl rfl rfl ?_
  intro a hE
  have hS := St.start w0
  repeat' (first
    | (with_reducible refine wp_seq ?_)
    | (with_reducible refine c_region ?_)
    | (with_reducible refine wpList_nil ?_)
    | (with_reducible refine then_normal ?_)
    | ((with_reducible refine g_assign ?_); refine s_assign hE rfl rfl ?_; clear hE a; intro a hE)
    )
  refine s_lit (cs := bys [1, 2, 5]) hE hS rfl rfl rfl rfl rfl (bys_one _) rfl ?_
  clear hE a hS; intro g a w hE hS
  refine s_call hE rfl rfl rfl (read _ 3 [1, 2, 5] w hS.rd (by decide)) ?_
  rintro _ w ⟨g2, A2, c2, rfl, hS1⟩; clear hE a; intro a hE
  replace hS := hS1.below |> fun _ => hS.frame hS1
  clear hS1
  repeat' (first
    | (with_reducible refine wp_seq ?_)
    | (with_reducible refine c_region ?_)
    | (with_reducible refine wpList_nil ?_)
    | (with_reducible refine then_normal ?_)
    | ((with_reducible refine g_move ?_); refine s_move hE rfl rfl ?_; clear hE a; intro a hE)
    | ((with_reducible refine g_assign ?_); refine s_assign hE rfl rfl ?_; clear hE a; intro a hE)
    | ((with_reducible refine g_guard ?_); refine gd_yes hE rfl rfl rfl ?_)
    | ((with_reducible refine g_bin .neq ?_); refine s_val hE rfl rfl rfl (r_nep hE rfl rfl) ?_; clear hE a; intro a hE)
    )
  refine s_call hE rfl rfl rfl (u16 g2 A2 c2 [1, 2, 5] 0 0 _ _ _ hS bs125 (by decide) (by decide)) ?_
  rintro _ w ⟨rfl, hS1⟩; clear hE a hS; intro a hE
  have hS := hS1; clear hS1
  replace hE := hE.as (d := 8) rfl (u := .int .u16 258) rfl
  repeat' (first
    | ((with_reducible refine g_move ?_); refine s_move hE rfl rfl ?_; clear hE a; intro a hE)
    | ((with_reducible refine g_bin .eql ?_); refine s_eql hE rfl rfl rfl ?_; clear hE a; intro a hE)
    | ((with_reducible refine g_guard ?_); refine gd_yes hE rfl rfl rfl ?_)
    | ((with_reducible refine g_pick ?_); refine s_pickT hE rfl rfl rfl ?_; clear hE a; intro a hE)
    )
  refine s_call hE rfl rfl rfl (left g2 A2 c2 [1, 2, 5] 2 0 _ _ _ hS (by decide) (by decide)) ?_
  rintro _ w ⟨rfl, hS1⟩; clear hE a hS; intro a hE
  have hS := hS1.nil; clear hS1
  repeat' (first
    | ((with_reducible refine g_move ?_); refine s_move hE rfl rfl ?_; clear hE a; intro a hE)
    | ((with_reducible refine g_bin .eql ?_); refine s_eql hE rfl rfl rfl ?_; clear hE a; intro a hE)
    | ((with_reducible refine g_guard ?_); refine gd_yes hE rfl rfl rfl ?_)
    | ((with_reducible refine g_pick ?_); refine s_pickT hE rfl rfl rfl ?_; clear hE a; intro a hE)
    )
  refine s_lit (cs := bys [7]) hE hS rfl rfl rfl rfl rfl (bys_one _) rfl ?_
  clear hE a hS; intro g a w hE hS
  refine gd_yes hE rfl rfl rfl ?_
  refine s_lit (cs := bys [7]) hE hS rfl rfl rfl rfl rfl (bys_one _) rfl ?_
  clear hE a hS; intro g' a w hE hS
  refine gd_yes hE rfl rfl rfl ?_
  refine s_call hE rfl rfl rfl (oequal _ _ 1 1 [7] [7] w (hS.rdAt (k := 1) rfl) hS.rd (by decide) (by decide)) ?_
  rintro _ w ⟨rfl, hS1⟩; clear hE a; intro a hE
  replace hS := (hS.frame hS1).nil; clear hS1
  rw [decide_eq_true rfl] at hE
  repeat' (first
    | ((with_reducible refine g_move ?_); refine s_move hE rfl rfl ?_; clear hE a; intro a hE)
    | ((with_reducible refine g_guard ?_); refine gd_yes hE rfl rfl rfl ?_)
    | ((with_reducible refine g_pick ?_); refine s_pickT hE rfl rfl rfl ?_; clear hE a; intro a hE)
    )
  refine s_lit (cs := bys [7]) hE hS rfl rfl rfl rfl rfl (bys_one _) rfl ?_
  clear hE a hS; intro g a w hE hS
  refine gd_yes hE rfl rfl rfl ?_
  refine s_lit (cs := bys [8]) hE hS rfl rfl rfl rfl rfl (bys_one _) rfl ?_
  clear hE a hS; intro g' a w hE hS
  refine gd_yes hE rfl rfl rfl ?_
  refine s_call hE rfl rfl rfl (oequal _ _ 1 1 [7] [8] w (hS.rdAt (k := 1) rfl) hS.rd (by decide) (by decide)) ?_
  rintro _ w ⟨rfl, hS1⟩; clear hE a; intro a hE
  replace hS := (hS.frame hS1).nil; clear hS1
  rw [decide_eq_false (by decide)] at hE
  repeat' (first
    | (with_reducible refine wpList_nil ?_)
    | (with_reducible refine then_normal ?_)
    | (with_reducible refine wp_ret ?_)
    | ((with_reducible refine g_assign ?_); refine s_assign hE rfl rfl ?_; clear hE a; intro a hE)
    | ((with_reducible refine g_un .not ?_); refine s_notb hE rfl rfl ?_; clear hE a; intro a hE)
    | ((with_reducible refine g_guard ?_); refine gd_yes hE rfl rfl rfl ?_)
    | ((with_reducible refine g_pick ?_); refine s_pickT hE rfl rfl rfl ?_; clear hE a; intro a hE)
    )
  exact ret1 hE rfl rfl ⟨rfl, hS⟩
theorem law_OctetNone (n : Int) (w0 : World) (hn : (Lit.int .i64 n).wf = true) :
    Fn Try.prog 5 [.int .i64 n] w0 fun v w' => v = .bool true ∧ St w0 w' [] := by
  refine enter 41 Try.func5 rfl rfl rfl ?_
  intro a hE
  repeat' (first
    | (with_reducible refine wp_seq ?_)
    | (with_reducible refine c_region ?_)
    | (with_reducible refine wpList_nil ?_)
    | (with_reducible refine then_normal ?_)
    | ((with_reducible refine g_assign ?_); refine s_assign hE rfl rfl ?_; clear hE a; intro a hE)
    )
  refine s_call hE rfl rfl rfl (wakes w0) ?_
  rintro _ w ⟨rfl, hS⟩; clear hE a; intro a hE
  repeat' (first
    | (with_reducible refine wp_seq ?_)
    | (with_reducible refine c_region ?_)
    | (with_reducible refine wpList_nil ?_)
    | (with_reducible refine then_normal ?_)
    | (with_reducible refine wp_skip ?_)
    | ((with_reducible refine g_move ?_); refine s_move hE rfl rfl ?_; clear hE a; intro a hE)
    | ((with_reducible refine g_assign ?_); refine s_assign hE rfl rfl ?_; clear hE a; intro a hE)
    | ((with_reducible refine g_un .not ?_); refine s_notb hE rfl rfl ?_; clear hE a; intro a hE)
    | ((with_reducible refine g_cond ?_); refine c_false hE rfl ?_)
    )
  refine s_call hE rfl rfl rfl (u8Nil w) ?_
  rintro _ w ⟨rfl, rfl⟩; clear hE a; intro a hE
  repeat' (first
    | ((with_reducible refine g_move ?_); refine s_move hE rfl rfl ?_; clear hE a; intro a hE)
    | ((with_reducible refine g_bin .eql ?_); refine s_eql hE rfl rfl rfl ?_; clear hE a; intro a hE)
    | ((with_reducible refine g_guard ?_); refine gd_yes hE rfl rfl rfl ?_)
    )
  refine s_call hE rfl rfl rfl (u16Nil w) ?_
  rintro _ w ⟨rfl, rfl⟩; clear hE a; intro a hE
  repeat' (first
    | ((with_reducible refine g_move ?_); refine s_move hE rfl rfl ?_; clear hE a; intro a hE)
    | ((with_reducible refine g_bin .eql ?_); refine s_eql hE rfl rfl rfl ?_; clear hE a; intro a hE)
    | ((with_reducible refine g_guard ?_); refine gd_yes hE rfl rfl rfl ?_)
    | ((with_reducible refine g_pick ?_); refine s_pickT hE rfl rfl rfl ?_; clear hE a; intro a hE)
    )
  refine s_call hE rfl rfl rfl (u32Nil w) ?_
  rintro _ w ⟨rfl, rfl⟩; clear hE a; intro a hE
  repeat' (first
    | ((with_reducible refine g_move ?_); refine s_move hE rfl rfl ?_; clear hE a; intro a hE)
    | ((with_reducible refine g_bin .eql ?_); refine s_eql hE rfl rfl rfl ?_; clear hE a; intro a hE)
    | ((with_reducible refine g_guard ?_); refine gd_yes hE rfl rfl rfl ?_)
    | ((with_reducible refine g_pick ?_); refine s_pickT hE rfl rfl rfl ?_; clear hE a; intro a hE)
    )
  refine s_call hE rfl rfl rfl (u64Nil w) ?_
  rintro _ w ⟨rfl, rfl⟩; clear hE a; intro a hE
  repeat' (first
    | ((with_reducible refine g_move ?_); refine s_move hE rfl rfl ?_; clear hE a; intro a hE)
    | ((with_reducible refine g_bin .eql ?_); refine s_eql hE rfl rfl rfl ?_; clear hE a; intro a hE)
    | ((with_reducible refine g_guard ?_); refine gd_yes hE rfl rfl rfl ?_)
    | ((with_reducible refine g_pick ?_); refine s_pickT hE rfl rfl rfl ?_; clear hE a; intro a hE)
    )
  refine s_call hE rfl rfl rfl (rawNil n w) ?_
  rintro _ w ⟨rfl, rfl⟩; clear hE a; intro a hE
  repeat' (first
    | ((with_reducible refine g_move ?_); refine s_move hE rfl rfl ?_; clear hE a; intro a hE)
    | ((with_reducible refine g_bin .eql ?_); refine s_eql hE rfl rfl rfl ?_; clear hE a; intro a hE)
    | ((with_reducible refine g_blt .len ?_); refine s_len hE rfl rfl ?_; clear hE a; intro a hE)
    | ((with_reducible refine g_guard ?_); refine gd_yes hE rfl rfl rfl ?_)
    | ((with_reducible refine g_pick ?_); refine s_pickT hE rfl rfl rfl ?_; clear hE a; intro a hE)
    )
  refine s_call hE rfl rfl rfl (leftNil w) ?_
  rintro _ w ⟨rfl, rfl⟩; clear hE a; intro a hE
  repeat' (first
    | ((with_reducible refine g_move ?_); refine s_move hE rfl rfl ?_; clear hE a; intro a hE)
    | ((with_reducible refine g_bin .eql ?_); refine s_eql hE rfl rfl rfl ?_; clear hE a; intro a hE)
    | ((with_reducible refine g_guard ?_); refine gd_yes hE rfl rfl rfl ?_)
    | ((with_reducible refine g_pick ?_); refine s_pickT hE rfl rfl rfl ?_; clear hE a; intro a hE)
    )
  refine s_call hE rfl rfl rfl (rerrNil w) ?_
  rintro _ w ⟨rfl, rfl⟩; clear hE a; intro a hE
  repeat' (first
    | (with_reducible refine wpList_nil ?_)
    | (with_reducible refine then_normal ?_)
    | (with_reducible refine wp_ret ?_)
    | ((with_reducible refine g_assign ?_); refine s_assign hE rfl rfl ?_; clear hE a; intro a hE)
    | ((with_reducible refine g_bin .eql ?_); refine s_eql hE rfl rfl rfl ?_; clear hE a; intro a hE)
    | ((with_reducible refine g_guard ?_); refine gd_yes hE rfl rfl rfl ?_)
    | ((with_reducible refine g_pick ?_); refine s_pickT hE rfl rfl rfl ?_; clear hE a; intro a hE)
    )
  exact ret1 hE rfl rfl ⟨rfl, hS⟩
set_option maxHeartbeats 4000000 in
theorem law_OctetHolds (A : Option Addr) (c : Nat) (xs : List Nat) (B : Option Addr) (d : Nat) (ys : List Nat) (w0 : World) (hr : Rd w0 A (bys xs)) (hx : Bs xs) (hcp : xs.length ≤ c) (hz : xs.length ≤ 140737488351232) (hr2 : Rd w0 B (bys ys)) (hy : Bs ys) (hcp2 : ys.length ≤ d) (hz2 : ys.length ≤ 140737488351232) :
    Fn Try.prog 3 [.slice A xs.length c, .slice B ys.length d] w0 fun v w' => v = .bool true ∧ St w0 w' [] := by
  refine enter 42 Try.func3 rfl rfl rfl ?_
  intro a hE
  repeat' (first
    | (with_reducible refine wp_seq ?_)
    | (with_reducible refine c_region ?_)
    | (with_reducible refine wpList_nil ?_)
    | (with_reducible refine then_normal ?_)
    | ((with_reducible refine g_assign ?_); refine s_assign hE rfl rfl ?_; clear hE a; intro a hE)
    )
  refine s_call hE rfl rfl rfl (wakes w0) ?_
  rintro _ w ⟨rfl, hS⟩; clear hE a; intro a hE
  repeat' (first
    | (with_reducible refine wp_seq ?_)
    | (with_reducible refine c_region ?_)
    | (with_reducible refine wpList_nil ?_)
    | (with_reducible refine then_normal ?_)
    | (with_reducible refine wp_skip ?_)
    | (with_reducible refine wp_block ?_)
    | ((with_reducible refine g_move ?_); refine s_move hE rfl rfl ?_; clear hE a; intro a hE)
    | ((with_reducible refine g_assign ?_); refine s_assign hE rfl rfl ?_; clear hE a; intro a hE)
    | ((with_reducible refine g_un .not ?_); refine s_notb hE rfl rfl ?_; clear hE a; intro a hE)
    | ((with_reducible refine g_blt .len ?_); refine s_len hE rfl rfl ?_; clear hE a; intro a hE)
    | ((with_reducible refine g_cond ?_); refine c_false hE rfl ?_)
    )
  refine wp_loop_ghost (fun q a w => ∃ (k : Nat), k + q = xs.length ∧ St w0 w [] ∧ Env 42 [(0, .slice A xs.length c), (1, .slice B ys.length d), (5, .bool (zeroB (xs.take k))), (10, .slice A xs.length c), (11, .int .i64 (xs.length : Int)), (12, .int .i64 (k : Int))] a) xs.length ⟨0, by omega, hS, hE.sub ⟨rfl, rfl, rfl, rfl, rfl, rfl, trivial⟩⟩ ?_
  clear hE a hS
  rintro q a w ⟨k, hk, hS, hE⟩
  by_cases hk1 : k < xs.length
  · have hb := hx.get hk1
    have hzs := zeroB_take_succ hk1
    generalize zeroB (xs.take k) = z at *
    repeat' (first
      | (with_reducible refine wp_seq ?_)
      | (with_reducible refine c_region ?_)
      | (with_reducible refine wpList_nil ?_)
      | (with_reducible refine then_normal ?_)
      | (with_reducible refine wp_skip ?_)
      | (with_reducible refine wp_block ?_)
      | (with_reducible refine block_normal ?_)
      | ((with_reducible refine g_move ?_); refine s_move hE rfl rfl ?_; clear hE a; intro a hE)
      | ((with_reducible refine g_assign ?_); refine s_assign hE rfl rfl ?_; clear hE a; intro a hE)
      | ((with_reducible refine g_bin .lss ?_); refine s_lss hE rfl rfl rfl ?_; clear hE a; intro a hE)
      | ((with_reducible refine g_bin .eql ?_); refine s_eql hE rfl rfl rfl ?_; clear hE a; intro a hE)
      | ((with_reducible refine g_bin .add ?_); refine s_add hE rfl rfl rfl (by first | exact wrap64_in (by omega) ) ?_; clear hE a; intro a hE)
      | ((with_reducible refine g_guard ?_); refine gd_yes hE rfl rfl rfl ?_)
      | ((with_reducible refine g_guard ?_); refine gd_no hE rfl rfl rfl rfl ?_; clear hE a; intro a hE)
      | ((with_reducible refine g_guard ?_); refine gd_bool hE rfl rfl (fun hc hE2 => ?_) (fun hc hE2 => ?_) <;> (replace hE := hE2; clear hE2))
      | ((with_reducible refine g_pick ?_); refine s_pickT hE rfl rfl rfl ?_; clear hE a; intro a hE)
      | ((with_reducible refine g_pick ?_); refine s_pickF hE rfl rfl rfl ?_; clear hE a; intro a hE)
      | ((with_reducible refine g_cond ?_); refine c_dec hE rfl (fun hc => ?_) (fun hc => ?_) <;> try omega)
      | ((with_reducible refine g_ia ?_); refine s_idxR hE rfl rfl (by omega) (by omega) (by (first | exact Rd.st (by assumption) hS )) (by first | (simp only [bys_length]; omega)) rfl ?_; clear hE a; intro a hE)
      | ((with_reducible refine g_load ?_); refine s_loadR hE rfl (by (first | exact Rd.st (by assumption) hS )) (by first | exact bys_getM hk1) rfl ?_; clear hE a; intro a hE)
      )
    · subst hc
      refine ⟨q - 1, by omega, k + 1, by omega, hS, hE.sub ⟨rfl, rfl, ?_, rfl, rfl, rfl, trivial⟩⟩
      rw [hzs]
      have : (xs[k] == 0) = decide (((xs[k] : Nat) : Int) = 0) := by
        by_cases e : xs[k] = 0 <;> simp [e]
      rw [this]
      rfl
    · subst hc
      exact ⟨q - 1, by omega, k + 1, by omega, hS, hE.sub ⟨rfl, rfl, by rw [hzs]; rfl, rfl, rfl, rfl, trivial⟩⟩
  · obtain rfl : k = xs.length := by omega
    rw [List.take_length] at hE
    repeat' (first
      | (with_reducible refine wp_seq ?_)
      | (with_reducible refine c_region ?_)
      | (with_reducible refine wpList_nil ?_)
      | (with_reducible refine then_normal ?_)
      | (with_reducible refine wp_ret ?_)
      | (with_reducible refine wp_exit ?_)
      | (with_reducible refine then_exit ?_)
      | (with_reducible refine block_same ?_)
      | ((with_reducible refine g_move ?_); refine s_move hE rfl rfl ?_; clear hE a; intro a hE)
      | ((with_reducible refine g_assign ?_); refine s_assign hE rfl rfl ?_; clear hE a; intro a hE)
      | ((with_reducible refine g_bin .lss ?_); refine s_lss hE rfl rfl rfl ?_; clear hE a; intro a hE)
      | ((with_reducible refine g_bin .eql ?_); refine s_eqb hE rfl rfl rfl ?_; clear hE a; intro a hE)
      | ((with_reducible refine g_guard ?_); refine gd_yes hE rfl rfl rfl ?_)
      | ((with_reducible refine g_guard ?_); refine gd_no hE rfl rfl rfl rfl ?_; clear hE a; intro a hE)
      | ((with_reducible refine g_guard ?_); refine gd_dec hE rfl rfl (fun hc hE2 => ?_) (fun hc hE2 => ?_) <;> (try omega) <;> (replace hE := hE2; clear hE2))
      | ((with_reducible refine g_pick ?_); refine s_pickT hE rfl rfl rfl ?_; clear hE a; intro a hE)
      | ((with_reducible refine g_pick ?_); refine s_pickF hE rfl rfl rfl ?_; clear hE a; intro a hE)
      | ((with_reducible refine g_cond ?_); refine c_dec hE rfl (fun hc => ?_) (fun hc => ?_) <;> try omega)
      | ((with_reducible refine g_lit ?_); refine s_lit hE hS rfl rfl rfl rfl rfl (by simp [Value.oneCell']) rfl ?_; clear hE a hS; intro g a w hE hS)
      | ((with_reducible refine g_blt .append ?_); (first | (refine s_appendAt0 (k := 0) hE hS rfl rfl rfl (by (first | exact Rd.st (by assumption) hS )) (by (first | (rw [bys_length, Nat.mul_one]))) (by (first | exact bys_one _ )) (by omega) rfl rfl rfl rfl ?_) ); clear hE a hS; intro A c a w hE hS; simp only [List.set_cons_zero, List.set_cons_succ, Nat.add_zero] at hS)
      | ((with_reducible refine g_call (f := 10) ?_); refine s_call hE rfl rfl rfl (oequal _ _ _ _ _ _ _ (by first | exact Rd.st (by assumption) hS ) (by first | exact hS.rd | exact Rd.st (by assumption) hS ) (by first | omega ) (by first | omega )) ?_; rintro _ w ⟨rfl, hS1⟩; clear hE a; intro a hE; replace hS := hS.frame hS1; clear hS1; try simp only [List.cons_append, List.nil_append] at hS) | ((with_reducible refine g_call (f := 11) ?_); refine s_call hE rfl rfl rfl (rsame _ _ _ _ _ _ _ (by first | exact Rd.st (by assumption) hS ) (by first | exact Rd.st (by assumption) hS ) (by first | omega ) (by first | omega )) ?_; rintro _ w ⟨rfl, hS1⟩; clear hE a; intro a hE; replace hS := hS.frame hS1; clear hS1; try simp only [List.cons_append, List.nil_append] at hS) | ((with_reducible refine g_call (f := 12) ?_); refine s_call hE rfl rfl rfl (zero _ _ _ _ (by first | exact Rd.st (by assumption) hS ) (by assumption) (by first | omega )) ?_; rintro _ w ⟨rfl, hS1⟩; clear hE a; intro a hE; replace hS := hS.frame hS1; clear hS1; try simp only [List.cons_append, List.nil_append] at hS))
    all_goals first | exact absurd rfl hc | exact ret1 hE rfl rfl ⟨by simp, hS.nil⟩

set_option maxHeartbeats 1000000 in
theorem law_OctetPuts (A : Option Addr) (c : Nat) (xs : List Nat) (x : Int) (w0 : World) (hr : Rd w0 A (bys xs)) (hx : Bs xs) (hcp : xs.length ≤ c) (hz : xs.length ≤ 140737488351232) (hxx : (Lit.int .u64 x).wf = true) :
    Fn Try.prog 7 [.slice A xs.length c, .int .u64 x] w0 fun v w' => v = .bool true ∧ St w0 w' [] := by
  have hxx : 0 ≤ x ∧ x ≤ 18446744073709551615 := by simpa [Lit.wf, IntKind.min, IntKind.max, IntKind.signed, IntKind.bits] using hxx
  obtain ⟨m, rfl⟩ := Int.eq_ofNat_of_zero_le hxx.1
  have b2 : beb 2 (m % 65536) = beb 2 m := beb_mod 2 m
  have b4 : beb 4 (m % 4294967296) = beb 4 m := beb_mod 4 m
  refine enter 51 Try.func7 rfl rfl rfl ?_
  intro a hE
  repeat' (first
    | (with_reducible refine wp_seq ?_)
    | (with_reducible refine c_region ?_)
    | (with_reducible refine wpList_nil ?_)
    | (with_reducible refine then_normal ?_)
    | ((with_reducible refine g_assign ?_); refine s_assign hE rfl rfl ?_; clear hE a; intro a hE)
    )
  refine s_call hE rfl rfl rfl (wakes w0) ?_
  rintro _ w ⟨rfl, hS⟩; clear hE a; intro a hE
  repeat' (first
    | (with_reducible refine wp_seq ?_)
    | (with_reducible refine c_region ?_)
    | (with_reducible refine wpList_nil ?_)
    | (with_reducible refine then_normal ?_)
    | (with_reducible refine wp_skip ?_)
    | (with_reducible refine wp_ret ?_)
    | ((with_reducible refine g_move ?_); refine s_move hE rfl rfl ?_; clear hE a; intro a hE)
    | ((with_reducible refine g_assign ?_); refine s_assign hE rfl rfl ?_; clear hE a; intro a hE)
    | ((with_reducible refine g_un .not ?_); refine s_notb hE rfl rfl ?_; clear hE a; intro a hE)
    | ((with_reducible refine g_conv ?_); refine s_conv hE rfl rfl (by first | with_reducible exact wrap_u16_nat m | with_reducible exact wrap_u32_nat m ) ?_; clear hE a; intro a hE)
    | ((with_reducible refine g_guard ?_); refine gd_yes hE rfl rfl rfl ?_)
    | ((with_reducible refine g_guard ?_); refine gd_no hE rfl rfl rfl rfl ?_; clear hE a; intro a hE)
    | ((with_reducible refine g_guard ?_); refine gd_dec hE rfl rfl (fun hc hE2 => ?_) (fun hc hE2 => ?_) <;> (try omega) <;> (replace hE := hE2; clear hE2))
    | ((with_reducible refine g_pick ?_); refine s_pickT hE rfl rfl rfl ?_; clear hE a; intro a hE)
    | ((with_reducible refine g_pick ?_); refine s_pickF hE rfl rfl rfl ?_; clear hE a; intro a hE)
    | ((with_reducible refine g_cond ?_); refine c_false hE rfl ?_)
    | ((with_reducible refine g_call (f := 11) ?_); refine s_call hE rfl rfl rfl (rsame _ _ _ _ _ _ _ (by first | exact hS.rdAt (k := 4) rfl | exact hS.rdAt (k := 5) rfl | exact hS.rdAt (k := 6) rfl | exact Rd.st (by assumption) hS ) (by first | exact hS.rd | exact hS.rdAt (k := 9) rfl ) (by first | omega | (simp only [List.length_append, List.length_nil, List.length_cons, beb_length]; omega)) (by first | omega | (simp only [List.length_append, List.length_nil, List.length_cons, beb_length]; omega))) ?_; rintro _ w ⟨rfl, hS1⟩; clear hE a; intro a hE; replace hS := hS.frame hS1; clear hS1; try simp only [List.cons_append, List.nil_append] at hS) | ((with_reducible refine g_call (f := 14) ?_); refine s_call hE rfl rfl rfl (rboth0 _ _ _ _ (by first | exact Rd.st (by assumption) hS ) (by first | omega )) ?_; rintro _ w ⟨_, _, rfl, hS1⟩; clear hE a; intro a hE; replace hS := hS.frame hS1; clear hS1; try simp only [List.cons_append, List.nil_append] at hS) | ((with_reducible refine g_call (f := 14) ?_); refine s_call hE rfl rfl rfl (rboth1 _ _ _ _ _ _ _ (by first | exact hS.rdAt (k := 4) rfl | exact hS.rdAt (k := 6) rfl | exact hS.rdAt (k := 8) rfl ) (by first | exact hS.rd ) (by first | (simp only [List.length_append, List.length_nil, List.length_cons, beb_length]; omega))) ?_; rintro _ w ⟨_, _, rfl, hS1⟩; clear hE a; intro a hE; replace hS := hS.frame hS1; clear hS1; try simp only [List.cons_append, List.nil_append] at hS) | ((with_reducible refine g_call (f := 26) ?_); refine s_call hE rfl rfl rfl (rhigh _ _ (by first | omega ) (by first | (simp only [List.length_append, List.length_nil, List.length_cons, beb_length]; omega)) _) ?_; rintro _ w ⟨_, _, rfl, hS1⟩; clear hE a; intro a hE; replace hS := hS.frame hS1; clear hS1; try simp only [List.cons_append, List.nil_append] at hS) | ((with_reducible refine g_call (f := 25) ?_); refine s_call hE rfl rfl rfl (put16 _ _ _ _ (by first | omega ) _ (by first | exact Rd.st (by assumption) hS ) (by first | omega )) ?_; rintro _ w ⟨_, _, rfl, hS1⟩; clear hE a; intro a hE; replace hS := hS.frame hS1; clear hS1; try simp only [List.cons_append, List.nil_append] at hS) | ((with_reducible refine g_call (f := 24) ?_); refine s_call hE rfl rfl rfl (put32 _ _ _ _ (by first | omega ) _ (by first | exact Rd.st (by assumption) hS ) (by first | omega )) ?_; rintro _ w ⟨_, _, rfl, hS1⟩; clear hE a; intro a hE; replace hS := hS.frame hS1; clear hS1; try simp only [List.cons_append, List.nil_append] at hS) | ((with_reducible refine g_call (f := 23) ?_); refine s_call hE rfl rfl rfl (put64 _ _ _ _ (by first | omega ) _ (by first | exact Rd.st (by assumption) hS ) (by first | omega )) ?_; rintro _ w ⟨_, _, rfl, hS1⟩; clear hE a; intro a hE; replace hS := hS.frame hS1; clear hS1; try simp only [List.cons_append, List.nil_append] at hS))
  all_goals first | exact absurd rfl hc | exact absurd (by rw [b2]) hc | exact absurd (by rw [b4]) hc | exact ret1 hE rfl rfl ⟨by simp, hS.nil⟩

theorem bless_map : ∀ (l l' : List Nat), (∀ c ∈ l, c < 256) → (∀ c ∈ l', c < 256) → l.length = l'.length → Op.bytesLess (l.map UInt8.ofNat) (l'.map UInt8.ofNat) = decide (bnum 0 l < bnum 0 l')
  | [], [], _, _, _ => by simp [Op.bytesLess]
  | a :: l, b :: l', h, h', e => by
    have ha : a < 256 := h a (by simp)
    have hb : b < 256 := h' b (by simp)
    have hl := bnum_lt l (fun x hx => h x (by simp [hx]))
    have hl' := bnum_lt l' (fun x hx => h' x (by simp [hx]))
    have e' : l.length = l'.length := by simpa using e
    have ih := bless_map l l' (fun x hx => h x (by simp [hx])) (fun x hx => h' x (by simp [hx])) e'
    simp only [List.map_cons, Op.bytesLess, ih, bnum, Nat.zero_mul, Nat.zero_add]
    rw [bnum_eq l a, bnum_eq l' b, ← e']
    rw [← e'] at hl'
    have e1 : (UInt8.ofNat a < UInt8.ofNat b) ↔ a < b := by
      rw [UInt8.lt_iff_toNat_lt]
      simp [Nat.mod_eq_of_lt ha, Nat.mod_eq_of_lt hb]
    have e2 : (UInt8.ofNat a == UInt8.ofNat b) = decide (a = b) := by
      by_cases hab : a = b
      · subst hab; simp
      · have : UInt8.ofNat a ≠ UInt8.ofNat b := by
          intro hq
          have := congrArg UInt8.toNat hq
          simp [Nat.mod_eq_of_lt ha, Nat.mod_eq_of_lt hb] at this
          exact hab this
        simp [this, hab]
    rw [e2]
    generalize 256 ^ l.length = z at *
    by_cases hlt : a < b
    · have h3 : (a + 1) * z ≤ b * z := Nat.mul_le_mul_right _ hlt
      rw [Nat.add_mul, Nat.one_mul] at h3
      have : a * z + bnum 0 l < b * z + bnum 0 l' := by omega
      simp [e1, hlt, this]
    · by_cases heq : a = b
      · subst heq
        simp [e1]
      · have h3 : (b + 1) * z ≤ a * z := Nat.mul_le_mul_right _ (by omega)
        rw [Nat.add_mul, Nat.one_mul] at h3
        have : ¬ a * z + bnum 0 l < b * z + bnum 0 l' := by omega
        simp [e1, hlt, heq, this]
  | [], _ :: _, _, _, e => by simp at e
  | _ :: _, [], _, _, e => by simp at e
theorem str_toList (l : List Nat) : (str l).toList = l.map UInt8.ofNat := by
  rw [ByteArray.toList_eq]
  simp [str]

theorem dec_cast (a b : Nat) : decide ((a : Int) < (b : Int)) = decide (a < b) := by simp
theorem bless_beb (n x y : Nat) (hx : x < 2 ^ (8 * n)) (hy : y < 2 ^ (8 * n)) : Op.bytesLess (str (beb n x)).toList (str (beb n y)).toList = decide (x < y) := by
  rw [str_toList, str_toList, bless_map _ _ (beb_bs n x) (beb_bs n y) (by rw [beb_length, beb_length]), bnum_beb, bnum_beb, Nat.mod_eq_of_lt hx, Nat.mod_eq_of_lt hy]
theorem law_OctetRises (x y : Int) (w0 : World) (hx : (Lit.int .u64 x).wf = true) (hy : (Lit.int .u64 y).wf = true) :
    Fn Try.prog 6 [.int .u64 x, .int .u64 y] w0 fun v w' => v = .bool true ∧ St w0 w' [] := by
  have hx : 0 ≤ x ∧ x ≤ 18446744073709551615 := by simpa [Lit.wf, IntKind.min, IntKind.max, IntKind.signed, IntKind.bits] using hx
  have hy : 0 ≤ y ∧ y ≤ 18446744073709551615 := by simpa [Lit.wf, IntKind.min, IntKind.max, IntKind.signed, IntKind.bits] using hy
  obtain ⟨m, rfl⟩ := Int.eq_ofNat_of_zero_le hx.1
  obtain ⟨k, rfl⟩ := Int.eq_ofNat_of_zero_le hy.1
  have b8 := bless_beb 8 m k (by omega) (by omega)
  have b4 := bless_beb 4 (m % 4294967296) (k % 4294967296) (by omega) (by omega)
  refine enter 35 Try.func6 rfl rfl rfl ?_
  intro a hE
  repeat' (first
    | (with_reducible refine wp_seq ?_)
    | (with_reducible refine c_region ?_)
    | (with_reducible refine wpList_nil ?_)
    | (with_reducible refine then_normal ?_)
    | ((with_reducible refine g_assign ?_); refine s_assign hE rfl rfl ?_; clear hE a; intro a hE)
    )
  refine s_call hE rfl rfl rfl (wakes w0) ?_
  rintro _ w ⟨rfl, hS⟩; clear hE a; intro a hE
  repeat' (first
    | (with_reducible refine wp_seq ?_)
    | (with_reducible refine wpList_nil ?_)
    | (with_reducible refine then_normal ?_)
    | (with_reducible refine wp_skip ?_)
    | ((with_reducible refine g_un .not ?_); refine s_notb hE rfl rfl ?_; clear hE a; intro a hE)
    | ((with_reducible refine g_cond ?_); refine c_false hE rfl ?_)
    )
  refine c_ordS hS 29 (.rd 0 (.rd 3 (.rd 7 (.rd 8 (.rd 9 (.ef 1 (.rd 2 (.ef 4 (.rd 5 (.rd 6 (.rd 10 (.rd 11 (.rd 12 (.rd 13 (.rd 16 (.rd 17 (.rd 21 (.rd 22 (.rd 23 (.rd 24 (.rd 25 (.ef 14 (.rd 15 (.ef 18 (.rd 19 (.rd 20 (.rd 26 (.rd 27 (.rd 28 .done))))))))))))))))))))))))))))) mixed (by decide +kernel) ?_; clear hS; intro w hS
  repeat' (first
    | (with_reducible refine o_rd rfl ?_)
    | ((with_reducible refine q_move ?_); refine d_val hE hS rfl (fun w hS => r_move hE rfl) ?_; clear hE a; intro a hE)
    | ((with_reducible refine q_bin .lss ?_); refine d_val hE hS rfl (fun w hS => r_lss hE rfl rfl) ?_; clear hE a; intro a hE)
    | ((with_reducible refine o_ef rfl ?_))
    )
  refine s_call hE rfl rfl rfl (put64 none 0 [] m (by omega) _ Rd.nil (by decide)) ?_
  rintro _ w ⟨_, _, rfl, hS1⟩; clear hE a; intro a hE
  replace hS := hS.frame hS1; clear hS1; simp only [List.cons_append, List.nil_append] at hS hE
  refine wpList_nil (o_grow hS ?_)
  refine o_rd rfl ?_
  refine d_val hE hS rfl (fun w hS => r_str hE rfl hS.rd rfl) ?_
  clear hE a; intro a hE
  repeat' (first
    | ((with_reducible refine o_ef rfl ?_))
    )
  refine s_call hE rfl rfl rfl (put64 none 0 [] k (by omega) _ Rd.nil (by decide)) ?_
  rintro _ w ⟨_, _, rfl, hS1⟩; clear hE a; intro a hE
  replace hS := hS.frame hS1; clear hS1; simp only [List.cons_append, List.nil_append] at hS hE
  refine wpList_nil (o_grow hS ?_)
  refine o_rd rfl ?_
  refine d_val hE hS rfl (fun w hS => r_str hE rfl hS.rd rfl) ?_
  clear hE a; intro a hE
  refine o_rd rfl ?_
  refine d_val hE hS rfl (fun w hS => r_slt hE rfl rfl) ?_
  clear hE a; intro a hE
  rw [b8] at hE
  repeat' (first
    | (with_reducible refine o_rd rfl ?_)
    | ((with_reducible refine q_move ?_); refine d_val hE hS rfl (fun w hS => r_move hE rfl) ?_; clear hE a; intro a hE)
    | ((with_reducible refine q_bin .lss ?_); refine d_val hE hS rfl (fun w hS => r_lss hE rfl rfl) ?_; clear hE a; intro a hE)
    | ((with_reducible refine q_bin .eql ?_); refine d_val hE hS rfl (fun w hS => r_eqb hE rfl rfl) ?_; clear hE a; intro a hE)
    | ((with_reducible refine q_conv ?_); refine d_val hE hS rfl (fun w hS => r_conv hE rfl (by first | with_reducible exact wrap_u32_nat _)) ?_; clear hE a; intro a hE)
    | ((with_reducible refine q_guard ?_); refine d_yes hE rfl rfl rfl ?_)
    | ((with_reducible refine q_guard ?_); refine d_no hE hS rfl rfl rfl rfl ?_; clear hE a; intro a hE)
    | ((with_reducible refine q_guard ?_); refine d_dec hE rfl rfl (fun hc hE2 => ?_) (fun hc hE2 => ?_) <;> (try omega) <;> (replace hE := hE2; clear hE2))
    | ((with_reducible refine o_ef rfl ?_))
    )
  · clear hc
    refine gd_yes hE rfl rfl rfl ?_
    refine s_call hE rfl rfl rfl (put32 none 0 [] (m % 4294967296) (by omega) _ Rd.nil (by decide)) ?_
    rintro _ w ⟨_, _, rfl, hS1⟩; clear hE a; intro a hE
    replace hS := hS.frame hS1; clear hS1; simp only [List.cons_append, List.nil_append] at hS hE
    refine wpList_nil (o_grow hS ?_)
    refine o_rd rfl ?_
    refine d_yes hE rfl rfl rfl ?_
    refine d_val hE hS rfl (fun w hS => r_str hE rfl hS.rd rfl) ?_
    clear hE a; intro a hE
    repeat' (first
      | ((with_reducible refine o_ef rfl ?_))
      )
    refine gd_yes hE rfl rfl rfl ?_
    refine s_call hE rfl rfl rfl (put32 none 0 [] (k % 4294967296) (by omega) _ Rd.nil (by decide)) ?_
    rintro _ w ⟨_, _, rfl, hS1⟩; clear hE a; intro a hE
    replace hS := hS.frame hS1; clear hS1; simp only [List.cons_append, List.nil_append] at hS hE
    refine wpList_nil (o_grow hS ?_)
    refine o_rd rfl ?_
    refine d_yes hE rfl rfl rfl ?_
    refine d_val hE hS rfl (fun w hS => r_str hE rfl hS.rd rfl) ?_
    clear hE a; intro a hE
    refine o_rd rfl ?_
    refine d_yes hE rfl rfl rfl ?_
    refine d_val hE hS rfl (fun w hS => r_slt hE rfl rfl) ?_
    clear hE a; intro a hE
    rw [b4] at hE
    repeat' (first
      | (with_reducible refine o_rd rfl ?_)
      | (with_reducible refine o_done ?_)
      | ((with_reducible refine q_assign ?_); refine d_val hE hS rfl (fun w hS => r_assign hE rfl) ?_; clear hE a; intro a hE)
      | ((with_reducible refine q_bin .eql ?_); refine d_val hE hS rfl (fun w hS => r_eqb hE rfl rfl) ?_; clear hE a; intro a hE)
      | ((with_reducible refine q_guard ?_); refine d_yes hE rfl rfl rfl ?_)
      | ((with_reducible refine q_pick ?_); refine d_val hE hS rfl (fun w hS => r_pickT hE rfl rfl) ?_; clear hE a; intro a hE)
      )
    · repeat' (first
        | (with_reducible refine then_normal ?_)
        | (with_reducible refine wp_ret ?_)
        )
      have hq : decide (((m % 4294967296 : Nat) : Int) < ((k % 4294967296 : Nat) : Int)) = decide (m % 4294967296 < k % 4294967296) := dec_cast _ _
      exact ret1 hE rfl rfl ⟨by rw [hq]; simp, hS.nil⟩
  · exact absurd (by simp) hc
end Go.Proofs.Ytjkeelceijjpoab
