/-
  Contracts: the reference's reader.
-/
import Derived.Test.YtjkeelceijjpoabOD
namespace Go.Proofs.Ytjkeelceijjpoab
open Go.RowKit
set_option linter.unusedVariables false
set_option linter.unusedSimpArgs false
attribute [local irreducible] Rd hRow hBlk hRd hAll Fn

theorem mul256 {x c : Nat} (h : x * 256 < 18446744073709551616) : IntKind.u64.wrap ((x : Int) * 256) = ((x * 256 : Nat) : Int) := by
  rw [wrap_u64_in (by omega)]; omega
theorem add256 {x c : Nat} (hc : c < 256) (h : x * 256 < 18446744073709551616) : IntKind.u64.wrap (((x * 256 : Nat) : Int) + (c : Int)) = ((x * 256 + c : Nat) : Int) := by
  rw [wrap_u64_in (by omega)]; omega
theorem rnumber (A : Option Addr) (c : Nat) (ys : List Nat) (w0 : World) (hr : Rd w0 A (bys ys)) (hb : Bs ys) (hl : ys.length ≤ 8) :
    Fn Try.prog 29 [.slice A ys.length c] w0 fun v w' => v = .int .u64 ((bnum 0 ys : Nat) : Int) ∧ St w0 w' [] := by
  refine enter 20 Try.func29 rfl rfl rfl ?_
  intro a hE
  have hS := St.start w0
  repeat' (first
    | (with_reducible refine wp_seq ?_)
    | (with_reducible refine c_region ?_)
    | (with_reducible refine wpList_nil ?_)
    | (with_reducible refine then_normal ?_)
    | (with_reducible refine wp_block ?_)
    | ((with_reducible refine g_assign ?_); refine s_assign hE rfl rfl ?_; clear hE a; intro a hE)
    )
  refine wp_loop_ghost (fun q a w => ∃ (k : Nat), k + q = ys.length ∧ St w0 w [] ∧ Env 20 [(0, .slice A ys.length c), (3, .int .u64 ((bnum 0 (ys.take k) : Nat) : Int)), (4, .int .i64 (k : Int))] a) ys.length ⟨0, by omega, hS, hE.sub ⟨rfl, rfl, rfl, trivial⟩⟩ ?_
  clear hE a hS
  rintro q a w ⟨k, hk, hS, hE⟩
  by_cases hk1 : k < ys.length
  · have hst := bnum_step hb hk1 (by omega)
    have hbk : ys[k] < 256 := hb _ (List.getElem_mem hk1)
    repeat' (first
      | (with_reducible refine wp_seq ?_)
      | (with_reducible refine c_region ?_)
      | (with_reducible refine wpList_nil ?_)
      | (with_reducible refine then_normal ?_)
      | (with_reducible refine wp_skip ?_)
      | (with_reducible refine wp_block ?_)
      | (with_reducible refine block_normal ?_)
      | ((with_reducible refine g_move ?_); refine s_move hE rfl rfl ?_; clear hE a; intro a hE)
      | ((with_reducible refine g_assign ?_); refine s_assign hE rfl rfl ?_; clear hE a; intro a hE)
      | ((with_reducible refine g_bin .lss ?_); refine s_lss hE rfl rfl rfl ?_; clear hE a; intro a hE)
      | ((with_reducible refine g_bin .add ?_); refine s_add hE rfl rfl rfl (by first | with_reducible exact add256 hbk hst | exact wrap64_in (by omega) ) ?_; clear hE a; intro a hE)
      | ((with_reducible refine g_bin .mul ?_); refine s_mul hE rfl rfl rfl (by first | with_reducible exact mul256 (c := 0) hst ) ?_; clear hE a; intro a hE)
      | ((with_reducible refine g_conv ?_); refine s_conv hE rfl rfl (by first | exact wrap_u64_in (by omega) ) ?_; clear hE a; intro a hE)
      | ((with_reducible refine g_blt .len ?_); refine s_len hE rfl rfl ?_; clear hE a; intro a hE)
      | ((with_reducible refine g_cond ?_); refine c_dec hE rfl (fun hc => ?_) (fun hc => ?_) <;> try omega)
      | ((with_reducible refine g_ia ?_); refine s_idxR hE rfl rfl (by omega) (by omega) (by (first | exact Rd.st (by assumption) hS )) (by first | (simp only [bys_length]; omega)) rfl ?_; clear hE a; intro a hE)
      | ((with_reducible refine g_load ?_); refine s_loadR hE rfl (by (first | exact Rd.st (by assumption) hS )) (by first | exact bys_getM hk1) rfl ?_; clear hE a; intro a hE)
      )
    refine ⟨q - 1, by omega, k + 1, by omega, hS, hE.sub ⟨rfl, ?_, rfl, trivial⟩⟩
    rw [bnum_take hk1]
    rfl
  · obtain rfl : k = ys.length := by omega
    rw [List.take_length] at hE
    repeat' (first
      | (with_reducible refine wp_seq ?_)
      | (with_reducible refine c_region ?_)
      | (with_reducible refine wpList_nil ?_)
      | (with_reducible refine then_normal ?_)
      | (with_reducible refine wp_ret ?_)
      | (with_reducible refine wp_exit ?_)
      | (with_reducible refine then_exit ?_)
      | (with_reducible refine block_same ?_)
      | ((with_reducible refine g_move ?_); refine s_move hE rfl rfl ?_; clear hE a; intro a hE)
      | ((with_reducible refine g_assign ?_); refine s_assign hE rfl rfl ?_; clear hE a; intro a hE)
      | ((with_reducible refine g_bin .lss ?_); refine s_lss hE rfl rfl rfl ?_; clear hE a; intro a hE)
      | ((with_reducible refine g_blt .len ?_); refine s_len hE rfl rfl ?_; clear hE a; intro a hE)
      | ((with_reducible refine g_cond ?_); refine c_dec hE rfl (fun hc => ?_) (fun hc => ?_) <;> try omega)
      )
    exact ret1 hE rfl rfl ⟨rfl, hS⟩

theorem takeM_err {xs : List Nat} {p : Nat} {e n : Int} (h : e ≠ 0) : takeM xs p e n = ([], p, e) := by unfold takeM; rw [if_pos h]
theorem takeM_neg {xs : List Nat} {p : Nat} {e n : Int} (h : ¬ e ≠ 0) (h0 : n < 0) : takeM xs p e n = ([], p, 2) := by unfold takeM; rw [if_neg h, if_pos h0]
theorem takeM_short {xs : List Nat} {p : Nat} {e n : Int} (h : ¬ e ≠ 0) (h0 : ¬ n < 0) (h1 : n > (xs.length : Int) - (p : Int)) : takeM xs p e n = ([], p, 7) := by unfold takeM; rw [if_neg h, if_neg h0, if_pos h1]
theorem takeM_ok {xs : List Nat} {p : Nat} {e n : Int} (h : ¬ e ≠ 0) (h0 : ¬ n < 0) (h1 : ¬ n > (xs.length : Int) - (p : Int)) : takeM xs p e n = ((xs.drop p).take n.toNat, p + n.toNat, e) := by
  unfold takeM; rw [if_neg h, if_neg h0, if_neg h1]
  have : e = 0 := by omega
  rw [this]
/-- what a reader is told, by kind -/
def toldN (kind : Int) (r : List Nat) : Nat := if kind < 4 then bnum 0 r else 0
def toldB (kind : Int) (r : List Nat) : List Nat := if kind < 4 then [] else r
set_option maxHeartbeats 4000000 in
theorem rdo (kind N n : Int) (hk : (kind = 0 ∧ n = 1) ∨ (kind = 1 ∧ n = 2) ∨ (kind = 2 ∧ n = 4) ∨ (kind = 3 ∧ n = 8) ∨ (kind = 4 ∧ n = N)) (B : Option Addr) (c : Nat) (xs : List Nat) (p : Nat) (e : Int) (w0 : World) (hr : Rd w0 B (bys xs)) (hx : Bs xs) (hp : p ≤ xs.length) (hcap : xs.length ≤ c) (hl : xs.length ≤ 140737488355328) (hn : -9223372036854775808 ≤ n ∧ n ≤ 9223372036854775807) :
    Fn Try.prog 15 [.agg #[.slice B xs.length c, .int .i64 (p : Int), .int .i64 e], .agg #[.int .i64 kind, .int .i64 N]] w0 fun v w' => ∃ B' c', v = .tuple #[.agg #[.slice B xs.length c, .int .i64 ((takeM xs p e n).2.1 : Int), .int .i64 (takeM xs p e n).2.2], .agg #[.int .u64 ((toldN kind (takeM xs p e n).1 : Nat) : Int), .slice B' (toldB kind (takeM xs p e n).1).length c']] ∧ (∀ w1, Rd w1 B (bys xs) → Rd w1 B' (bys (toldB kind (takeM xs p e n).1))) ∧ (toldB kind (takeM xs p e n).1).length ≤ c' ∧ St w0 w' [] := by
  refine enter 67 Try.func15 rfl rfl rfl ?_
  intro a hE
  have hS := St.start w0
  rcases hk with ⟨rfl, rfl⟩ | ⟨rfl, rfl⟩ | ⟨rfl, rfl⟩ | ⟨rfl, rfl⟩ | ⟨rfl, rfl⟩
  · repeat' (first
      | (with_reducible refine wp_seq ?_)
      | (with_reducible refine c_region ?_)
      | (with_reducible refine wpList_nil ?_)
      | (with_reducible refine then_normal ?_)
      | (with_reducible refine wp_skip ?_)
      | (with_reducible refine wp_ret ?_)
      | (with_reducible refine then_ret ?_)
      | ((with_reducible refine g_move ?_); refine s_move hE rfl rfl ?_; clear hE a; intro a hE)
      | ((with_reducible refine g_assign ?_); refine s_assign hE rfl rfl ?_; clear hE a; intro a hE)
      | ((with_reducible refine g_bin .lss ?_); refine s_lss hE rfl rfl rfl ?_; clear hE a; intro a hE)
      | ((with_reducible refine g_bin .gtr ?_); refine s_gtr hE rfl rfl rfl ?_; clear hE a; intro a hE)
      | ((with_reducible refine g_bin .eql ?_); refine s_eql hE rfl rfl rfl ?_; clear hE a; intro a hE)
      | ((with_reducible refine g_bin .neq ?_); refine s_neq hE rfl rfl rfl ?_; clear hE a; intro a hE)
      | ((with_reducible refine g_bin .add ?_); refine s_add hE rfl rfl rfl (by first  | exact wrap64_in (by omega) ) ?_; clear hE a; intro a hE)
      | ((with_reducible refine g_bin .sub ?_); refine s_sub hE rfl rfl rfl (by first  | exact subN (by omega) (by omega) ) ?_; clear hE a; intro a hE)
      | ((with_reducible refine g_blt .len ?_); refine s_len hE rfl rfl ?_; clear hE a; intro a hE)
      | ((with_reducible refine g_fa ?_); refine s_fieldL hE rfl rfl rfl ?_; clear hE a; intro a hE)
      | ((with_reducible refine g_cond ?_); refine c_true hE rfl ?_)
      | ((with_reducible refine g_cond ?_); refine c_false hE rfl ?_)
      | ((with_reducible refine g_cond ?_); refine c_dec hE rfl (fun hc => ?_) (fun hc => ?_) <;> try omega)
      | ((with_reducible refine g_load ?_); (first | (refine s_loadB (k := 2) hS hE rfl rfl rfl rfl ?_) | (refine s_loadB (k := 3) hS hE rfl rfl rfl rfl ?_) ); clear hE a; intro a hE)
      | ((with_reducible refine g_store ?_); (first | (refine s_storeB (k := 3) hS hE rfl rfl rfl rfl rfl rfl ?_) ); clear hS; intro w hS; simp only [List.set_cons_zero, List.set_cons_succ, Nat.add_zero] at hS)
      | ((with_reducible refine g_alloc ?_); refine s_allocS hE hS rfl rfl ?_; clear hE a hS; intro g a w hE hS)
      | ((with_reducible refine g_box ?_); refine s_boxS hE hS rfl rfl ?_; clear hE a hS; intro g a w hE hS)
      | ((with_reducible refine g_build ?_); refine s_build [_, _] hE rfl rfl rfl ?_; clear hE a; intro a hE)
      | ((with_reducible refine g_load ?_); (first | (refine s_loadW (k := 3) hS hE rfl rfl rfl rfl ?_) ); clear hE a; intro a hE)
      | ((with_reducible refine g_store ?_); (first | (refine s_storeW (k := 0) hS hE rfl rfl rfl rfl rfl (by simp [Value.oneCell']) ?_) | (refine s_storeW (k := 1) hS hE rfl rfl rfl rfl rfl (by simp [Value.oneCell']) ?_) ); clear hS; intro w hS; simp only [List.set_cons_zero, List.set_cons_succ, Nat.add_zero] at hS)
      | ((with_reducible refine g_slice ?_); refine s_val hE rfl rfl rfl (r_cutLH hE rfl rfl rfl (by omega) (by omega)) ?_; clear hE a; intro a hE)
      )
    · rw [takeM_err hc]
      exact retG (vs := [_, _]) hE rfl ⟨⟨_, rfl, res_W (k := 1) hS rfl rfl⟩, ⟨_, rfl, res_W (k := 0) hS rfl rfl⟩, trivial⟩ ⟨none, 0, rfl, fun _ _ => Rd.nil, Nat.zero_le _, hS.nil⟩
    · rw [takeM_short (by assumption)]
      · exact retG (vs := [_, _]) hE rfl ⟨⟨_, rfl, res_W (k := 1) hS rfl rfl⟩, ⟨_, rfl, res_W (k := 0) hS rfl rfl⟩, trivial⟩ ⟨none, 0, rfl, fun _ _ => Rd.nil, Nat.zero_le _, hS.nil⟩
      · omega
      · omega
    · rw [takeM_ok (by assumption)]
      · refine c_ordK hS 3 rfl 5 (.rd 0 (.rd 1 (.ef 2 (.rd 3 (.ef 4 (.lt 5 .done)))))) mixed (by decide +kernel) ?_
        clear hS; intro w hF hS
        repeat' (first
          | (with_reducible refine o_rd rfl ?_)
          | ((with_reducible refine q_move ?_); refine d_val hE hS rfl (fun w hS => r_move hE rfl) ?_; clear hE a; intro a hE)
          | ((with_reducible refine q_load ?_); (first | (refine d_val hE hS rfl (fun w hS => r_loadW (k := 0) hS hE rfl rfl rfl) ?_) ); clear hE a; intro a hE)
          | ((with_reducible refine o_ef rfl ?_))
          )
        have e2 : ((p : Int) + 1).toNat - (p : Int).toNat = ((xs.drop p).take (1 : Int).toNat).length := by rw [List.length_take, List.length_drop]; omega
        rw [e2] at hE
        have hr2 := ((hr.st hF).cutB hcap (l := p) (1 : Int).toNat)
        have hl8 : ((xs.drop p).take (1 : Int).toNat).length ≤ 8 := by rw [List.length_take]; omega
        refine s_call hE rfl rfl rfl (rnumber _ _ _ w hr2 ((hx.drop _).take _) hl8) ?_
        rintro _ w ⟨rfl, hS1⟩; clear hE a; intro a hE
        replace hF := hF.frame hS1
        clear hS1 hS
        refine wpList_nil ?_
        refine o_back _ (fun _ h => h) (hF.only 3 rfl) ?_
        have hS := hF.only 3 rfl
        repeat' (first
          | (with_reducible refine o_rd rfl ?_)
          | ((with_reducible refine q_build ?_); refine d_val hE hS rfl (fun w hS => r_build [_, _] hE rfl rfl) ?_; clear hE a; intro a hE)
          | ((with_reducible refine o_ef rfl ?_))
          )
        refine s_storeW (k := 1) hF hE rfl rfl rfl rfl rfl (by simp [Value.oneCell']) ?_
        clear hF hS; intro w hF; simp only [List.set_cons_zero, List.set_cons_succ, List.nil_append] at hF
        refine wpList_nil ?_
        refine o_back _ (fun _ h => h) (hF.only 3 rfl) ?_
        have hS := hF
        clear hF
        repeat' (first
          | ((with_reducible refine o_lt rfl ?_))
          )
        repeat' (first
          | (with_reducible refine wpList_nil ?_)
          | ((with_reducible refine g_store ?_); (first | (refine s_storeW (k := 0) hS hE rfl rfl rfl rfl rfl (by simp [Value.oneCell']) ?_) ); clear hS; intro w hS; simp only [List.set_cons_zero, List.set_cons_succ, Nat.add_zero] at hS)
          )
        refine o_backL (o_done ?_)
        repeat' (first
          | (with_reducible refine then_normal ?_)
          | (with_reducible refine wp_ret ?_)
          | (with_reducible refine then_ret ?_)
          )
        exact retG (vs := [_, _]) hE rfl ⟨⟨_, rfl, res_W (k := 1) hS rfl rfl⟩, ⟨_, rfl, res_W (k := 0) hS rfl rfl⟩, trivial⟩ ⟨none, 0, rfl, fun _ _ => Rd.nil, Nat.zero_le _, hS.nil⟩
      · omega
      · omega
  · repeat' (first
      | (with_reducible refine wp_seq ?_)
      | (with_reducible refine c_region ?_)
      | (with_reducible refine wpList_nil ?_)
      | (with_reducible refine then_normal ?_)
      | (with_reducible refine wp_skip ?_)
      | (with_reducible refine wp_ret ?_)
      | (with_reducible refine then_ret ?_)
      | ((with_reducible refine g_move ?_); refine s_move hE rfl rfl ?_; clear hE a; intro a hE)
      | ((with_reducible refine g_assign ?_); refine s_assign hE rfl rfl ?_; clear hE a; intro a hE)
      | ((with_reducible refine g_bin .lss ?_); refine s_lss hE rfl rfl rfl ?_; clear hE a; intro a hE)
      | ((with_reducible refine g_bin .gtr ?_); refine s_gtr hE rfl rfl rfl ?_; clear hE a; intro a hE)
      | ((with_reducible refine g_bin .eql ?_); refine s_eql hE rfl rfl rfl ?_; clear hE a; intro a hE)
      | ((with_reducible refine g_bin .neq ?_); refine s_neq hE rfl rfl rfl ?_; clear hE a; intro a hE)
      | ((with_reducible refine g_bin .add ?_); refine s_add hE rfl rfl rfl (by first  | exact wrap64_in (by omega) ) ?_; clear hE a; intro a hE)
      | ((with_reducible refine g_bin .sub ?_); refine s_sub hE rfl rfl rfl (by first  | exact subN (by omega) (by omega) ) ?_; clear hE a; intro a hE)
      | ((with_reducible refine g_blt .len ?_); refine s_len hE rfl rfl ?_; clear hE a; intro a hE)
      | ((with_reducible refine g_fa ?_); refine s_fieldL hE rfl rfl rfl ?_; clear hE a; intro a hE)
      | ((with_reducible refine g_cond ?_); refine c_true hE rfl ?_)
      | ((with_reducible refine g_cond ?_); refine c_false hE rfl ?_)
      | ((with_reducible refine g_cond ?_); refine c_dec hE rfl (fun hc => ?_) (fun hc => ?_) <;> try omega)
      | ((with_reducible refine g_load ?_); (first | (refine s_loadB (k := 2) hS hE rfl rfl rfl rfl ?_) | (refine s_loadB (k := 3) hS hE rfl rfl rfl rfl ?_) ); clear hE a; intro a hE)
      | ((with_reducible refine g_store ?_); (first | (refine s_storeB (k := 3) hS hE rfl rfl rfl rfl rfl rfl ?_) ); clear hS; intro w hS; simp only [List.set_cons_zero, List.set_cons_succ, Nat.add_zero] at hS)
      | ((with_reducible refine g_alloc ?_); refine s_allocS hE hS rfl rfl ?_; clear hE a hS; intro g a w hE hS)
      | ((with_reducible refine g_box ?_); refine s_boxS hE hS rfl rfl ?_; clear hE a hS; intro g a w hE hS)
      | ((with_reducible refine g_build ?_); refine s_build [_, _] hE rfl rfl rfl ?_; clear hE a; intro a hE)
      | ((with_reducible refine g_load ?_); (first | (refine s_loadW (k := 3) hS hE rfl rfl rfl rfl ?_) ); clear hE a; intro a hE)
      | ((with_reducible refine g_store ?_); (first | (refine s_storeW (k := 0) hS hE rfl rfl rfl rfl rfl (by simp [Value.oneCell']) ?_) | (refine s_storeW (k := 1) hS hE rfl rfl rfl rfl rfl (by simp [Value.oneCell']) ?_) ); clear hS; intro w hS; simp only [List.set_cons_zero, List.set_cons_succ, Nat.add_zero] at hS)
      | ((with_reducible refine g_slice ?_); refine s_val hE rfl rfl rfl (r_cutLH hE rfl rfl rfl (by omega) (by omega)) ?_; clear hE a; intro a hE)
      )
    · rw [takeM_err hc]
      exact retG (vs := [_, _]) hE rfl ⟨⟨_, rfl, res_W (k := 1) hS rfl rfl⟩, ⟨_, rfl, res_W (k := 0) hS rfl rfl⟩, trivial⟩ ⟨none, 0, rfl, fun _ _ => Rd.nil, Nat.zero_le _, hS.nil⟩
    · rw [takeM_short (by assumption)]
      · exact retG (vs := [_, _]) hE rfl ⟨⟨_, rfl, res_W (k := 1) hS rfl rfl⟩, ⟨_, rfl, res_W (k := 0) hS rfl rfl⟩, trivial⟩ ⟨none, 0, rfl, fun _ _ => Rd.nil, Nat.zero_le _, hS.nil⟩
      · omega
      · omega
    · rw [takeM_ok (by assumption)]
      · refine c_ordK hS 3 rfl 5 (.rd 0 (.rd 1 (.ef 2 (.rd 3 (.ef 4 (.lt 5 .done)))))) mixed (by decide +kernel) ?_
        clear hS; intro w hF hS
        repeat' (first
          | (with_reducible refine o_rd rfl ?_)
          | ((with_reducible refine q_move ?_); refine d_val hE hS rfl (fun w hS => r_move hE rfl) ?_; clear hE a; intro a hE)
          | ((with_reducible refine q_load ?_); (first | (refine d_val hE hS rfl (fun w hS => r_loadW (k := 0) hS hE rfl rfl rfl) ?_) ); clear hE a; intro a hE)
          | ((with_reducible refine o_ef rfl ?_))
          )
        have e2 : ((p : Int) + 2).toNat - (p : Int).toNat = ((xs.drop p).take (2 : Int).toNat).length := by rw [List.length_take, List.length_drop]; omega
        rw [e2] at hE
        have hr2 := ((hr.st hF).cutB hcap (l := p) (2 : Int).toNat)
        have hl8 : ((xs.drop p).take (2 : Int).toNat).length ≤ 8 := by rw [List.length_take]; omega
        refine s_call hE rfl rfl rfl (rnumber _ _ _ w hr2 ((hx.drop _).take _) hl8) ?_
        rintro _ w ⟨rfl, hS1⟩; clear hE a; intro a hE
        replace hF := hF.frame hS1
        clear hS1 hS
        refine wpList_nil ?_
        refine o_back _ (fun _ h => h) (hF.only 3 rfl) ?_
        have hS := hF.only 3 rfl
        repeat' (first
          | (with_reducible refine o_rd rfl ?_)
          | ((with_reducible refine q_build ?_); refine d_val hE hS rfl (fun w hS => r_build [_, _] hE rfl rfl) ?_; clear hE a; intro a hE)
          | ((with_reducible refine o_ef rfl ?_))
          )
        refine s_storeW (k := 1) hF hE rfl rfl rfl rfl rfl (by simp [Value.oneCell']) ?_
        clear hF hS; intro w hF; simp only [List.set_cons_zero, List.set_cons_succ, List.nil_append] at hF
        refine wpList_nil ?_
        refine o_back _ (fun _ h => h) (hF.only 3 rfl) ?_
        have hS := hF
        clear hF
        repeat' (first
          | ((with_reducible refine o_lt rfl ?_))
          )
        repeat' (first
          | (with_reducible refine wpList_nil ?_)
          | ((with_reducible refine g_store ?_); (first | (refine s_storeW (k := 0) hS hE rfl rfl rfl rfl rfl (by simp [Value.oneCell']) ?_) ); clear hS; intro w hS; simp only [List.set_cons_zero, List.set_cons_succ, Nat.add_zero] at hS)
          )
        refine o_backL (o_done ?_)
        repeat' (first
          | (with_reducible refine then_normal ?_)
          | (with_reducible refine wp_ret ?_)
          | (with_reducible refine then_ret ?_)
          )
        exact retG (vs := [_, _]) hE rfl ⟨⟨_, rfl, res_W (k := 1) hS rfl rfl⟩, ⟨_, rfl, res_W (k := 0) hS rfl rfl⟩, trivial⟩ ⟨none, 0, rfl, fun _ _ => Rd.nil, Nat.zero_le _, hS.nil⟩
      · omega
      · omega
  · repeat' (first
      | (with_reducible refine wp_seq ?_)
      | (with_reducible refine c_region ?_)
      | (with_reducible refine wpList_nil ?_)
      | (with_reducible refine then_normal ?_)
      | (with_reducible refine wp_skip ?_)
      | (with_reducible refine wp_ret ?_)
      | (with_reducible refine then_ret ?_)
      | ((with_reducible refine g_move ?_); refine s_move hE rfl rfl ?_; clear hE a; intro a hE)
      | ((with_reducible refine g_assign ?_); refine s_assign hE rfl rfl ?_; clear hE a; intro a hE)
      | ((with_reducible refine g_bin .lss ?_); refine s_lss hE rfl rfl rfl ?_; clear hE a; intro a hE)
      | ((with_reducible refine g_bin .gtr ?_); refine s_gtr hE rfl rfl rfl ?_; clear hE a; intro a hE)
      | ((with_reducible refine g_bin .eql ?_); refine s_eql hE rfl rfl rfl ?_; clear hE a; intro a hE)
      | ((with_reducible refine g_bin .neq ?_); refine s_neq hE rfl rfl rfl ?_; clear hE a; intro a hE)
      | ((with_reducible refine g_bin .add ?_); refine s_add hE rfl rfl rfl (by first  | exact wrap64_in (by omega) ) ?_; clear hE a; intro a hE)
      | ((with_reducible refine g_bin .sub ?_); refine s_sub hE rfl rfl rfl (by first  | exact subN (by omega) (by omega) ) ?_; clear hE a; intro a hE)
      | ((with_reducible refine g_blt .len ?_); refine s_len hE rfl rfl ?_; clear hE a; intro a hE)
      | ((with_reducible refine g_fa ?_); refine s_fieldL hE rfl rfl rfl ?_; clear hE a; intro a hE)
      | ((with_reducible refine g_cond ?_); refine c_true hE rfl ?_)
      | ((with_reducible refine g_cond ?_); refine c_false hE rfl ?_)
      | ((with_reducible refine g_cond ?_); refine c_dec hE rfl (fun hc => ?_) (fun hc => ?_) <;> try omega)
      | ((with_reducible refine g_load ?_); (first | (refine s_loadB (k := 2) hS hE rfl rfl rfl rfl ?_) | (refine s_loadB (k := 3) hS hE rfl rfl rfl rfl ?_) ); clear hE a; intro a hE)
      | ((with_reducible refine g_store ?_); (first | (refine s_storeB (k := 3) hS hE rfl rfl rfl rfl rfl rfl ?_) ); clear hS; intro w hS; simp only [List.set_cons_zero, List.set_cons_succ, Nat.add_zero] at hS)
      | ((with_reducible refine g_alloc ?_); refine s_allocS hE hS rfl rfl ?_; clear hE a hS; intro g a w hE hS)
      | ((with_reducible refine g_box ?_); refine s_boxS hE hS rfl rfl ?_; clear hE a hS; intro g a w hE hS)
      | ((with_reducible refine g_build ?_); refine s_build [_, _] hE rfl rfl rfl ?_; clear hE a; intro a hE)
      | ((with_reducible refine g_load ?_); (first | (refine s_loadW (k := 3) hS hE rfl rfl rfl rfl ?_) ); clear hE a; intro a hE)
      | ((with_reducible refine g_store ?_); (first | (refine s_storeW (k := 0) hS hE rfl rfl rfl rfl rfl (by simp [Value.oneCell']) ?_) | (refine s_storeW (k := 1) hS hE rfl rfl rfl rfl rfl (by simp [Value.oneCell']) ?_) ); clear hS; intro w hS; simp only [List.set_cons_zero, List.set_cons_succ, Nat.add_zero] at hS)
      | ((with_reducible refine g_slice ?_); refine s_val hE rfl rfl rfl (r_cutLH hE rfl rfl rfl (by omega) (by omega)) ?_; clear hE a; intro a hE)
      )
    · rw [takeM_err hc]
      exact retG (vs := [_, _]) hE rfl ⟨⟨_, rfl, res_W (k := 1) hS rfl rfl⟩, ⟨_, rfl, res_W (k := 0) hS rfl rfl⟩, trivial⟩ ⟨none, 0, rfl, fun _ _ => Rd.nil, Nat.zero_le _, hS.nil⟩
    · rw [takeM_short (by assumption)]
      · exact retG (vs := [_, _]) hE rfl ⟨⟨_, rfl, res_W (k := 1) hS rfl rfl⟩, ⟨_, rfl, res_W (k := 0) hS rfl rfl⟩, trivial⟩ ⟨none, 0, rfl, fun _ _ => Rd.nil, Nat.zero_le _, hS.nil⟩
      · omega
      · omega
    · rw [takeM_ok (by assumption)]
      · refine c_ordK hS 3 rfl 5 (.rd 0 (.rd 1 (.ef 2 (.rd 3 (.ef 4 (.lt 5 .done)))))) mixed (by decide +kernel) ?_
        clear hS; intro w hF hS
        repeat' (first
          | (with_reducible refine o_rd rfl ?_)
          | ((with_reducible refine q_move ?_); refine d_val hE hS rfl (fun w hS => r_move hE rfl) ?_; clear hE a; intro a hE)
          | ((with_reducible refine q_load ?_); (first | (refine d_val hE hS rfl (fun w hS => r_loadW (k := 0) hS hE rfl rfl rfl) ?_) ); clear hE a; intro a hE)
          | ((with_reducible refine o_ef rfl ?_))
          )
        have e2 : ((p : Int) + 4).toNat - (p : Int).toNat = ((xs.drop p).take (4 : Int).toNat).length := by rw [List.length_take, List.length_drop]; omega
        rw [e2] at hE
        have hr2 := ((hr.st hF).cutB hcap (l := p) (4 : Int).toNat)
        have hl8 : ((xs.drop p).take (4 : Int).toNat).length ≤ 8 := by rw [List.length_take]; omega
        refine s_call hE rfl rfl rfl (rnumber _ _ _ w hr2 ((hx.drop _).take _) hl8) ?_
        rintro _ w ⟨rfl, hS1⟩; clear hE a; intro a hE
        replace hF := hF.frame hS1
        clear hS1 hS
        refine wpList_nil ?_
        refine o_back _ (fun _ h => h) (hF.only 3 rfl) ?_
        have hS := hF.only 3 rfl
        repeat' (first
          | (with_reducible refine o_rd rfl ?_)
          | ((with_reducible refine q_build ?_); refine d_val hE hS rfl (fun w hS => r_build [_, _] hE rfl rfl) ?_; clear hE a; intro a hE)
          | ((with_reducible refine o_ef rfl ?_))
          )
        refine s_storeW (k := 1) hF hE rfl rfl rfl rfl rfl (by simp [Value.oneCell']) ?_
        clear hF hS; intro w hF; simp only [List.set_cons_zero, List.set_cons_succ, List.nil_append] at hF
        refine wpList_nil ?_
        refine o_back _ (fun _ h => h) (hF.only 3 rfl) ?_
        have hS := hF
        clear hF
        repeat' (first
          | ((with_reducible refine o_lt rfl ?_))
          )
        repeat' (first
          | (with_reducible refine wpList_nil ?_)
          | ((with_reducible refine g_store ?_); (first | (refine s_storeW (k := 0) hS hE rfl rfl rfl rfl rfl (by simp [Value.oneCell']) ?_) ); clear hS; intro w hS; simp only [List.set_cons_zero, List.set_cons_succ, Nat.add_zero] at hS)
          )
        refine o_backL (o_done ?_)
        repeat' (first
          | (with_reducible refine then_normal ?_)
          | (with_reducible refine wp_ret ?_)
          | (with_reducible refine then_ret ?_)
          )
        exact retG (vs := [_, _]) hE rfl ⟨⟨_, rfl, res_W (k := 1) hS rfl rfl⟩, ⟨_, rfl, res_W (k := 0) hS rfl rfl⟩, trivial⟩ ⟨none, 0, rfl, fun _ _ => Rd.nil, Nat.zero_le _, hS.nil⟩
      · omega
      · omega
  · repeat' (first
      | (with_reducible refine wp_seq ?_)
      | (with_reducible refine c_region ?_)
      | (with_reducible refine wpList_nil ?_)
      | (with_reducible refine then_normal ?_)
      | (with_reducible refine wp_skip ?_)
      | (with_reducible refine wp_ret ?_)
      | (with_reducible refine then_ret ?_)
      | ((with_reducible refine g_move ?_); refine s_move hE rfl rfl ?_; clear hE a; intro a hE)
      | ((with_reducible refine g_assign ?_); refine s_assign hE rfl rfl ?_; clear hE a; intro a hE)
      | ((with_reducible refine g_bin .lss ?_); refine s_lss hE rfl rfl rfl ?_; clear hE a; intro a hE)
      | ((with_reducible refine g_bin .gtr ?_); refine s_gtr hE rfl rfl rfl ?_; clear hE a; intro a hE)
      | ((with_reducible refine g_bin .eql ?_); refine s_eql hE rfl rfl rfl ?_; clear hE a; intro a hE)
      | ((with_reducible refine g_bin .neq ?_); refine s_neq hE rfl rfl rfl ?_; clear hE a; intro a hE)
      | ((with_reducible refine g_bin .add ?_); refine s_add hE rfl rfl rfl (by first  | exact wrap64_in (by omega) ) ?_; clear hE a; intro a hE)
      | ((with_reducible refine g_bin .sub ?_); refine s_sub hE rfl rfl rfl (by first  | exact subN (by omega) (by omega) ) ?_; clear hE a; intro a hE)
      | ((with_reducible refine g_blt .len ?_); refine s_len hE rfl rfl ?_; clear hE a; intro a hE)
      | ((with_reducible refine g_fa ?_); refine s_fieldL hE rfl rfl rfl ?_; clear hE a; intro a hE)
      | ((with_reducible refine g_cond ?_); refine c_true hE rfl ?_)
      | ((with_reducible refine g_cond ?_); refine c_false hE rfl ?_)
      | ((with_reducible refine g_cond ?_); refine c_dec hE rfl (fun hc => ?_) (fun hc => ?_) <;> try omega)
      | ((with_reducible refine g_load ?_); (first | (refine s_loadB (k := 2) hS hE rfl rfl rfl rfl ?_) | (refine s_loadB (k := 3) hS hE rfl rfl rfl rfl ?_) ); clear hE a; intro a hE)
      | ((with_reducible refine g_store ?_); (first | (refine s_storeB (k := 3) hS hE rfl rfl rfl rfl rfl rfl ?_) ); clear hS; intro w hS; simp only [List.set_cons_zero, List.set_cons_succ, Nat.add_zero] at hS)
      | ((with_reducible refine g_alloc ?_); refine s_allocS hE hS rfl rfl ?_; clear hE a hS; intro g a w hE hS)
      | ((with_reducible refine g_box ?_); refine s_boxS hE hS rfl rfl ?_; clear hE a hS; intro g a w hE hS)
      | ((with_reducible refine g_build ?_); refine s_build [_, _] hE rfl rfl rfl ?_; clear hE a; intro a hE)
      | ((with_reducible refine g_load ?_); (first | (refine s_loadW (k := 3) hS hE rfl rfl rfl rfl ?_) ); clear hE a; intro a hE)
      | ((with_reducible refine g_store ?_); (first | (refine s_storeW (k := 0) hS hE rfl rfl rfl rfl rfl (by simp [Value.oneCell']) ?_) | (refine s_storeW (k := 1) hS hE rfl rfl rfl rfl rfl (by simp [Value.oneCell']) ?_) ); clear hS; intro w hS; simp only [List.set_cons_zero, List.set_cons_succ, Nat.add_zero] at hS)
      | ((with_reducible refine g_slice ?_); refine s_val hE rfl rfl rfl (r_cutLH hE rfl rfl rfl (by omega) (by omega)) ?_; clear hE a; intro a hE)
      )
    · rw [takeM_err hc]
      exact retG (vs := [_, _]) hE rfl ⟨⟨_, rfl, res_W (k := 1) hS rfl rfl⟩, ⟨_, rfl, res_W (k := 0) hS rfl rfl⟩, trivial⟩ ⟨none, 0, rfl, fun _ _ => Rd.nil, Nat.zero_le _, hS.nil⟩
    · rw [takeM_short (by assumption)]
      · exact retG (vs := [_, _]) hE rfl ⟨⟨_, rfl, res_W (k := 1) hS rfl rfl⟩, ⟨_, rfl, res_W (k := 0) hS rfl rfl⟩, trivial⟩ ⟨none, 0, rfl, fun _ _ => Rd.nil, Nat.zero_le _, hS.nil⟩
      · omega
      · omega
    · rw [takeM_ok (by assumption)]
      · refine c_ordK hS 3 rfl 5 (.rd 0 (.rd 1 (.ef 2 (.rd 3 (.ef 4 (.lt 5 .done)))))) mixed (by decide +kernel) ?_
        clear hS; intro w hF hS
        repeat' (first
          | (with_reducible refine o_rd rfl ?_)
          | ((with_reducible refine q_move ?_); refine d_val hE hS rfl (fun w hS => r_move hE rfl) ?_; clear hE a; intro a hE)
          | ((with_reducible refine q_load ?_); (first | (refine d_val hE hS rfl (fun w hS => r_loadW (k := 0) hS hE rfl rfl rfl) ?_) ); clear hE a; intro a hE)
          | ((with_reducible refine o_ef rfl ?_))
          )
        have e2 : ((p : Int) + 8).toNat - (p : Int).toNat = ((xs.drop p).take (8 : Int).toNat).length := by rw [List.length_take, List.length_drop]; omega
        rw [e2] at hE
        have hr2 := ((hr.st hF).cutB hcap (l := p) (8 : Int).toNat)
        have hl8 : ((xs.drop p).take (8 : Int).toNat).length ≤ 8 := by rw [List.length_take]; omega
        refine s_call hE rfl rfl rfl (rnumber _ _ _ w hr2 ((hx.drop _).take _) hl8) ?_
        rintro _ w ⟨rfl, hS1⟩; clear hE a; intro a hE
        replace hF := hF.frame hS1
        clear hS1 hS
        refine wpList_nil ?_
        refine o_back _ (fun _ h => h) (hF.only 3 rfl) ?_
        have hS := hF.only 3 rfl
        repeat' (first
          | (with_reducible refine o_rd rfl ?_)
          | ((with_reducible refine q_build ?_); refine d_val hE hS rfl (fun w hS => r_build [_, _] hE rfl rfl) ?_; clear hE a; intro a hE)
          | ((with_reducible refine o_ef rfl ?_))
          )
        refine s_storeW (k := 1) hF hE rfl rfl rfl rfl rfl (by simp [Value.oneCell']) ?_
        clear hF hS; intro w hF; simp only [List.set_cons_zero, List.set_cons_succ, List.nil_append] at hF
        refine wpList_nil ?_
        refine o_back _ (fun _ h => h) (hF.only 3 rfl) ?_
        have hS := hF
        clear hF
        repeat' (first
          | ((with_reducible refine o_lt rfl ?_))
          )
        repeat' (first
          | (with_reducible refine wpList_nil ?_)
          | ((with_reducible refine g_store ?_); (first | (refine s_storeW (k := 0) hS hE rfl rfl rfl rfl rfl (by simp [Value.oneCell']) ?_) ); clear hS; intro w hS; simp only [List.set_cons_zero, List.set_cons_succ, Nat.add_zero] at hS)
          )
        refine o_backL (o_done ?_)
        repeat' (first
          | (with_reducible refine then_normal ?_)
          | (with_reducible refine wp_ret ?_)
          | (with_reducible refine then_ret ?_)
          )
        exact retG (vs := [_, _]) hE rfl ⟨⟨_, rfl, res_W (k := 1) hS rfl rfl⟩, ⟨_, rfl, res_W (k := 0) hS rfl rfl⟩, trivial⟩ ⟨none, 0, rfl, fun _ _ => Rd.nil, Nat.zero_le _, hS.nil⟩
      · omega
      · omega
  · repeat' (first
      | (with_reducible refine wp_seq ?_)
      | (with_reducible refine c_region ?_)
      | (with_reducible refine wpList_nil ?_)
      | (with_reducible refine then_normal ?_)
      | (with_reducible refine wp_skip ?_)
      | (with_reducible refine wp_ret ?_)
      | (with_reducible refine then_ret ?_)
      | ((with_reducible refine g_move ?_); refine s_move hE rfl rfl ?_; clear hE a; intro a hE)
      | ((with_reducible refine g_assign ?_); refine s_assign hE rfl rfl ?_; clear hE a; intro a hE)
      | ((with_reducible refine g_bin .lss ?_); refine s_lss hE rfl rfl rfl ?_; clear hE a; intro a hE)
      | ((with_reducible refine g_bin .gtr ?_); refine s_gtr hE rfl rfl rfl ?_; clear hE a; intro a hE)
      | ((with_reducible refine g_bin .eql ?_); refine s_eql hE rfl rfl rfl ?_; clear hE a; intro a hE)
      | ((with_reducible refine g_bin .neq ?_); refine s_neq hE rfl rfl rfl ?_; clear hE a; intro a hE)
      | ((with_reducible refine g_bin .add ?_); refine s_add hE rfl rfl rfl (by first  | exact wrap64_in (by omega) ) ?_; clear hE a; intro a hE)
      | ((with_reducible refine g_bin .sub ?_); refine s_sub hE rfl rfl rfl (by first  | exact subN (by omega) (by omega) ) ?_; clear hE a; intro a hE)
      | ((with_reducible refine g_blt .len ?_); refine s_len hE rfl rfl ?_; clear hE a; intro a hE)
      | ((with_reducible refine g_fa ?_); refine s_fieldL hE rfl rfl rfl ?_; clear hE a; intro a hE)
      | ((with_reducible refine g_cond ?_); refine c_false hE rfl ?_)
      | ((with_reducible refine g_cond ?_); refine c_dec hE rfl (fun hc => ?_) (fun hc => ?_) <;> try omega)
      | ((with_reducible refine g_load ?_); (first | (refine s_loadB (k := 2) hS hE rfl rfl rfl rfl ?_) | (refine s_loadB (k := 3) hS hE rfl rfl rfl rfl ?_) ); clear hE a; intro a hE)
      | ((with_reducible refine g_store ?_); (first | (refine s_storeB (k := 3) hS hE rfl rfl rfl rfl rfl rfl ?_) ); clear hS; intro w hS; simp only [List.set_cons_zero, List.set_cons_succ, Nat.add_zero] at hS)
      | ((with_reducible refine g_alloc ?_); refine s_allocS hE hS rfl rfl ?_; clear hE a hS; intro g a w hE hS)
      | ((with_reducible refine g_box ?_); refine s_boxS hE hS rfl rfl ?_; clear hE a hS; intro g a w hE hS)
      | ((with_reducible refine g_build ?_); refine s_build [_, _] hE rfl rfl rfl ?_; clear hE a; intro a hE)
      | ((with_reducible refine g_load ?_); (first | (refine s_loadW (k := 3) hS hE rfl rfl rfl rfl ?_) ); clear hE a; intro a hE)
      | ((with_reducible refine g_store ?_); (first | (refine s_storeW (k := 0) hS hE rfl rfl rfl rfl rfl (by simp [Value.oneCell']) ?_) | (refine s_storeW (k := 1) hS hE rfl rfl rfl rfl rfl (by simp [Value.oneCell']) ?_) ); clear hS; intro w hS; simp only [List.set_cons_zero, List.set_cons_succ, Nat.add_zero] at hS)
      | ((with_reducible refine g_slice ?_); refine s_val hE rfl rfl rfl (r_cutLH hE rfl rfl rfl (by omega) (by omega)) ?_; clear hE a; intro a hE)
      )
    · rw [takeM_err hc]
      exact retG (vs := [_, _]) hE rfl ⟨⟨_, rfl, res_W (k := 1) hS rfl rfl⟩, ⟨_, rfl, res_W (k := 0) hS rfl rfl⟩, trivial⟩ ⟨none, 0, rfl, fun _ _ => Rd.nil, Nat.zero_le _, hS.nil⟩
    · rw [takeM_neg (by assumption) hc]
      exact retG (vs := [_, _]) hE rfl ⟨⟨_, rfl, res_W (k := 1) hS rfl rfl⟩, ⟨_, rfl, res_W (k := 0) hS rfl rfl⟩, trivial⟩ ⟨none, 0, rfl, fun _ _ => Rd.nil, Nat.zero_le _, hS.nil⟩
    · rw [takeM_short (by assumption) (by assumption) (by omega)]
      exact retG (vs := [_, _]) hE rfl ⟨⟨_, rfl, res_W (k := 1) hS rfl rfl⟩, ⟨_, rfl, res_W (k := 0) hS rfl rfl⟩, trivial⟩ ⟨none, 0, rfl, fun _ _ => Rd.nil, Nat.zero_le _, hS.nil⟩
    · rw [takeM_ok (by assumption) (by assumption) (by omega)]
      have e2 : ((p : Int) + n).toNat - (p : Int).toNat = ((xs.drop p).take n.toNat).length := by rw [List.length_take, List.length_drop]; omega
      have e3 : (p : Int) + n = ((p + n.toNat : Nat) : Int) := by omega
      rw [e2, e3] at hS
      have hl3 : ((xs.drop p).take n.toNat).length ≤ c - p := by rw [List.length_take, List.length_drop]; omega
      have hr2 := fun w1 (h1 : Rd w1 B (bys xs)) => (h1.cutB hcap (l := p) n.toNat)
      exact retG (vs := [_, _]) hE rfl ⟨⟨_, rfl, res_W (k := 1) hS rfl rfl⟩, ⟨_, rfl, res_W (k := 0) hS rfl rfl⟩, trivial⟩ ⟨_, c - p, rfl, hr2, hl3, hS.nil⟩
end Go.Proofs.Ytjkeelceijjpoab
