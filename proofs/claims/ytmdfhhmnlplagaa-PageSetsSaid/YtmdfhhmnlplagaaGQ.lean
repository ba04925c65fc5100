/-
  Contracts of the document's pages: may a page be, a number's bytes and the number of bytes, noughts; the first free slot.
-/
import Derived.Test.YtmdfhhmnlplagaaGK
namespace Go.Proofs.Ytmdfhhmnlplagaa
open Go.RowKit
set_option linter.unusedVariables false
set_option linter.unusedSimpArgs false
attribute [local irreducible] Rd hRow hBlk hRd hRdr rowsP Fn hMarks

theorem mul256 {x c : Nat} (h : x * 256 < 18446744073709551616) : IntKind.u64.wrap ((x : Int) * 256) = ((x * 256 : Nat) : Int) := by
  rw [wrap_u64_in (by omega)]; omega
theorem add256 {x c : Nat} (hc : c < 256) (h : x * 256 < 18446744073709551616) : IntKind.u64.wrap (((x * 256 : Nat) : Int) + (c : Int)) = ((x * 256 + c : Nat) : Int) := by
  rw [wrap_u64_in (by omega)]; omega
theorem short_take {s : List (List Nat)} {k : Nat} (hk : k < s.length) : short52 (s.take (k + 1)) = (short52 (s.take k) && decide ((s[k]'hk).length ≤ 52)) := by
  unfold short52
  rw [List.take_succ_eq_append_getElem hk, List.all_append]
  simp
theorem short_false {s : List (List Nat)} {k : Nat} (hk : k < s.length) (h : 52 < (s[k]'hk).length) : short52 s = false := by
  unfold short52
  rw [← Bool.not_eq_true, List.all_eq_true]
  intro ha
  have := of_decide_eq_true (ha _ (List.getElem_mem hk))
  omega
section
variable {H : List HP} {w0 w : World}
set_option maxHeartbeats 8000000
theorem rright (p : Pg) (hp : p.wf) (w0 : World) : Fn Try.prog 20 [.agg p.cells.toArray] w0 fun v w' => v = .bool p.m.right ∧ St w0 w' [] := by
  have hsl := Pg.slots hp
  obtain ⟨h1, h2, h3, h4⟩ := hp
  have hcl : p.cells.length = 6 := by simp [h1]
  have hri : p.m.right = (decide (numd p.n) && short52 (p.s.map Sl.b)) := rfl
  refine enter 22 Try.func20 rfl rfl rfl ?_
  intro a hE
  have hS := St.start w0
  repeat' (first

    | (with_reducible refine wp_seq ?_)
    | (with_reducible refine c_region ?_)
    | (with_reducible refine wpList_nil ?_)
    | (with_reducible refine then_normal ?_)
    | (with_reducible refine wp_block ?_)
    | ((with_reducible refine g_move ?_); refine s_move hE rfl rfl ?_; clear hE a; intro a hE)
    | ((with_reducible refine g_assign ?_); refine s_assign hE rfl rfl ?_; clear hE a; intro a hE)
    | ((with_reducible refine g_fa ?_); refine s_fieldL hE rfl rfl rfl ?_; clear hE a; intro a hE)
    | ((with_reducible refine g_box ?_); refine s_boxS hE hS rfl rfl ?_; clear hE a hS; intro g a w hE hS)
    | ((with_reducible refine g_load ?_); (first | (refine s_loadBs (k := 0) hS hE rfl rfl (by first | exact hsl ) (by omega) rfl ?_) ); clear hE a; intro a hE)
    )
  refine wp_loop_ghost (fun q a w => ∃ (k : Nat), k + q = 4 ∧ short52 ((p.s.map Sl.b).take k) = true ∧ St w0 w [hBlk g 30 p.cells] ∧ Env 22 [(6, .agg (p.s.map Sl.v).toArray), (7, .int .i64 (k : Int)), (1, .pointer (some ⟨g, 0, none⟩))] a) 4 ⟨0, by omega, rfl, hS, hE.sub ⟨rfl, rfl, rfl, trivial⟩⟩ ?_
  clear hE a hS
  rintro q a w ⟨k, hk, hsh, hS, hE⟩
  by_cases hk1 : k < 4
  · have hks : k < p.s.length := by omega
    have hkb : k < (p.s.map Sl.b).length := by rw [List.length_map]; exact hks
    have hv := Pg.slot hks
    have h4k := h4 _ (List.getElem_mem hks)
    have hst := short_take hkb
    have hfa := short_false hkb
    rw [List.getElem_map] at hst hfa
    generalize (p.s[k]'hks) = s at hv h4k hst hfa
    by_cases hl : s.b.length ≤ 52
    · rw [hsh, decide_eq_true hl] at hst
      repeat' (first

        | (with_reducible refine wp_seq ?_)
        | (with_reducible refine c_region ?_)
        | (with_reducible refine wpList_nil ?_)
        | (with_reducible refine then_normal ?_)
        | (with_reducible refine wp_skip ?_)
        | (with_reducible refine wp_block ?_)
        | (with_reducible refine block_normal ?_)
        | ((with_reducible refine g_move ?_); refine s_move hE rfl rfl ?_; clear hE a; intro a hE)
        | ((with_reducible refine g_assign ?_); refine s_assign hE rfl rfl ?_; clear hE a; intro a hE)
        | ((with_reducible refine g_bin .lss ?_); refine s_lss hE rfl rfl rfl ?_; clear hE a; intro a hE)
        | ((with_reducible refine g_bin .gtr ?_); refine s_gtr hE rfl rfl rfl ?_; clear hE a; intro a hE)
        | ((with_reducible refine g_bin .add ?_); refine s_add hE rfl rfl rfl (by first  | exact wrap64_in (by omega) ) ?_; clear hE a; intro a hE)
        | ((with_reducible refine g_blt .len ?_); refine s_len hE rfl rfl ?_; clear hE a; intro a hE)
        | ((with_reducible refine g_cond ?_); refine c_dec hE rfl (fun hc => ?_) (fun hc => ?_) <;> try omega)
        | ((with_reducible refine g_index ?_); refine s_val hE rfl rfl rfl (r_index1 hE rfl rfl (by omega) (by omega) (by assumption)) ?_; clear hE a; intro a hE)
        )
      exact ⟨q - 1, by omega, k + 1, by omega, hst, hS, hE.sub ⟨rfl, rfl, rfl, trivial⟩⟩
    · rw [hri, hfa (by omega), Bool.and_false]
      repeat' (first

        | (with_reducible refine wp_seq ?_)
        | (with_reducible refine c_region ?_)
        | (with_reducible refine wpList_nil ?_)
        | (with_reducible refine then_normal ?_)
        | (with_reducible refine wp_skip ?_)
        | (with_reducible refine wp_ret ?_)
        | (with_reducible refine then_ret ?_)
        | (with_reducible refine wp_block ?_)
        | (with_reducible refine block_ret ?_)
        | ((with_reducible refine g_move ?_); refine s_move hE rfl rfl ?_; clear hE a; intro a hE)
        | ((with_reducible refine g_assign ?_); refine s_assign hE rfl rfl ?_; clear hE a; intro a hE)
        | ((with_reducible refine g_bin .lss ?_); refine s_lss hE rfl rfl rfl ?_; clear hE a; intro a hE)
        | ((with_reducible refine g_bin .gtr ?_); refine s_gtr hE rfl rfl rfl ?_; clear hE a; intro a hE)
        | ((with_reducible refine g_blt .len ?_); refine s_len hE rfl rfl ?_; clear hE a; intro a hE)
        | ((with_reducible refine g_cond ?_); refine c_dec hE rfl (fun hc => ?_) (fun hc => ?_) <;> try omega)
        | ((with_reducible refine g_index ?_); refine s_val hE rfl rfl rfl (r_index1 hE rfl rfl (by omega) (by omega) (by assumption)) ?_; clear hE a; intro a hE)
        )
      exact ret1 hE rfl rfl ⟨rfl, hS.nil⟩
  · obtain rfl : k = 4 := by omega
    rw [List.take_of_length_le (by rw [List.length_map]; omega)] at hsh
    rw [hri, hsh, Bool.and_true]
    by_cases hn : numd p.n
    · rw [decide_eq_true hn]
      have hn1 : 0 ≤ p.n := hn.1
      have hn2 : p.n < 32 := hn.2
      repeat' (first

        | (with_reducible refine wp_seq ?_)
        | (with_reducible refine c_region ?_)
        | (with_reducible refine wpList_nil ?_)
        | (with_reducible refine then_normal ?_)
        | (with_reducible refine wp_ret ?_)
        | (with_reducible refine wp_exit ?_)
        | (with_reducible refine then_exit ?_)
        | (with_reducible refine block_same ?_)
        | ((with_reducible refine g_move ?_); refine s_move hE rfl rfl ?_; clear hE a; intro a hE)
        | ((with_reducible refine g_assign ?_); refine s_assign hE rfl rfl ?_; clear hE a; intro a hE)
        | ((with_reducible refine g_bin .lss ?_); refine s_lss hE rfl rfl rfl ?_; clear hE a; intro a hE)
        | ((with_reducible refine g_bin .geq ?_); refine s_geq hE rfl rfl rfl ?_; clear hE a; intro a hE)
        | ((with_reducible refine g_fa ?_); refine s_fieldL hE rfl rfl rfl ?_; clear hE a; intro a hE)
        | ((with_reducible refine g_guard ?_); refine gd_yes hE rfl rfl rfl ?_)
        | ((with_reducible refine g_guard ?_); refine gd_dec hE rfl rfl (fun hc hE2 => ?_) (fun hc hE2 => ?_) <;> (try omega) <;> (replace hE := hE2; clear hE2))
        | ((with_reducible refine g_pick ?_); refine s_pickT hE rfl rfl rfl ?_; clear hE a; intro a hE)
        | ((with_reducible refine g_cond ?_); refine c_false hE rfl ?_)
        | ((with_reducible refine g_load ?_); (first | (refine s_loadB (k := 0) hS hE rfl rfl rfl rfl ?_) ); clear hE a; intro a hE)
        )
      exact ret1 hE rfl rfl ⟨by rw [decide_eq_true hn2], hS.nil⟩
    · rw [decide_eq_false hn]
      have hn1 : ¬ (0 ≤ p.n ∧ p.n < 32) := hn
      repeat' (first

        | (with_reducible refine wp_seq ?_)
        | (with_reducible refine c_region ?_)
        | (with_reducible refine wpList_nil ?_)
        | (with_reducible refine then_normal ?_)
        | (with_reducible refine wp_ret ?_)
        | (with_reducible refine wp_exit ?_)
        | (with_reducible refine then_exit ?_)
        | (with_reducible refine block_same ?_)
        | ((with_reducible refine g_move ?_); refine s_move hE rfl rfl ?_; clear hE a; intro a hE)
        | ((with_reducible refine g_assign ?_); refine s_assign hE rfl rfl ?_; clear hE a; intro a hE)
        | ((with_reducible refine g_bin .lss ?_); refine s_lss hE rfl rfl rfl ?_; clear hE a; intro a hE)
        | ((with_reducible refine g_bin .geq ?_); refine s_geq hE rfl rfl rfl ?_; clear hE a; intro a hE)
        | ((with_reducible refine g_fa ?_); refine s_fieldL hE rfl rfl rfl ?_; clear hE a; intro a hE)
        | ((with_reducible refine g_guard ?_); refine gd_yes hE rfl rfl rfl ?_)
        | ((with_reducible refine g_guard ?_); refine gd_no hE rfl rfl rfl rfl ?_; clear hE a; intro a hE)
        | ((with_reducible refine g_guard ?_); refine gd_dec hE rfl rfl (fun hc hE2 => ?_) (fun hc hE2 => ?_) <;> (try omega) <;> (replace hE := hE2; clear hE2))
        | ((with_reducible refine g_pick ?_); refine s_pickT hE rfl rfl rfl ?_; clear hE a; intro a hE)
        | ((with_reducible refine g_pick ?_); refine s_pickF hE rfl rfl rfl ?_; clear hE a; intro a hE)
        | ((with_reducible refine g_cond ?_); refine c_false hE rfl ?_)
        | ((with_reducible refine g_load ?_); (first | (refine s_loadB (k := 0) hS hE rfl rfl rfl rfl ?_) ); clear hE a; intro a hE)
        )
      · exact ret1 hE rfl rfl ⟨by rw [decide_eq_false (by omega)], hS.nil⟩
      · exact ret1 hE rfl rfl ⟨rfl, hS.nil⟩
theorem rhigh (x n : Nat) (hx : x < 18446744073709551616) (hn : n ≤ 8) (w0 : World) :
    Fn Try.prog 42 [.int .u64 (x : Int), .int .i64 (n : Int)] w0 fun v w' => ∃ A' c', v = .slice A' (beb n x).length c' ∧ St w0 w' [hRow 5 1 A' (beb n x).length c' (bys (beb n x))] := by
  refine enter 22 Try.func42 rfl rfl rfl ?_
  intro a hE
  have hS := St.start w0
  repeat' (first

    | (with_reducible refine wp_seq ?_)
    | (with_reducible refine c_region ?_)
    | (with_reducible refine wpList_nil ?_)
    | (with_reducible refine then_normal ?_)
    | (with_reducible refine wp_block ?_)
    | ((with_reducible refine g_move ?_); refine s_move hE rfl rfl ?_; clear hE a; intro a hE)
    | ((with_reducible refine g_assign ?_); refine s_assign hE rfl rfl ?_; clear hE a; intro a hE)
    | ((with_reducible refine g_bin .sub ?_); refine s_sub hE rfl rfl rfl (by first  | exact wrap64_in (by omega) ) ?_; clear hE a; intro a hE)
    )
  refine wp_loop_ghost (fun q a w => ∃ (ys : List Nat) (A1 : Option Addr) (c1 : Nat), ys ++ beb q x = beb n x ∧ q ≤ n ∧ St w0 w [hRow 5 1 A1 ys.length c1 (bys ys)] ∧ Env 22 [(5, .slice A1 ys.length c1), (0, .int .u64 (x : Int)), (6, .int .i64 ((q : Int) - 1))] a) n ⟨[], none, 0, rfl, Nat.le_refl _, hS.rowNil _ _, hE.sub ⟨rfl, rfl, rfl, trivial⟩⟩ ?_
  clear hE a hS
  rintro q a w ⟨ys, A2, c2, hy, hq, hS, hE⟩
  have hly := congrArg List.length hy
  simp only [List.length_append, beb_length] at hly
  by_cases hq0 : q = 0
  · subst hq0
    simp only [beb, List.append_nil] at hy
    subst hy
    repeat' (first
      | (with_reducible refine wp_seq ?_)
      | (with_reducible refine c_region ?_)
      | (with_reducible refine wpList_nil ?_)
      | (with_reducible refine then_normal ?_)
      | (with_reducible refine wp_ret ?_)
      | (with_reducible refine wp_exit ?_)
      | (with_reducible refine then_exit ?_)
      | (with_reducible refine block_same ?_)
      | ((with_reducible refine g_move ?_); refine s_move hE rfl rfl ?_; clear hE a; intro a hE)
      | ((with_reducible refine g_assign ?_); refine s_assign hE rfl rfl ?_; clear hE a; intro a hE)
      | ((with_reducible refine g_bin .geq ?_); refine s_geq hE rfl rfl rfl ?_; clear hE a; intro a hE)
      | ((with_reducible refine g_cond ?_); refine c_false hE rfl ?_)
      )
    exact ret1 hE rfl rfl ⟨A2, c2, rfl, hS⟩
  · obtain ⟨m, rfl⟩ : ∃ m, q = m + 1 := ⟨q - 1, by omega⟩
    replace hE := hE.as (d := 6) rfl (u := .int .i64 (m : Int)) (by simp)
    repeat' (first
      | (with_reducible refine wp_seq ?_)
      | (with_reducible refine c_region ?_)
      | (with_reducible refine wpList_nil ?_)
      | (with_reducible refine then_normal ?_)
      | (with_reducible refine wp_skip ?_)
      | (with_reducible refine wp_block ?_)
      | ((with_reducible refine g_move ?_); refine s_move hE rfl rfl ?_; clear hE a; intro a hE)
      | ((with_reducible refine g_bin .geq ?_); refine s_geq hE rfl rfl rfl ?_; clear hE a; intro a hE)
      | ((with_reducible refine g_bin .mul ?_); refine s_mul hE rfl rfl rfl (by first | exact mulN (a := 8) (by omega) ) ?_; clear hE a; intro a hE)
      | ((with_reducible refine g_bin .shr ?_); refine s_shr hE rfl rfl (by omega) rfl (by first | exact shr_nat x (8 * m) 64 (by omega) ) ?_; clear hE a; intro a hE)
      | ((with_reducible refine g_conv ?_); refine s_conv hE rfl rfl (by first | exact wrap_u8_nat (x / 2 ^ (8 * m))) ?_; clear hE a; intro a hE)
      | ((with_reducible refine g_cond ?_); refine c_true hE rfl ?_)
      )
    have e : ys.length + 1 = (ys ++ [x / 2 ^ (8 * m) % 256]).length := by simp
    refine s_append1 (s := .tmp 13) hE hS rfl rfl (by intro t h; cases h; rfl) rfl (by omega) rfl rfl rfl rfl ?_
    clear hE a hS; intro A3 c3 u a w hE hS
    rw [e] at hE hS
    repeat' (first
      | (with_reducible refine c_region ?_)
      | (with_reducible refine wpList_nil ?_)
      | (with_reducible refine then_normal ?_)
      | (with_reducible refine block_normal ?_)
      | ((with_reducible refine g_move ?_); refine s_move hE rfl rfl ?_; clear hE a; intro a hE)
      | ((with_reducible refine g_assign ?_); refine s_assign hE rfl rfl ?_; clear hE a; intro a hE)
      | ((with_reducible refine g_bin .sub ?_); refine s_sub hE rfl rfl rfl (by first | exact wrap64_in (by omega) ) ?_; clear hE a; intro a hE)
      )
    refine ⟨m, by omega, ys ++ [x / 2 ^ (8 * m) % 256], A3, c3, ?_, by omega, by rw [bys_append]; exact hS, hE.sub ⟨rfl, rfl, rfl, trivial⟩⟩
    rw [List.append_assoc]
    simp only [beb] at hy
    exact hy
theorem rnumber (A : Option Addr) (c : Nat) (ys : List Nat) (n : Nat) (w0 : World) (hr : Rd w0 A (bys ys)) (hb : Bs ys) (hl : ys.length ≤ 8) (hn : n = ys.length) :
    Fn Try.prog 39 [.slice A n c] w0 fun v w' => v = .int .u64 ((bnum 0 ys : Nat) : Int) ∧ St w0 w' [] := by
  subst hn
  refine enter 19 Try.func39 rfl rfl rfl ?_
  intro a hE
  have hS := St.start w0
  repeat' (first
    | (with_reducible refine wp_seq ?_)
    | (with_reducible refine c_region ?_)
    | (with_reducible refine wpList_nil ?_)
    | (with_reducible refine then_normal ?_)
    | (with_reducible refine wp_block ?_)
    | ((with_reducible refine g_move ?_); refine s_move hE rfl rfl ?_; clear hE a; intro a hE)
    | ((with_reducible refine g_assign ?_); refine s_assign hE rfl rfl ?_; clear hE a; intro a hE)
    | ((with_reducible refine g_blt .len ?_); refine s_len hE rfl rfl ?_; clear hE a; intro a hE)
    )
  refine wp_loop_ghost (fun q a w => ∃ (k : Nat), k + q = ys.length ∧ St w0 w [] ∧ Env 19 [(6, .slice A ys.length c), (7, .int .i64 (ys.length : Int)), (3, .int .u64 ((bnum 0 (ys.take k) : Nat) : Int)), (8, .int .i64 (k : Int))] a) ys.length ⟨0, by omega, hS, hE.sub ⟨rfl, rfl, rfl, rfl, trivial⟩⟩ ?_
  clear hE a hS
  rintro q a w ⟨k, hk, hS, hE⟩
  by_cases hk1 : k < ys.length
  · have hst := bnum_step hb hk1 (by omega)
    have hbk : ys[k] < 256 := hb _ (List.getElem_mem hk1)
    repeat' (first
      | (with_reducible refine wp_seq ?_)
      | (with_reducible refine c_region ?_)
      | (with_reducible refine wpList_nil ?_)
      | (with_reducible refine then_normal ?_)
      | (with_reducible refine wp_skip ?_)
      | (with_reducible refine wp_block ?_)
      | (with_reducible refine block_normal ?_)
      | ((with_reducible refine g_move ?_); refine s_move hE rfl rfl ?_; clear hE a; intro a hE)
      | ((with_reducible refine g_assign ?_); refine s_assign hE rfl rfl ?_; clear hE a; intro a hE)
      | ((with_reducible refine g_bin .lss ?_); refine s_lss hE rfl rfl rfl ?_; clear hE a; intro a hE)
      | ((with_reducible refine g_bin .add ?_); refine s_add hE rfl rfl rfl (by first | with_reducible exact add256 hbk hst | exact wrap64_in (by omega) ) ?_; clear hE a; intro a hE)
      | ((with_reducible refine g_bin .mul ?_); refine s_mul hE rfl rfl rfl (by first | with_reducible exact mul256 (c := 0) hst ) ?_; clear hE a; intro a hE)
      | ((with_reducible refine g_conv ?_); refine s_conv hE rfl rfl (by first | exact wrap_u64_in (by omega) ) ?_; clear hE a; intro a hE)
      | ((with_reducible refine g_cond ?_); refine c_dec hE rfl (fun hc => ?_) (fun hc => ?_) <;> try omega)
      | ((with_reducible refine g_ia ?_); refine s_idxR hE rfl rfl (by omega) (by omega) (by (first | exact Rd.st (by assumption) hS )) (by first | (simp only [bys_length]; omega)) rfl ?_; clear hE a; intro a hE)
      | ((with_reducible refine g_load ?_); refine s_loadR hE rfl (by (first | exact Rd.st (by assumption) hS )) (by first | exact bys_getM hk1) rfl ?_; clear hE a; intro a hE)
      )
    refine ⟨q - 1, by omega, k + 1, by omega, hS, hE.sub ⟨rfl, rfl, ?_, rfl, trivial⟩⟩
    rw [bnum_take hk1]
    rfl
  · obtain rfl : k = ys.length := by omega
    rw [List.take_length] at hE
    repeat' (first
      | (with_reducible refine wp_seq ?_)
      | (with_reducible refine c_region ?_)
      | (with_reducible refine wpList_nil ?_)
      | (with_reducible refine then_normal ?_)
      | (with_reducible refine wp_ret ?_)
      | (with_reducible refine wp_exit ?_)
      | (with_reducible refine then_exit ?_)
      | (with_reducible refine block_same ?_)
      | ((with_reducible refine g_move ?_); refine s_move hE rfl rfl ?_; clear hE a; intro a hE)
      | ((with_reducible refine g_assign ?_); refine s_assign hE rfl rfl ?_; clear hE a; intro a hE)
      | ((with_reducible refine g_bin .lss ?_); refine s_lss hE rfl rfl rfl ?_; clear hE a; intro a hE)
      | ((with_reducible refine g_cond ?_); refine c_dec hE rfl (fun hc => ?_) (fun hc => ?_) <;> try omega)
      )
    exact ret1 hE rfl rfl ⟨rfl, hS⟩
theorem rnoughts (A : Option Addr) (c : Nat) (xs : List Nat) (w0 : World) (hr : Rd w0 A (bys xs)) (hx : Bs xs) (hl : xs.length ≤ 140737488355328) :
    Fn Try.prog 38 [.slice A xs.length c] w0 fun v w' => v = .bool (zeroB xs && decide (xs.length = 256)) ∧ St w0 w' [] := by
  refine enter 17 Try.func38 rfl rfl rfl ?_
  intro a hE
  have hS := St.start w0
  repeat' (first

    | (with_reducible refine wp_seq ?_)
    | (with_reducible refine c_region ?_)
    | (with_reducible refine wpList_nil ?_)
    | (with_reducible refine then_normal ?_)
    | (with_reducible refine wp_block ?_)
    | ((with_reducible refine g_move ?_); refine s_move hE rfl rfl ?_; clear hE a; intro a hE)
    | ((with_reducible refine g_assign ?_); refine s_assign hE rfl rfl ?_; clear hE a; intro a hE)
    | ((with_reducible refine g_blt .len ?_); refine s_len hE rfl rfl ?_; clear hE a; intro a hE)
    )
  refine wp_loop_ghost (fun q a w => ∃ (k : Nat), k + q = xs.length ∧ zeroB (xs.take k) = true ∧ St w0 w [] ∧ Env 17 [(0, .slice A xs.length c), (5, .slice A xs.length c), (6, .int .i64 (xs.length : Int)), (7, .int .i64 (k : Int))] a) xs.length ⟨0, by omega, rfl, hS, hE.sub ⟨rfl, rfl, rfl, rfl, trivial⟩⟩ ?_
  clear hE a hS
  rintro q a w ⟨k, hk, hz, hS, hE⟩
  by_cases hk1 : k < xs.length
  · have hb := hx.get hk1
    have hst := zeroB_take_succ hk1
    have hg := bys_getM hk1
    have hfa : ¬ xs[k] = 0 → zeroB xs = false := by
      intro hne
      cases hzz : zeroB xs
      · rfl
      · unfold zeroB at hzz
        have := List.all_eq_true.1 hzz _ (List.getElem_mem hk1)
        exact absurd (by simpa using this) hne
    generalize xs[k] = x at hb hst hg hfa
    by_cases hx0 : x = 0
    · subst hx0
      rw [hz] at hst
      repeat' (first

        | (with_reducible refine wp_seq ?_)
        | (with_reducible refine c_region ?_)
        | (with_reducible refine wpList_nil ?_)
        | (with_reducible refine then_normal ?_)
        | (with_reducible refine wp_skip ?_)
        | (with_reducible refine wp_block ?_)
        | (with_reducible refine block_normal ?_)
        | ((with_reducible refine g_move ?_); refine s_move hE rfl rfl ?_; clear hE a; intro a hE)
        | ((with_reducible refine g_assign ?_); refine s_assign hE rfl rfl ?_; clear hE a; intro a hE)
        | ((with_reducible refine g_bin .lss ?_); refine s_lss hE rfl rfl rfl ?_; clear hE a; intro a hE)
        | ((with_reducible refine g_bin .neq ?_); refine s_neq hE rfl rfl rfl ?_; clear hE a; intro a hE)
        | ((with_reducible refine g_bin .add ?_); refine s_add hE rfl rfl rfl (by first | exact wrap64_in (by omega) ) ?_; clear hE a; intro a hE)
        | ((with_reducible refine g_cond ?_); refine c_false hE rfl ?_)
        | ((with_reducible refine g_cond ?_); refine c_dec hE rfl (fun hc => ?_) (fun hc => ?_) <;> try omega)
        | ((with_reducible refine g_ia ?_); refine s_idxR hE rfl rfl (by omega) (by omega) (by (first | exact Rd.st (by assumption) hS )) (by first | (simp only [bys_length]; omega)) rfl ?_; clear hE a; intro a hE)
        | ((with_reducible refine g_load ?_); refine s_loadR hE rfl (by (first | exact Rd.st (by assumption) hS )) (by first | exact hg ) rfl ?_; clear hE a; intro a hE)
        )
      exact ⟨q - 1, by omega, k + 1, by omega, hst, hS, hE.sub ⟨rfl, rfl, rfl, rfl, trivial⟩⟩
    · rw [hfa hx0, Bool.false_and]
      repeat' (first

        | (with_reducible refine wp_seq ?_)
        | (with_reducible refine c_region ?_)
        | (with_reducible refine wpList_nil ?_)
        | (with_reducible refine then_normal ?_)
        | (with_reducible refine wp_skip ?_)
        | (with_reducible refine wp_ret ?_)
        | (with_reducible refine then_ret ?_)
        | (with_reducible refine wp_block ?_)
        | (with_reducible refine block_ret ?_)
        | ((with_reducible refine g_move ?_); refine s_move hE rfl rfl ?_; clear hE a; intro a hE)
        | ((with_reducible refine g_assign ?_); refine s_assign hE rfl rfl ?_; clear hE a; intro a hE)
        | ((with_reducible refine g_bin .lss ?_); refine s_lss hE rfl rfl rfl ?_; clear hE a; intro a hE)
        | ((with_reducible refine g_bin .neq ?_); refine s_neq hE rfl rfl rfl ?_; clear hE a; intro a hE)
        | ((with_reducible refine g_cond ?_); refine c_dec hE rfl (fun hc => ?_) (fun hc => ?_) <;> try omega)
        | ((with_reducible refine g_ia ?_); refine s_idxR hE rfl rfl (by omega) (by omega) (by (first | exact Rd.st (by assumption) hS )) (by first | (simp only [bys_length]; omega)) rfl ?_; clear hE a; intro a hE)
        | ((with_reducible refine g_load ?_); refine s_loadR hE rfl (by (first | exact Rd.st (by assumption) hS )) (by first | exact hg ) rfl ?_; clear hE a; intro a hE)
        )
      exact ret1 hE rfl rfl ⟨rfl, hS⟩
  · obtain rfl : k = xs.length := by omega
    rw [List.take_length] at hz
    rw [hz, Bool.true_and]
    repeat' (first

      | (with_reducible refine wp_seq ?_)
      | (with_reducible refine c_region ?_)
      | (with_reducible refine wpList_nil ?_)
      | (with_reducible refine then_normal ?_)
      | (with_reducible refine wp_ret ?_)
      | (with_reducible refine wp_exit ?_)
      | (with_reducible refine then_exit ?_)
      | (with_reducible refine block_same ?_)
      | ((with_reducible refine g_move ?_); refine s_move hE rfl rfl ?_; clear hE a; intro a hE)
      | ((with_reducible refine g_assign ?_); refine s_assign hE rfl rfl ?_; clear hE a; intro a hE)
      | ((with_reducible refine g_bin .lss ?_); refine s_lss hE rfl rfl rfl ?_; clear hE a; intro a hE)
      | ((with_reducible refine g_bin .eql ?_); refine s_eql hE rfl rfl rfl ?_; clear hE a; intro a hE)
      | ((with_reducible refine g_blt .len ?_); refine s_len hE rfl rfl ?_; clear hE a; intro a hE)
      | ((with_reducible refine g_cond ?_); refine c_dec hE rfl (fun hc => ?_) (fun hc => ?_) <;> try omega)
      )
    exact ret1 hE rfl rfl ⟨congrArg Value.bool (decide_eq_decide.2 (by omega)), hS⟩
theorem lfree (p : Pg) (hp : p.wf) (w0 : World) : Fn Try.prog 28 [.agg p.cells.toArray] w0 fun v w' => v = .int .i64 (if p.m.right then firstIx (fun x => decide (x.length = 0)) (p.s.map Sl.b) 0 else -1) ∧ St w0 w' [] := by
  have hp0 := hp
  have hsl := Pg.slots hp
  obtain ⟨h1, h2, h3, h4⟩ := hp
  have hcl : p.cells.length = 6 := by simp [h1]
  refine enter 19 Try.func28 rfl rfl rfl ?_
  intro a hE
  have hS := St.start w0
  repeat' (first

    | (with_reducible refine wp_seq ?_)
    | (with_reducible refine c_region ?_)
    | (with_reducible refine wpList_nil ?_)
    | (with_reducible refine then_normal ?_)
    | ((with_reducible refine g_assign ?_); refine s_assign hE rfl rfl ?_; clear hE a; intro a hE)
    | ((with_reducible refine g_box ?_); refine s_boxS hE hS rfl rfl ?_; clear hE a hS; intro g a w hE hS)
    | ((with_reducible refine g_load ?_); (first | (refine s_loadW (k := 0) hS hE rfl rfl (by first | assumption ) rfl ?_) ); clear hE a; intro a hE)
    )
  refine s_call hE rfl rfl rfl (rright p hp0 w) ?_
  rintro _ w ⟨rfl, hS1⟩; clear hE a; intro a hE; replace hS := hS.frame hS1; clear hS1; try simp only [List.cons_append, List.nil_append] at hS
  cases hri : p.m.right <;> rw [hri] at hE
  · repeat' (first

      | (with_reducible refine wp_seq ?_)
      | (with_reducible refine c_region ?_)
      | (with_reducible refine wpList_nil ?_)
      | (with_reducible refine then_normal ?_)
      | (with_reducible refine wp_ret ?_)
      | (with_reducible refine then_ret ?_)
      | ((with_reducible refine g_assign ?_); refine s_assign hE rfl rfl ?_; clear hE a; intro a hE)
      | ((with_reducible refine g_un .not ?_); refine s_notb hE rfl rfl ?_; clear hE a; intro a hE)
      | ((with_reducible refine g_cond ?_); refine c_true hE rfl ?_)
      )
    exact ret1 hE rfl rfl ⟨rfl, hS.nil⟩
  · rw [if_pos rfl]
    repeat' (first

      | (with_reducible refine wp_seq ?_)
      | (with_reducible refine c_region ?_)
      | (with_reducible refine wpList_nil ?_)
      | (with_reducible refine then_normal ?_)
      | (with_reducible refine wp_skip ?_)
      | (with_reducible refine wp_block ?_)
      | ((with_reducible refine g_move ?_); refine s_move hE rfl rfl ?_; clear hE a; intro a hE)
      | ((with_reducible refine g_un .not ?_); refine s_notb hE rfl rfl ?_; clear hE a; intro a hE)
      | ((with_reducible refine g_fa ?_); refine s_fieldL hE rfl rfl rfl ?_; clear hE a; intro a hE)
      | ((with_reducible refine g_cond ?_); refine c_false hE rfl ?_)
      | ((with_reducible refine g_load ?_); (first | (refine s_loadBs (k := 0) hS hE rfl rfl (by first | exact hsl ) (by omega) rfl ?_) ); clear hE a; intro a hE)
      )
    refine wp_loop_ghost (fun q a w => ∃ (k : Nat), k + q = 4 ∧ firstIx (fun x => decide (x.length = 0)) (p.s.map Sl.b) 0 = firstIx (fun x => decide (x.length = 0)) ((p.s.map Sl.b).drop k) k ∧ St w0 w [hBlk g 30 p.cells] ∧ Env 19 [(9, .agg (p.s.map Sl.v).toArray), (10, .int .i64 (k : Int))] a) 4 ⟨0, by omega, rfl, hS, hE.sub ⟨rfl, rfl, trivial⟩⟩ ?_
    clear hE a hS
    rintro q a w ⟨k, hk, hix, hS, hE⟩
    by_cases hk1 : k < 4
    · have hks : k < p.s.length := by omega
      have hv := Pg.slot hks
      have h4k := h4 _ (List.getElem_mem hks)
      have hd : (p.s.map Sl.b).drop k = (p.s[k]'hks).b :: (p.s.map Sl.b).drop (k + 1) := by
        rw [List.drop_eq_getElem_cons (by rw [List.length_map]; exact hks), List.getElem_map]
      rw [hd, firstIx_cons] at hix
      generalize (p.s[k]'hks) = s at hv h4k hix
      by_cases hl : s.b.length = 0
      · rw [decide_eq_true hl, if_pos rfl] at hix
        repeat' (first

          | (with_reducible refine wp_seq ?_)
          | (with_reducible refine c_region ?_)
          | (with_reducible refine wpList_nil ?_)
          | (with_reducible refine then_normal ?_)
          | (with_reducible refine wp_skip ?_)
          | (with_reducible refine wp_ret ?_)
          | (with_reducible refine then_ret ?_)
          | (with_reducible refine wp_block ?_)
          | (with_reducible refine block_ret ?_)
          | ((with_reducible refine g_move ?_); refine s_move hE rfl rfl ?_; clear hE a; intro a hE)
          | ((with_reducible refine g_assign ?_); refine s_assign hE rfl rfl ?_; clear hE a; intro a hE)
          | ((with_reducible refine g_bin .lss ?_); refine s_lss hE rfl rfl rfl ?_; clear hE a; intro a hE)
          | ((with_reducible refine g_bin .eql ?_); refine s_eql hE rfl rfl rfl ?_; clear hE a; intro a hE)
          | ((with_reducible refine g_blt .len ?_); refine s_len hE rfl rfl ?_; clear hE a; intro a hE)
          | ((with_reducible refine g_cond ?_); refine c_dec hE rfl (fun hc => ?_) (fun hc => ?_) <;> try omega)
          | ((with_reducible refine g_index ?_); refine s_val hE rfl rfl rfl (r_index1 hE rfl rfl (by omega) (by omega) (by assumption)) ?_; clear hE a; intro a hE)
          )
        exact ret1 hE rfl rfl ⟨by rw [hix], hS.nil⟩
      · rw [decide_eq_false hl, if_neg (by decide)] at hix
        repeat' (first

          | (with_reducible refine wp_seq ?_)
          | (with_reducible refine c_region ?_)
          | (with_reducible refine wpList_nil ?_)
          | (with_reducible refine then_normal ?_)
          | (with_reducible refine wp_skip ?_)
          | (with_reducible refine wp_block ?_)
          | (with_reducible refine block_normal ?_)
          | ((with_reducible refine g_move ?_); refine s_move hE rfl rfl ?_; clear hE a; intro a hE)
          | ((with_reducible refine g_assign ?_); refine s_assign hE rfl rfl ?_; clear hE a; intro a hE)
          | ((with_reducible refine g_bin .lss ?_); refine s_lss hE rfl rfl rfl ?_; clear hE a; intro a hE)
          | ((with_reducible refine g_bin .eql ?_); refine s_eql hE rfl rfl rfl ?_; clear hE a; intro a hE)
          | ((with_reducible refine g_bin .add ?_); refine s_add hE rfl rfl rfl (by first  | exact wrap64_in (by omega) ) ?_; clear hE a; intro a hE)
          | ((with_reducible refine g_blt .len ?_); refine s_len hE rfl rfl ?_; clear hE a; intro a hE)
          | ((with_reducible refine g_cond ?_); refine c_dec hE rfl (fun hc => ?_) (fun hc => ?_) <;> try omega)
          | ((with_reducible refine g_index ?_); refine s_val hE rfl rfl rfl (r_index1 hE rfl rfl (by omega) (by omega) (by assumption)) ?_; clear hE a; intro a hE)
          )
        exact ⟨q - 1, by omega, k + 1, by omega, hix, hS, hE.sub ⟨rfl, rfl, trivial⟩⟩
    · obtain rfl : k = 4 := by omega
      rw [List.drop_eq_nil_of_le (by rw [List.length_map]; omega)] at hix
      repeat' (first

        | (with_reducible refine wp_seq ?_)
        | (with_reducible refine c_region ?_)
        | (with_reducible refine wpList_nil ?_)
        | (with_reducible refine then_normal ?_)
        | (with_reducible refine wp_ret ?_)
        | (with_reducible refine wp_exit ?_)
        | (with_reducible refine then_exit ?_)
        | (with_reducible refine block_same ?_)
        | ((with_reducible refine g_assign ?_); refine s_assign hE rfl rfl ?_; clear hE a; intro a hE)
        | ((with_reducible refine g_bin .lss ?_); refine s_lss hE rfl rfl rfl ?_; clear hE a; intro a hE)
        | ((with_reducible refine g_cond ?_); refine c_false hE rfl ?_)
        )
      exact ret1 hE rfl rfl ⟨by rw [hix]; rfl, hS.nil⟩
end
end Go.Proofs.Ytmdfhhmnlplagaa
