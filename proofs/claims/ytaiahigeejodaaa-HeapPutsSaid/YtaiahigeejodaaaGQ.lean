/-
  Contracts of the document's pages: may a page be, a number's bytes and the number of bytes, noughts; the first free slot.
-/
import Derived.Test.YtaiahigeejodaaaGK
namespace Go.Proofs.Ytaiahigeejodaaa
open Go.RowKit
set_option linter.unusedVariables false
set_option linter.unusedSimpArgs false
attribute [local irreducible] Rd hRow hBlk hRd hRdr rowsP Fn hMarks

theorem mul256 {x c : Nat} (h : x * 256 < 18446744073709551616) : IntKind.u64.wrap ((x : Int) * 256) = ((x * 256 : Nat) : Int) := by
  rw [wrap_u64_in (by omega)]; omega
theorem add256 {x c : Nat} (hc : c < 256) (h : x * 256 < 18446744073709551616) : IntKind.u64.wrap (((x * 256 : Nat) : Int) + (c : Int)) = ((x * 256 + c : Nat) : Int) := by
  rw [wrap_u64_in (by omega)]; omega
theorem short_take {s : List (List Nat)} {k : Nat} (hk : k < s.length) : short52 (s.take (k + 1)) = (short52 (s.take k) && decide ((s[k]'hk).length ≤ 52)) := by
  unfold short52
  rw [List.take_succ_eq_append_getElem hk, List.all_append]
  simp
theorem short_false {s : List (List Nat)} {k : Nat} (hk : k < s.length) (h : 52 < (s[k]'hk).length) : short52 s = false := by
  unfold short52
  rw [← Bool.not_eq_true, List.all_eq_true]
  intro ha
  have := of_decide_eq_true (ha _ (List.getElem_mem hk))
  omega
section
variable {H : List HP} {w0 w : World}
set_option maxHeartbeats 8000000
theorem rright (p : Pg) (hp : p.wf) (w0 : World) : Fn Try.prog 44 [.agg p.cells.toArray] w0 fun v w' => v = .bool p.m.right ∧ St w0 w' [] := by
  have hsl := Pg.slots hp
  obtain ⟨h1, h2, h3, h4⟩ := hp
  have hcl : p.cells.length = 6 := by simp [h1]
  have hri : p.m.right = (decide (numd p.n) && short52 (p.s.map Sl.b)) := rfl
  refine enter 22 Try.func44 rfl rfl rfl ?_
  intro a hE
  have hS := St.start w0
  repeat' (first

    | (with_reducible refine wp_seq ?_)
    | (with_reducible refine c_region ?_)
    | (with_reducible refine wpList_nil ?_)
    | (with_reducible refine then_normal ?_)
    | (with_reducible refine wp_block ?_)
    | ((with_reducible refine g_move ?_); refine s_move hE rfl rfl ?_; clear hE a; intro a hE)
    | ((with_reducible refine g_assign ?_); refine s_assign hE rfl rfl ?_; clear hE a; intro a hE)
    | ((with_reducible refine g_fa ?_); refine s_fieldL hE rfl rfl rfl ?_; clear hE a; intro a hE)
    | ((with_reducible refine g_box ?_); refine s_boxS hE hS rfl rfl ?_; clear hE a hS; intro g a w hE hS)
    | ((with_reducible refine g_load ?_); (first | (refine s_loadBs (k := 0) hS hE rfl rfl (by first | exact hsl ) (by omega) rfl ?_) ); clear hE a; intro a hE)
    )
  refine wp_loop_ghost (fun q a w => ∃ (k : Nat), k + q = 4 ∧ short52 ((p.s.map Sl.b).take k) = true ∧ St w0 w [hBlk g 74 p.cells] ∧ Env 22 [(6, .agg (p.s.map Sl.v).toArray), (7, .int .i64 (k : Int)), (1, .pointer (some ⟨g, 0, none⟩))] a) 4 ⟨0, by omega, rfl, hS, hE.sub ⟨rfl, rfl, rfl, trivial⟩⟩ ?_
  clear hE a hS
  rintro q a w ⟨k, hk, hsh, hS, hE⟩
  by_cases hk1 : k < 4
  · have hks : k < p.s.length := by omega
    have hkb : k < (p.s.map Sl.b).length := by rw [List.length_map]; exact hks
    have hv := Pg.slot hks
    have h4k := h4 _ (List.getElem_mem hks)
    have hst := short_take hkb
    have hfa := short_false hkb
    rw [List.getElem_map] at hst hfa
    generalize (p.s[k]'hks) = s at hv h4k hst hfa
    by_cases hl : s.b.length ≤ 52
    · rw [hsh, decide_eq_true hl] at hst
      repeat' (first

        | (with_reducible refine wp_seq ?_)
        | (with_reducible refine c_region ?_)
        | (with_reducible refine wpList_nil ?_)
        | (with_reducible refine then_normal ?_)
        | (with_reducible refine wp_skip ?_)
        | (with_reducible refine wp_block ?_)
        | (with_reducible refine block_normal ?_)
        | ((with_reducible refine g_move ?_); refine s_move hE rfl rfl ?_; clear hE a; intro a hE)
        | ((with_reducible refine g_assign ?_); refine s_assign hE rfl rfl ?_; clear hE a; intro a hE)
        | ((with_reducible refine g_bin .lss ?_); refine s_lss hE rfl rfl rfl ?_; clear hE a; intro a hE)
        | ((with_reducible refine g_bin .gtr ?_); refine s_gtr hE rfl rfl rfl ?_; clear hE a; intro a hE)
        | ((with_reducible refine g_bin .add ?_); refine s_add hE rfl rfl rfl (by first  | exact wrap64_in (by omega) ) ?_; clear hE a; intro a hE)
        | ((with_reducible refine g_blt .len ?_); refine s_len hE rfl rfl ?_; clear hE a; intro a hE)
        | ((with_reducible refine g_cond ?_); refine c_dec hE rfl (fun hc => ?_) (fun hc => ?_) <;> try omega)
        | ((with_reducible refine g_index ?_); refine s_val hE rfl rfl rfl (r_index1 hE rfl rfl (by omega) (by omega) (by assumption)) ?_; clear hE a; intro a hE)
        )
      exact ⟨q - 1, by omega, k + 1, by omega, hst, hS, hE.sub ⟨rfl, rfl, rfl, trivial⟩⟩
    · rw [hri, hfa (by omega), Bool.and_false]
      repeat' (first

        | (with_reducible refine wp_seq ?_)
        | (with_reducible refine c_region ?_)
        | (with_reducible refine wpList_nil ?_)
        | (with_reducible refine then_normal ?_)
        | (with_reducible refine wp_skip ?_)
        | (with_reducible refine wp_ret ?_)
        | (with_reducible refine then_ret ?_)
        | (with_reducible refine wp_block ?_)
        | (with_reducible refine block_ret ?_)
        | ((with_reducible refine g_move ?_); refine s_move hE rfl rfl ?_; clear hE a; intro a hE)
        | ((with_reducible refine g_assign ?_); refine s_assign hE rfl rfl ?_; clear hE a; intro a hE)
        | ((with_reducible refine g_bin .lss ?_); refine s_lss hE rfl rfl rfl ?_; clear hE a; intro a hE)
        | ((with_reducible refine g_bin .gtr ?_); refine s_gtr hE rfl rfl rfl ?_; clear hE a; intro a hE)
        | ((with_reducible refine g_blt .len ?_); refine s_len hE rfl rfl ?_; clear hE a; intro a hE)
        | ((with_reducible refine g_cond ?_); refine c_dec hE rfl (fun hc => ?_) (fun hc => ?_) <;> try omega)
        | ((with_reducible refine g_index ?_); refine s_val hE rfl rfl rfl (r_index1 hE rfl rfl (by omega) (by omega) (by assumption)) ?_; clear hE a; intro a hE)
        )
      exact ret1 hE rfl rfl ⟨rfl, hS.nil⟩
  · obtain rfl : k = 4 := by omega
    rw [List.take_of_length_le (by rw [List.length_map]; omega)] at hsh
    rw [hri, hsh, Bool.and_true]
    by_cases hn : numd p.n
    · rw [decide_eq_true hn]
      have hn1 : 0 ≤ p.n := hn.1
      have hn2 : p.n < 32 := hn.2
      repeat' (first

        | (with_reducible refine wp_seq ?_)
        | (with_reducible refine c_region ?_)
        | (with_reducible refine wpList_nil ?_)
        | (with_reducible refine then_normal ?_)
        | (with_reducible refine wp_ret ?_)
        | (with_reducible refine wp_exit ?_)
        | (with_reducible refine then_exit ?_)
        | (with_reducible refine block_same ?_)
        | ((with_reducible refine g_move ?_); refine s_move hE rfl rfl ?_; clear hE a; intro a hE)
        | ((with_reducible refine g_assign ?_); refine s_assign hE rfl rfl ?_; clear hE a; intro a hE)
        | ((with_reducible refine g_bin .lss ?_); refine s_lss hE rfl rfl rfl ?_; clear hE a; intro a hE)
        | ((with_reducible refine g_bin .geq ?_); refine s_geq hE rfl rfl rfl ?_; clear hE a; intro a hE)
        | ((with_reducible refine g_fa ?_); refine s_fieldL hE rfl rfl rfl ?_; clear hE a; intro a hE)
        | ((with_reducible refine g_guard ?_); refine gd_yes hE rfl rfl rfl ?_)
        | ((with_reducible refine g_guard ?_); refine gd_dec hE rfl rfl (fun hc hE2 => ?_) (fun hc hE2 => ?_) <;> (try omega) <;> (replace hE := hE2; clear hE2))
        | ((with_reducible refine g_pick ?_); refine s_pickT hE rfl rfl rfl ?_; clear hE a; intro a hE)
        | ((with_reducible refine g_cond ?_); refine c_false hE rfl ?_)
        | ((with_reducible refine g_load ?_); (first | (refine s_loadB (k := 0) hS hE rfl rfl rfl rfl ?_) ); clear hE a; intro a hE)
        )
      exact ret1 hE rfl rfl ⟨by rw [decide_eq_true hn2], hS.nil⟩
    · rw [decide_eq_false hn]
      have hn1 : ¬ (0 ≤ p.n ∧ p.n < 32) := hn
      repeat' (first

        | (with_reducible refine wp_seq ?_)
        | (with_reducible refine c_region ?_)
        | (with_reducible refine wpList_nil ?_)
        | (with_reducible refine then_normal ?_)
        | (with_reducible refine wp_ret ?_)
        | (with_reducible refine wp_exit ?_)
        | (with_reducible refine then_exit ?_)
        | (with_reducible refine block_same ?_)
        | ((with_reducible refine g_move ?_); refine s_move hE rfl rfl ?_; clear hE a; intro a hE)
        | ((with_reducible refine g_assign ?_); refine s_assign hE rfl rfl ?_; clear hE a; intro a hE)
        | ((with_reducible refine g_bin .lss ?_); refine s_lss hE rfl rfl rfl ?_; clear hE a; intro a hE)
        | ((with_reducible refine g_bin .geq ?_); refine s_geq hE rfl rfl rfl ?_; clear hE a; intro a hE)
        | ((with_reducible refine g_fa ?_); refine s_fieldL hE rfl rfl rfl ?_; clear hE a; intro a hE)
        | ((with_reducible refine g_guard ?_); refine gd_yes hE rfl rfl rfl ?_)
        | ((with_reducible refine g_guard ?_); refine gd_no hE rfl rfl rfl rfl ?_; clear hE a; intro a hE)
        | ((with_reducible refine g_guard ?_); refine gd_dec hE rfl rfl (fun hc hE2 => ?_) (fun hc hE2 => ?_) <;> (try omega) <;> (replace hE := hE2; clear hE2))
        | ((with_reducible refine g_pick ?_); refine s_pickT hE rfl rfl rfl ?_; clear hE a; intro a hE)
        | ((with_reducible refine g_pick ?_); refine s_pickF hE rfl rfl rfl ?_; clear hE a; intro a hE)
        | ((with_reducible refine g_cond ?_); refine c_false hE rfl ?_)
        | ((with_reducible refine g_load ?_); (first | (refine s_loadB (k := 0) hS hE rfl rfl rfl rfl ?_) ); clear hE a; intro a hE)
        )
      · exact ret1 hE rfl rfl ⟨by rw [decide_eq_false (by omega)], hS.nil⟩
      · exact ret1 hE rfl rfl ⟨rfl, hS.nil⟩
end
end Go.Proofs.Ytaiahigeejodaaa
