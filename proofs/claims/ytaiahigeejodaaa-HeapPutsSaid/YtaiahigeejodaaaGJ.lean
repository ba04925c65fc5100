/-
  Contracts: are two pages the same, by the document and by the program?
-/
import Derived.Test.YtaiahigeejodaaaGI
namespace Go.Proofs.Ytaiahigeejodaaa
open Go.RowKit
set_option linter.unusedVariables false
set_option linter.unusedSimpArgs false
attribute [local irreducible] Rd hRow hBlk hRd hRdr rowsP Fn hMarks

theorem Pg.cell {p : Pg} {k : Nat} (hk : k < p.s.length) : p.cells[0 + 2 + ((k : Nat) : Int).toNat * 1]? = some (p.s[k]'hk).v := by
  rw [show 0 + 2 + ((k : Nat) : Int).toNat * 1 = k + 2 by omega]
  show (p.s.map Sl.v)[k]? = _
  rw [List.getElem?_map, List.getElem?_eq_getElem hk]
  rfl
theorem pm_eq (a b : PM) : (a = b) ↔ (a.s = b.s ∧ a.n = b.n ∧ a.l = b.l) := by
  cases a; cases b
  simp only [PM.mk.injEq]
  constructor
  · rintro ⟨h1, h2, h3⟩; exact ⟨h3, h1, h2⟩
  · rintro ⟨h1, h2, h3⟩; exact ⟨h2, h3, h1⟩
instance : DecidableEq PM := fun a b => decidable_of_iff (a.s = b.s ∧ a.n = b.n ∧ a.l = b.l) (pm_eq a b).symm
section
variable {H : List HP} {w0 w : World}
set_option maxHeartbeats 8000000
theorem rsameP (p q : Pg) (hp : p.wf) (hq : q.wf) (hr : p.rd w0) (hr2 : q.rd w0) : Fn Try.prog 45 [.agg p.cells.toArray, .agg q.cells.toArray] w0 fun v w' => v = .bool (decide (p.m = q.m)) ∧ St w0 w' [] := by
  have hpe := pm_eq p.m q.m
  obtain ⟨h1, h2, h3, h4⟩ := hp
  obtain ⟨g1, g2, g3, g4⟩ := hq
  have hcl : p.cells.length = 6 := by simp [h1]
  have hcl2 : q.cells.length = 6 := by simp [g1]
  refine enter 33 Try.func45 rfl rfl rfl ?_
  intro a hE
  have hS := St.start w0
  refine wp_seq ?_
  refine c_region ?_
  refine s_boxS hE hS rfl rfl ?_
  clear hE a hS; intro b2 a w hE hS
  refine s_boxS hE hS rfl rfl ?_
  clear hE a hS; intro b3 a w hE hS
  repeat' (first

    | (with_reducible refine wp_seq ?_)
    | (with_reducible refine c_region ?_)
    | (with_reducible refine wpList_nil ?_)
    | (with_reducible refine then_normal ?_)
    | (with_reducible refine wp_block ?_)
    | ((with_reducible refine g_move ?_); refine s_move hE rfl rfl ?_; clear hE a; intro a hE)
    | ((with_reducible refine g_assign ?_); refine s_assign hE rfl rfl ?_; clear hE a; intro a hE)
    )
  refine wp_loop_ghost (fun q' a w => ∃ (k : Nat), k + q' = 4 ∧ (p.s.map Sl.b).take k = (q.s.map Sl.b).take k ∧ St w0 w [hBlk b3 74 q.cells, hBlk b2 74 p.cells] ∧ Env 33 [(6, .int .i64 (k : Int)), (2, .pointer (some ⟨b2, 0, none⟩)), (3, .pointer (some ⟨b3, 0, none⟩))] a) 4
    ⟨0, by omega, rfl, hS, hE.sub ⟨rfl, rfl, rfl, trivial⟩⟩ ?_
  clear hE a hS
  rintro q' a w ⟨k, hk, heq, hS, hE⟩
  by_cases hk1 : k < 4
  · have hks : k < p.s.length := by omega
    have hkq : k < q.s.length := by omega
    have hv := Pg.cell hks
    have hv2 := Pg.cell hkq
    have hrk := hr _ (List.getElem_mem hks)
    have hrk2 := hr2 _ (List.getElem_mem hkq)
    have h4k := h4 _ (List.getElem_mem hks)
    have g4k := g4 _ (List.getElem_mem hkq)
    have hst : (p.s.map Sl.b).take (k + 1) = (p.s.map Sl.b).take k ++ [(p.s[k]'hks).b] := by
      rw [List.take_succ_eq_append_getElem (by rw [List.length_map]; exact hks), List.getElem_map]
    have hst2 : (q.s.map Sl.b).take (k + 1) = (q.s.map Sl.b).take k ++ [(q.s[k]'hkq).b] := by
      rw [List.take_succ_eq_append_getElem (by rw [List.length_map]; exact hkq), List.getElem_map]
    have hne : (p.s[k]'hks).b ≠ (q.s[k]'hkq).b → ¬ p.m = q.m := by
      intro hn hm
      have hms := congrArg PM.s hm
      apply hn
      have e1 : (p.s.map Sl.b)[k]? = some (p.s[k]'hks).b := by rw [List.getElem?_map, List.getElem?_eq_getElem hks]; rfl
      have e2 : (q.s.map Sl.b)[k]? = some (q.s[k]'hkq).b := by rw [List.getElem?_map, List.getElem?_eq_getElem hkq]; rfl
      have e3 : p.s.map Sl.b = q.s.map Sl.b := hms
      rw [e3, e2] at e1
      exact (Option.some.inj e1).symm
    generalize (p.s[k]'hks) = s at hv hrk h4k hst hne
    generalize (q.s[k]'hkq) = t at hv2 hrk2 g4k hst2 hne
    repeat' (first

      | (with_reducible refine wp_seq ?_)
      | (with_reducible refine c_region ?_)
      | (with_reducible refine wpList_nil ?_)
      | (with_reducible refine then_normal ?_)
      | (with_reducible refine wp_skip ?_)
      | (with_reducible refine wp_block ?_)
      | ((with_reducible refine g_move ?_); refine s_move hE rfl rfl ?_; clear hE a; intro a hE)
      | ((with_reducible refine g_assign ?_); refine s_assign hE rfl rfl ?_; clear hE a; intro a hE)
      | ((with_reducible refine g_bin .lss ?_); refine s_lss hE rfl rfl rfl ?_; clear hE a; intro a hE)
      | ((with_reducible refine g_cond ?_); refine c_dec hE rfl (fun hc => ?_) (fun hc => ?_) <;> try omega)
      )
    refine c_ordS hS 11 ((.rd 0 (.rd 1 (.rd 2 (.rd 3 (.rd 4 (.rd 5 (.rd 6 (.rd 7 (.rd 8 (.rd 9 (.rd 10 .done)))))))))))) mixed (by decide +kernel) ?_
    clear hS; intro w hS
    repeat' (first
      | (with_reducible refine o_rd rfl ?_)
      | ((with_reducible refine q_move ?_); refine d_val hE hS rfl (fun w hS => r_move hE rfl) ?_; clear hE a; intro a hE)
      | ((with_reducible refine q_fa ?_); refine d_val hE hS rfl (fun w hS => r_fieldL hE rfl rfl) ?_; clear hE a; intro a hE)
      | ((with_reducible refine q_ia ?_); refine d_val hE hS rfl (fun w hS => r_idxP hE rfl rfl (by omega) (by omega)) ?_; clear hE a; intro a hE)
      )
    refine d_val hE hS rfl (fun w hS => r_loadB (k := 1) hS hE rfl rfl hv) ?_; clear hE a; intro a hE
    repeat' (first
      | (with_reducible refine o_rd rfl ?_)
      )
    refine d_val hE hS rfl (fun w hS => r_str hE rfl (hrk.st hS) rfl) ?_; clear hE a; intro a hE
    repeat' (first
      | (with_reducible refine o_rd rfl ?_)
      | ((with_reducible refine q_move ?_); refine d_val hE hS rfl (fun w hS => r_move hE rfl) ?_; clear hE a; intro a hE)
      | ((with_reducible refine q_fa ?_); refine d_val hE hS rfl (fun w hS => r_fieldL hE rfl rfl) ?_; clear hE a; intro a hE)
      | ((with_reducible refine q_ia ?_); refine d_val hE hS rfl (fun w hS => r_idxP hE rfl rfl (by omega) (by omega)) ?_; clear hE a; intro a hE)
      )
    refine d_val hE hS rfl (fun w hS => r_loadB (k := 0) hS hE rfl rfl hv2) ?_; clear hE a; intro a hE
    repeat' (first
      | (with_reducible refine o_rd rfl ?_)
      )
    refine d_val hE hS rfl (fun w hS => r_str hE rfl (hrk2.st hS) rfl) ?_; clear hE a; intro a hE
    repeat' (first
      | (with_reducible refine o_rd rfl ?_)
      )
    refine d_val hE hS rfl (fun w hS => r_sne hE rfl rfl) ?_; clear hE a; intro a hE
    rw [str_beq h4k.2.2 g4k.2.2] at hE
    repeat' (first
      | (with_reducible refine o_done ?_)
      )
    repeat' (first

      | (with_reducible refine wp_seq ?_)
      | (with_reducible refine c_region ?_)
      | (with_reducible refine wpList_nil ?_)
      | (with_reducible refine then_normal ?_)
      | (with_reducible refine wp_skip ?_)
      | (with_reducible refine wp_ret ?_)
      | (with_reducible refine then_ret ?_)
      | (with_reducible refine block_normal ?_)
      | (with_reducible refine block_ret ?_)
      | ((with_reducible refine g_move ?_); refine s_move hE rfl rfl ?_; clear hE a; intro a hE)
      | ((with_reducible refine g_assign ?_); refine s_assign hE rfl rfl ?_; clear hE a; intro a hE)
      | ((with_reducible refine g_bin .add ?_); refine s_add hE rfl rfl rfl (by first  | exact wrap64_in (by omega) ) ?_; clear hE a; intro a hE)
      | ((with_reducible refine g_cond ?_); refine c_bool hE rfl (fun hc => ?_) (fun hc => ?_))

      )
    · exact ret1 hE rfl rfl ⟨by rw [decide_eq_false (hne (by simpa using hc))], hS.nil⟩
    · have hbt : s.b = t.b := by simpa using hc
      exact ⟨q' - 1, by omega, k + 1, by omega, by rw [hst, hst2, heq, hbt], hS, hE.sub ⟨rfl, rfl, rfl, trivial⟩⟩
  · obtain rfl : k = 4 := by omega
    rw [List.take_of_length_le (by rw [List.length_map]; omega), List.take_of_length_le (by rw [List.length_map]; omega)] at heq
    by_cases hn : p.n = q.n
    · by_cases hl : p.l = q.l
      · rw [decide_eq_true (hpe.2 ⟨heq, hn, hl⟩)]
        repeat' (first

          | (with_reducible refine wp_seq ?_)
          | (with_reducible refine c_region ?_)
          | (with_reducible refine wpList_nil ?_)
          | (with_reducible refine then_normal ?_)
          | (with_reducible refine wp_ret ?_)
          | (with_reducible refine wp_exit ?_)
          | (with_reducible refine then_exit ?_)
          | (with_reducible refine block_same ?_)
          | ((with_reducible refine g_move ?_); refine s_move hE rfl rfl ?_; clear hE a; intro a hE)
          | ((with_reducible refine g_assign ?_); refine s_assign hE rfl rfl ?_; clear hE a; intro a hE)
          | ((with_reducible refine g_bin .lss ?_); refine s_lss hE rfl rfl rfl ?_; clear hE a; intro a hE)
          | ((with_reducible refine g_bin .eql ?_); refine s_eql hE rfl rfl rfl ?_; clear hE a; intro a hE)
          | ((with_reducible refine g_fa ?_); refine s_fieldL hE rfl rfl rfl ?_; clear hE a; intro a hE)
          | ((with_reducible refine g_guard ?_); refine gd_yes hE rfl rfl rfl ?_)
          | ((with_reducible refine g_guard ?_); refine gd_dec hE rfl rfl (fun hc hE2 => ?_) (fun hc hE2 => ?_) <;> (try omega) <;> (replace hE := hE2; clear hE2))
          | ((with_reducible refine g_pick ?_); refine s_pickT hE rfl rfl rfl ?_; clear hE a; intro a hE)
          | ((with_reducible refine g_cond ?_); refine c_false hE rfl ?_)
          | ((with_reducible refine g_load ?_); (first | (refine s_loadB (k := 0) hS hE rfl rfl rfl rfl ?_) | (refine s_loadB (k := 1) hS hE rfl rfl rfl rfl ?_) ); clear hE a; intro a hE)
          )
        exact ret1 hE rfl rfl ⟨by rw [decide_eq_true (by omega)], hS.nil⟩
      · rw [decide_eq_false fun h => hl (hpe.1 h).2.2]
        repeat' (first

          | (with_reducible refine wp_seq ?_)
          | (with_reducible refine c_region ?_)
          | (with_reducible refine wpList_nil ?_)
          | (with_reducible refine then_normal ?_)
          | (with_reducible refine wp_ret ?_)
          | (with_reducible refine wp_exit ?_)
          | (with_reducible refine then_exit ?_)
          | (with_reducible refine block_same ?_)
          | ((with_reducible refine g_move ?_); refine s_move hE rfl rfl ?_; clear hE a; intro a hE)
          | ((with_reducible refine g_assign ?_); refine s_assign hE rfl rfl ?_; clear hE a; intro a hE)
          | ((with_reducible refine g_bin .lss ?_); refine s_lss hE rfl rfl rfl ?_; clear hE a; intro a hE)
          | ((with_reducible refine g_bin .eql ?_); refine s_eql hE rfl rfl rfl ?_; clear hE a; intro a hE)
          | ((with_reducible refine g_fa ?_); refine s_fieldL hE rfl rfl rfl ?_; clear hE a; intro a hE)
          | ((with_reducible refine g_guard ?_); refine gd_yes hE rfl rfl rfl ?_)
          | ((with_reducible refine g_guard ?_); refine gd_dec hE rfl rfl (fun hc hE2 => ?_) (fun hc hE2 => ?_) <;> (try omega) <;> (replace hE := hE2; clear hE2))
          | ((with_reducible refine g_pick ?_); refine s_pickT hE rfl rfl rfl ?_; clear hE a; intro a hE)
          | ((with_reducible refine g_cond ?_); refine c_false hE rfl ?_)
          | ((with_reducible refine g_load ?_); (first | (refine s_loadB (k := 0) hS hE rfl rfl rfl rfl ?_) | (refine s_loadB (k := 1) hS hE rfl rfl rfl rfl ?_) ); clear hE a; intro a hE)
          )
        exact ret1 hE rfl rfl ⟨by rw [decide_eq_false (by omega)], hS.nil⟩
    · rw [decide_eq_false fun h => hn (hpe.1 h).2.1]
      repeat' (first

        | (with_reducible refine wp_seq ?_)
        | (with_reducible refine c_region ?_)
        | (with_reducible refine wpList_nil ?_)
        | (with_reducible refine then_normal ?_)
        | (with_reducible refine wp_ret ?_)
        | (with_reducible refine wp_exit ?_)
        | (with_reducible refine then_exit ?_)
        | (with_reducible refine block_same ?_)
        | ((with_reducible refine g_move ?_); refine s_move hE rfl rfl ?_; clear hE a; intro a hE)
        | ((with_reducible refine g_assign ?_); refine s_assign hE rfl rfl ?_; clear hE a; intro a hE)
        | ((with_reducible refine g_bin .lss ?_); refine s_lss hE rfl rfl rfl ?_; clear hE a; intro a hE)
        | ((with_reducible refine g_bin .eql ?_); refine s_eql hE rfl rfl rfl ?_; clear hE a; intro a hE)
        | ((with_reducible refine g_fa ?_); refine s_fieldL hE rfl rfl rfl ?_; clear hE a; intro a hE)
        | ((with_reducible refine g_guard ?_); refine gd_no hE rfl rfl rfl rfl ?_; clear hE a; intro a hE)
        | ((with_reducible refine g_guard ?_); refine gd_dec hE rfl rfl (fun hc hE2 => ?_) (fun hc hE2 => ?_) <;> (try omega) <;> (replace hE := hE2; clear hE2))
        | ((with_reducible refine g_pick ?_); refine s_pickF hE rfl rfl rfl ?_; clear hE a; intro a hE)
        | ((with_reducible refine g_cond ?_); refine c_false hE rfl ?_)
        | ((with_reducible refine g_load ?_); (first | (refine s_loadB (k := 0) hS hE rfl rfl rfl rfl ?_) | (refine s_loadB (k := 1) hS hE rfl rfl rfl rfl ?_) ); clear hE a; intro a hE)
        )
      exact ret1 hE rfl rfl ⟨rfl, hS.nil⟩
end
end Go.Proofs.Ytaiahigeejodaaa
