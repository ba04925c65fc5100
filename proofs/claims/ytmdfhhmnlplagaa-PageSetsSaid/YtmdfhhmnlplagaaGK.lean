/-
  A page handed in as an argument; which pages are the same.
-/
import Derived.Test.YtmdfhhmnlplagaaGJ
import Derived.Test.YtmdfhhmnlplagaaKr
import Derived.Test.YtmdfhhmnlplagaaKp
namespace Go.Proofs.Ytmdfhhmnlplagaa
open Go.RowKit
set_option linter.unusedVariables false
set_option linter.unusedSimpArgs false
attribute [local irreducible] Rd hRow hBlk hRd hRdr rowsP Fn hMarks

theorem bytes_ub : ∀ {l : List Int}, (∀ n ∈ l, (Lit.int .u8 n).wf = true) → (l.flatMap fun n => [Value.int .u8 n]) = bys (l.map Int.toNat)
  | [], _ => rfl
  | n :: l, h => by
    have h1 := wf_u8 (h n (List.mem_cons_self ..))
    have ih := bytes_ub (l := l) fun m hm => h m (List.mem_cons_of_mem _ hm)
    rw [List.flatMap_cons, ih, List.map_cons]
    show _ = Value.int .u8 ((n.toNat : Nat) : Int) :: bys _
    rw [Int.toNat_of_nonneg h1.1]
    rfl
theorem bs_ub {l : List Int} (h : ∀ n ∈ l, (Lit.int .u8 n).wf = true) : Bs (l.map Int.toNat) := by
  intro c hc
  obtain ⟨n, hn, rfl⟩ := List.mem_map.1 hc
  have := wf_u8 (h n hn)
  omega
abbrev BT := Option Addr × Nat × List Int
def BT.ok (W : World) (q : BT) : Prop := Rd W q.1 (q.2.2.flatMap fun n => [Value.int .u8 n]) ∧ q.2.2.length ≤ q.2.1 ∧ q.2.1 ≤ maxLen ∧ q.2.2.length * 1 ≤ 140737488351232 ∧ ∀ y ∈ q.2.2, (Lit.int .u8 y).wf = true ∧ [Value.int .u8 y].length = 1
abbrev PT := Int × Int × List BT × Unit
def PT.cells (y : PT) : List Value := [Value.int .i64 y.1] ++ ([Value.int .u64 y.2.1] ++ ((y.2.2.1.flatMap fun q : BT => [Value.slice q.1 q.2.2.length q.2.1]) ++ []))
def PT.ok (W : World) (y : PT) : Prop := (Lit.int .i64 y.1).wf = true ∧ (Lit.int .u64 y.2.1).wf = true ∧ (y.2.2.1.length = 4 ∧ ∀ q ∈ y.2.2.1, BT.ok W q) ∧ True
def BT.sl (q : BT) : Sl := ⟨q.1, q.2.1, q.2.2.map Int.toNat⟩
def PT.pg (y : PT) : Pg := ⟨y.1, y.2.1.toNat, y.2.2.1.map BT.sl⟩
theorem PT.cells_pg {W : World} {y : PT} (h : y.ok W) : y.cells = y.pg.cells := by
  obtain ⟨h1, h2, ⟨h3, h4⟩, _⟩ := h
  have e2 := wf_u64 h2
  unfold PT.cells PT.pg Pg.cells
  dsimp only
  rw [Int.toNat_of_nonneg e2.1, List.append_nil, List.map_map]
  have : ∀ l : List BT, (l.flatMap fun q : BT => [Value.slice q.1 q.2.2.length q.2.1]) = l.map (Sl.v ∘ BT.sl) := by
    intro l
    induction l with
    | nil => rfl
    | cons q l ih =>
      rw [List.flatMap_cons, List.map_cons, ih]
      show [Value.slice q.1 q.2.2.length q.2.1] ++ _ = Value.slice q.1 (q.2.2.map Int.toNat).length q.2.1 :: _
      rw [List.length_map]
      rfl
  rw [this]
  rfl
theorem BT.rd {W : World} {q : BT} (h : BT.ok W q) : Rd W q.1 (bys (q.2.2.map Int.toNat)) := by
  obtain ⟨a1, a2, a3, a4, a5⟩ := h
  rw [bytes_ub fun n hn => (a5 n hn).1] at a1
  exact a1
theorem BT.bs {W : World} {q : BT} (h : BT.ok W q) : Bs (q.2.2.map Int.toNat) := bs_ub fun n hn => (h.2.2.2.2 n hn).1
theorem PT.pg_rd {W : World} {y : PT} (h : y.ok W) : y.pg.rd W := by
  obtain ⟨h1, h2, ⟨h3, h4⟩, _⟩ := h
  intro s hs
  obtain ⟨q, hq, rfl⟩ := List.mem_map.1 hs
  exact BT.rd (h4 q hq)
theorem PT.pg_wf {W : World} {y : PT} (h : y.ok W) : y.pg.wf := by
  obtain ⟨h1, h2, ⟨h3, h4⟩, _⟩ := h
  have e1 := wf_i64 h1
  have e2 := wf_u64 h2
  refine ⟨by show (y.2.2.1.map BT.sl).length = 4; rw [List.length_map, h3], e1, by show y.2.1.toNat < _; omega, fun s hs => ?_⟩
  obtain ⟨q, hq, rfl⟩ := List.mem_map.1 hs
  have hb := BT.bs (h4 q hq)
  obtain ⟨a1, a2, a3, a4, a5⟩ := h4 q hq
  exact ⟨by show (q.2.2.map Int.toNat).length ≤ q.2.1; rw [List.length_map]; exact a2, by show (q.2.2.map Int.toNat).length ≤ _; rw [List.length_map]; omega, hb⟩
theorem rowsP_rdAt {w0 w : World} {H : List HP} {l : List Sl} {k : Nat} (hS : St w0 w H) (hk : H[k]? = some (rowsP l)) : ∀ s ∈ l, Rd w s.A (bys s.b) := rowsP_rd (hS.focus hk)
section
variable {H : List HP} {w0 w : World}
set_option maxHeartbeats 8000000
theorem law_PageSame (y y2 : PT) (w0 : World) (h : y.ok w0) (h2 : y2.ok w0) : Fn Try.prog 5 [.agg y.cells.toArray, .agg y2.cells.toArray] w0 fun v w' => v = .bool true ∧ St w0 w' [] := by
  rw [PT.cells_pg h, PT.cells_pg h2]
  have hr := PT.pg_rd h
  have hr2 := PT.pg_rd h2
  have hp := PT.pg_wf h
  have hq := PT.pg_wf h2
  generalize y.pg = p at hr hp
  generalize y2.pg = q at hr2 hq
  have hcl : p.cells.length = 6 := by simp [hp.s4]
  have hcl2 : q.cells.length = 6 := by simp [hq.s4]
  refine enter 24 Try.func5 rfl rfl rfl ?_
  intro a hE
  have hS := St.start w0
  refine wp_seq ?_
  refine c_region ?_
  refine s_boxS hE hS rfl rfl ?_
  clear hE a hS; intro b2 a w hE hS
  refine s_boxS hE hS rfl rfl ?_
  clear hE a hS; intro b3 a w hE hS
  repeat' (first

    | (with_reducible refine wp_seq ?_)
    | (with_reducible refine c_region ?_)
    | (with_reducible refine wpList_nil ?_)
    | (with_reducible refine then_normal ?_)
    | ((with_reducible refine g_assign ?_); refine s_assign hE rfl rfl ?_; clear hE a; intro a hE)
    )
  refine s_call hE rfl rfl rfl (wakes w) ?_
  rintro _ w ⟨rfl, hS1⟩; clear hE a; intro a hE; replace hS := hS.frame hS1; clear hS1; try simp only [List.cons_append, List.nil_append] at hS
  repeat' (first

    | (with_reducible refine wp_seq ?_)
    | (with_reducible refine wpList_nil ?_)
    | (with_reducible refine then_normal ?_)
    | (with_reducible refine wp_skip ?_)
    | ((with_reducible refine g_un .not ?_); refine s_notb hE rfl rfl ?_; clear hE a; intro a hE)
    | ((with_reducible refine g_cond ?_); refine c_false hE rfl ?_)
    )
  refine c_ordK hS 0 rfl 5 ((.rd 2 (.ef 0 (.ef 1 (.ef 3 (.ef 4 (.lt 5 .done))))))) mixed (by decide +kernel) ?_
  clear hS; intro w hF hS
  repeat' (first
    | (with_reducible refine o_rd rfl ?_)
    | ((with_reducible refine o_ef rfl ?_))
    | ((with_reducible refine q_load ?_); (first | (refine d_val hE hS rfl (fun w hS => r_loadW (k := 0) hS hE rfl rfl (by assumption)) ?_) ); clear hE a; intro a hE)
    )
  refine g_load ?_
  refine s_loadW (k := 1) hF hE rfl rfl hcl rfl ?_
  clear hE a; intro a hE
  refine wpList_nil ?_
  refine o_back _ (fun _ h => h) (hF.only 0 rfl) ?_
  clear hS; have hS := hF.only 0 rfl
  repeat' (first
    | ((with_reducible refine o_ef rfl ?_))
    )
  refine s_call hE rfl rfl rfl (short p hp (hr.st hF)) ?_
  rintro _ w ⟨p', rfl, hpm, hpw, hS1⟩; clear hE a; intro a hE; replace hF := hF.frame hS1; clear hS1; simp only [List.cons_append, List.nil_append] at hF
  refine wpList_nil ?_
  refine o_back _ (fun _ h => h) (hF.only 1 rfl) ?_
  clear hS; have hS := hF.only 1 rfl
  repeat' (first
    | ((with_reducible refine o_ef rfl ?_))
    )
  refine s_call hE rfl rfl rfl (short q hq (hr2.st hF)) ?_
  rintro _ w ⟨q', rfl, hqm, hqw, hS1⟩; clear hE a; intro a hE; replace hF := hF.frame hS1; clear hS1; simp only [List.cons_append, List.nil_append] at hF
  refine wpList_nil ?_
  refine o_back _ (fun _ h => h) (hF.only 2 rfl) ?_
  clear hS; have hS := hF.only 2 rfl
  repeat' (first
    | ((with_reducible refine o_ef rfl ?_))
    )
  have hcl3 : p'.cells.length = 6 := by simp [hpw.s4]
  have hcl4 : q'.cells.length = 6 := by simp [hqw.s4]
  have hone3 := Pg.cells_one p'
  have hone4 := Pg.cells_one q'
  refine g_store ?_
  refine s_storeW (k := 3) hF hE rfl rfl rfl hcl3 hcl hone3 ?_
  clear hF; intro w hF; simp only [List.set_cons_zero, List.set_cons_succ] at hF
  refine wpList_nil ?_
  refine o_back _ (fun _ h => h) (hF.only 2 rfl) ?_
  clear hS; have hS := hF; clear hF
  repeat' (first
    | ((with_reducible refine o_lt rfl ?_))
    )
  repeat' (first

    | (with_reducible refine wpList_nil ?_)
    | ((with_reducible refine g_store ?_); (first | (refine s_storeW (k := 2) hS hE rfl rfl rfl (by assumption) (by first | assumption) (by first | assumption) ?_) ); clear hS; intro w hS; simp only [List.set_cons_zero, List.set_cons_succ, Nat.add_zero] at hS)
    )
  refine o_backL ?_
  repeat' (first
    | (with_reducible refine o_done ?_)
    )
  repeat' (first

    | (with_reducible refine wp_seq ?_)
    | (with_reducible refine then_normal ?_)
    )
  refine c_ordH [hBlk b3 30 q'.cells, hBlk b2 30 p'.cells] hS (fun u hu => hu.tail.tail) 13 ((.rd 0 (.rd 1 (.rd 3 (.rd 4 (.ef 2 (.ef 5 (.rd 6 (.rd 7 (.rd 8 (.rd 9 (.ef 10 (.ef 11 (.rd 12 (.lt 13 .done))))))))))))))) mixed (by decide +kernel) ?_
  clear hS; intro w hF hS
  repeat' (first
    | (with_reducible refine o_rd rfl ?_)
    | ((with_reducible refine o_ef rfl ?_))
    | ((with_reducible refine q_load ?_); (first | (refine d_val hE hS rfl (fun w hS => r_loadW (k := 0) hS hE rfl rfl (by assumption)) ?_) | (refine d_val hE hS rfl (fun w hS => r_loadW (k := 1) hS hE rfl rfl (by assumption)) ?_) ); clear hE a; intro a hE)
    )
  refine s_call hE rfl rfl rfl (sameP p' q' hpw hqw (rowsP_rdAt hF (k := 1) rfl) (rowsP_rdAt hF (k := 0) rfl)) ?_
  rintro _ w ⟨rfl, hS1⟩; clear hE a; intro a hE; replace hF := hF.frame hS1; clear hS1; simp only [List.nil_append] at hF
  refine wpList_nil ?_
  refine o_back _ (fun _ h => h) hF.tail.tail ?_
  clear hS; have hS := hF.tail.tail
  repeat' (first
    | ((with_reducible refine o_ef rfl ?_))
    )
  refine s_call hE rfl rfl rfl (rsameP p' q' hpw hqw (rowsP_rdAt hF (k := 1) rfl) (rowsP_rdAt hF (k := 0) rfl)) ?_
  rintro _ w ⟨rfl, hS1⟩; clear hE a; intro a hE; replace hF := hF.frame hS1; clear hS1; simp only [List.nil_append] at hF
  refine wpList_nil ?_
  refine o_back _ (fun _ h => h) hF.tail.tail ?_
  clear hS; have hS := hF.tail.tail
  generalize decide (p'.m = q'.m) = x at hE
  repeat' (first
    | (with_reducible refine o_rd rfl ?_)
    | ((with_reducible refine q_move ?_); refine d_val hE hS rfl (fun w hS => r_move hE rfl) ?_; clear hE a; intro a hE)
    | ((with_reducible refine q_bin .eql ?_); refine d_val hE hS rfl (fun w hS => r_eqb hE rfl rfl) ?_; clear hE a; intro a hE)
    | ((with_reducible refine q_guard ?_); refine d_yes hE rfl rfl rfl ?_)
    | ((with_reducible refine q_guard ?_); refine d_no hE hS rfl rfl rfl rfl ?_; clear hE a; intro a hE)
    | ((with_reducible refine q_guard ?_); refine d_dec hE rfl rfl (fun hc hE2 => ?_) (fun hc hE2 => ?_) <;> (try omega) <;> (replace hE := hE2; clear hE2))
    | ((with_reducible refine o_ef rfl ?_))
    | ((with_reducible refine q_load ?_); (first | (refine d_val hE hS rfl (fun w hS => r_loadW (k := 1) hS hE rfl rfl (by assumption)) ?_) ); clear hE a; intro a hE)
    )
  · refine gd_yes hE rfl rfl rfl ?_
    refine s_call hE rfl rfl rfl (rcopy p' hpw (rowsP_rdAt hF (k := 1) rfl)) ?_
    rintro _ w ⟨r', rfl, hrm, hrw, hS1⟩; clear hE a; intro a hE; replace hF := hF.frame hS1; clear hS1; simp only [List.cons_append, List.nil_append] at hF
    refine wpList_nil ?_
    refine o_back _ (fun _ h => h) hF.tail.tail.tail ?_
    clear hS; have hS := hF.tail.tail.tail
    repeat' (first
      | ((with_reducible refine o_ef rfl ?_))
      )
    refine gd_yes hE rfl rfl rfl ?_
    refine s_call hE rfl rfl rfl (sameP p' r' hpw hrw (rowsP_rdAt hF (k := 2) rfl) (rowsP_rdAt hF (k := 0) rfl)) ?_
    rintro _ w ⟨rfl, hS1⟩; clear hE a; intro a hE; replace hF := hF.frame hS1; clear hS1; simp only [List.nil_append] at hF
    rw [decide_eq_true hrm.symm] at hE
    refine wpList_nil ?_
    refine o_back _ (fun _ h => h) hF.tail.tail.tail ?_
    clear hS; have hS := hF.tail.tail.tail
    repeat' (first
      | (with_reducible refine o_rd rfl ?_)
      | ((with_reducible refine q_pick ?_); refine d_val hE hS rfl (fun w hS => r_pickT hE rfl rfl) ?_; clear hE a; intro a hE)
      | ((with_reducible refine o_lt rfl ?_))
      )
    repeat' (first

      | (with_reducible refine wpList_nil ?_)
      | ((with_reducible refine g_assign ?_); refine s_assign hE rfl rfl ?_; clear hE a; intro a hE)
      )
    refine o_backL ?_
    repeat' (first
      | (with_reducible refine o_done ?_)
      )
    repeat' (first

      | (with_reducible refine then_normal ?_)
      | (with_reducible refine wp_ret ?_)
      )
    exact ret1 hE rfl rfl ⟨rfl, hF.nil⟩
  · exact absurd rfl hc
end
end Go.Proofs.Ytmdfhhmnlplagaa
