/-
  A log on a disk whose power may go: what is found there, and found again (no program in sight).
-/
import Derived.Test.YtfoeelghehjanaaXB
namespace Go.Proofs.Ytfoeelghehjanaa
open Go.RowKit
set_option linter.unusedVariables false
set_option linter.unusedSimpArgs false

theorem two_heads {S : List Blk} (h : 2 ≤ S.length) : (S.drop 0).take 2 = [atB S 0, atB S 1] := by
  rw [ar_eq (by omega)]
  rfl
theorem head_find {S : List Blk} {W : WM} (h : Base S W) : findP S.length ((S.drop 0).take 2) 2 = (W.turn, W.area, true) := by
  have hl := h.len
  have h4 := h.four
  have ha := h.ok.area
  have ht := h.ok.turn
  rw [two_heads (by omega)]
  have hr := headR_head (sec := S.length) ht ⟨h4, ha⟩ hl
  have e1 := hT_head (t := W.turn) (a := W.area) ht
  have e2 := hN_head (t := W.turn) (a := W.area) (by omega)
  have hh := h.head
  have ho := h.other
  have hoth : atB S ((W.turn + 1) % 2) = noughts ∨ (1 ≤ W.turn ∧ atB S ((W.turn + 1) % 2) = headB (W.turn - 1) W.area) := by
    by_cases h0 : W.turn = 0
    · rw [if_pos h0] at ho; exact .inl ho
    · rw [if_neg h0] at ho; exact .inr ⟨by omega, ho⟩
  show findStep S.length (findStep S.length (0, 0, false) 0 (atB S 0)) 1 (atB S 1) = _
  rcases mod2 W.turn with ⟨m1, m2⟩ | ⟨m1, m2⟩
  · rw [m1] at hr hh
    rw [m2] at hoth
    have s0 : findStep S.length (0, 0, false) 0 (atB S 0) = (W.turn, W.area, true) := by
      rw [hh]
      unfold findStep
      rw [if_pos ⟨hr, fun h => by cases h.1⟩, e1, e2]
    rw [s0]
    unfold findStep
    rcases hoth with ho | ⟨hp, ho⟩
    · rw [ho]; exact if_neg fun h => headR_noughts _ _ h.1
    · rw [ho, hT_head (by omega)]
      exact if_neg fun h => h.2 ⟨rfl, by show W.turn - 1 < W.turn; omega⟩
  · rw [m1] at hr hh
    rw [m2] at hoth
    have s1 : ∀ acc : Nat × Nat × Bool, (acc.2.2 = true → acc.1 ≤ W.turn) → findStep S.length acc 1 (atB S 1) = (W.turn, W.area, true) := by
      intro acc hacc
      rw [hh]
      unfold findStep
      rw [e1, e2, if_pos ⟨hr, fun h => by have := hacc h.1; omega⟩]
    refine s1 _ ?_
    rcases hoth with ho | ⟨hp, ho⟩
    · intro h2
      rw [ho] at h2
      unfold findStep at h2
      rw [if_neg fun h => headR_noughts _ _ h.1] at h2
      cases h2
    · intro h2
      rw [ho]
      unfold findStep
      split
      · dsimp only
        rw [hT_head (by omega)]; omega
      · exact Nat.zero_le _
theorem rdl_alive : ∀ {n k : Nat} {D : DM} {at_ : Nat}, D.alive → D.pend = [] → at_ + k + n ≤ D.safe.length → D.rdl (fromL (at_ : Int) k n) = ({ D with ops := D.ops + n }, (D.safe.drop (at_ + k)).take n, 0)
  | 0, k, D, at_, h, hp, hl => by
    show (D, ([] : List Blk), (0 : Int)) = _
    rw [List.take_zero]
    simp
  | n + 1, k, D, at_, h, hp, hl => by
    have hr : D.read ((at_ : Int) + (k : Int)) = ({ D with ops := D.ops + 1 }, D.safe.getD ((at_ : Int) + (k : Int)).toNat noughts, 0) := by
      unfold DM.read
      rw [ready_alive h (by omega) (by omega)]
      dsimp only
      rw [if_pos rfl, holds_calm hp]
    rw [fromL_cons]
    unfold DM.rdl
    rw [hr]
    dsimp only
    rw [if_pos rfl, rdl_alive (D := { D with ops := D.ops + 1 }) ⟨h.dead, h.fails⟩ hp (by show at_ + (k + 1) + n ≤ D.safe.length; omega)]
    dsimp only
    have e1 : ((at_ : Int) + (k : Int)).toNat = at_ + k := by omega
    rw [e1, List.drop_eq_getElem_cons (l := D.safe) (i := at_ + k) (by omega), List.take_succ_cons, List.getD_eq_getElem?_getD, List.getElem?_eq_getElem (by omega), Option.getD_some]
    refine Prod.ext ?_ rfl
    dsimp only
    congr 1
    push_cast
    omega
theorem rds_alive {D : DM} {at_ n : Nat} (h : D.alive) (hp : D.pend = []) (hl : at_ + n ≤ D.safe.length) : D.rds (at_ : Int) n = ({ D with ops := D.ops + n }, (D.safe.drop at_).take n, 0) :=
  rdl_alive (k := 0) h hp hl
theorem fin_len {S : List Blk} {W : WM} (h : Base S W) : (framesB W.turn 0 W.list).length = W.fin := by rw [← h.own, ar_len]
theorem chain_torn {S : List Blk} {W : WM} (h : LaidT S W) : chain ((S.drop (fromN W.turn W.area)).take W.area) W.turn = (W.list, W.fin) := by
  have hin := from_in h.toBase W.turn
  have hf := h.ok.fin
  rw [ar_eq hin, show W.area = W.fin + (W.area - W.fin) by omega, ar_add, show W.fin + (W.area - W.fin) = W.area by omega, h.own,
    chain_frames (fun b hb => (h.ok.bs b hb).2) (h.rest.none h.ok.turn (by have := list_lt h.ok; omega) h.blk), fin_len h.toBase]
/-- the sectors that are laid noughts over -/
theorem torn_mem {S : List Blk} {at_ a fin : Nat} (hf : fin ≤ a) {x : Int} (hx : x ∈ torn (ar S at_ a) (at_ : Int) fin (a - fin)) : ∃ i, fin ≤ i ∧ i < a ∧ x = ((at_ + i : Nat) : Int) := by
  unfold torn at hx
  obtain ⟨i, hi, rfl⟩ := List.mem_map.1 hx
  have h1 := List.mem_range'_1.1 (List.mem_filter.1 hi).1
  exact ⟨i, h1.1, by omega, by push_cast; rfl⟩
theorem mem_torn {S : List Blk} {at_ a fin i : Nat} (h1 : fin ≤ i) (h2 : i < a) (h3 : atB S (at_ + i) ≠ noughts) : ((at_ + i : Nat) : Int) ∈ torn (ar S at_ a) (at_ : Int) fin (a - fin) := by
  unfold torn
  refine List.mem_map.2 ⟨i, List.mem_filter.2 ⟨List.mem_range'_1.2 ⟨h1, by omega⟩, ?_⟩, by push_cast; rfl⟩
  rw [List.getD_eq_getElem?_getD, ar_get h2]
  simpa using h3
abbrev wipeL (S : List Blk) (W : WM) : List Int := torn (ar S (fromN W.turn W.area) W.area) ((fromN W.turn W.area : Nat) : Int) W.fin (W.area - W.fin)
theorem wiped {S S' : List Blk} {W : WM} (h : LaidT S W) (hS : Half S ((wipeL S W).map fun i => (i, noughts)) S') : LaidT S' W ∧ ∀ i, i < W.area - W.fin → atB S' (fromN W.turn W.area + W.fin + i) = atB S (fromN W.turn W.area + W.fin + i) ∨ atB S' (fromN W.turn W.area + W.fin + i) = noughts := by
  have hfi := h.ok.fin
  have key : ∀ i, atB S' i = atB S i ∨ (fromN W.turn W.area + W.fin ≤ i ∧ i < fromN W.turn W.area + W.area ∧ atB S' i = noughts) := by
    intro i
    rcases hS.2 i with h1 | ⟨x, hx, h1, h2⟩
    · exact .inl h1
    · obtain ⟨y, hy, rfl⟩ := List.mem_map.1 hx
      obtain ⟨j, j1, j2, rfl⟩ := torn_mem hfi hy
      dsimp only at h1 h2
      exact .inr ⟨by omega, by omega, h2⟩
  have hok := half_ok hS h.blk (fun x hx => by
    obtain ⟨y, _, rfl⟩ := List.mem_map.1 hx
    exact noughts_ok)
  have hf := from_two W.turn W.area
  have hsame : ∀ i, (i < fromN W.turn W.area + W.fin ∨ fromN W.turn W.area + W.area ≤ i) → atB S' i = atB S i := by
    intro i hi
    rcases key i with h1 | ⟨h1, h2, _⟩
    · exact h1
    · omega
  have hrest : ∀ i, i < W.area - W.fin → atB S' (fromN W.turn W.area + W.fin + i) = atB S (fromN W.turn W.area + W.fin + i) ∨ atB S' (fromN W.turn W.area + W.fin + i) = noughts := by
    intro i hi
    rcases key (fromN W.turn W.area + W.fin + i) with h1 | ⟨_, _, h1⟩
    · exact .inl h1
    · exact .inr h1
  refine ⟨⟨h.toBase.keep hS.1 hok (fun i hi => hsame i (.inl (by omega))) (fun i hi => hsame _ (.inl (by omega))) (fun i hi => ?_), ?_⟩, hrest⟩
  · rw [hsame _ (by rcases from_cases W.turn W.area with ⟨h3, h4, _⟩ | ⟨h3, h4, _⟩ <;> omega)]
    exact h.oth i hi
  · obtain ⟨b, hb, h1, j, hj, h2⟩ := h.rest
    refine ⟨b, hb, fun i hi => ?_, j, hj, fun hjm => ?_⟩
    · rcases hrest i hi with h3 | h3
      · rw [h3]; exact h1 i hi
      · rw [h3]; exact .inl (.inl rfl)
    · rcases hrest j hjm with h3 | h3
      · rw [h3]; exact h2 hjm
      · rw [h3]; exact .inl rfl
theorem opn_step {D : DM} {W : WM} (h : LaidT D.safe W) (ha : D.alive) (hp : D.pend = []) :
    ∃ D1 : DM, D1 = { D with ops := D1.ops } ∧ D.opn = (if wipeL D.safe W ≠ [] then (if (D1.wipe (wipeL D.safe W)).2 ≠ 0 then ((D1.wipe (wipeL D.safe W)).1, none, (D1.wipe (wipeL D.safe W)).2) else ((D1.wipe (wipeL D.safe W)).1, some ⟨W.area, W.turn, W.list, W.fin, false⟩, 0)) else (D1, some ⟨W.area, W.turn, W.list, W.fin, false⟩, 0)) := by
  have hl := h.len
  have h4 := h.four
  have hin := from_in h.toBase W.turn
  have hr1 := rds_alive (at_ := 0) (n := 2) ha hp (by omega)
  have hl2 : ((D.safe.drop 0).take 2).length = 2 := by rw [List.length_take, List.drop_zero]; omega
  unfold DM.opn
  rw [hr1]
  dsimp only
  rw [if_neg (fun h => h rfl), hl2, head_find h.toBase]
  dsimp only
  rw [if_neg (by decide)]
  unfold DM.opn2
  have hr2 := rds_alive (D := { D with ops := D.ops + (2 : Nat) }) (at_ := fromN W.turn W.area) (n := W.area) ⟨ha.dead, ha.fails⟩ hp hin
  dsimp only at hr2
  rw [hr2]
  dsimp only
  rw [if_neg (fun h => h rfl)]
  unfold DM.opn3
  rw [chain_torn h, ar_eq hin]
  dsimp only
  have hne : W.list ≠ [] := by have := h.ok.ne; intro e; rw [e] at this; exact absurd this (by decide)
  rw [if_neg hne]
  refine ⟨{ D with ops := D.ops + (2 : Nat) + (W.area : Int) }, rfl, ?_⟩
  by_cases ht : wipeL D.safe W = []
  · rw [show torn (ar D.safe (fromN W.turn W.area) W.area) ((fromN W.turn W.area : Nat) : Int) W.fin (W.area - W.fin) = [] from ht, if_neg (show ¬ (([] : List Int) ≠ [] ∨ D.pend ≠ []) from fun h => h.elim (fun h => h rfl) (fun h => h hp)), if_neg (fun h => h rfl), if_neg (fun h => h ht)]
  · rw [if_pos (show torn (ar D.safe (fromN W.turn W.area) W.area) ((fromN W.turn W.area : Nat) : Int) W.fin (W.area - W.fin) ≠ [] ∨ D.pend ≠ [] from .inl ht), if_pos (show wipeL D.safe W ≠ [] from ht)]
/-- Open, on a disk that lives -/
theorem opn_alive {D : DM} {W : WM} (h : LaidT D.safe W) (ha : D.alive) (hp : D.pend = []) (hw : W.broken = false) :
    ((D.opn).2.1 = some W ∧ D.opn.2.2 = 0 ∧ D.opn.1.alive ∧ D.opn.1.pend = [] ∧ Clean D.opn.1.safe W) ∨ (D.opn.2.1 = none ∧ D.opn.2.2 = 9 ∧ ∀ keep, LaidT (D.opn.1.crash keep).safe W) := by
  obtain ⟨D1, e1, e2⟩ := opn_step h ha hp
  have hW : (⟨W.area, W.turn, W.list, W.fin, false⟩ : WM) = W := by rw [← hw]
  rw [hW] at e2
  have hs : D1.safe = D.safe := by rw [e1]
  have hp1 : D1.pend = [] := by rw [e1]; exact hp
  have ha1 : D1.alive := by rw [e1]; exact ⟨ha.dead, ha.fails⟩
  have hin := from_in h.toBase W.turn
  have hfi := h.ok.fin
  by_cases ht : wipeL D.safe W = []
  · rw [if_neg (fun h => h ht)] at e2
    rw [e2]
    refine .inl ⟨rfl, rfl, ha1, hp1, ?_⟩
    show Clean D1.safe W
    rw [hs]
    refine ⟨h.toBase, fun i hi => ?_⟩
    apply Classical.byContradiction
    intro hne
    have := mem_torn (S := D.safe) (at_ := fromN W.turn W.area) (a := W.area) (fin := W.fin) (i := W.fin + i) (by omega) (by omega) (by rw [← Nat.add_assoc]; exact hne)
    rw [show torn (ar D.safe (fromN W.turn W.area) W.area) ((fromN W.turn W.area : Nat) : Int) W.fin (W.area - W.fin) = [] from ht] at this
    cases this
  · rw [if_pos ht] at e2
    have hrange : ∀ x ∈ (wipeL D.safe W).map fun i => (i, noughts), 0 ≤ x.1 ∧ x.1 < D1.safe.length := by
      intro x hx
      obtain ⟨y, hy, rfl⟩ := List.mem_map.1 hx
      obtain ⟨j, j1, j2, rfl⟩ := torn_mem hfi hy
      rw [hs]
      dsimp only
      omega
    have hl := h.len
    rcases wss_crash (l := (wipeL D.safe W).map fun i => (i, noughts)) ha1 hp1 (by rw [hs]; omega) hrange with ⟨f, f2, f3, f4⟩ | ⟨f, f2⟩
    · unfold DM.wipe at e2
      rw [if_neg (by rw [f]; exact fun h => h rfl)] at e2
      rw [e2]
      refine .inl ⟨rfl, rfl, f2, f3, ?_⟩
      dsimp only
      rw [f4, hs]
      have hS := half_layT D.safe ((wipeL D.safe W).map fun i => (i, noughts))
      obtain ⟨g1, g2⟩ := wiped h hS
      refine ⟨g1.toBase, fun i hi => ?_⟩
      by_cases hne : atB D.safe (fromN W.turn W.area + W.fin + i) = noughts
      · rcases g2 i hi with g3 | g3
        · rw [g3]; exact hne
        · exact g3
      · have hm := mem_torn (S := D.safe) (at_ := fromN W.turn W.area) (a := W.area) (fin := W.fin) (i := W.fin + i) (by omega) (by omega) (by rw [← Nat.add_assoc]; exact hne)
        have := layT_in (c := noughts) ((wipeL D.safe W).map fun i => (i, noughts)) D.safe (fun y hy => by
          obtain ⟨z, _, rfl⟩ := List.mem_map.1 hy
          rfl) (((fromN W.turn W.area + (W.fin + i) : Nat) : Int), noughts) (List.mem_map.2 ⟨_, hm, rfl⟩) (by dsimp only; omega)
        rw [show ((fromN W.turn W.area + (W.fin + i) : Nat) : Int).toNat = fromN W.turn W.area + W.fin + i by omega] at this
        exact this
    · unfold DM.wipe at e2
      rw [if_pos (by rw [f]; decide)] at e2
      rw [e2]
      refine .inr ⟨rfl, f, fun keep => ?_⟩
      have := f2 keep
      rw [hs] at this
      exact (wiped h this).1
/-- Open, on a disk that does what it is told -/
theorem opn_calm {D : DM} {W : WM} (h : LaidT D.safe W) (hc : D.calm) (hp : D.pend = []) (hw : W.broken = false) :
    ((D.opn).2.1 = some W ∧ D.opn.2.2 = 0 ∧ D.opn.1.pend = [] ∧ Clean D.opn.1.safe W) ∧ D.opn.1.calm := by
  obtain ⟨D1, e1, e2⟩ := opn_step h hc.alive hp
  have hs : D1.safe = D.safe := by rw [e1]
  have hp1 : D1.pend = [] := by rw [e1]; exact hp
  have hc1 : D1.calm := by rw [e1]; exact ⟨hc.dead, hc.armed, hc.fails⟩
  have hl := h.len
  have hin := from_in h.toBase W.turn
  have hfi := h.ok.fin
  have h9 : D.opn.2.2 ≠ 9 ∧ D.opn.1.calm := by
    rw [e2]
    split
    · have hw2 := wss_calm0 (l := (wipeL D.safe W).map fun i => (i, noughts)) hc1 (by rw [hs]; omega) hp1 (by
        intro x hx
        obtain ⟨y, hy, rfl⟩ := List.mem_map.1 hx
        obtain ⟨j, j1, j2, rfl⟩ := torn_mem hfi hy
        rw [hs]
        dsimp only
        omega)
      unfold DM.wipe
      rw [hw2]
      dsimp only
      rw [if_neg (fun h => h rfl)]
      exact ⟨(by decide : (0 : Int) ≠ 9), hc1.dead, hc1.armed, hc1.fails⟩
    · exact ⟨(by decide : (0 : Int) ≠ 9), hc1⟩
  rcases opn_alive h hc.alive hp hw with ⟨a1, a2, a3, a4, a5⟩ | ⟨_, a2, _⟩
  · exact ⟨⟨a1, a2, a4, a5⟩, h9.2⟩
  · exact absurd a2 h9.1
/-- Open again: nothing is written -/
theorem opn_again {D : DM} {W : WM} (h : Clean D.safe W) (ha : D.alive) (hp : D.pend = []) (hw : W.broken = false) : ∃ D1 : DM, D1 = { D with ops := D1.ops } ∧ D.opn = (D1, some W, 0) := by
  obtain ⟨D1, e1, e2⟩ := opn_step h.laid.torn ha hp
  have hW : (⟨W.area, W.turn, W.list, W.fin, false⟩ : WM) = W := by rw [← hw]
  rw [hW] at e2
  have hfi := h.ok.fin
  have ht : wipeL D.safe W = [] := by
    refine torn_none fun i h1 h2 => ?_
    rw [List.getD_eq_getElem?_getD, ar_get (by omega)]
    have := h.rest (i - W.fin) (by omega)
    rw [show fromN W.turn W.area + W.fin + (i - W.fin) = fromN W.turn W.area + i by omega] at this
    exact this
  rw [if_neg (fun h => h ht)] at e2
  exact ⟨D1, e1, e2⟩
/-- a new log -/
theorem fmt_clean {D : DM} {a : Nat} (ha : 4 ≤ a ∧ a ≤ 1000) (hs : D.safe = headB 0 a :: noughts :: (partsB 0 0 [] ++ List.replicate (2 + 2 * a - 3) noughts)) : Clean D.safe ⟨a, 0, [[]], 1, false⟩ := by
  have hp1 : (partsB 0 0 []).length = 1 := partsB_len ..
  have hlen : D.safe.length = 2 + 2 * a := by rw [hs]; simp [hp1]; omega
  have hat : ∀ i, 3 ≤ i → atB D.safe i = noughts := by
    intro i hi
    show D.safe.getD i noughts = _
    rw [hs, List.getD_eq_getElem?_getD, show i = (i - 3) + 1 + 1 + 1 by omega, List.getElem?_cons_succ, List.getElem?_cons_succ, List.getElem?_append_right (by omega), List.getElem?_replicate]
    split <;> rfl
  have h2 : atB D.safe 2 = partB 0 0 [] 0 := by
    show D.safe.getD 2 noughts = _
    rw [hs]
    rfl
  refine ⟨⟨⟨ha.2, by show 1 ≤ a; omega, by show 0 < _; decide, by show 1 ≤ 1; decide, fun b hb => ?_, by show 1 ≤ 1; decide⟩, ha.1, by rw [hlen]; exact Nat.le_refl _, ?_, ?_, ?_, ?_, ?_⟩, ?_⟩
  · rw [List.mem_singleton] at hb; subst hb; exact ⟨fun c hc => (by cases hc), by decide⟩
  · intro x hx
    rw [hs] at hx
    rcases List.mem_cons.1 hx with rfl | hx
    · exact headB_ok _ _
    · rcases List.mem_cons.1 hx with rfl | hx
      · exact noughts_ok
      · rcases List.mem_append.1 hx with hx | hx
        · exact partsB_ok (fun c hc => by cases hc) (by decide) x hx
        · rw [List.eq_of_mem_replicate hx]; exact noughts_ok
  · show D.safe.getD 0 noughts = _
    rw [hs]; rfl
  · show D.safe.getD 1 noughts = _
    rw [hs]; rfl
  · show ar D.safe (fromN 0 a) 1 = partsB 0 0 [] ++ []
    rw [List.append_nil, show fromN 0 a = 2 by simp [fromN]]
    show [atB D.safe (2 + 0)] = [partB 0 0 [] 0]
    rw [h2]
  · intro i hi
    rw [hat _ (by show 3 ≤ fromN (0 + 1) a + i; simp [fromN] <;> omega)]
    exact .inl rfl
  · intro i hi
    exact hat _ (by show 3 ≤ fromN 0 a + 1 + i; simp [fromN] <;> omega)
end Go.Proofs.Ytfoeelghehjanaa
