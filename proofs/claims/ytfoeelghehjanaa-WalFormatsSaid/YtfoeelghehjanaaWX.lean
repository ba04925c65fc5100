/-
  What is done to a log, as arguments; what a log does on a disk that does what it is told.
-/
import Derived.Test.YtfoeelghehjanaaWV
import Derived.Test.YtfoeelghehjanaaKp
import Derived.Test.YtfoeelghehjanaaKr
namespace Go.Proofs.Ytfoeelghehjanaa
open Go.RowKit
set_option linter.unusedVariables false
set_option linter.unusedSimpArgs false
/-! ## Operations as arguments -/
abbrev OT := Int × Int × Int × (Option Addr × Nat × List Bool) × Unit
def OT.cells (y : OT) : List Value := [Value.int .i64 y.1] ++ ([Value.int .i64 y.2.1] ++ ([Value.int .u8 y.2.2.1] ++ ([Value.slice y.2.2.2.1.1 y.2.2.2.1.2.2.length y.2.2.2.1.2.1] ++ [])))
def OT.ok (W : World) (y : OT) : Prop :=
  (Lit.int .i64 y.1).wf = true ∧ (Lit.int .i64 y.2.1).wf = true ∧ (Lit.int .u8 y.2.2.1).wf = true ∧
    (Rd W y.2.2.2.1.1 (y.2.2.2.1.2.2.flatMap fun b => [Value.bool b]) ∧ y.2.2.2.1.2.2.length ≤ y.2.2.2.1.2.1 ∧ y.2.2.2.1.2.1 ≤ maxLen ∧ y.2.2.2.1.2.2.length * 1 ≤ 140737488351232 ∧ ∀ b ∈ y.2.2.2.1.2.2, True ∧ [Value.bool b].length = 1) ∧ True
def OT.wop (y : OT) : WOp := ⟨y.1, y.2.1, y.2.2.1.toNat, y.2.2.2.1.1, y.2.2.2.1.2.1, y.2.2.2.1.2.2⟩
theorem OT.cells_wop {W : World} {y : OT} (h : y.ok W) : y.cells = y.wop.cells := by
  obtain ⟨h1, h2, h3, _⟩ := h
  have e3 := wf_u8 h3
  unfold OT.cells WOp.cells OT.wop
  dsimp only
  rw [Int.toNat_of_nonneg e3.1]
  rfl
theorem OT.wop_rd {W : World} {y : OT} (h : y.ok W) : y.wop.rd W := by
  obtain ⟨h1, h2, h3, ⟨a1, _⟩, _⟩ := h
  have e : ∀ l : List Bool, (l.flatMap fun b => [Value.bool b]) = l.map Value.bool := by
    intro l
    induction l with
    | nil => rfl
    | cons b l ih => rw [List.flatMap_cons, ih]; rfl
  rw [e] at a1
  exact a1
theorem OT.wop_wf {W : World} {y : OT} (h : y.ok W) : y.wop.wf := by
  obtain ⟨h1, h2, h3, ⟨a1, a2, a3, a4, _⟩, _⟩ := h
  have e3 := wf_u8 h3
  exact ⟨wf_i64 h1, wf_i64 h2, by show y.2.2.1.toNat < 256; omega, ⟨a2, by show y.2.2.2.1.2.2.length ≤ _; omega⟩⟩
abbrev LT := Option Addr × Nat × List OT
def LT.ok (W : World) (q : LT) : Prop := Rd W q.1 (q.2.2.flatMap OT.cells) ∧ q.2.2.length ≤ q.2.1 ∧ q.2.1 ≤ maxLen ∧ q.2.2.length * 48 ≤ 140737488351232 ∧ ∀ y ∈ q.2.2, OT.ok W y ∧ (OT.cells y).length = 4
def LT.wops (q : LT) : List WOp := q.2.2.map OT.wop
theorem LT.len (q : LT) : q.wops.length = q.2.2.length := by simp [LT.wops]
theorem LT.rd {W : World} {q : LT} (h : q.ok W) : Rd W q.1 (q.wops.flatMap WOp.cells) := by
  have key : ∀ l : List OT, (∀ y ∈ l, OT.ok W y ∧ (OT.cells y).length = 4) → l.flatMap OT.cells = (l.map OT.wop).flatMap WOp.cells := by
    intro l
    induction l with
    | nil => intro _; rfl
    | cons y l ih =>
      intro h
      rw [List.flatMap_cons, List.map_cons, List.flatMap_cons, ih fun z hz => h z (by simp [hz]), OT.cells_wop (h y (by simp)).1]
  have := h.1
  rw [key _ h.2.2.2.2] at this
  exact this
theorem LT.all {W : World} {q : LT} (h : q.ok W) : ∀ o ∈ q.wops, o.wf ∧ o.rd W := by
  intro o ho
  obtain ⟨y, hy, rfl⟩ := List.mem_map.1 ho
  exact ⟨OT.wop_wf (h.2.2.2.2 y hy).1, OT.wop_rd (h.2.2.2.2 y hy).1⟩
theorem LT.cap {W : World} {q : LT} (h : q.ok W) : q.wops.length ≤ q.2.1 ∧ q.wops.length ≤ 9223372036854775807 := by
  rw [LT.len]
  exact ⟨h.2.1, by have := h.2.2.2.1; omega⟩
/-! ## Calm disks -/
theorem app_calm {W : WM} {D : DM} {b : List Nat} (hW : W.ok) (hb : Bs b) (hl : b.length ≤ 40000) (hbr : W.broken = false) (hc : D.calm) (hp : D.pend = []) (hs : 2 + 2 * W.area ≤ D.safe.length) :
    (W.app D b).2.2 = (if secN b.length ≤ W.area - W.fin then 0 else 6) ∧ (W.app D b).2.1.calm ∧ (W.app D b).2.1.pend = [] ∧ (W.app D b).2.1.safe.length = D.safe.length ∧
    (W.app D b).1 = (if secN b.length ≤ W.area - W.fin then { W with list := W.list ++ [b], fin := W.fin + secN b.length, broken := false } else W) := by
  have hfin := hW.fin
  have hf2 : W.turn % 2 < 2 := Nat.mod_lt _ (by decide)
  have hsp := secN_pos hl
  unfold WM.app
  have hre : ¬ W.readyE b.length ≠ 0 := by
    unfold WM.readyE
    rw [if_neg (by omega), hbr]
    exact fun h => h rfl
  rw [if_neg hre]
  by_cases hr : secN b.length ≤ W.area - W.fin
  · rw [if_neg (by omega), if_pos hr, if_pos hr]
    have hfr : fromN W.turn W.area + W.fin + secN b.length ≤ D.safe.length := by
      unfold fromN
      generalize W.turn % 2 = m at hf2
      rcases (by omega : m = 0 ∨ m = 1) with rfl | rfl <;> omega
    have hw := wrs_calm (at_ := fromN W.turn W.area + W.fin) (l := partsB W.turn W.list.length b) hc hp (by omega) (by rw [partsB_len]; exact hfr)
    rw [hw]
    dsimp only
    rw [if_pos rfl]
    exact ⟨rfl, ⟨hc.dead, hc.armed, hc.fails⟩, rfl, spliceB_len (by rw [partsB_len]; exact hfr), rfl⟩
  · rw [if_pos (by omega), if_neg hr, if_neg hr]
    exact ⟨rfl, hc, hp, rfl, rfl⟩
theorem chk_calm {W : WM} {D : DM} {b : List Nat} (hW : W.ok) (hb : Bs b) (hl : b.length ≤ 40000) (hbr : W.broken = false) (ht : W.turn < 4294967295) (hc : D.calm) (hp : D.pend = []) (hs : 2 + 2 * W.area ≤ D.safe.length) :
    (W.chk D b).2.2 = (if secN b.length ≤ W.area then 0 else 6) ∧ (W.chk D b).2.1.calm ∧ (W.chk D b).2.1.pend = [] ∧ (W.chk D b).2.1.safe.length = D.safe.length ∧
    (W.chk D b).1 = (if secN b.length ≤ W.area then { W with turn := W.turn + 1, list := [b], fin := secN b.length, broken := false } else W) := by
  have hf2 : (W.turn + 1) % 2 < 2 := Nat.mod_lt _ (by decide)
  have hsp := secN_pos hl
  unfold WM.chk
  have hre : ¬ W.readyE b.length ≠ 0 := by
    unfold WM.readyE
    rw [if_neg (by omega), hbr]
    exact fun h => h rfl
  rw [if_neg hre]
  by_cases hr : secN b.length ≤ W.area
  · rw [if_neg (by omega), if_pos hr, if_pos hr]
    have hfr : fromN (W.turn + 1) W.area + secN b.length ≤ D.safe.length := by
      unfold fromN
      generalize (W.turn + 1) % 2 = m at hf2
      rcases (by omega : m = 0 ∨ m = 1) with rfl | rfl <;> omega
    have hw := wrs_calm (at_ := fromN (W.turn + 1) W.area) (l := partsB (W.turn + 1) 0 b) hc hp (by omega) (by rw [partsB_len]; exact hfr)
    rw [hw]
    dsimp only
    rw [if_pos rfl]
    have hsl := spliceB_len (s := D.safe) (at_ := fromN (W.turn + 1) W.area) (l := partsB (W.turn + 1) 0 b) (by rw [partsB_len]; exact hfr)
    have hw2 := wrs_calm (D := { D with safe := spliceB D.safe (fromN (W.turn + 1) W.area) (partsB (W.turn + 1) 0 b), pend := [], ops := D.ops + (partsB (W.turn + 1) 0 b).length + 1 }) (at_ := (W.turn + 1) % 2) (l := [headB (W.turn + 1) W.area]) ⟨hc.dead, hc.armed, hc.fails⟩ rfl (by show 1 ≤ (spliceB _ _ _).length; omega) (by show _ + 1 ≤ (spliceB _ _ _).length; omega)
    dsimp only at hw2
    rw [hw2]
    dsimp only
    rw [if_pos rfl]
    refine ⟨rfl, ⟨hc.dead, hc.armed, hc.fails⟩, rfl, ?_, rfl⟩
    show (spliceB (spliceB _ _ _) _ _).length = _
    rw [spliceB_len (by rw [hsl]; show (W.turn + 1) % 2 + 1 ≤ _; omega), hsl]
  · rw [if_pos (by omega), if_neg hr, if_neg hr]
    exact ⟨rfl, hc, hp, rfl, rfl⟩
end Go.Proofs.Ytfoeelghehjanaa
