/-
  A page handed in as an argument; which pages are the same.
-/
import Derived.Test.YtaiahigeejodaaaGJ
import Derived.Test.YtaiahigeejodaaaKr
import Derived.Test.YtaiahigeejodaaaKp
namespace Go.Proofs.Ytaiahigeejodaaa
open Go.RowKit
set_option linter.unusedVariables false
set_option linter.unusedSimpArgs false
attribute [local irreducible] Rd hRow hBlk hRd hRdr rowsP Fn hMarks

theorem bytes_ub : ∀ {l : List Int}, (∀ n ∈ l, (Lit.int .u8 n).wf = true) → (l.flatMap fun n => [Value.int .u8 n]) = bys (l.map Int.toNat)
  | [], _ => rfl
  | n :: l, h => by
    have h1 := wf_u8 (h n (List.mem_cons_self ..))
    have ih := bytes_ub (l := l) fun m hm => h m (List.mem_cons_of_mem _ hm)
    rw [List.flatMap_cons, ih, List.map_cons]
    show _ = Value.int .u8 ((n.toNat : Nat) : Int) :: bys _
    rw [Int.toNat_of_nonneg h1.1]
    rfl
theorem bs_ub {l : List Int} (h : ∀ n ∈ l, (Lit.int .u8 n).wf = true) : Bs (l.map Int.toNat) := by
  intro c hc
  obtain ⟨n, hn, rfl⟩ := List.mem_map.1 hc
  have := wf_u8 (h n hn)
  omega
abbrev BT := Option Addr × Nat × List Int
def BT.ok (W : World) (q : BT) : Prop := Rd W q.1 (q.2.2.flatMap fun n => [Value.int .u8 n]) ∧ q.2.2.length ≤ q.2.1 ∧ q.2.1 ≤ maxLen ∧ q.2.2.length * 1 ≤ 140737488351232 ∧ ∀ y ∈ q.2.2, (Lit.int .u8 y).wf = true ∧ [Value.int .u8 y].length = 1
abbrev PT := Int × Int × List BT × Unit
def PT.cells (y : PT) : List Value := [Value.int .i64 y.1] ++ ([Value.int .u64 y.2.1] ++ ((y.2.2.1.flatMap fun q : BT => [Value.slice q.1 q.2.2.length q.2.1]) ++ []))
def PT.ok (W : World) (y : PT) : Prop := (Lit.int .i64 y.1).wf = true ∧ (Lit.int .u64 y.2.1).wf = true ∧ (y.2.2.1.length = 4 ∧ ∀ q ∈ y.2.2.1, BT.ok W q) ∧ True
def BT.sl (q : BT) : Sl := ⟨q.1, q.2.1, q.2.2.map Int.toNat⟩
def PT.pg (y : PT) : Pg := ⟨y.1, y.2.1.toNat, y.2.2.1.map BT.sl⟩
theorem PT.cells_pg {W : World} {y : PT} (h : y.ok W) : y.cells = y.pg.cells := by
  obtain ⟨h1, h2, ⟨h3, h4⟩, _⟩ := h
  have e2 := wf_u64 h2
  unfold PT.cells PT.pg Pg.cells
  dsimp only
  rw [Int.toNat_of_nonneg e2.1, List.append_nil, List.map_map]
  have : ∀ l : List BT, (l.flatMap fun q : BT => [Value.slice q.1 q.2.2.length q.2.1]) = l.map (Sl.v ∘ BT.sl) := by
    intro l
    induction l with
    | nil => rfl
    | cons q l ih =>
      rw [List.flatMap_cons, List.map_cons, ih]
      show [Value.slice q.1 q.2.2.length q.2.1] ++ _ = Value.slice q.1 (q.2.2.map Int.toNat).length q.2.1 :: _
      rw [List.length_map]
      rfl
  rw [this]
  rfl
theorem BT.rd {W : World} {q : BT} (h : BT.ok W q) : Rd W q.1 (bys (q.2.2.map Int.toNat)) := by
  obtain ⟨a1, a2, a3, a4, a5⟩ := h
  rw [bytes_ub fun n hn => (a5 n hn).1] at a1
  exact a1
theorem BT.bs {W : World} {q : BT} (h : BT.ok W q) : Bs (q.2.2.map Int.toNat) := bs_ub fun n hn => (h.2.2.2.2 n hn).1
theorem PT.pg_rd {W : World} {y : PT} (h : y.ok W) : y.pg.rd W := by
  obtain ⟨h1, h2, ⟨h3, h4⟩, _⟩ := h
  intro s hs
  obtain ⟨q, hq, rfl⟩ := List.mem_map.1 hs
  exact BT.rd (h4 q hq)
theorem PT.pg_wf {W : World} {y : PT} (h : y.ok W) : y.pg.wf := by
  obtain ⟨h1, h2, ⟨h3, h4⟩, _⟩ := h
  have e1 := wf_i64 h1
  have e2 := wf_u64 h2
  refine ⟨by show (y.2.2.1.map BT.sl).length = 4; rw [List.length_map, h3], e1, by show y.2.1.toNat < _; omega, fun s hs => ?_⟩
  obtain ⟨q, hq, rfl⟩ := List.mem_map.1 hs
  have hb := BT.bs (h4 q hq)
  obtain ⟨a1, a2, a3, a4, a5⟩ := h4 q hq
  exact ⟨by show (q.2.2.map Int.toNat).length ≤ q.2.1; rw [List.length_map]; exact a2, by show (q.2.2.map Int.toNat).length ≤ _; rw [List.length_map]; omega, hb⟩
theorem rowsP_rdAt {w0 w : World} {H : List HP} {l : List Sl} {k : Nat} (hS : St w0 w H) (hk : H[k]? = some (rowsP l)) : ∀ s ∈ l, Rd w s.A (bys s.b) := rowsP_rd (hS.focus hk)
section
variable {H : List HP} {w0 w : World}
set_option maxHeartbeats 8000000
end
end Go.Proofs.Ytaiahigeejodaaa
