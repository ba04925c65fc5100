/-
  A record handed in as an argument.
-/
import Derived.Test.YtmfcffeoooegcaaRL
import Derived.Test.YtmfcffeoooegcaaKr
namespace Go.Proofs.Ytmfcffeoooegcaa
open Go.RowKit
set_option linter.unusedVariables false
set_option linter.unusedSimpArgs false
attribute [local irreducible] Rd hRow hBlk hRd hAll Fn hRdr

theorem bytes_ub : ∀ {l : List Int}, (∀ n ∈ l, (Lit.int .u8 n).wf = true) → (l.flatMap fun n => [Value.int .u8 n]) = bys (l.map Int.toNat)
  | [], _ => rfl
  | n :: l, h => by
    have h1 := wf_u8 (h n (List.mem_cons_self ..))
    have ih := bytes_ub (l := l) fun m hm => h m (List.mem_cons_of_mem _ hm)
    rw [List.flatMap_cons, ih, List.map_cons]
    show _ = Value.int .u8 ((n.toNat : Nat) : Int) :: bys _
    rw [Int.toNat_of_nonneg h1.1]
    rfl
theorem bs_ub {l : List Int} (h : ∀ n ∈ l, (Lit.int .u8 n).wf = true) : Bs (l.map Int.toNat) := by
  intro c hc
  obtain ⟨n, hn, rfl⟩ := List.mem_map.1 hc
  have := wf_u8 (h n hn)
  omega
abbrev BT := Option Addr × Nat × List Int
abbrev RT := Int × Int × Int × Int × Int × Int × BT × BT × Int × Unit
def RT.cells (y : RT) : List Value :=
  [Value.int .u64 y.1] ++ ([Value.int .i64 y.2.1] ++ ([Value.int .u64 y.2.2.1] ++ ([Value.int .u64 y.2.2.2.1] ++ ([Value.int .i64 y.2.2.2.2.1] ++ ([Value.int .i64 y.2.2.2.2.2.1] ++
    ([Value.slice y.2.2.2.2.2.2.1.1 y.2.2.2.2.2.2.1.2.2.length y.2.2.2.2.2.2.1.2.1] ++ ([Value.slice y.2.2.2.2.2.2.2.1.1 y.2.2.2.2.2.2.2.1.2.2.length y.2.2.2.2.2.2.2.1.2.1] ++ ([Value.int .u64 y.2.2.2.2.2.2.2.2.1] ++ []))))))))
def BT.ok (W : World) (q : BT) : Prop := Rd W q.1 (q.2.2.flatMap fun n => [Value.int .u8 n]) ∧ q.2.2.length ≤ q.2.1 ∧ q.2.1 ≤ maxLen ∧ q.2.2.length * 1 ≤ 140737488351232 ∧ ∀ y ∈ q.2.2, (Lit.int .u8 y).wf = true ∧ [Value.int .u8 y].length = 1
def RT.ok (W : World) (y : RT) : Prop :=
  (Lit.int .u64 y.1).wf = true ∧ (Lit.int .i64 y.2.1).wf = true ∧ (Lit.int .u64 y.2.2.1).wf = true ∧ (Lit.int .u64 y.2.2.2.1).wf = true ∧ (Lit.int .i64 y.2.2.2.2.1).wf = true ∧ (Lit.int .i64 y.2.2.2.2.2.1).wf = true ∧
    BT.ok W y.2.2.2.2.2.2.1 ∧ BT.ok W y.2.2.2.2.2.2.2.1 ∧ (Lit.int .u64 y.2.2.2.2.2.2.2.2.1).wf = true ∧ True
def RT.rc (y : RT) : Rc := ⟨y.1.toNat, y.2.1, y.2.2.1.toNat, y.2.2.2.1.toNat, y.2.2.2.2.1, y.2.2.2.2.2.1, y.2.2.2.2.2.2.1.2.2.map Int.toNat, y.2.2.2.2.2.2.2.1.2.2.map Int.toNat, y.2.2.2.2.2.2.2.2.1.toNat, y.2.2.2.2.2.2.1.1, y.2.2.2.2.2.2.2.1.1, y.2.2.2.2.2.2.1.2.1, y.2.2.2.2.2.2.2.1.2.1⟩
theorem RT.cells_rc {W : World} {y : RT} (h : y.ok W) : y.cells = y.rc.cells := by
  obtain ⟨h1, h2, h3, h4, h5, h6, h7, h8, h9, _⟩ := h
  have e1 := wf_u64 h1
  have e3 := wf_u64 h3
  have e4 := wf_u64 h4
  have e9 := wf_u64 h9
  unfold RT.cells Rc.cells RT.rc
  dsimp only
  rw [List.length_map, List.length_map, Int.toNat_of_nonneg e1.1, Int.toNat_of_nonneg e3.1, Int.toNat_of_nonneg e4.1, Int.toNat_of_nonneg e9.1]
  rfl
theorem RT.rc_rd {W : World} {y : RT} (h : y.ok W) : y.rc.rd W := by
  obtain ⟨h1, h2, h3, h4, h5, h6, ⟨a1, a2, a3, a4, a5⟩, ⟨b1, b2, b3, b4, b5⟩, h9, _⟩ := h
  rw [bytes_ub fun n hn => (a5 n hn).1] at a1
  rw [bytes_ub fun n hn => (b5 n hn).1] at b1
  exact ⟨a1, b1⟩
theorem RT.rc_wf {W : World} {y : RT} (h : y.ok W) : y.rc.wf := by
  obtain ⟨h1, h2, h3, h4, h5, h6, ⟨a1, a2, a3, a4, a5⟩, ⟨b1, b2, b3, b4, b5⟩, h9, _⟩ := h
  have e1 := wf_u64 h1
  have e3 := wf_u64 h3
  have e4 := wf_u64 h4
  have e9 := wf_u64 h9
  refine ⟨?_, ?_, ?_, ?_, wf_i64 h2, wf_i64 h5, wf_i64 h6, bs_ub fun n hn => (a5 n hn).1, bs_ub fun n hn => (b5 n hn).1, ?_, ?_⟩ <;> simp only [RT.rc, List.length_map] <;> omega
/-- the same record, its rows elsewhere -/
theorem Rc.at_wf {r : Rc} (h : r.wf) {A : Option Addr} {c : Nat} {B : Option Addr} {d : Nat} (hc : r.o.length ≤ c) (hd : r.w.length ≤ d) : (r.at_ A c B d).wf :=
  ⟨h.l, h.t, h.b, h.n, h.k, h.p, h.s, h.o, h.w, ⟨hc, h.ol.2⟩, ⟨hd, h.wl.2⟩⟩
end Go.Proofs.Ytmfcffeoooegcaa
