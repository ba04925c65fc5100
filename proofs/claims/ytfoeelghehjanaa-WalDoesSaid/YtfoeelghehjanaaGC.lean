/-
  Pages in memory; contracts: may a page be, its first free slot.
-/
import Derived.Test.YtfoeelghehjanaaGA
import Derived.Test.YtfoeelghehjanaaGB
namespace Go.Proofs.Ytfoeelghehjanaa
open Go.RowKit
set_option linter.unusedVariables false
set_option linter.unusedSimpArgs false
attribute [local irreducible] Rd hRow hBlk hRd hAll Fn hMarks

/-- a slot in memory; a page in memory -/
structure Sl where
  (A : Option Addr) (c : Nat) (b : List Nat)
abbrev Sl.v (s : Sl) : Value := .slice s.A s.b.length s.c
structure Pg where
  (n : Int) (l : Nat) (s : List Sl)
abbrev Pg.cells (p : Pg) : List Value := .int .i64 p.n :: .int .u64 (p.l : Int) :: p.s.map Sl.v
def Pg.m (p : Pg) : PM := ⟨p.n, p.l, p.s.map Sl.b⟩
def Pg.rd (w : World) (p : Pg) : Prop := ∀ s ∈ p.s, Rd w s.A (bys s.b)
structure Pg.wf (p : Pg) : Prop where
  s4 : p.s.length = 4
  n64 : -9223372036854775808 ≤ p.n ∧ p.n ≤ 9223372036854775807
  l64 : p.l < 18446744073709551616
  sl : ∀ s ∈ p.s, s.b.length ≤ s.c ∧ s.b.length ≤ 140737488351232 ∧ Bs s.b
theorem Pg.slots {p : Pg} (h : p.wf) : (p.cells.drop (0 + 2)).take 4 = p.s.map Sl.v := by
  show (p.s.map Sl.v).take 4 = _
  exact List.take_of_length_le (by rw [List.length_map, h.s4]; exact Nat.le_refl _)
theorem Pg.slot {p : Pg} {k : Nat} (hk : k < p.s.length) : (p.s.map Sl.v)[((k : Nat) : Int).toNat * 1]? = some (p.s[k]'hk).v := by
  rw [Int.toNat_natCast, Nat.mul_one, List.getElem?_map, List.getElem?_eq_getElem hk]; rfl
theorem Pg.wf.ok {p : Pg} (h : p.wf) : p.m.ok where
  s4 := by show (p.s.map Sl.b).length = 4; rw [List.length_map, h.s4]
  l64 := h.l64
  bs := fun x hx => by
    obtain ⟨s, hs, rfl⟩ := List.mem_map.1 hx
    exact (h.sl s hs).2.2
theorem Pg.rd.st {p : Pg} {w0 w : World} {L : List HP} (h : p.rd w0) (hS : St w0 w L) : p.rd w := fun s hs => (h s hs).st hS
def firstIx (pf : List Nat → Bool) : List (List Nat) → Nat → Int
  | [], _ => -1
  | x :: l, k => if pf x then (k : Int) else firstIx pf l (k + 1)
theorem firstIx_any (pf : List Nat → Bool) : ∀ (l : List (List Nat)) (k : Nat), decide (firstIx pf l k ≥ 0) = l.any pf
  | [], k => rfl
  | x :: l, k => by
    unfold firstIx
    rw [List.any_cons]
    cases h : pf x
    · rw [if_neg (by decide), firstIx_any pf l (k + 1), Bool.false_or]
    · rw [if_pos rfl, Bool.true_or]
      exact decide_eq_true (by omega)
theorem firstIx_range (pf : List Nat → Bool) : ∀ (l : List (List Nat)) (k : Nat), -1 ≤ firstIx pf l k ∧ firstIx pf l k < k + l.length
  | [], k => by unfold firstIx; rw [List.length_nil]; omega
  | x :: l, k => by
    unfold firstIx
    have := firstIx_range pf l (k + 1)
    rw [List.length_cons]
    split <;> omega
theorem any_long (s : List (List Nat)) : (s.any fun x => decide (52 < x.length)) = !short52 s := by
  unfold short52
  rw [List.not_all_eq_any_not]
  congr 1
  funext x
  by_cases h : x.length ≤ 52
  · simp [h]
  · simp [h]; omega
theorem firstIx_cons (pf : List Nat → Bool) (x : List Nat) (l : List (List Nat)) (k : Nat) : firstIx pf (x :: l) k = if pf x then (k : Int) else firstIx pf l (k + 1) := rfl
section
variable {H : List HP} {w0 w : World}
set_option maxHeartbeats 8000000
end
end Go.Proofs.Ytfoeelghehjanaa
