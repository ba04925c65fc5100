/-
  What is put, as an argument; setting and getting, told in one.
-/
import Derived.Test.YtmdfhhmnlplagaaGX
import Derived.Test.YtmdfhhmnlplagaaGP
namespace Go.Proofs.Ytmdfhhmnlplagaa
open Go.RowKit
set_option linter.unusedVariables false
set_option linter.unusedSimpArgs false
attribute [local irreducible] Rd hRow hBlk hRd hRdr rowsP Fn hMarks

structure Pu where
  (i : Int) (A : Option Addr) (c : Nat) (b : List Nat) (l : Nat)
abbrev Pu.cells (r : Pu) : List Value := [.int .i64 r.i, .slice r.A r.b.length r.c, .int .u64 (r.l : Int)]
structure Pu.wf (r : Pu) : Prop where
  n : -9223372036854775808 ≤ r.i ∧ r.i ≤ 9223372036854775807
  lb : r.b.length ≤ r.c ∧ r.b.length ≤ 140737488351232
  bs : Bs r.b
  l : r.l < 18446744073709551616
abbrev PuT := Int × BT × Int × Unit
def PuT.cells (y : PuT) : List Value := [Value.int .i64 y.1] ++ ([Value.slice y.2.1.1 y.2.1.2.2.length y.2.1.2.1] ++ ([Value.int .u64 y.2.2.1] ++ []))
def PuT.ok (W : World) (y : PuT) : Prop := (Lit.int .i64 y.1).wf = true ∧ BT.ok W y.2.1 ∧ (Lit.int .u64 y.2.2.1).wf = true ∧ True
def PuT.pu (y : PuT) : Pu := ⟨y.1, y.2.1.1, y.2.1.2.1, y.2.1.2.2.map Int.toNat, y.2.2.1.toNat⟩
theorem PuT.cells_pu {W : World} {y : PuT} (h : y.ok W) : y.cells = y.pu.cells := by
  obtain ⟨h1, h2, h3, _⟩ := h
  have e2 := wf_u64 h3
  unfold PuT.cells PuT.pu Pu.cells
  dsimp only
  rw [List.length_map, Int.toNat_of_nonneg e2.1]
  rfl
abbrev LUT := Option Addr × Nat × List PuT
def LUT.ok (W : World) (q : LUT) : Prop := Rd W q.1 (q.2.2.flatMap PuT.cells) ∧ q.2.2.length ≤ q.2.1 ∧ q.2.1 ≤ maxLen ∧ q.2.2.length * 40 ≤ 140737488351232 ∧ ∀ y ∈ q.2.2, PuT.ok W y ∧ (PuT.cells y).length = 3
def LUT.pus (q : LUT) : List Pu := q.2.2.map PuT.pu
theorem LUT.len (q : LUT) : q.pus.length = q.2.2.length := by simp [LUT.pus]
theorem pus_flat {W : World} : ∀ {l : List PuT}, (∀ y ∈ l, PuT.ok W y) → l.flatMap PuT.cells = (l.map PuT.pu).flatMap Pu.cells
  | [], _ => rfl
  | y :: l, h => by
    rw [List.flatMap_cons, List.map_cons, List.flatMap_cons, PuT.cells_pu (h y (List.mem_cons_self ..)), pus_flat (l := l) fun y hy => h y (List.mem_cons_of_mem _ hy)]
theorem LUT.rd {W : World} {q : LUT} (h : q.ok W) : Rd W q.1 (q.pus.flatMap Pu.cells) := by
  have h1 := h.1
  rw [pus_flat fun y hy => (h.2.2.2.2 y hy).1] at h1
  exact h1
theorem LUT.all {W : World} {q : LUT} (h : q.ok W) : ∀ r ∈ q.pus, r.wf ∧ Rd W r.A (bys r.b) := by
  intro r hr
  obtain ⟨y, hy, rfl⟩ := List.mem_map.1 hr
  obtain ⟨⟨h1, h2, h3, _⟩, _⟩ := h.2.2.2.2 y hy
  have hb := BT.bs h2
  have hrd := BT.rd h2
  have e3 := wf_u64 h3
  obtain ⟨a1, a2, a3, a4, a5⟩ := h2
  exact ⟨⟨wf_i64 h1, ⟨by show (y.2.1.2.2.map Int.toNat).length ≤ y.2.1.2.1; rw [List.length_map]; exact a2, by show (y.2.1.2.2.map Int.toNat).length ≤ _; rw [List.length_map]; omega⟩, hb, by show y.2.2.1.toNat < _; omega⟩, hrd⟩
theorem pu_len (l : List Pu) : ∀ r ∈ l, (Pu.cells r).length = 3 := fun _ _ => rfl
def PM.short53 (p : PM) : Prop := ∀ x ∈ p.s, x.length ≤ 53
theorem PM.short_of {p : PM} (h : p.short53) : p.short = p := by
  obtain ⟨n, l, s⟩ := p
  unfold PM.short
  congr 1
  dsimp only
  have : ∀ s : List (List Nat), (∀ x ∈ s, x.length ≤ 53) → s.map (List.take 53) = s := by
    intro s
    induction s with
    | nil => intro _; rfl
    | cons x s ih =>
      intro h
      rw [List.map_cons, List.take_of_length_le (h x (List.mem_cons_self ..)), ih fun y hy => h y (List.mem_cons_of_mem _ hy)]
  exact this s h
theorem PM.short_short (p : PM) : p.short.short53 := by
  intro x hx
  obtain ⟨y, _, rfl⟩ := List.mem_map.1 hx
  rw [List.length_take]
  omega
theorem PM.put_short {p : PM} (h : p.short53) (i : Nat) {b : List Nat} (hb : b.length ≤ 52) (l : Nat) : (p.put i b l).short53 := by
  intro x hx
  rcases List.mem_or_eq_of_mem_set hx with hx | hx
  · exact h x hx
  · subst hx; omega
def getE (p : PM) (i : Int) : Int := if p.right = false then 160 else if i < 0 ∨ 4 ≤ i then 2 else 0
def gotM (p : PM) (i : Int) : List Nat := if getE p i = 0 then p.s.getD i.toNat [] else []
theorem getE_ok {p : PM} {i : Int} (h : getE p i = 0) : p.right = true ∧ 0 ≤ i ∧ i < 4 := by
  unfold getE at h
  cases hr : p.right
  · rw [hr, if_pos rfl] at h; cases h
  · rw [hr, if_neg (by decide)] at h
    by_cases h1 : i < 0 ∨ 4 ≤ i
    · rw [if_pos h1] at h; cases h
    · exact ⟨rfl, by omega, by omega⟩
theorem getE_no {p : PM} {i : Int} (h : ¬ getE p i = 0) : (p.right = false ∨ i < 0 ∨ 4 ≤ i) ∧ (if p.right then (2 : Int) else 160) = getE p i := by
  unfold getE at h ⊢
  cases hr : p.right
  · exact ⟨.inl rfl, rfl⟩
  · rw [hr, if_neg (by decide)] at h
    by_cases h1 : i < 0 ∨ 4 ≤ i
    · exact ⟨.inr h1, by rw [if_pos rfl, if_neg (by decide), if_pos h1]⟩
    · rw [if_neg h1] at h; exact absurd rfl h
section
variable {H : List HP} {w0 w : World}
set_option maxHeartbeats 8000000
theorem set_any (p : Pg) (hp : p.wf) (hr : p.rd w0) (i : Int) (A : Option Addr) (c : Nat) (b : List Nat) (n : Nat) (hn : n = b.length) (hrb : Rd w0 A (bys b)) (hbs : Bs b) (hb : b.length ≤ 1000) (l : Nat) (hl : l < 18446744073709551616) :
    Fn Try.prog 25 [.agg p.cells.toArray, .int .i64 i, .slice A n c, .int .u64 (l : Int)] w0 fun v w' => ∃ q : Pg, v = .tuple #[.agg q.cells.toArray, .int .i64 (setE p.m i b.length)] ∧ q.wf ∧ q.m = (if setE p.m i b.length = 0 then p.m.put i.toNat b l else Pg.zero.m) ∧ St w0 w' [rowsP q.s] := by
  by_cases he : setE p.m i b.length = 0
  · obtain ⟨hri, hs0, hs4, hb52⟩ := setE_ok he
    obtain ⟨j, rfl⟩ := Int.eq_ofNat_of_zero_le hs0
    refine (set_ok p hp hr j A c b n hn hrb hbs l hl hri (by omega) hb52).mono ?_
    rintro _ w' ⟨q, rfl, hqm, hqw, hS⟩
    exact ⟨q, by rw [he], hqw, by rw [if_pos he, Int.toNat_natCast]; exact hqm, hS⟩
  · refine (set_no p hp hr i A c b n hn hb l he).mono ?_
    rintro _ w' ⟨rfl, hS⟩
    exact ⟨Pg.zero, rfl, Pg.zero_wf, by rw [if_neg he], rowsP_nil4 hS⟩
theorem get_any (p : Pg) (hp : p.wf) (hr : p.rd w0) (i : Int) :
    Fn Try.prog 26 [.agg p.cells.toArray, .int .i64 i] w0 fun v w' => ∃ (A : Option Addr) (c : Nat), v = .tuple #[.slice A (gotM p.m i).length c, .int .i64 (getE p.m i)] ∧ St w0 w' [hRow 5 1 A (gotM p.m i).length c (bys (gotM p.m i))] := by
  by_cases he : getE p.m i = 0
  · obtain ⟨hri, hs0, hs4⟩ := getE_ok he
    obtain ⟨j, rfl⟩ := Int.eq_ofNat_of_zero_le hs0
    unfold gotM
    rw [he, if_pos rfl, Int.toNat_natCast]
    exact get_ok p hp hr j hri (by omega)
  · obtain ⟨h1, h2⟩ := getE_no he
    refine (get_no p hp i h1 w0).mono ?_
    rintro _ w' ⟨rfl, hS⟩
    refine ⟨none, 0, ?_, ?_⟩
    · unfold gotM
      rw [if_neg he, h2]
      rfl
    · unfold gotM
      rw [if_neg he]
      exact St.rowNil hS _ _
theorem gotM_bs (p : Pg) (hp : p.wf) (i : Int) : Bs (gotM p.m i) := by
  unfold gotM
  by_cases he : getE p.m i = 0
  · obtain ⟨hri, hs0, hs4⟩ := getE_ok he
    rw [if_pos he, List.getD_eq_getElem?_getD, List.getElem?_eq_getElem (by rw [hp.ok.s4]; omega)]
    exact hp.ok.bs _ (List.getElem_mem _)
  · rw [if_neg he]
    intro x hx
    cases hx
end
end Go.Proofs.Ytmdfhhmnlplagaa
