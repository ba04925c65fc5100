/-
  The world as a list of things owned, each with blocks of its own.
-/
import Derived.Test.YtaiahigeejodaaaKa
import Derived.Laws.Rows
import Derived.Deep.Draws
import Derived.Maps.AppendAt
namespace Go.Proofs.Ytaiahigeejodaaa
open Go.RowKit
set_option linter.unusedVariables false
set_option linter.unusedSimpArgs false

/-- What is said of a world, and hangs on some blocks alone. -/
structure HP where
  at_ : (Nat → Prop) → World → Prop
  keep : ∀ {S : Nat → Prop} {w w' : World}, at_ S w → (∀ k, S k → w'.heap[k]? = w.heap[k]?) → at_ S w'

def Sep (w : World) : List HP → (Nat → Prop) → Prop
  | [], _ => True
  | h :: L, T => ∃ S : Nat → Prop, (∀ k, S k → T k) ∧ h.at_ S w ∧ Sep w L (fun k => T k ∧ ¬ S k)

section
variable {w w' : World}
theorem Sep.mono : ∀ {L : List HP} {T T' : Nat → Prop}, (∀ k, T k → T' k) → Sep w L T → Sep w L T'
  | [], _, _, _, _ => trivial
  | _ :: _, _, _, hT, ⟨S, h1, h2, h3⟩ => ⟨S, fun k hk => hT k (h1 k hk), h2, Sep.mono (fun k hk => ⟨hT k hk.1, hk.2⟩) h3⟩
theorem Sep.keep : ∀ {L : List HP} {T : Nat → Prop}, Sep w L T → (∀ k, T k → w'.heap[k]? = w.heap[k]?) → Sep w' L T
  | [], _, _, _ => trivial
  | h :: _, _, ⟨S, h1, h2, h3⟩, hk => ⟨S, h1, h.keep h2 (fun k hs => hk k (h1 k hs)), Sep.keep h3 (fun k hs => hk k hs.1)⟩
theorem Sep.append : ∀ {L L' : List HP} {T T' U : Nat → Prop}, Sep w L T → Sep w L' T' → (∀ k, T k → ¬ T' k) → (∀ k, T k → U k) → (∀ k, T' k → U k) → Sep w (L ++ L') U
  | [], _, _, _, _, _, h', _, _, hu' => Sep.mono hu' h'
  | _ :: _, _, _, _, _, ⟨S, h1, h2, h3⟩, h', hd, hu, hu' =>
    ⟨S, fun k hk => hu k (h1 k hk), h2, Sep.append h3 h' (fun k hk => hd k hk.1) (fun k hk => ⟨hu k hk.1, hk.2⟩) (fun k hk => ⟨hu' k hk, fun hs => hd k (h1 k hs) hk⟩)⟩
theorem Sep.swap {h1 h2 : HP} {L : List HP} {T : Nat → Prop} : Sep w (h1 :: h2 :: L) T → Sep w (h2 :: h1 :: L) T := by
  rintro ⟨S1, a1, b1, S2, a2, b2, r⟩
  refine ⟨S2, fun k hk => (a2 k hk).1, b2, S1, fun k hk => ⟨a1 k hk, fun h => (a2 k h).2 hk⟩, b1, Sep.mono (fun k hk => ?_) r⟩
  exact ⟨⟨hk.1.1, hk.2⟩, hk.1.2⟩
theorem Sep.cons_mono {h : HP} {L L' : List HP} (hL : ∀ T, Sep w L T → Sep w L' T) {T : Nat → Prop} : Sep w (h :: L) T → Sep w (h :: L') T := by
  rintro ⟨S, a, b, r⟩
  exact ⟨S, a, b, hL _ r⟩
end

/-- Since w0 the blocks that were there stand as they stood; what came since is owned, piece by piece. -/
structure St (w0 w : World) (L : List HP) : Prop where
  below : Below w0.heap.size w0 w
  sep : Sep w L (fun k => w0.heap.size ≤ k ∧ k < w.heap.size)

section
variable {w0 w w' : World} {L L' : List HP} {h h' : HP}
theorem St.start (w : World) : St w w [] := ⟨Below.refl _ _, trivial⟩
theorem St.tail (hS : St w0 w (h :: L)) : St w0 w L := by
  obtain ⟨hb, S, _, _, r⟩ := hS
  exact ⟨hb, Sep.mono (fun k hk => hk.1) r⟩
theorem St.nil (hS : St w0 w L) : St w0 w [] := ⟨hS.below, trivial⟩
theorem St.drop1 {a : HP} (hS : St w0 w (a :: h :: L)) : St w0 w (a :: L) := by
  obtain ⟨hb, S, h1, h2, S2, h3, _, r⟩ := hS
  exact ⟨hb, S, h1, h2, Sep.mono (fun k hk => hk.1) r⟩
theorem St.p1 {a b : HP} (hS : St w0 w (a :: b :: L)) : St w0 w (b :: a :: L) := ⟨hS.below, hS.sep.swap⟩
theorem St.p2 {a b c : HP} (hS : St w0 w (a :: b :: c :: L)) : St w0 w (c :: a :: b :: L) :=
  ⟨hS.below, Sep.swap (Sep.cons_mono (fun _ => Sep.swap) hS.sep)⟩
theorem St.p3 {a b c d : HP} (hS : St w0 w (a :: b :: c :: d :: L)) : St w0 w (d :: a :: b :: c :: L) :=
  ⟨hS.below, Sep.swap (Sep.cons_mono (fun _ q => Sep.swap (Sep.cons_mono (fun _ => Sep.swap) q)) hS.sep)⟩
theorem St.p4 {a b c d e : HP} (hS : St w0 w (a :: b :: c :: d :: e :: L)) : St w0 w (e :: a :: b :: c :: d :: L) :=
  ⟨hS.below, Sep.swap (Sep.cons_mono (fun _ q => Sep.swap (Sep.cons_mono (fun _ q => Sep.swap (Sep.cons_mono (fun _ => Sep.swap) q)) q)) hS.sep)⟩

/-- nothing in the heap has turned -/
theorem St.same (hS : St w0 w L) (hh : w'.heap = w.heap) (ho : w'.os = w.os) (ht : w'.tape = w.tape) (hp : w'.output = w.output) : St w0 w' L := by
  refine ⟨hS.below.trans ⟨ho, ht, hp, by rw [hh]; exact Nat.le_refl _, fun k _ => by rw [hh]⟩, ?_⟩
  have h1 : Sep w' L (fun k => w0.heap.size ≤ k ∧ k < w.heap.size) := hS.sep.keep (fun k _ => by rw [hh])
  exact h1.mono (fun k hk => by rw [hh]; exact hk)
theorem St.drewN (hS : St w0 w L) (n : Nat) : St w0 (w.drewN n) L := hS.same rfl rfl rfl rfl
theorem St.drew (hS : St w0 w L) : St w0 w.drew L := hS.same rfl rfl rfl rfl
theorem St.le (hS : St w0 w L) : w0.heap.size ≤ w.heap.size := hS.below.size

/-- What was made since then. -/
theorem St.frame (hS : St w0 w L) (hS' : St w w' L') : St w0 w' (L' ++ L) := by
  refine ⟨hS.below.trans ⟨hS'.below.os, hS'.below.tape, hS'.below.output, hS'.below.size, fun k hk => hS'.below.block k (Nat.lt_of_lt_of_le hk hS.le)⟩, ?_⟩
  refine Sep.append hS'.sep (hS.sep.keep (fun k hk => hS'.below.block k hk.2)) (fun k hk hk' => by omega) (fun k hk => ⟨Nat.le_trans hS.le hk.1, hk.2⟩) (fun k hk => ⟨hk.1, Nat.lt_of_lt_of_le hk.2 hS'.le⟩)

/-- The first thing turns. -/
theorem St.upd (hS : St w0 w (h :: L)) (ho : w'.os = w.os) (ht : w'.tape = w.tape) (hp : w'.output = w.output) (hz : w.heap.size ≤ w'.heap.size)
    (hh : ∀ S : Nat → Prop, h.at_ S w → ∃ S' : Nat → Prop, h'.at_ S' w' ∧ (∀ k, S' k → S k ∨ (w.heap.size ≤ k ∧ k < w'.heap.size)) ∧ ∀ k, k < w.heap.size → ¬ S k → w'.heap[k]? = w.heap[k]?) : St w0 w' (h' :: L) := by
  obtain ⟨hb, S, h1, h2, r⟩ := hS
  obtain ⟨S', g1, g2, g3⟩ := hh S h2
  refine ⟨hb.trans ⟨ho, ht, hp, hz, fun k hk => g3 k (Nat.lt_of_lt_of_le hk hb.size) (fun hs => by have := (h1 k hs).1; omega)⟩, S', fun k hk => ?_, g1, ?_⟩
  · rcases g2 k hk with hs | hn
    · exact ⟨(h1 k hs).1, Nat.lt_of_lt_of_le (h1 k hs).2 hz⟩
    · exact ⟨Nat.le_trans hb.size hn.1, hn.2⟩
  · refine Sep.mono (fun k hk => ?_) (Sep.keep r (fun k hk => g3 k hk.1.2 hk.2))
    refine ⟨⟨hk.1.1, Nat.lt_of_lt_of_le hk.1.2 hz⟩, fun hs => ?_⟩
    rcases g2 k hs with hs | hn
    · exact hk.2 hs
    · have := hk.1.2; omega
/-- The first thing, said otherwise. -/
theorem St.conv (hS : St w0 w (h :: L)) (hh : ∀ S : Nat → Prop, h.at_ S w → h'.at_ S w) : St w0 w (h' :: L) :=
  hS.upd rfl rfl rfl (Nat.le_refl _) fun S hs => ⟨S, hh S hs, fun k hk => .inl hk, fun _ _ _ => rfl⟩
/-- A new thing. -/
theorem St.new (hS : St w0 w L) (hb : Below w.heap.size w w') (S : Nat → Prop) (hs : ∀ k, S k → w.heap.size ≤ k ∧ k < w'.heap.size) (hh : h.at_ S w') : St w0 w' (h :: L) := by
  have : St w w' [h] := ⟨hb, S, hs, hh, trivial⟩
  exact St.frame hS this
theorem St.head (hS : St w0 w (h :: L)) : ∃ S : Nat → Prop, (∀ k, S k → w0.heap.size ≤ k ∧ k < w.heap.size) ∧ h.at_ S w := by
  obtain ⟨hb, S, h1, h2, _⟩ := hS
  exact ⟨S, h1, h2⟩
end

/-! ## Pieces -/
/-- A block, whole. -/
def hBlk (g : Nat) (t : TypeId) (cs : List Value) : HP where
  at_ S w := S g ∧ w.heap[g]? = some (.cells cs.toArray t (0, 0))
  keep := fun ⟨h1, h2⟩ hk => ⟨h1, (hk _ h1).trans h2⟩
/-- A slice of one's own: nil, or the head of a block that holds nothing else. -/
def hRow (e size : Nat) (A : Option Addr) (n c : Nat) (cs : List Value) : HP where
  at_ S w := (∀ ad, A = some ad → S ad.block) ∧ w.ownsRow 0 e size (.slice A n c) n cs
  keep := by
    rintro S w w' ⟨h1, h2, h3⟩ hk
    refine ⟨h1, h2, ?_⟩
    rcases h3 with h3 | ⟨g, cap, cur, he, hg, hh, r⟩
    · exact .inl h3
    · refine .inr ⟨g, cap, cur, he, hg, ?_, r⟩
      have hA : A = some ⟨g, 0, none⟩ := by injection he
      rw [hk g (h1 _ hA)]
      exact hh
def hPure (p : Prop) : HP where
  at_ _ _ := p
  keep := fun h _ => h
def hEx {α : Sort _} (f : α → HP) : HP where
  at_ S w := ∃ x, (f x).at_ S w
  keep := fun ⟨x, h⟩ hk => ⟨x, (f x).keep h hk⟩
def hAll (L : List HP) : HP where
  at_ S w := Sep w L S
  keep := fun h hk => h.keep hk

/-- A slice's cells can be read. -/
def Rd (w : World) (A : Option Addr) (cs : List Value) : Prop :=
  cs ≠ [] → ∃ ad, A = some ad ∧ ∀ j u, cs[j]? = some u → w.cell? (ad.add j) = some u

theorem add_add (a : Addr) (i j : Nat) : (a.add i).add j = a.add (i + j) := by
  unfold Addr.add
  by_cases hi : i = 0 <;> by_cases hj : j = 0 <;> simp [hi, hj, Nat.add_assoc]
theorem add_lit (g o j : Nat) : (⟨g, o, none⟩ : Addr).add j = ⟨g, o + j, none⟩ := by unfold Addr.add; split <;> simp_all
theorem add_block (a : Addr) (j : Nat) : (a.add j).block = a.block := by unfold Addr.add; split <;> rfl

section
variable {w0 w w' : World} {L : List HP} {A : Option Addr} {cs : List Value}
theorem Rd.below (h : Rd w A cs) (hb : Below w.heap.size w w') : Rd w' A cs := fun hne => by
  obtain ⟨ad, e, hc⟩ := h hne
  refine ⟨ad, e, fun j u hu => ?_⟩
  have h1 := hc j u hu
  exact (hb.cell (World.block_lt_of_cell? w _ h1)).trans h1
theorem Rd.st (h : Rd w0 A cs) (hS : St w0 w L) : Rd w A cs := h.below hS.below
theorem Rd.nil : Rd w A [] := fun h => absurd rfl h
theorem Rd.drop (h : Rd w A cs) (k : Nat) : Rd w (A.map (·.add k)) (cs.drop k) := fun hne => by
  have hne' : cs ≠ [] := fun e => hne (by rw [e]; simp)
  obtain ⟨ad, rfl, hc⟩ := h hne'
  refine ⟨ad.add k, rfl, fun j u hu => ?_⟩
  rw [add_add]
  exact hc _ u (by rw [← hu, List.getElem?_drop])
theorem Rd.take (h : Rd w A cs) (k : Nat) : Rd w A (cs.take k) := fun hne => by
  have hne' : cs ≠ [] := fun e => hne (by rw [e]; simp)
  obtain ⟨ad, e, hc⟩ := h hne'
  refine ⟨ad, e, fun j u hu => hc j u ?_⟩
  rw [List.getElem?_take] at hu
  split at hu
  · exact hu
  · cases hu
theorem Rd.cell (h : Rd w A cs) {j : Nat} {u : Value} (hu : cs[j]? = some u) : ∃ ad, A = some ad ∧ w.cell? (ad.add j) = some u := by
  obtain ⟨ad, e, hc⟩ := h (by rintro rfl; simp at hu)
  exact ⟨ad, e, hc j u hu⟩
end

section
variable {w0 w w' : World} {L : List HP} {e size n c : Nat} {A : Option Addr} {cs : List Value}
theorem rd_of_own {b : Nat} (h : w.ownsRow b e size (.slice A n c) n cs) : Rd w A cs := fun hne => by
  rcases h.2 with ⟨h0, hn⟩ | ⟨g, cap, cur, he, hb, hh, r⟩
  · have := h.1
    rw [hn] at this
    exact absurd (List.eq_nil_of_length_eq_zero (by simpa using this)) hne
  · have hA : A = some ⟨g, 0, none⟩ := by injection he
    subst hA
    exact ⟨_, rfl, h.cells (g := g) rfl⟩
theorem St.rd (hS : St w0 w (hRow e size A n c cs :: L)) : Rd w A cs := by
  obtain ⟨S, _, _, ho⟩ := hS.head
  exact rd_of_own ho
theorem St.rowLen (hS : St w0 w (hRow e size A n c cs :: L)) : cs.length = n * size ∧ n ≤ c ∧ c ≤ maxLen := by
  obtain ⟨S, _, _, ho⟩ := hS.head
  refine ⟨ho.1, ?_⟩
  rcases ho.2 with ⟨h0, hn⟩ | ⟨g, cap, cur, he, hb, hh, hnc, hcm, _⟩
  · injection h0 with _ h1 h2
    subst h1 h2
    exact ⟨Nat.le_refl _, by simp [maxLen]⟩
  · injection he with _ _ h2
    subst h2
    exact ⟨hnc, hcm⟩
theorem St.blk {g t : Nat} (hS : St w0 w (hBlk g t cs :: L)) : w.heap[g]? = some (.cells cs.toArray t (0, 0)) ∧ w0.heap.size ≤ g ∧ g < w.heap.size := by
  obtain ⟨S, h1, h2, h3⟩ := hS.head
  exact ⟨h3, h1 g h2⟩
theorem St.blkCell {g t : Nat} (hS : St w0 w (hBlk g t cs :: L)) (j : Nat) : w.cell? ⟨g, j, none⟩ = cs[j]? := by
  rw [cell_of_row w g j cs.toArray t (0, 0) hS.blk.1]
  simp
theorem St.rowNil (hS : St w0 w L) (e size : Nat) : St w0 w (hRow e size none 0 0 [] :: L) :=
  hS.new (Below.refl _ _) (fun _ => False) (fun _ h => h.elim) ⟨fun _ h => (nomatch h), by simp, .inl ⟨rfl, rfl⟩⟩
theorem St.alloc (hS : St w0 w L) (cs : List Value) (t : TypeId) : St w0 (w.alloc (.cells cs.toArray t)) (hBlk w.heap.size t cs :: L) :=
  hS.new ((Below.refl _ _).alloc (Nat.le_refl _) _) (fun k => k = w.heap.size) (fun k hk => by subst hk; simp) ⟨rfl, heap_alloc_new w _⟩
/-- a block is a row -/
theorem St.blkRow {g t : Nat} (hS : St w0 w (hBlk g t cs :: L)) (size n : Nat) (hl : cs.length = n * size) (hm : n ≤ maxLen) : St w0 w (hRow t size (some ⟨g, 0, none⟩) n n cs :: L) :=
  hS.conv fun S ⟨h1, h2⟩ => ⟨fun ad h => by injection h with h; subst h; exact h1, hl, .inr ⟨g, n, cs.toArray, rfl, Nat.zero_le _, h2, Nat.le_refl _, hm, by simpa using hl, by simp [← hl]⟩⟩
theorem St.setBlk {g t : Nat} (hS : St w0 w (hBlk g t cs :: L)) (j : Nat) (u : Value) : St w0 (w.setCell ⟨g, j, none⟩ u) (hBlk g t (cs.set j u) :: L) := by
  refine hS.upd rfl rfl rfl (by simp) fun S ⟨h1, h2⟩ => ⟨S, ⟨h1, ?_⟩, fun k hk => .inl hk, fun k _ hk => ?_⟩
  · rw [heap_setCell_same w g j cs.toArray t u h2]
    simp
  · exact heap_setCell_other w _ k u (fun e => hk (e ▸ h1))
theorem St.setRow (hS : St w0 w (hRow e size A n c cs :: L)) {ad : Addr} (hA : A = some ad) {j : Nat} (hj : j < cs.length) (u : Value) : St w0 (w.setCell (ad.add j) u) (hRow e size A n c (cs.set j u) :: L) := by
  refine hS.upd rfl rfl rfl (by simp) fun S ⟨h1, h2⟩ => ⟨S, ⟨h1, ?_⟩, fun k hk => .inl hk, fun k _ hk => ?_⟩
  · rcases h2.2 with ⟨h0, hn⟩ | ⟨g, cap, cur, he, hb, hh, hnc, hcm, hsz, htk⟩
    · rw [hA] at h0; cases h0
    · have hA' : A = some ⟨g, 0, none⟩ := by injection he
      have hc : c = cap := by injection he
      rw [hA'] at hA
      injection hA with hA
      subst hA
      subst hc
      subst hA'
      refine ⟨by simpa using h2.1, .inr ⟨g, c, cur.setIfInBounds j u, rfl, hb, ?_, hnc, hcm, by simpa using hsz, ?_⟩⟩
      · rw [add_lit, Nat.zero_add]
        exact heap_setCell_same w g j cur e u hh
      · have hlen := h2.1
        rw [Array.toList_setIfInBounds, List.take_set, htk]
  · refine heap_setCell_other w _ k u (fun e => hk ?_)
    rw [add_block] at e
    rw [e]
    exact h1 ad hA
end
end Go.Proofs.Ytaiahigeejodaaa
