/-
  Pages: what they are, their bytes, and which page bytes are (no program in sight).
-/
import Derived.Test.YtfoeelghehjanaaOM
import Derived.Test.YtfoeelghehjanaaSumM
import Derived.Test.YtfoeelghehjanaaOD
namespace Go.Proofs.Ytfoeelghehjanaa
open Go.RowKit
set_option linter.unusedVariables false
set_option linter.unusedSimpArgs false

structure PM where
  (n : Int) (l : Nat) (s : List (List Nat))
def slotB (x : List Nat) : List Nat := x.length :: (x ++ List.replicate (52 - x.length) 0)
def PM.body (p : PM) : List Nat := beb 2 p.n.toNat ++ beb 8 p.l ++ p.s.flatMap slotB ++ List.replicate 30 0
def PM.enc (p : PM) : List Nat := p.body ++ beb 4 (crc32 p.body)
def numd (n : Int) : Prop := 0 ≤ n ∧ n < 32
instance (n : Int) : Decidable (numd n) := inferInstanceAs (Decidable (0 ≤ n ∧ n < 32))
def short52 (s : List (List Nat)) : Bool := s.all fun x => decide (x.length ≤ 52)
def PM.right (p : PM) : Bool := decide (numd p.n) && short52 p.s
def PM.zero : PM := ⟨0, 0, [[], [], [], []]⟩
def slotAt (b : List Nat) (i : Nat) : List Nat := (b.drop (11 + 53 * i)).take (min (b.getD (10 + 53 * i) 0) 52)
def parse (n : Int) (b : List Nat) : PM := ⟨n, bnum 0 ((b.drop 2).take 8), (List.range 4).map (slotAt b)⟩
def decP (n : Int) (b : List Nat) : PM × Int :=
  if ¬ numd n then (PM.zero, 2)
  else if b.length ≠ 256 then (PM.zero, 160)
  else if zeroB b then (⟨n, 0, [[], [], [], []]⟩, 0)
  else if (parse n b).enc = b then (parse n b, 0)
  else (PM.zero, 160)
structure PM.ok (p : PM) : Prop where
  s4 : p.s.length = 4
  l64 : p.l < 18446744073709551616
  bs : ∀ x ∈ p.s, Bs x
theorem slotB_len {x : List Nat} (h : x.length ≤ 52) : (slotB x).length = 53 := by simp [slotB]; omega
theorem slots_len : ∀ {s : List (List Nat)}, (∀ x ∈ s, x.length ≤ 52) → (s.flatMap slotB).length = 53 * s.length
  | [], _ => rfl
  | x :: s, h => by
    rw [List.flatMap_cons, List.length_append, slotB_len (h x (by simp)), slots_len fun y hy => h y (by simp [hy]), List.length_cons]
    omega
theorem body_len {p : PM} (h4 : p.s.length = 4) (h : ∀ x ∈ p.s, x.length ≤ 52) : p.body.length = 252 := by
  simp [PM.body, beb_length, slots_len h, h4]
theorem enc_len {p : PM} (h4 : p.s.length = 4) (h : ∀ x ∈ p.s, x.length ≤ 52) : p.enc.length = 256 := by
  simp [PM.enc, beb_length, body_len h4 h]
theorem slotB_bs {x : List Nat} (h : x.length ≤ 52) (hx : Bs x) : Bs (slotB x) := by
  intro c hc
  rcases List.mem_cons.1 hc with rfl | hc
  · omega
  · rcases List.mem_append.1 hc with hc | hc
    · exact hx c hc
    · rw [List.eq_of_mem_replicate hc]; decide
theorem body_bs {p : PM} (hp : p.ok) (h : ∀ x ∈ p.s, x.length ≤ 52) : Bs p.body := by
  intro c hc
  rcases List.mem_append.1 hc with hc | hc
  · rcases List.mem_append.1 hc with hc | hc
    · rcases List.mem_append.1 hc with hc | hc
      · exact beb_bs _ _ c hc
      · exact beb_bs _ _ c hc
    · obtain ⟨x, hx, hc⟩ := List.mem_flatMap.1 hc
      exact slotB_bs (h x hx) (hp.bs x hx) c hc
  · rw [List.eq_of_mem_replicate hc]; decide
theorem enc_bs {p : PM} (hp : p.ok) (h : ∀ x ∈ p.s, x.length ≤ 52) : Bs p.enc := by
  intro c hc
  rcases List.mem_append.1 hc with hc | hc
  · exact body_bs hp h c hc
  · exact beb_bs _ _ c hc
theorem right_iff (p : PM) : p.right = true ↔ numd p.n ∧ ∀ x ∈ p.s, x.length ≤ 52 := by
  unfold PM.right short52
  simp
theorem slotAt_bs {b : List Nat} (hb : Bs b) (i : Nat) : Bs (slotAt b i) := fun c hc => hb c (List.mem_of_mem_drop (List.mem_of_mem_take hc))
theorem slotAt_le (b : List Nat) (i : Nat) : (slotAt b i).length ≤ 52 := by
  unfold slotAt
  rw [List.length_take]
  omega
theorem parse_ok {n : Int} {b : List Nat} (hb : Bs b) : (parse n b).ok where
  s4 := by simp [parse]
  l64 := by
    refine bnum_lt64 (fun c hc => hb c (List.mem_of_mem_drop (List.mem_of_mem_take hc))) ?_
    rw [List.length_take]; omega
  bs := fun x hx => by
    obtain ⟨i, _, rfl⟩ := List.mem_map.1 hx
    exact slotAt_bs hb i
theorem parse_short {n : Int} {b : List Nat} : ∀ x ∈ (parse n b).s, x.length ≤ 52 := fun x hx => by
  obtain ⟨i, _, rfl⟩ := List.mem_map.1 hx
  exact slotAt_le b i
theorem zero_ok : PM.zero.ok := ⟨rfl, by decide, fun x hx => by simp [PM.zero] at hx; subst hx; exact fun c hc => by cases hc⟩
theorem decP_ok {n : Int} {b : List Nat} (hb : Bs b) : (decP n b).1.ok := by
  unfold decP
  split
  · exact zero_ok
  · split
    · exact zero_ok
    · split
      · exact ⟨rfl, by show 0 < _; decide, fun x hx => by simp at hx; subst hx; exact fun c hc => by cases hc⟩
      · split
        · exact parse_ok hb
        · exact zero_ok
theorem decP_short {n : Int} {b : List Nat} : ∀ x ∈ (decP n b).1.s, x.length ≤ 52 := by
  have hz : ∀ x ∈ ([[], [], [], []] : List (List Nat)), x.length ≤ 52 := fun x hx => by simp at hx; subst hx; simp
  unfold decP
  split
  · exact hz
  · split
    · exact hz
    · split
      · exact hz
      · split
        · exact parse_short
        · exact hz
/-! ## wakes -/
def w1 : PM := ⟨1, 2, [[7], [], [], []]⟩
theorem w1_enc : w1.enc.take 12 = [0, 1, 0, 0, 0, 0, 0, 0, 0, 2, 1, 7] := by decide +kernel
theorem w1_dec : decP 1 w1.enc = (w1, 0) := by
  have h : (decide (numd 1) = true) := by decide
  have e : zeroB w1.enc = false := by decide +kernel
  have e2 : (parse 1 w1.enc).n = 1 ∧ (parse 1 w1.enc).l = 2 ∧ (parse 1 w1.enc).s = [[7], [], [], []] := by decide +kernel
  have e3 : parse 1 w1.enc = w1 := by
    obtain ⟨a, b, c⟩ := e2
    cases hp : parse 1 w1.enc with
    | mk n l s => rw [hp] at a b c; dsimp only at a b c; subst a b c; rfl
  have e4 : w1.enc.length = 256 := enc_len rfl (by decide)
  unfold decP
  rw [if_neg (by simpa using h), if_neg (by rw [e4]; decide), e, e3]
  simp
theorem w1_dec2 : decP 2 w1.enc = (PM.zero, 160) := by
  have e : zeroB w1.enc = false := by decide +kernel
  have e4 : w1.enc.length = 256 := enc_len rfl (by decide)
  have e5 : ¬ (parse 2 w1.enc).enc = w1.enc := by
    intro h
    have h1 : ((parse 2 w1.enc).enc.take 2) = [0, 2] := by decide +kernel
    rw [h] at h1
    have h2 : (w1.enc.take 2) = [0, 1] := by decide +kernel
    rw [h2] at h1
    cases h1
  unfold decP
  rw [if_neg (by decide), if_neg (by rw [e4]; decide), e, if_neg (by decide), if_neg e5]
end Go.Proofs.Ytfoeelghehjanaa
