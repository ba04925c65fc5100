/-
  The plain law of octets: numbers as bytes, the highest first; a reader.
-/
namespace Go.Proofs.Ytfoeelghehjanaa

/-- a number's bytes, the highest first -/
def beb : Nat → Nat → List Nat
  | 0, _ => []
  | n + 1, x => x / 2 ^ (8 * n) % 256 :: beb n x
theorem beb_length (n x : Nat) : (beb n x).length = n := by induction n <;> simp_all [beb]
theorem beb_bs (n x : Nat) : ∀ c ∈ beb n x, c < 256 := by
  induction n with
  | zero => intro c h; cases h
  | succ n ih =>
    intro c h
    simp only [beb, List.mem_cons] at h
    rcases h with rfl | h
    · omega
    · exact ih c h
def bnum : Nat → List Nat → Nat
  | s, [] => s
  | s, c :: l => bnum (s * 256 + c) l
theorem bnum_append (s : Nat) (l l' : List Nat) : bnum s (l ++ l') = bnum (bnum s l) l' := by
  induction l generalizing s with
  | nil => rfl
  | cons c l ih => exact ih _
theorem bnum_eq (l : List Nat) : ∀ s, bnum s l = s * 256 ^ l.length + bnum 0 l := by
  induction l with
  | nil => intro s; simp [bnum]
  | cons c l ih =>
    intro s
    simp only [bnum, List.length_cons]
    rw [ih (s * 256 + c), ih (0 * 256 + c), Nat.pow_succ, Nat.zero_mul, Nat.zero_add, Nat.add_mul, Nat.mul_assoc, Nat.mul_comm 256, Nat.add_assoc]
theorem bnum_lt (l : List Nat) (h : ∀ c ∈ l, c < 256) : bnum 0 l < 256 ^ l.length := by
  induction l with
  | nil => simp [bnum]
  | cons c l ih =>
    have h1 := ih (fun x hx => h x (by simp [hx]))
    have h2 : c < 256 := h c (by simp)
    simp only [bnum, List.length_cons, Nat.zero_mul, Nat.zero_add]
    rw [bnum_eq, Nat.pow_succ, Nat.mul_comm (256 ^ l.length)]
    have : c * 256 ^ l.length + 256 ^ l.length ≤ 256 * 256 ^ l.length := by
      rw [← Nat.succ_mul]; exact Nat.mul_le_mul_right _ h2
    omega
theorem pow256 (n : Nat) : 256 ^ n = 2 ^ (8 * n) := by rw [Nat.pow_mul]
theorem bnum_beb (n x : Nat) : bnum 0 (beb n x) = x % 2 ^ (8 * n) := by
  induction n with
  | zero => simp [beb, bnum, Nat.mod_one]
  | succ n ih =>
    simp only [beb, bnum, Nat.zero_mul, Nat.zero_add]
    rw [bnum_eq, beb_length, ih, pow256, show 8 * (n + 1) = 8 * n + 8 from by omega, Nat.pow_add]
    have := Nat.mod_mul (x := x) (a := 2 ^ (8 * n)) (b := 2 ^ 8)
    rw [this, Nat.add_comm, Nat.mul_comm (2 ^ (8 * n))]
theorem beb_bnum (l : List Nat) (h : ∀ c ∈ l, c < 256) : beb l.length (bnum 0 l) = l := by
  have key : ∀ (l : List Nat) (s : Nat), (∀ c ∈ l, c < 256) → beb l.length (bnum s l) = l := by
    intro l
    induction l with
    | nil => intro s _; rfl
    | cons c l ih =>
      intro s h
      have hc : c < 256 := h c (by simp)
      have hl := bnum_lt l (fun x hx => h x (by simp [hx]))
      simp only [List.length_cons, beb, bnum]
      rw [ih _ (fun x hx => h x (by simp [hx]))]
      congr 1
      rw [bnum_eq, ← pow256]
      rw [Nat.mul_comm, Nat.add_comm, Nat.add_mul_div_left _ _ (Nat.pow_pos (by decide)), Nat.div_eq_of_lt hl]
      omega
  exact key l 0 h
theorem beb_mod (n x : Nat) : beb n (x % 2 ^ (8 * n)) = beb n x := by
  have h := beb_bnum (beb n x) (beb_bs n x)
  rw [beb_length, bnum_beb] at h
  exact h
/-- bytes ahead, then the number's lowest n -/
theorem beb_mid (n m x : Nat) (h : n ≤ m) : ∃ pre, pre ++ beb n x = beb m x ∧ pre.length = m - n := by
  induction m with
  | zero => exact ⟨[], by simp [show n = 0 from by omega], by simp⟩
  | succ m ih =>
    by_cases e : n = m + 1
    · subst e; exact ⟨[], rfl, by simp⟩
    · obtain ⟨pre, h1, h2⟩ := ih (by omega)
      exact ⟨x / 2 ^ (8 * m) % 256 :: pre, by simp [beb, h1], by simp; omega⟩

/-- a reader's taking: what is told; where it is then; its error -/
def takeM (xs : List Nat) (p : Nat) (e n : Int) : List Nat × Nat × Int :=
  if e ≠ 0 then ([], p, e) else if n < 0 then ([], p, 2) else if n > (xs.length : Int) - (p : Int) then ([], p, 7) else ((xs.drop p).take n.toNat, p + n.toNat, 0)
theorem takeM_le {xs : List Nat} {p : Nat} {e n : Int} (h : p ≤ xs.length) : (takeM xs p e n).2.1 ≤ xs.length := by
  unfold takeM; split <;> (try split) <;> (try split) <;> simp_all <;> omega
theorem takeM_len {xs : List Nat} {p : Nat} {e n : Int} (h : p ≤ xs.length) : (takeM xs p e n).1.length ≤ xs.length := by
  unfold takeM; split <;> (try split) <;> (try split) <;> simp_all <;> omega
theorem takeM_bs {xs : List Nat} {p : Nat} {e n : Int} (h : ∀ c ∈ xs, c < 256) : ∀ c ∈ (takeM xs p e n).1, c < 256 := by
  unfold takeM; split
  · intro c hc; cases hc
  · split
    · intro c hc; cases hc
    · split
      · intro c hc; cases hc
      · intro c hc; exact h c (List.mem_of_mem_drop (List.mem_of_mem_take hc))
theorem takeM_n {xs : List Nat} {p : Nat} {e : Int} {n : Nat} : (takeM xs p e (n : Int)).1.length ≤ n := by
  unfold takeM; split <;> (try split) <;> (try split) <;> simp_all <;> omega
theorem bnum_lt64 {l : List Nat} (h : ∀ c ∈ l, c < 256) (hl : l.length ≤ 8) : bnum 0 l < 18446744073709551616 := by
  have h1 := bnum_lt l h
  have h2 : (256 : Nat) ^ l.length ≤ 256 ^ 8 := Nat.pow_le_pow_right (by decide) hl
  have h3 : (256 : Nat) ^ 8 = 18446744073709551616 := by decide
  omega
attribute [irreducible] beb
end Go.Proofs.Ytfoeelghehjanaa
