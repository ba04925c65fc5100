/-
  The plain law of the two sums.
-/
namespace Go.Proofs.Ytfoeelghehjanaa

/-- one bit -/
def bit (p s : Nat) : Nat := if s % 2 = 1 then s / 2 ^^^ p else s / 2
def bits8 (p : Nat) : Nat → Nat → Nat
  | 0, s => s
  | n + 1, s => bit p (bits8 p n s)
/-- one byte -/
def oct (p s c : Nat) : Nat := bits8 p 8 (s ^^^ c)
def run (p : Nat) : Nat → List Nat → Nat
  | s, [] => s
  | s, c :: l => run p (oct p s c) l

theorem bit_of1 {p s : Nat} (h : ((s &&& 1 : Nat) : Int) = 1) : s / 2 ^ 1 ^^^ p = bit p s := by
  have : s % 2 = 1 := by rw [Nat.and_one_is_mod] at h; omega
  simp [bit, this]
theorem bit_of0 {p s : Nat} (h : ¬ ((s &&& 1 : Nat) : Int) = 1) : s / 2 ^ 1 = bit p s := by
  have : s % 2 = 0 := by rw [Nat.and_one_is_mod] at h; omega
  simp [bit, this]
theorem bit_odd {p s : Nat} (h : ((s % 2 : Nat) : Int) = 1) : s / 2 ^^^ p = bit p s := by
  have : s % 2 = 1 := by omega
  simp [bit, this]
theorem bit_even {p s : Nat} (h : ¬ ((s % 2 : Nat) : Int) = 1) : s / 2 = bit p s := by
  have : s % 2 = 0 := by omega
  simp [bit, this]
theorem run_append (p : Nat) (l l' : List Nat) (s : Nat) : run p s (l ++ l') = run p (run p s l) l' := by
  induction l generalizing s with
  | nil => rfl
  | cons c l ih => exact ih _
theorem run_take (p s : Nat) (xs : List Nat) (k : Nat) (h : k < xs.length) : run p s (xs.take (k + 1)) = oct p (run p s (xs.take k)) xs[k] := by
  rw [List.take_succ_eq_append_getElem h, run_append]
  rfl
theorem bit_lt (b p s : Nat) (hp : p < 2 ^ b) (hs : s < 2 ^ b) : bit p s < 2 ^ b := by
  unfold bit
  have : s / 2 < 2 ^ b := by omega
  split
  · exact Nat.xor_lt_two_pow this hp
  · exact this
theorem bits8_lt (b p : Nat) (hp : p < 2 ^ b) : ∀ (n s : Nat), s < 2 ^ b → bits8 p n s < 2 ^ b
  | 0, _, h => h
  | n + 1, s, h => bit_lt b p _ hp (bits8_lt b p hp n s h)
theorem oct_lt (b p s c : Nat) (hp : p < 2 ^ b) (hs : s < 2 ^ b) (hc : c < 2 ^ b) : oct p s c < 2 ^ b :=
  bits8_lt b p hp 8 _ (Nat.xor_lt_two_pow hs hc)
theorem run_lt (b p : Nat) (hp : p < 2 ^ b) (l : List Nat) (s : Nat) (h : s < 2 ^ b) (hl : ∀ c ∈ l, c < 2 ^ b) : run p s l < 2 ^ b := by
  induction l generalizing s with
  | nil => exact h
  | cons c l ih => exact ih _ (oct_lt b p s c hp h (hl c (by simp))) (fun x hx => hl x (by simp [hx]))
def crc16 (l : List Nat) : Nat := 65535 ^^^ run 33800 65535 l
def crc32 (l : List Nat) : Nat := 4294967295 ^^^ run 2197175160 4294967295 l
theorem crc16_eq (l : List Nat) : crc16 l = 65535 ^^^ run 33800 65535 l := rfl
theorem crc32_eq (l : List Nat) : crc32 l = 4294967295 ^^^ run 2197175160 4294967295 l := rfl
theorem crc16_w9 : crc16 [49, 50, 51, 52, 53, 54, 55, 56, 57] = 36974 := by decide +kernel
theorem crc32_w9 : crc32 [49, 50, 51, 52, 53, 54, 55, 56, 57] = 3808858755 := by decide +kernel
attribute [irreducible] crc16 crc32
/-- a number's bytes, the lowest first -/
def leb (n s : Nat) : List Nat := (List.range n).map fun i => s / 2 ^ (8 * i) % 256
theorem leb_succ (n s : Nat) : leb (n + 1) s = leb n s ++ [s / 2 ^ (8 * n) % 256] := by simp [leb, List.range_succ]
theorem leb_length (n s : Nat) : (leb n s).length = n := by simp [leb]
/-- what opening tells -/
def openS (n : Nat) (crc : List Nat → Nat) (xs : List Nat) : List Nat × Int :=
  if xs.length < n then ([], 7) else
  if xs.take (xs.length - n) ++ leb n (crc (xs.take (xs.length - n))) = xs then (xs.take (xs.length - n), 0) else ([], 130)
end Go.Proofs.Ytfoeelghehjanaa
