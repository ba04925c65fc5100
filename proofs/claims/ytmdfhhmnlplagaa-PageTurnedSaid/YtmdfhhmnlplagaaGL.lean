/-
  A page's bytes have an even number of bits that are set (no program in sight).
-/
import Derived.Test.YtmdfhhmnlplagaaGA
namespace Go.Proofs.Ytmdfhhmnlplagaa
open Go.RowKit
set_option linter.unusedVariables false
set_option linter.unusedSimpArgs false

/-- of so many bits, are those that are set odd in number? -/
def parN : Nat → Nat → Bool
  | 0, _ => false
  | n + 1, x => Bool.xor (x % 2 == 1) (parN n (x / 2))
theorem parN_succ (n x : Nat) : parN (n + 1) x = Bool.xor (x % 2 == 1) (parN n (x / 2)) := rfl
theorem parN_zero : ∀ n, parN n 0 = false
  | 0 => rfl
  | n + 1 => by unfold parN; rw [Nat.zero_div, parN_zero n]; rfl
theorem odd_xor (a b : Nat) : ((a ^^^ b) % 2 == 1) = Bool.xor (a % 2 == 1) (b % 2 == 1) := by
  have h : (a ^^^ b) % 2 = (a % 2 + b % 2) % 2 := by
    have h1 := Nat.testBit_xor a b 0
    simp only [Nat.testBit_zero] at h1
    rcases Nat.mod_two_eq_zero_or_one a with ha | ha <;> rcases Nat.mod_two_eq_zero_or_one b with hb | hb <;> rcases Nat.mod_two_eq_zero_or_one (a ^^^ b) with hc | hc <;> simp_all
  rw [h]
  rcases Nat.mod_two_eq_zero_or_one a with ha | ha <;> rcases Nat.mod_two_eq_zero_or_one b with hb | hb <;> rw [ha, hb] <;> rfl
theorem half_xor (a b : Nat) : (a ^^^ b) / 2 = a / 2 ^^^ b / 2 := by
  apply Nat.eq_of_testBit_eq
  intro i
  rw [Nat.testBit_div_two, Nat.testBit_xor, Nat.testBit_xor, Nat.testBit_div_two, Nat.testBit_div_two]
theorem parN_xor : ∀ (n a b : Nat), parN n (a ^^^ b) = Bool.xor (parN n a) (parN n b)
  | 0, a, b => rfl
  | n + 1, a, b => by
    unfold parN
    rw [odd_xor, half_xor, parN_xor n]
    cases (a % 2 == 1) <;> cases (b % 2 == 1) <;> cases parN n (a / 2) <;> cases parN n (b / 2) <;> rfl
theorem parN_more : ∀ (n m x : Nat), x < 2 ^ n → parN (n + m) x = parN n x
  | 0, m, x, h => by
    have : x = 0 := by simpa using h
    subst this
    rw [parN_zero, parN_zero]
  | n + 1, m, x, h => by
    rw [show n + 1 + m = (n + m) + 1 by omega]
    unfold parN
    rw [parN_more n m (x / 2) (by rw [Nat.pow_succ] at h; omega)]
def par (x : Nat) : Bool := parN 32 x
theorem par_xor (a b : Nat) : par (a ^^^ b) = Bool.xor (par a) (par b) := parN_xor 32 a b
theorem par_half {s : Nat} (h : s < 2 ^ 32) : par s = Bool.xor (s % 2 == 1) (par (s / 2)) := by
  have e : par (s / 2) = parN 31 (s / 2) := parN_more 31 1 (s / 2) (by rw [show (2 : Nat) ^ 32 = 2 ^ 31 * 2 from rfl] at h; omega)
  rw [e]
  rfl
theorem par_bit {p s : Nat} (hp : par p = true) (hs : s < 2 ^ 32) : par (bit p s) = par s := by
  have h := par_half hs
  unfold bit
  by_cases ho : s % 2 = 1
  · rw [if_pos ho, par_xor, hp, h, ho]
    cases par (s / 2) <;> rfl
  · rw [if_neg ho, h, show s % 2 = 0 by omega]
    cases par (s / 2) <;> rfl
theorem par_bits8 {p : Nat} (hp : par p = true) (hp2 : p < 2 ^ 32) : ∀ (n s : Nat), s < 2 ^ 32 → par (bits8 p n s) = par s
  | 0, s, _ => rfl
  | n + 1, s, h => by
    show par (bit p (bits8 p n s)) = par s
    rw [par_bit hp (bits8_lt 32 p hp2 n s h), par_bits8 hp hp2 n s h]
/-- of a row of bytes -/
def parL : List Nat → Bool
  | [] => false
  | c :: l => Bool.xor (par c) (parL l)
theorem parL_cons (c : Nat) (l : List Nat) : parL (c :: l) = Bool.xor (par c) (parL l) := rfl
theorem parL_append : ∀ (l m : List Nat), parL (l ++ m) = Bool.xor (parL l) (parL m)
  | [], m => by simp [parL]
  | c :: l, m => by
    rw [List.cons_append, parL_cons, parL_cons, parL_append l m]
    cases par c <;> cases parL l <;> cases parL m <;> rfl
theorem parL_set : ∀ (l : List Nat) (i x : Nat) (h : i < l.length), parL (l.set i (l[i] ^^^ x)) = Bool.xor (parL l) (par x)
  | [], i, x, h => by simp at h
  | c :: l, 0, x, h => by
    show Bool.xor (par (c ^^^ x)) (parL l) = Bool.xor (Bool.xor (par c) (parL l)) (par x)
    rw [par_xor]
    cases par c <;> cases parL l <;> cases par x <;> rfl
  | c :: l, i + 1, x, h => by
    show Bool.xor (par c) (parL (l.set i (l[i]'(by simpa using h) ^^^ x))) = Bool.xor (Bool.xor (par c) (parL l)) (par x)
    rw [parL_set l i x (by simpa using h)]
    cases par c <;> cases parL l <;> cases par x <;> rfl
theorem par_run {p : Nat} (hp : par p = true) (hp2 : p < 2 ^ 32) : ∀ (l : List Nat) (s : Nat), s < 2 ^ 32 → Bs l → par (run p s l) = Bool.xor (par s) (parL l)
  | [], s, hs, hl => by
    show par s = Bool.xor (par s) false
    cases par s <;> rfl
  | c :: l, s, hs, hl => by
    have hc : c < 2 ^ 32 := by have := hl c (by simp); omega
    have hx : s ^^^ c < 2 ^ 32 := Nat.xor_lt_two_pow hs hc
    show par (run p (bits8 p 8 (s ^^^ c)) l) = _
    rw [par_run hp hp2 l _ (bits8_lt 32 p hp2 8 _ hx) fun x h => hl x (by simp [h]), par_bits8 hp hp2 8 _ hx, par_xor, parL_cons]
    cases par s <;> cases par c <;> cases parL l <;> rfl
theorem crc_par {l : List Nat} (hl : Bs l) : par (crc32 l) = parL l := by
  rw [crc32_eq, par_xor, par_run (by decide) (by decide) l _ (by decide) hl]
  have : par 4294967295 = false := by decide
  rw [this]
  cases parL l <;> rfl
theorem parN_split : ∀ (n m x : Nat), parN (n + m) x = Bool.xor (parN n x) (parN m (x / 2 ^ n))
  | 0, m, x => by simp [parN]
  | n + 1, m, x => by
    rw [show n + 1 + m = (n + m) + 1 by omega, parN_succ, parN_succ, parN_split n m (x / 2), Nat.div_div_eq_div_mul, show 2 * 2 ^ n = 2 ^ (n + 1) by rw [Nat.pow_succ, Nat.mul_comm]]
    cases (x % 2 == 1) <;> cases parN n (x / 2) <;> cases parN m (x / 2 ^ (n + 1)) <;> rfl
theorem parN_mod (n x : Nat) : parN n (x % 2 ^ n) = parN n x := by
  induction n generalizing x with
  | zero => rfl
  | succ n ih =>
    unfold parN
    have h1 : x % 2 ^ (n + 1) % 2 = x % 2 := by rw [Nat.pow_succ]; exact Nat.mod_mul_left_mod x (2 ^ n) 2
    have h2 : x % 2 ^ (n + 1) / 2 = x / 2 % 2 ^ n := by rw [Nat.pow_succ, Nat.mul_comm]; exact Nat.mod_mul_right_div_self x 2 (2 ^ n)
    rw [h1, h2, ih]
theorem par_byte (x : Nat) : par (x % 256) = parN 8 x := by
  have h : par (x % 256) = parN 8 (x % 256) := parN_more 8 24 (x % 256) (Nat.mod_lt _ (by decide))
  rw [h]
  exact parN_mod 8 x
theorem parL_beb4 (x : Nat) : parL (beb 4 x) = par x := by
  have eb : beb 4 x = [x / 2 ^ 24 % 256, x / 2 ^ 16 % 256, x / 2 ^ 8 % 256, x / 2 ^ 0 % 256] := by simp [beb]
  have en : parL [] = false := rfl
  have s1 : parN 32 x = _ := parN_split 8 24 x
  have s2 : parN 24 (x / 2 ^ 8) = _ := parN_split 8 16 (x / 2 ^ 8)
  have s3 : parN 16 (x / 2 ^ 8 / 2 ^ 8) = _ := parN_split 8 8 (x / 2 ^ 8 / 2 ^ 8)
  rw [Nat.div_div_eq_div_mul, show (2 : Nat) ^ 8 * 2 ^ 8 = 2 ^ 16 from rfl] at s2 s3
  rw [Nat.div_div_eq_div_mul, show (2 : Nat) ^ 16 * 2 ^ 8 = 2 ^ 24 from rfl] at s3
  show _ = parN 32 x
  rw [eb, parL_cons, parL_cons, parL_cons, parL_cons, en, par_byte, par_byte, par_byte, par_byte, s1, s2, s3, Nat.pow_zero, Nat.div_one]
  cases parN 8 x <;> cases parN 8 (x / 2 ^ 8) <;> cases parN 8 (x / 2 ^ 16) <;> cases parN 8 (x / 2 ^ 24) <;> rfl
theorem enc_even {p : PM} (hp : p.ok) (hs : ∀ x ∈ p.s, x.length ≤ 52) : parL p.enc = false := by
  unfold PM.enc
  rw [parL_append, parL_beb4, crc_par (body_bs hp hs)]
  cases parL p.body <;> rfl
theorem zero_even : ∀ {l : List Nat}, zeroB l = true → parL l = false
  | [], _ => rfl
  | c :: l, h => by
    unfold zeroB at h
    rw [List.all_cons, Bool.and_eq_true] at h
    have hc : c = 0 := by simpa using h.1
    subst hc
    rw [parL_cons, zero_even (l := l) h.2]
    rfl
theorem dec_odd {n : Int} {c : List Nat} (hc : Bs c) (hl : c.length = 256) (hn : numd n) (ho : parL c = true) : decP n c = (PM.zero, 160) := by
  unfold decP
  rw [if_neg (fun h => h hn), if_neg (fun h => h hl)]
  cases hz : zeroB c
  · rw [if_neg (by decide), if_neg]
    intro he
    have := enc_even (parse_ok (n := n) hc) parse_short
    rw [he, ho] at this
    cases this
  · rw [zero_even hz] at ho
    cases ho
theorem par_one {m : Nat} (h : m < 8) : par (128 / 2 ^ m) = true := by
  have : ∀ m, m < 8 → par (128 / 2 ^ m) = true := by decide
  exact this m h
end Go.Proofs.Ytmdfhhmnlplagaa
