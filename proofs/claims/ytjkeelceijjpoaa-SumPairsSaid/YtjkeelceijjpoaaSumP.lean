/-
  The plain law of turned bits: what a row's register is when bits of it are turned.
-/
import Derived.Test.YtjkeelceijjpoaaSumM
import Derived.Test.YtjkeelceijjpoaaKf
namespace Go.Proofs.Ytjkeelceijjpoaa
set_option linter.unusedVariables false

theorem xor_half (a b : Nat) : (a ^^^ b) / 2 = a / 2 ^^^ b / 2 := by
  have := Nat.shiftRight_xor_distrib (a := a) (b := b) (i := 1)
  simpa [Nat.shiftRight_eq_div_pow] using this
theorem xor_odd (a b : Nat) : (a ^^^ b) % 2 = (a % 2 + b % 2) % 2 := by
  have h := Nat.testBit_xor a b 0
  simp only [Nat.testBit_zero] at h
  have ha := Nat.mod_two_eq_zero_or_one a
  have hb := Nat.mod_two_eq_zero_or_one b
  have hc := Nat.mod_two_eq_zero_or_one (a ^^^ b)
  rcases ha with ha | ha <;> rcases hb with hb | hb <;> rcases hc with hc | hc <;> simp [ha, hb, hc] at h ⊢
theorem bit_xor (p a b : Nat) : bit p (a ^^^ b) = bit p a ^^^ bit p b := by
  unfold bit
  rw [xor_odd, xor_half]
  rcases Nat.mod_two_eq_zero_or_one a with ha | ha <;> rcases Nat.mod_two_eq_zero_or_one b with hb | hb <;> simp [ha, hb]
  · rw [Nat.xor_assoc]
  · rw [Nat.xor_assoc, Nat.xor_assoc, Nat.xor_comm (b / 2) p]
  · rw [Nat.xor_comm (b / 2) p, ← Nat.xor_assoc, Nat.xor_assoc (a / 2) p p, Nat.xor_self, Nat.xor_zero]
theorem bit_zero (p : Nat) : bit p 0 = 0 := by simp [bit]
theorem bit_two (p a : Nat) : bit p (2 * a) = a := by simp [bit]
theorem steps_xor (p : Nat) : ∀ (n a b : Nat), bits8 p n (a ^^^ b) = bits8 p n a ^^^ bits8 p n b
  | 0, _, _ => rfl
  | n + 1, a, b => by simp only [bits8, steps_xor p n, bit_xor]
theorem steps_zero (p : Nat) : ∀ n, bits8 p n 0 = 0
  | 0 => rfl
  | n + 1 => by simp only [bits8, steps_zero p n, bit_zero]
theorem steps_add (p : Nat) (m : Nat) : ∀ (n s : Nat), bits8 p (n + m) s = bits8 p n (bits8 p m s)
  | 0, s => by simp [bits8]
  | n + 1, s => by rw [show n + 1 + m = (n + m) + 1 from by omega]; simp only [bits8, steps_add p m n]
theorem steps_pow (p : Nat) : ∀ (n a : Nat), bits8 p n (2 ^ n * a) = a
  | 0, a => by simp [bits8]
  | n + 1, a => by
    rw [show n + 1 = n + 1 from rfl, steps_add p 1 n]
    have : bits8 p 1 (2 ^ (n + 1) * a) = 2 ^ n * a := by
      simp only [bits8]
      rw [show 2 ^ (n + 1) * a = 2 * (2 ^ n * a) from by rw [Nat.pow_succ, Nat.mul_comm (2 ^ n) 2, Nat.mul_assoc]]
      exact bit_two p _
    rw [this, steps_pow p n a]
theorem xor_self_cancel {a b : Nat} (h : a ^^^ b = 0) : a = b := by
  have : a ^^^ b ^^^ b = b := by rw [h, Nat.zero_xor]
  rwa [Nat.xor_assoc, Nat.xor_self, Nat.xor_zero] at this
/-- the register's top bit stands in p: so nothing is lost -/
theorem bit_inj0 {b p s : Nat} (hp : 2 ^ b ≤ p) (hs : s < 2 ^ (b + 1)) (h : bit p s = 0) : s = 0 := by
  unfold bit at h
  split at h
  · have e := xor_self_cancel h
    have : s / 2 < 2 ^ b := by rw [Nat.pow_succ] at hs; omega
    omega
  · omega
theorem steps_inj0 {b p : Nat} (hp : 2 ^ b ≤ p) (hp2 : p < 2 ^ (b + 1)) : ∀ (n s : Nat), s < 2 ^ (b + 1) → bits8 p n s = 0 → s = 0
  | 0, s, _, h => h
  | n + 1, s, hs, h => by
    have h1 := bits8_lt (b + 1) p hp2 n s hs
    exact steps_inj0 hp hp2 n s hs (bit_inj0 hp h1 h)
theorem xor_pow_add (n a c : Nat) (h : c < 2 ^ n) : c ^^^ 2 ^ n * a = c + 2 ^ n * a := by
  apply Nat.eq_of_testBit_eq
  intro j
  rw [Nat.add_comm, Nat.testBit_two_pow_mul_add a h, Nat.testBit_xor, Nat.testBit_two_pow_mul]
  by_cases hj : j < n
  · simp [hj, show ¬ j ≥ n from by omega]
  · have : c.testBit j = false := Nat.testBit_lt_two_pow (Nat.lt_of_lt_of_le h (Nat.pow_le_pow_right (by omega) (by omega)))
    simp [hj, this, show j ≥ n from by omega]

theorem bits8_zero' (p s : Nat) : bits8 p 0 s = s := rfl
attribute [local irreducible] bits8
/-! ## A row and its register -/
theorem run_nil (p s : Nat) : run p s [] = s := rfl
theorem run_cons (p s c : Nat) (l : List Nat) : run p s (c :: l) = run p (bits8 p 8 (s ^^^ c)) l := rfl
attribute [local irreducible] run oct bit
theorem run_xor (p : Nat) (l : List Nat) : ∀ (s d : Nat), run p (s ^^^ d) l = run p s l ^^^ bits8 p (8 * l.length) d := by
  induction l with
  | nil => intro s d; rw [run_nil, run_nil, List.length_nil, Nat.mul_zero, bits8_zero']
  | cons c l ih =>
    intro s d
    have e : s ^^^ d ^^^ c = (s ^^^ c) ^^^ d := by rw [Nat.xor_assoc, Nat.xor_comm d c, ← Nat.xor_assoc]
    rw [run_cons, run_cons, e, steps_xor, ih, List.length_cons, Nat.mul_add, Nat.mul_one, steps_add]
/-- one bit of a row turned -/
def flipb (l : List Nat) (j : Nat) : List Nat := l.set (j / 8) (l.getD (j / 8) 0 ^^^ 2 ^ (j % 8))
theorem flipb_length (l : List Nat) (j : Nat) : (flipb l j).length = l.length := by simp [flipb]
theorem steps_pow1 (p n : Nat) : bits8 p n (2 ^ n) = 1 := by
  have := steps_pow p n 1
  rwa [Nat.mul_one] at this
theorem steps_pow1' (p n m : Nat) (h : m ≤ n) : bits8 p n (2 ^ m) = bits8 p (n - m) 1 := by
  obtain ⟨k, rfl⟩ : ∃ k, n = k + m := ⟨n - m, by omega⟩
  rw [steps_add, steps_pow1, Nat.add_sub_cancel]
theorem run_flip_cons (p r c : Nat) (l : List Nat) (s : Nat) (hr : r < 8) : run p s ((c ^^^ 2 ^ r) :: l) = run p s (c :: l) ^^^ bits8 p (8 * (l.length + 1) - r) 1 := by
  have e : s ^^^ (c ^^^ 2 ^ r) = (s ^^^ c) ^^^ 2 ^ r := by rw [Nat.xor_assoc]
  have e2 : 8 * (l.length + 1) - r = 8 * l.length + (8 - r) := by omega
  rw [run_cons, run_cons, e, steps_xor, run_xor, steps_pow1' p 8 r (by omega), ← steps_add, e2]
theorem run_set (p r : Nat) (hr : r < 8) (l : List Nat) : ∀ (q s : Nat), q < l.length → run p s (l.set q (l.getD q 0 ^^^ 2 ^ r)) = run p s l ^^^ bits8 p (8 * (l.length - q) - r) 1 := by
  induction l with
  | nil => intro q s h; simp at h
  | cons c l ih =>
    intro q s h
    cases q with
    | zero =>
      rw [List.set_cons_zero, List.getD_cons_zero, List.length_cons, Nat.sub_zero]
      exact run_flip_cons p r c l s hr
    | succ q =>
      rw [List.set_cons_succ, List.getD_cons_succ, List.length_cons, run_cons, run_cons, ih q _ (by simpa using h), Nat.add_sub_add_right]
theorem run_flip (p : Nat) (l : List Nat) (j s : Nat) (h : j < 8 * l.length) : run p s (flipb l j) = run p s l ^^^ bits8 p (8 * l.length - j) 1 := by
  unfold flipb
  have e : 8 * (l.length - j / 8) - j % 8 = 8 * l.length - j := by omega
  rw [run_set p (j % 8) (Nat.mod_lt _ (by omega)) l (j / 8) s (by omega), e]
/-- bits of a mask turned, from k on -/
def flips (l : List Nat) (k mask : Nat) : Nat → List Nat
  | 0 => l
  | i + 1 => if mask.testBit i ∧ k + i < 8 * l.length then flipb (flips l k mask i) (k + i) else flips l k mask i
theorem flips_length (l : List Nat) (k mask : Nat) : ∀ i, (flips l k mask i).length = l.length
  | 0 => rfl
  | i + 1 => by unfold flips; split <;> simp [flipb_length, flips_length l k mask i]
/-- some bit was turned -/
def some_ (l : List Nat) (k mask n : Nat) : Bool := mask % 2 ^ min n (8 * l.length - k) != 0
theorem mod_pow_succ (a i : Nat) : a % 2 ^ (i + 1) = a % 2 ^ i ^^^ (if a.testBit i then 2 ^ i else 0) := by
  apply Nat.eq_of_testBit_eq
  intro j
  rw [Nat.testBit_xor, Nat.testBit_mod_two_pow, Nat.testBit_mod_two_pow]
  by_cases h : j < i
  · have h1 : j < i + 1 := by omega
    have h2 : (if a.testBit i then 2 ^ i else 0 : Nat).testBit j = false := by
      split
      · rw [Nat.testBit_two_pow]; simp; omega
      · simp
    simp [h, h1, h2]
  · by_cases h' : j = i
    · subst h'
      cases hb : a.testBit j <;> simp
    · have h1 : ¬ j < i + 1 := by omega
      have h2 : (if a.testBit i then 2 ^ i else 0 : Nat).testBit j = false := by
        split
        · rw [Nat.testBit_two_pow]; simp; omega
        · simp
      simp [h, h1, h2]
theorem flips_succ (l : List Nat) (k mask i : Nat) : flips l k mask (i + 1) = if mask.testBit i ∧ k + i < 8 * l.length then flipb (flips l k mask i) (k + i) else flips l k mask i := rfl
attribute [local irreducible] flips flipb
theorem run_flips (p : Nat) (l : List Nat) (k mask s : Nat) (hk : k ≤ 8 * l.length) (i : Nat) : run p s (flips l k mask i) = run p s l ^^^ bits8 p (8 * l.length - k) (mask % 2 ^ min i (8 * l.length - k)) := by
  induction i with
  | zero =>
    have e : flips l k mask 0 = l := by unfold flips; rfl
    rw [e, Nat.zero_min, Nat.pow_zero, Nat.mod_one, steps_zero, Nat.xor_zero]
  | succ i ih =>
    rw [flips_succ]
    by_cases hlt : k + i < 8 * l.length
    · have e1 : min i (8 * l.length - k) = i := by omega
      have e2 : min (i + 1) (8 * l.length - k) = i + 1 := by omega
      rw [e1] at ih
      rw [e2, mod_pow_succ, steps_xor, ← Nat.xor_assoc, ← ih]
      cases hb : mask.testBit i with
      | false => rw [if_neg (by simp), if_neg (by simp), steps_zero, Nat.xor_zero]
      | true =>
        rw [if_pos ⟨rfl, hlt⟩, if_pos rfl, run_flip p _ _ _ (by rw [flips_length]; exact hlt), flips_length, steps_pow1' p _ i (by omega), show 8 * l.length - k - i = 8 * l.length - (k + i) from by omega]
    · have e1 : min (i + 1) (8 * l.length - k) = min i (8 * l.length - k) := by omega
      rw [if_neg (fun h => hlt h.2), e1]
      exact ih

theorem Bs_flipb {l : List Nat} (h : Bs l) (j : Nat) : Bs (flipb l j) := by
  unfold flipb
  intro x hx
  rcases List.mem_or_eq_of_mem_set hx with hx | rfl
  · exact h x hx
  · have h2 : 2 ^ (j % 8) < 2 ^ 8 := Nat.pow_lt_pow_right (by omega) (Nat.mod_lt _ (by omega))
    refine Nat.xor_lt_two_pow (n := 8) ?_ h2
    rcases Nat.lt_or_ge (j / 8) l.length with hl | hl
    · simp only [List.getD_eq_getElem?_getD, List.getElem?_eq_getElem hl, Option.getD_some]; exact h.get hl
    · simp only [List.getD_eq_getElem?_getD, List.getElem?_eq_none hl, Option.getD_none]; decide
theorem Bs_flips {l : List Nat} (h : Bs l) (k mask n : Nat) : Bs (flips l k mask n) := by
  induction n with
  | zero => unfold flips; exact h
  | succ n ih =>
    rw [flips_succ]
    split
    · exact Bs_flipb ih _
    · exact ih
/-! ## Which rows are sealed -/
def num : List Nat → Nat
  | [] => 0
  | c :: l => c + 256 * num l
theorem run_tail (p : Nat) (t : List Nat) (h : Bs t) : ∀ s, run p s t = bits8 p (8 * t.length) (s ^^^ num t) := by
  induction t with
  | nil => intro s; rw [run_nil, List.length_nil, Nat.mul_zero, bits8_zero', num, Nat.xor_zero]
  | cons c t ih =>
    intro s
    have hc : c < 2 ^ 8 := h c (by simp)
    have e : num (c :: t) = c ^^^ 2 ^ 8 * num t := by rw [xor_pow_add 8 _ _ hc, num]
    rw [run_cons, ih (fun x hx => h x (by simp [hx])), e, ← Nat.xor_assoc, List.length_cons, Nat.mul_add, Nat.mul_one, steps_add, steps_xor p 8 (s ^^^ c) (2 ^ 8 * num t), steps_pow]
theorem leb_cons (n v : Nat) : leb (n + 1) v = v % 256 :: leb n (v / 256) := by
  simp only [leb, List.range_succ_eq_map, List.map_cons, List.map_map]
  congr 1
  · simp
  · apply List.map_congr_left
    intro i _
    simp only [Function.comp]
    rw [Nat.div_div_eq_div_mul, show 8 * (i + 1) = 8 + 8 * i from by omega, Nat.pow_add]
theorem leb_num : ∀ (t : List Nat), Bs t → leb t.length (num t) = t
  | [], _ => rfl
  | c :: t, h => by
    have hc : c < 256 := h c (by simp)
    rw [List.length_cons, leb_cons, num]
    have e1 : (c + 256 * num t) % 256 = c := by omega
    have e2 : (c + 256 * num t) / 256 = num t := by omega
    rw [e1, e2, leb_num t (fun x hx => h x (by simp [hx]))]
theorem num_leb : ∀ (n v : Nat), v < 2 ^ (8 * n) → num (leb n v) = v
  | 0, v, h => by simp [leb, num] at h ⊢; omega
  | n + 1, v, h => by
    have : v / 256 < 2 ^ (8 * n) := by
      rw [show 8 * (n + 1) = 8 * n + 8 from by omega, Nat.pow_add] at h
      omega
    rw [leb_cons, num, num_leb n _ this]
    omega
theorem leb_iff {n v : Nat} {t : List Nat} (hv : v < 2 ^ (8 * n)) (ht : t.length = n) (hb : Bs t) : leb n v = t ↔ v = num t := by
  constructor
  · intro h; rw [← h, num_leb n v hv]
  · intro h; rw [h, ← ht, leb_num t hb]

structure Poly (m p all : Nat) (crc : List Nat → Nat) : Prop where
  lo : 2 ^ (8 * m - 1) ≤ p
  hi : p < 2 ^ (8 * m)
  pos : 0 < m
  al : all < 2 ^ (8 * m)
  eq : ∀ l, crc l = all ^^^ run p all l
section
variable {m p all : Nat} {crc : List Nat → Nat}
theorem Poly.inj0 (h : Poly m p all crc) {n s : Nat} (hs : s < 2 ^ (8 * m)) (h0 : bits8 p n s = 0) : s = 0 := by
  have hp := h.pos
  have e : 8 * m = (8 * m - 1) + 1 := by omega
  exact steps_inj0 (b := 8 * m - 1) h.lo (by rw [← e]; exact h.hi) n s (by rw [← e]; exact hs) h0
theorem Poly.inj (h : Poly m p all crc) {n s t : Nat} (hs : s < 2 ^ (8 * m)) (ht : t < 2 ^ (8 * m)) (h0 : bits8 p n s = bits8 p n t) : s = t := by
  have h1 : bits8 p n (s ^^^ t) = 0 := by rw [steps_xor, h0, Nat.xor_self]
  exact xor_self_cancel (h.inj0 (Nat.xor_lt_two_pow hs ht) h1)
theorem Poly.run_lt (h : Poly m p all crc) {l : List Nat} (hl : Bs l) : run p all l < 2 ^ (8 * m) :=
  Proofs.Ytjkeelceijjpoaa.run_lt (8 * m) p h.hi l all h.al (fun c hc => Nat.lt_of_lt_of_le (hl c hc) (by have := h.pos; exact Nat.pow_le_pow_right (n := 2) (by omega) (show 8 ≤ 8 * m by omega)))
theorem Poly.sealed (h : Poly m p all crc) {l t : List Nat} (hl : Bs l) (ht : Bs t) (hm : t.length = m) : leb m (crc l) = t ↔ run p all (l ++ t) = bits8 p (8 * m) all := by
  have hr := h.run_lt hl
  have hn : num t < 2 ^ (8 * m) := by
    have : ∀ (t : List Nat), Bs t → num t < 2 ^ (8 * t.length) := by
      intro t
      induction t with
      | nil => intro _; simp [num]
      | cons c t ih =>
        intro hb
        have h1 := ih (fun x hx => hb x (by simp [hx]))
        have h2 : c < 256 := hb c (by simp)
        rw [List.length_cons, show 8 * (t.length + 1) = 8 * t.length + 8 from by omega, Nat.pow_add, num]
        omega
    rw [← hm]; exact this t ht
  have hc : crc l < 2 ^ (8 * m) := by rw [h.eq]; exact Nat.xor_lt_two_pow h.al hr
  rw [leb_iff hc hm ht, run_append, run_tail p t ht, hm, h.eq]
  constructor
  · intro e
    rw [← e, Nat.xor_comm all, ← Nat.xor_assoc, Nat.xor_self, Nat.zero_xor]
  · intro e
    have := h.inj (Nat.xor_lt_two_pow hr hn) h.al e
    generalize run p all l = r at *
    rw [← this, Nat.xor_comm r, Nat.xor_assoc, Nat.xor_self, Nat.xor_zero]
theorem Poly.open_ (h : Poly m p all crc) {y : List Nat} (hy : Bs y) (hl : m ≤ y.length) : (openS m crc y).2 = if run p all y = bits8 p (8 * m) all then 0 else 130 := by
  have hs := h.sealed (l := y.take (y.length - m)) (t := y.drop (y.length - m)) (hy.take _) (hy.drop _) (by simp; omega)
  rw [List.take_append_drop] at hs
  have e : (y.take (y.length - m) ++ leb m (crc (y.take (y.length - m))) = y) ↔ leb m (crc (y.take (y.length - m))) = y.drop (y.length - m) := by
    constructor
    · intro e
      have := congrArg (List.drop (y.length - m)) e
      rwa [List.drop_left' (by simp)] at this
    · intro e
      rw [e, List.take_append_drop]
  unfold openS
  rw [if_neg (by omega)]
  by_cases hq : run p all y = bits8 p (8 * m) all
  · rw [if_pos (e.2 (hs.2 hq)), if_pos hq]
  · rw [if_neg (fun h => hq (hs.1 (e.1 h))), if_neg hq]
theorem leb_bs (n s : Nat) : Bs (leb n s) := by
  intro x hx
  simp only [leb, List.mem_map] at hx
  obtain ⟨i, _, rfl⟩ := hx
  omega
/-- turned bits are told -/
theorem Poly.told (h : Poly m p all crc) {xs : List Nat} (hx : Bs xs) (k mask n : Nat) (hk : k ≤ 8 * (xs ++ leb m (crc xs)).length)
    (hd : ∀ R, bits8 p R (mask % 2 ^ min n R) = 0 → mask % 2 ^ min n R = 0) :
    decide ((openS m crc (flips (xs ++ leb m (crc xs)) k mask n)).2 = 130) = some_ (xs ++ leb m (crc xs)) k mask n := by
  have hb : Bs (xs ++ leb m (crc xs)) := hx.append (leb_bs _ _)
  have h0 := (h.sealed hx (leb_bs m (crc xs)) (leb_length _ _)).1 rfl
  have hL : m ≤ (xs ++ leb m (crc xs)).length := by rw [List.length_append, leb_length]; omega
  generalize xs ++ leb m (crc xs) = y at *
  rw [h.open_ (Bs_flips hb k mask n) (by rw [flips_length]; exact hL), run_flips p y k mask all hk n, h0]
  unfold some_
  have hR := hd (8 * y.length - k)
  generalize mask % 2 ^ min n (8 * y.length - k) = M at *
  by_cases hM : M = 0
  · subst hM
    rw [steps_zero, Nat.xor_zero, if_pos rfl]; rfl
  · rw [if_neg]
    · simp [hM]
    · intro e
      apply hM
      apply hR
      have e2 : bits8 p (8 * m) all ^^^ (bits8 p (8 * m) all ^^^ bits8 p (8 * y.length - k) M) = 0 := by rw [e, Nat.xor_self]
      rw [← Nat.xor_assoc, Nat.xor_self, Nat.zero_xor] at e2
      exact e2
theorem Poly.burst (h : Poly m p all crc) (n mask : Nat) (hn : n ≤ 8 * m) (R : Nat) (h0 : bits8 p R (mask % 2 ^ min n R) = 0) : mask % 2 ^ min n R = 0 := by
  refine h.inj0 (Nat.lt_of_lt_of_le (Nat.mod_lt _ (Nat.pow_pos (by omega))) (Nat.pow_le_pow_right (by omega) (by omega))) h0
theorem Poly.pair (h : Poly m p all crc) (hg : ∀ g, g < 64 → 0 < g → bits8 p g 1 ≠ 1) (g : Nat) (h1 : g < 64) (h2 : 0 < g) (R : Nat) (h0 : bits8 p R ((1 ||| 2 ^ g) % 2 ^ min 64 R) = 0) : (1 ||| 2 ^ g) % 2 ^ min 64 R = 0 := by
  have hm : (1 : Nat) < 2 ^ (8 * m) := by
    have := h.pos
    have : 2 ^ 1 ≤ 2 ^ (8 * m) := Nat.pow_le_pow_right (by omega) (by omega)
    omega
  have e : 1 ||| 2 ^ g = 1 ^^^ 2 ^ g := by
    apply Nat.eq_of_testBit_eq
    intro j
    rw [Nat.testBit_or, Nat.testBit_xor, Nat.testBit_two_pow, show (1 : Nat) = 2 ^ 0 from rfl, Nat.testBit_two_pow]
    by_cases hj : 0 = j <;> by_cases hj2 : g = j <;> simp [hj, hj2] <;> omega
  have ea : 1 ^^^ 2 ^ g = 1 + 2 ^ g := by
    obtain ⟨k, rfl⟩ : ∃ k, g = k + 1 := ⟨g - 1, by omega⟩
    have := xor_pow_add 1 (2 ^ k) 1 (by decide)
    rw [show 2 ^ (k + 1) = 2 ^ 1 * 2 ^ k from by rw [Nat.pow_succ, Nat.mul_comm, Nat.pow_one]]
    exact this
  by_cases hR : R ≤ g
  · rw [show min 64 R = R from by omega] at h0 ⊢
    obtain ⟨k, rfl⟩ : ∃ k, g = R + k := ⟨g - R, by omega⟩
    rcases Nat.eq_zero_or_pos R with hz | hz
    · subst hz; simp [Nat.mod_one]
    · exfalso
      have hpos : 2 ^ 1 ≤ 2 ^ R := Nat.pow_le_pow_right (by omega) hz
      rw [e, ea, Nat.pow_add, Nat.add_mul_mod_self_left, Nat.mod_eq_of_lt (by omega)] at h0
      have := h.inj0 hm h0
      omega
  · exfalso
    have hlt : 1 + 2 ^ g < 2 ^ min 64 R := by
      have : 2 ^ (g + 1) ≤ 2 ^ min 64 R := Nat.pow_le_pow_right (by omega) (by omega)
      have h3 : 2 ^ 1 ≤ 2 ^ g := Nat.pow_le_pow_right (by omega) h2
      rw [Nat.pow_succ] at this
      omega
    rw [e, ea, Nat.mod_eq_of_lt hlt, ← ea] at h0
    obtain ⟨k, rfl⟩ : ∃ k, R = k + g := ⟨R - g, by omega⟩
    rw [steps_add, steps_xor p g, steps_pow1] at h0
    have hlt2 : bits8 p g 1 ^^^ 1 < 2 ^ (8 * m) := Nat.xor_lt_two_pow (bits8_lt _ p h.hi g 1 hm) hm
    exact hg g h1 h2 (xor_self_cancel (h.inj0 hlt2 h0))
end
end Go.Proofs.Ytjkeelceijjpoaa
