/-
  Rows of bytes.
-/
import Derived.Test.YtaiahigeejodaaaKe
namespace Go.Proofs.Ytaiahigeejodaaa
open Go.RowKit
set_option linter.unusedVariables false
set_option linter.unusedSimpArgs false

/-- bytes as values -/
def bys (xs : List Nat) : List Value := xs.map fun (x : Nat) => .int .u8 (x : Int)
/-- all are bytes -/
def Bs (xs : List Nat) : Prop := ∀ x ∈ xs, x < 256

theorem bys_length (xs : List Nat) : (bys xs).length = xs.length := by simp [bys]
theorem bys_append (xs ys : List Nat) : bys (xs ++ ys) = bys xs ++ bys ys := by simp [bys]
theorem bys_take (xs : List Nat) (k : Nat) : bys (xs.take k) = (bys xs).take k := by simp [bys]
theorem bys_drop (xs : List Nat) (k : Nat) : bys (xs.drop k) = (bys xs).drop k := by simp [bys]
theorem bys_one (xs : List Nat) : ∀ u ∈ bys xs, u.oneCell' = true := by
  intro u hu
  simp only [bys, List.mem_map] at hu
  obtain ⟨x, _, rfl⟩ := hu
  rfl
theorem bys_get {xs : List Nat} {k : Nat} (h : k < xs.length) : (bys xs)[k]? = some (.int .u8 ((xs[k] : Nat) : Int)) := by
  simp [bys, h]
theorem bys_getI {xs : List Nat} {k : Nat} (h : k < xs.length) : (bys xs)[((k : Nat) : Int).toNat]? = some (.int .u8 ((xs[k] : Nat) : Int)) := bys_get h
theorem Bs.nil : Bs [] := fun _ h => by cases h
theorem Bs.append {xs ys : List Nat} (h : Bs xs) (h' : Bs ys) : Bs (xs ++ ys) := fun x hx => by
  rcases List.mem_append.1 hx with hx | hx
  · exact h x hx
  · exact h' x hx
theorem Bs.take {xs : List Nat} (h : Bs xs) (k : Nat) : Bs (xs.take k) := fun x hx => h x (List.mem_of_mem_take hx)
theorem Bs.drop {xs : List Nat} (h : Bs xs) (k : Nat) : Bs (xs.drop k) := fun x hx => h x (List.mem_of_mem_drop hx)
theorem Bs.get {xs : List Nat} (h : Bs xs) {k : Nat} (hk : k < xs.length) : xs[k] < 256 := h _ (List.getElem_mem hk)
theorem Bs.one {x : Nat} (h : x < 256) : Bs [x] := fun y hy => by simp at hy; omega

/-! ## Bits of numbers that are not negative -/
theorem bits_nat3 (k : IntKind) (hs : k.signed = false) (a b : Nat) (ha : a < 2 ^ k.bits) (hb : b < 2 ^ k.bits) :
    bits .and k a b = ((a &&& b : Nat) : Int) ∧ bits .or k a b = ((a ||| b : Nat) : Int) ∧ bits .xor k a b = ((a ^^^ b : Nat) : Int) := by
  have ha' : a % 2 ^ k.bits = a := Nat.mod_eq_of_lt ha
  have hb' : b % 2 ^ k.bits = b := Nat.mod_eq_of_lt hb
  have hw : ∀ n : Nat, n < 2 ^ k.bits → k.wrap (n : Int) = n := fun n h => by
    have h2 : (n : Int) % ((2 ^ k.bits : Nat) : Int) = n := by
      rw [← Int.natCast_emod, Nat.mod_eq_of_lt h]
    simp only [IntKind.wrap, hs, Bool.false_and, Bool.false_eq_true, if_false]
    have h3 : ((2 : Int) ^ k.bits) = ((2 ^ k.bits : Nat) : Int) := by simp
    rw [h3]
    exact h2
  refine ⟨?_, ?_, ?_⟩
  · simp only [bits, BitVec.ofInt_natCast, BitVec.toNat_and, BitVec.toNat_ofNat, ha', hb']
    exact hw _ (Nat.and_lt_two_pow _ hb)
  · simp only [bits, BitVec.ofInt_natCast, BitVec.toNat_or, BitVec.toNat_ofNat, ha', hb']
    exact hw _ (Nat.or_lt_two_pow ha hb)
  · simp only [bits, BitVec.ofInt_natCast, BitVec.toNat_xor, BitVec.toNat_ofNat, ha', hb']
    exact hw _ (Nat.xor_lt_two_pow ha hb)
theorem xor_nat (k : IntKind) (hs : k.signed = false) {a b : Nat} (ha : a < 2 ^ k.bits) (hb : b < 2 ^ k.bits) : bits .xor k a b = ((a ^^^ b : Nat) : Int) := (bits_nat3 k hs a b ha hb).2.2
theorem and_nat (k : IntKind) (hs : k.signed = false) {a b : Nat} (ha : a < 2 ^ k.bits) (hb : b < 2 ^ k.bits) : bits .and k a b = ((a &&& b : Nat) : Int) := (bits_nat3 k hs a b ha hb).1
theorem or_nat (k : IntKind) (hs : k.signed = false) {a b : Nat} (ha : a < 2 ^ k.bits) (hb : b < 2 ^ k.bits) : bits .or k a b = ((a ||| b : Nat) : Int) := (bits_nat3 k hs a b ha hb).2.1
theorem shr_nat (a m b : Nat) (h : m ≤ b) : ((a : Nat) : Int).fdiv (2 ^ min ((m : Nat) : Int).toNat b) = ((a / 2 ^ m : Nat) : Int) := by
  rw [Int.toNat_natCast, Nat.min_eq_left h]
  have h3 : ((2 : Int) ^ m) = ((2 ^ m : Nat) : Int) := by simp
  rw [h3, Int.fdiv_eq_ediv_of_nonneg _ (Int.natCast_nonneg _)]
  simp
theorem xor_u8 {a b : Nat} (ha : a < 256) (hb : b < 256) : bits .xor .u8 a b = ((a ^^^ b : Nat) : Int) := xor_nat .u8 rfl ha hb
theorem and_u8 {a b : Nat} (ha : a < 256) (hb : b < 256) : bits .and .u8 a b = ((a &&& b : Nat) : Int) := and_nat .u8 rfl ha hb
theorem or_u8 {a b : Nat} (ha : a < 256) (hb : b < 256) : bits .or .u8 a b = ((a ||| b : Nat) : Int) := or_nat .u8 rfl ha hb
theorem xor_u16 {a b : Nat} (ha : a < 65536) (hb : b < 65536) : bits .xor .u16 a b = ((a ^^^ b : Nat) : Int) := xor_nat .u16 rfl ha hb
theorem and_u16 {a b : Nat} (ha : a < 65536) (hb : b < 65536) : bits .and .u16 a b = ((a &&& b : Nat) : Int) := and_nat .u16 rfl ha hb
theorem or_u16 {a b : Nat} (ha : a < 65536) (hb : b < 65536) : bits .or .u16 a b = ((a ||| b : Nat) : Int) := or_nat .u16 rfl ha hb
theorem xor_u32 {a b : Nat} (ha : a < 4294967296) (hb : b < 4294967296) : bits .xor .u32 a b = ((a ^^^ b : Nat) : Int) := xor_nat .u32 rfl ha hb
theorem and_u32 {a b : Nat} (ha : a < 4294967296) (hb : b < 4294967296) : bits .and .u32 a b = ((a &&& b : Nat) : Int) := and_nat .u32 rfl ha hb
theorem or_u32 {a b : Nat} (ha : a < 4294967296) (hb : b < 4294967296) : bits .or .u32 a b = ((a ||| b : Nat) : Int) := or_nat .u32 rfl ha hb
theorem xor_u64 {a b : Nat} (ha : a < 18446744073709551616) (hb : b < 18446744073709551616) : bits .xor .u64 a b = ((a ^^^ b : Nat) : Int) := xor_nat .u64 rfl ha hb
theorem and_u64 {a b : Nat} (ha : a < 18446744073709551616) (hb : b < 18446744073709551616) : bits .and .u64 a b = ((a &&& b : Nat) : Int) := and_nat .u64 rfl ha hb
theorem or_u64 {a b : Nat} (ha : a < 18446744073709551616) (hb : b < 18446744073709551616) : bits .or .u64 a b = ((a ||| b : Nat) : Int) := or_nat .u64 rfl ha hb
theorem wrap_u8_nat (m : Nat) : IntKind.u8.wrap (m : Int) = ((m % 256 : Nat) : Int) := by rw [IntKind.wrap_u8]; simp
theorem wrap_u16_nat (m : Nat) : IntKind.u16.wrap (m : Int) = ((m % 65536 : Nat) : Int) := by rw [wrap_u16]; simp
theorem wrap_u32_nat (m : Nat) : IntKind.u32.wrap (m : Int) = ((m % 4294967296 : Nat) : Int) := by rw [IntKind.wrap_u32]; simp
theorem wrap_u64_nat (m : Nat) : IntKind.u64.wrap (m : Int) = ((m % 18446744073709551616 : Nat) : Int) := by rw [wrap_u64]; simp
theorem tmod_nat (a b : Nat) : ((a : Nat) : Int).tmod ((b : Nat) : Int) = ((a % b : Nat) : Int) := rfl
theorem quo_u64 {a b : Nat} (ha : a < 18446744073709551616) : IntKind.u64.wrap (((a : Nat) : Int).tdiv ((b : Nat) : Int)) = ((a / b : Nat) : Int) := by
  have e : ((a : Nat) : Int).tdiv ((b : Nat) : Int) = ((a / b : Nat) : Int) := rfl
  rw [e, wrap_u64_nat, Nat.mod_eq_of_lt (Nat.lt_of_le_of_lt (Nat.div_le_self a b) ha)]
theorem odd_half {s : Nat} (h : ((s % 2 : Nat) : Int) = 1) (hs : s < 18446744073709551616) : IntKind.u64.wrap ((((s : Nat) : Int) - 1).tdiv 2) = ((s / 2 : Nat) : Int) := by
  have e : ((s : Nat) : Int) - 1 = ((s - 1 : Nat) : Int) := by omega
  rw [e]
  have := quo_u64 (a := s - 1) (b := 2) (by omega)
  rw [show s / 2 = (s - 1) / 2 from by omega]
  exact this
theorem com_u16 {a : Nat} (h : a < 65536) : bits .xor .u16 (if IntKind.u16.signed = true then -1 else IntKind.u16.max) a = ((65535 ^^^ a : Nat) : Int) :=
  xor_nat .u16 rfl (a := 65535) (by decide) h
theorem com_u32 {a : Nat} (h : a < 4294967296) : bits .xor .u32 (if IntKind.u32.signed = true then -1 else IntKind.u32.max) a = ((4294967295 ^^^ a : Nat) : Int) :=
  xor_nat .u32 rfl (a := 4294967295) (by decide) h
theorem com_u16_0 : bits .xor .u16 (if IntKind.u16.signed = true then -1 else IntKind.u16.max) 0 = ((65535 : Nat) : Int) := com_u16 (a := 0) (by decide)
theorem com_u32_0 : bits .xor .u32 (if IntKind.u32.signed = true then -1 else IntKind.u32.max) 0 = ((4294967295 : Nat) : Int) := com_u32 (a := 0) (by decide)
end Go.Proofs.Ytaiahigeejodaaa
