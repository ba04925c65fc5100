/-
  Tuples: which may be, their bytes, which tuple bytes are (no program in sight).
-/
import Derived.Test.YtaiahigeejodaaaOM
import Derived.Test.YtaiahigeejodaaaK1
namespace Go.Proofs.Ytaiahigeejodaaa
open Go.RowKit
set_option linter.unusedVariables false
set_option linter.unusedSimpArgs false

/-- row, xmin, xmax, key, value -/
structure TM where
  (r a b : Nat) (x0 x1 y0 y1 v : Int)
deriving DecidableEq
def uN (x : Int) : Nat := (x % 18446744073709551616).toNat
def sN (n : Nat) : Int := IntKind.i64.wrap (n : Int)
theorem u64_lt (x : Int) : uN x < 18446744073709551616 := by unfold uN; omega
theorem wrap_u64_u (x : Int) : IntKind.u64.wrap x = ((uN x : Nat) : Int) := by rw [wrap_u64]; unfold uN; omega
def iR (x : Int) : Prop := -9223372036854775808 ≤ x ∧ x ≤ 9223372036854775807
theorem s64_i (n : Nat) : iR (sN n) := by unfold sN iR; rw [IntKind.wrap_i64]; omega
theorem s64_u64 {x : Int} (h : iR x) : sN (uN x) = x := by unfold sN uN; unfold iR at h; rw [IntKind.wrap_i64]; omega
theorem u64_s64 {n : Nat} (h : n < 18446744073709551616) : uN (sN n) = n := by unfold sN uN; rw [IntKind.wrap_i64]; omega
def TM.right (t : TM) : Bool := decide (1 ≤ t.r ∧ 1 ≤ t.a ∧ t.a ≤ 4294967295 ∧ t.b ≤ 4294967295 ∧ t.x0 ≤ t.x1 ∧ t.y0 ≤ t.y1)
structure TM.ok (t : TM) : Prop where
  r : t.r < 4294967296
  a : t.a < 18446744073709551616
  b : t.b < 18446744073709551616
  x0 : iR t.x0
  x1 : iR t.x1
  y0 : iR t.y0
  y1 : iR t.y1
  v : iR t.v
def longB (l : List Int) : List Nat := l.flatMap fun x => beb 8 (uN x)
def TM.enc (t : TM) : List Nat := [t.r, t.a, t.b].flatMap (beb 4) ++ longB [t.x0, t.x1, t.y0, t.y1, t.v]
def TM.zero : TM := ⟨0, 0, 0, 0, 0, 0, 0, 0⟩
def parseT (b : List Nat) : TM := ⟨bnum 0 (b.take 4), bnum 0 ((b.drop 4).take 4), bnum 0 ((b.drop 8).take 4), sN (bnum 0 ((b.drop 12).take 8)), sN (bnum 0 ((b.drop 20).take 8)), sN (bnum 0 ((b.drop 28).take 8)), sN (bnum 0 ((b.drop 36).take 8)), sN (bnum 0 ((b.drop 44).take 8))⟩
def decT (b : List Nat) : Option TM := if b.length = 52 ∧ (parseT b).right = true then some (parseT b) else none
theorem enc_eq (t : TM) : t.enc = beb 4 t.r ++ (beb 4 t.a ++ (beb 4 t.b ++ (beb 8 (uN t.x0) ++ (beb 8 (uN t.x1) ++ (beb 8 (uN t.y0) ++ (beb 8 (uN t.y1) ++ beb 8 (uN t.v))))))) := by
  simp [TM.enc, longB, List.flatMap_cons]
theorem tenc_len (t : TM) : t.enc.length = 52 := by simp [enc_eq, beb_length]
theorem tenc_bs (t : TM) : Bs t.enc := by
  rw [enc_eq]
  intro c hc
  simp only [List.mem_append] at hc
  rcases hc with h | h | h | h | h | h | h | h <;> exact beb_bs _ _ c h
theorem bnum_lt32 {l : List Nat} (h : Bs l) (hl : l.length ≤ 4) : bnum 0 l < 4294967296 := by
  have h1 := bnum_lt l h
  have h2 : 256 ^ l.length ≤ 256 ^ 4 := Nat.pow_le_pow_right (by decide) hl
  omega
theorem parse_okT {b : List Nat} (hb : Bs b) : (parseT b).ok where
  r := bnum_lt32 (fun c hc => hb c (List.mem_of_mem_take hc)) (by rw [List.length_take]; omega)
  a := Nat.lt_trans (bnum_lt32 (fun c hc => hb c (List.mem_of_mem_drop (List.mem_of_mem_take hc))) (by rw [List.length_take]; omega)) (by decide)
  b := Nat.lt_trans (bnum_lt32 (fun c hc => hb c (List.mem_of_mem_drop (List.mem_of_mem_take hc))) (by rw [List.length_take]; omega)) (by decide)
  x0 := s64_i _
  x1 := s64_i _
  y0 := s64_i _
  y1 := s64_i _
  v := s64_i _
theorem cut_at {l m : List Nat} {k : Nat} (h : l.length = k) : (l ++ m).take k = l ∧ (l ++ m).drop k = m := by
  subst h
  exact ⟨List.take_left, List.drop_left⟩
theorem beb4 {x : Nat} (h : x < 4294967296) : bnum 0 (beb 4 x) = x := by rw [bnum_beb]; exact Nat.mod_eq_of_lt h
theorem beb8 {x : Nat} (h : x < 18446744073709551616) : bnum 0 (beb 8 x) = x := by rw [bnum_beb]; exact Nat.mod_eq_of_lt h
theorem parse_enc {t : TM} (ht : t.ok) (ha : t.a < 4294967296) (hb : t.b < 4294967296) : parseT t.enc = t := by
  have d : ∀ (l : List Nat) (i j : Nat), l.drop (i + j) = (l.drop i).drop j := fun l i j => by rw [List.drop_drop]
  have e := enc_eq t
  obtain ⟨a1, a2⟩ := cut_at (m := beb 4 t.a ++ (beb 4 t.b ++ (beb 8 (uN t.x0) ++ (beb 8 (uN t.x1) ++ (beb 8 (uN t.y0) ++ (beb 8 (uN t.y1) ++ beb 8 (uN t.v))))))) (beb_length 4 t.r)
  rw [← e] at a1 a2
  obtain ⟨b1, b2⟩ := cut_at (m := beb 4 t.b ++ (beb 8 (uN t.x0) ++ (beb 8 (uN t.x1) ++ (beb 8 (uN t.y0) ++ (beb 8 (uN t.y1) ++ beb 8 (uN t.v)))))) (beb_length 4 t.a)
  rw [← a2] at b1 b2
  rw [← d] at b2
  obtain ⟨c1, c2⟩ := cut_at (m := beb 8 (uN t.x0) ++ (beb 8 (uN t.x1) ++ (beb 8 (uN t.y0) ++ (beb 8 (uN t.y1) ++ beb 8 (uN t.v))))) (beb_length 4 t.b)
  rw [← b2] at c1 c2
  rw [← d] at c2
  obtain ⟨d1, d2⟩ := cut_at (m := beb 8 (uN t.x1) ++ (beb 8 (uN t.y0) ++ (beb 8 (uN t.y1) ++ beb 8 (uN t.v)))) (beb_length 8 (uN t.x0))
  rw [← c2] at d1 d2
  rw [← d] at d2
  obtain ⟨e1, e2⟩ := cut_at (m := beb 8 (uN t.y0) ++ (beb 8 (uN t.y1) ++ beb 8 (uN t.v))) (beb_length 8 (uN t.x1))
  rw [← d2] at e1 e2
  rw [← d] at e2
  obtain ⟨f1, f2⟩ := cut_at (m := beb 8 (uN t.y1) ++ beb 8 (uN t.v)) (beb_length 8 (uN t.y0))
  rw [← e2] at f1 f2
  rw [← d] at f2
  obtain ⟨g1, g2⟩ := cut_at (m := beb 8 (uN t.v)) (beb_length 8 (uN t.y1))
  rw [← f2] at g1 g2
  rw [← d] at g2
  have h1 : (t.enc.drop 44).take 8 = beb 8 (uN t.v) := by
    rw [g2]
    exact List.take_of_length_le (by rw [beb_length]; exact Nat.le_refl _)
  unfold parseT
  rw [a1, b1, c1, d1, e1, f1, g1, h1, beb4 ht.r, beb4 ha, beb4 hb, beb8 (u64_lt _), beb8 (u64_lt _), beb8 (u64_lt _), beb8 (u64_lt _), beb8 (u64_lt _), s64_u64 ht.x0, s64_u64 ht.x1, s64_u64 ht.y0, s64_u64 ht.y1, s64_u64 ht.v]
theorem beb_at {b : List Nat} (hb : Bs b) {o n : Nat} (h : o + n ≤ b.length) : beb n (bnum 0 ((b.drop o).take n)) = (b.drop o).take n := by
  have hl : ((b.drop o).take n).length = n := by rw [List.length_take, List.length_drop]; omega
  have := beb_bnum ((b.drop o).take n) fun c hc => hb c (List.mem_of_mem_drop (List.mem_of_mem_take hc))
  rw [hl] at this
  exact this
theorem enc_parse {b : List Nat} (hb : Bs b) (hl : b.length = 52) : (parseT b).enc = b := by
  have lt8 : ∀ o, bnum 0 ((b.drop o).take 8) < 18446744073709551616 := fun o => bnum_lt64 (fun c hc => hb c (List.mem_of_mem_drop (List.mem_of_mem_take hc))) (by rw [List.length_take]; omega)
  have h0 := beb_at hb (o := 0) (n := 4) (by omega)
  rw [List.drop_zero] at h0
  rw [enc_eq]
  unfold parseT
  dsimp only
  rw [u64_s64 (lt8 12), u64_s64 (lt8 20), u64_s64 (lt8 28), u64_s64 (lt8 36), u64_s64 (lt8 44), h0, beb_at hb (by omega), beb_at hb (by omega), beb_at hb (by omega), beb_at hb (by omega), beb_at hb (by omega), beb_at hb (by omega), beb_at hb (by omega)]
  have st : ∀ o n, (b.drop o).take n ++ b.drop (o + n) = b.drop o := fun o n => by
    rw [← List.drop_drop]
    exact List.take_append_drop n (b.drop o)
  have last : (b.drop 44).take 8 = b.drop 44 := List.take_of_length_le (by rw [List.length_drop]; omega)
  rw [last, st 36 8, st 28 8, st 20 8, st 12 8, st 8 4, st 4 4]
  exact List.take_append_drop 4 b
theorem decT_enc {t : TM} (ht : t.ok) (h : t.right = true) : decT t.enc = some t := by
  have h2 := of_decide_eq_true h
  have e := parse_enc ht (by omega) (by omega)
  unfold decT
  rw [e, if_pos ⟨tenc_len t, h⟩]
theorem decT_some {b : List Nat} {t : TM} (hb : Bs b) (h : decT b = some t) : t.ok ∧ t.right = true ∧ t.enc = b ∧ b.length = 52 := by
  unfold decT at h
  by_cases h1 : b.length = 52 ∧ (parseT b).right = true
  · rw [if_pos h1] at h
    cases h
    exact ⟨parse_okT hb, h1.2, enc_parse hb h1.1, h1.1⟩
  · rw [if_neg h1] at h; cases h
theorem takeM_inT {xs : List Nat} {p n : Nat} (h : p + n ≤ xs.length) : takeM xs p 0 (n : Int) = ((xs.drop p).take n, p + n, 0) := by
  unfold takeM
  rw [if_neg (by decide), if_neg (by omega), if_neg (by omega), Int.toNat_natCast]
end Go.Proofs.Ytaiahigeejodaaa
