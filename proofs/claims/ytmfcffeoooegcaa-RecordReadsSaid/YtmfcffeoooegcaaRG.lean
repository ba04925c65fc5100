/-
  Contracts of octet's reader, by what it stands at.
-/
import Derived.Test.YtmfcffeoooegcaaOD
namespace Go.Proofs.Ytmfcffeoooegcaa
open Go.RowKit
set_option linter.unusedVariables false
set_option linter.unusedSimpArgs false
attribute [local irreducible] Rd hRow hBlk hRd hAll Fn

theorem takeM_err {xs : List Nat} {p : Nat} {e n : Int} (h : e ≠ 0) : takeM xs p e n = ([], p, e) := by unfold takeM; rw [if_pos h]
theorem takeM_neg {xs : List Nat} {p : Nat} {e n : Int} (h : ¬ e ≠ 0) (h0 : n < 0) : takeM xs p e n = ([], p, 2) := by unfold takeM; rw [if_neg h, if_pos h0]
theorem takeM_short {xs : List Nat} {p : Nat} {e n : Int} (h : ¬ e ≠ 0) (h0 : ¬ n < 0) (h1 : n > (xs.length : Int) - (p : Int)) : takeM xs p e n = ([], p, 7) := by unfold takeM; rw [if_neg h, if_neg h0, if_pos h1]
theorem takeM_ok {xs : List Nat} {p : Nat} {e n : Int} (h : ¬ e ≠ 0) (h0 : ¬ n < 0) (h1 : ¬ n > (xs.length : Int) - (p : Int)) : takeM xs p e n = ((xs.drop p).take n.toNat, p + n.toNat, e) := by
  unfold takeM; rw [if_neg h, if_neg h0, if_neg h1]
  have : e = 0 := by omega
  rw [this]
theorem u8_ok (g : Nat) (A : Option Addr) (c : Nat) (xs : List Nat) (p : Nat) (H : List HP) (w0 w : World) (hS : St w0 w (hRdr g A c xs p 0 :: H)) (hx : Bs xs) (hp : p ≤ xs.length) (hl : xs.length ≤ 140737488355328) (h : p + 1 ≤ xs.length) :
    Fn Try.prog 36 [.pointer (some ⟨g, 0, none⟩)] w fun v w' => v = .int .u8 ((bnum 0 ((xs.drop p).take 1) : Nat) : Int) ∧ St w0 w' (hRdr g A c xs (p + 1) 0 :: H) := by
  have h1 := u8 g A c xs p 0 H w0 w hS hx hp hl
  rw [takeM_ok (by decide) (by decide) (by omega)] at h1
  exact h1
theorem u8_short (g : Nat) (A : Option Addr) (c : Nat) (xs : List Nat) (p : Nat) (H : List HP) (w0 w : World) (hS : St w0 w (hRdr g A c xs p 0 :: H)) (hx : Bs xs) (hp : p ≤ xs.length) (hl : xs.length ≤ 140737488355328) (h : xs.length < p + 1) :
    Fn Try.prog 36 [.pointer (some ⟨g, 0, none⟩)] w fun v w' => v = .int .u8 0 ∧ St w0 w' (hRdr g A c xs p 7 :: H) := by
  have h1 := u8 g A c xs p 0 H w0 w hS hx hp hl
  rw [takeM_short (by decide) (by decide) (by omega)] at h1
  exact h1
theorem u8_err (g : Nat) (A : Option Addr) (c : Nat) (xs : List Nat) (p : Nat) (H : List HP) (w0 w : World) (hS : St w0 w (hRdr g A c xs p 7 :: H)) (hx : Bs xs) (hp : p ≤ xs.length) (hl : xs.length ≤ 140737488355328) :
    Fn Try.prog 36 [.pointer (some ⟨g, 0, none⟩)] w fun v w' => v = .int .u8 0 ∧ St w0 w' (hRdr g A c xs p 7 :: H) := by
  have h1 := u8 g A c xs p 7 H w0 w hS hx hp hl
  rw [takeM_err (by decide)] at h1
  exact h1
theorem u16_ok (g : Nat) (A : Option Addr) (c : Nat) (xs : List Nat) (p : Nat) (H : List HP) (w0 w : World) (hS : St w0 w (hRdr g A c xs p 0 :: H)) (hx : Bs xs) (hp : p ≤ xs.length) (hl : xs.length ≤ 140737488355328) (h : p + 2 ≤ xs.length) :
    Fn Try.prog 44 [.pointer (some ⟨g, 0, none⟩)] w fun v w' => v = .int .u16 ((bnum 0 ((xs.drop p).take 2) : Nat) : Int) ∧ St w0 w' (hRdr g A c xs (p + 2) 0 :: H) := by
  have h1 := u16 g A c xs p 0 H w0 w hS hx hp hl
  rw [takeM_ok (by decide) (by decide) (by omega)] at h1
  exact h1
theorem u16_short (g : Nat) (A : Option Addr) (c : Nat) (xs : List Nat) (p : Nat) (H : List HP) (w0 w : World) (hS : St w0 w (hRdr g A c xs p 0 :: H)) (hx : Bs xs) (hp : p ≤ xs.length) (hl : xs.length ≤ 140737488355328) (h : xs.length < p + 2) :
    Fn Try.prog 44 [.pointer (some ⟨g, 0, none⟩)] w fun v w' => v = .int .u16 0 ∧ St w0 w' (hRdr g A c xs p 7 :: H) := by
  have h1 := u16 g A c xs p 0 H w0 w hS hx hp hl
  rw [takeM_short (by decide) (by decide) (by omega)] at h1
  exact h1
theorem u16_err (g : Nat) (A : Option Addr) (c : Nat) (xs : List Nat) (p : Nat) (H : List HP) (w0 w : World) (hS : St w0 w (hRdr g A c xs p 7 :: H)) (hx : Bs xs) (hp : p ≤ xs.length) (hl : xs.length ≤ 140737488355328) :
    Fn Try.prog 44 [.pointer (some ⟨g, 0, none⟩)] w fun v w' => v = .int .u16 0 ∧ St w0 w' (hRdr g A c xs p 7 :: H) := by
  have h1 := u16 g A c xs p 7 H w0 w hS hx hp hl
  rw [takeM_err (by decide)] at h1
  exact h1
theorem u64_ok (g : Nat) (A : Option Addr) (c : Nat) (xs : List Nat) (p : Nat) (H : List HP) (w0 w : World) (hS : St w0 w (hRdr g A c xs p 0 :: H)) (hx : Bs xs) (hp : p ≤ xs.length) (hl : xs.length ≤ 140737488355328) (h : p + 8 ≤ xs.length) :
    Fn Try.prog 37 [.pointer (some ⟨g, 0, none⟩)] w fun v w' => v = .int .u64 ((bnum 0 ((xs.drop p).take 8) : Nat) : Int) ∧ St w0 w' (hRdr g A c xs (p + 8) 0 :: H) := by
  have h1 := u64 g A c xs p 0 H w0 w hS hx hp hl
  rw [takeM_ok (by decide) (by decide) (by omega)] at h1
  exact h1
theorem u64_short (g : Nat) (A : Option Addr) (c : Nat) (xs : List Nat) (p : Nat) (H : List HP) (w0 w : World) (hS : St w0 w (hRdr g A c xs p 0 :: H)) (hx : Bs xs) (hp : p ≤ xs.length) (hl : xs.length ≤ 140737488355328) (h : xs.length < p + 8) :
    Fn Try.prog 37 [.pointer (some ⟨g, 0, none⟩)] w fun v w' => v = .int .u64 0 ∧ St w0 w' (hRdr g A c xs p 7 :: H) := by
  have h1 := u64 g A c xs p 0 H w0 w hS hx hp hl
  rw [takeM_short (by decide) (by decide) (by omega)] at h1
  exact h1
theorem u64_err (g : Nat) (A : Option Addr) (c : Nat) (xs : List Nat) (p : Nat) (H : List HP) (w0 w : World) (hS : St w0 w (hRdr g A c xs p 7 :: H)) (hx : Bs xs) (hp : p ≤ xs.length) (hl : xs.length ≤ 140737488355328) :
    Fn Try.prog 37 [.pointer (some ⟨g, 0, none⟩)] w fun v w' => v = .int .u64 0 ∧ St w0 w' (hRdr g A c xs p 7 :: H) := by
  have h1 := u64 g A c xs p 7 H w0 w hS hx hp hl
  rw [takeM_err (by decide)] at h1
  exact h1
theorem raw_ok (g : Nat) (A : Option Addr) (c : Nat) (xs : List Nat) (p n : Nat) (H : List HP) (w0 w : World) (hS : St w0 w (hRdr g A c xs p 0 :: H)) (hp : p ≤ xs.length) (hl : xs.length ≤ 140737488355328) (h : p + n ≤ xs.length) :
    Fn Try.prog 45 [.pointer (some ⟨g, 0, none⟩), .int .i64 (n : Int)] w fun v w' => ∃ A' c', v = .slice A' ((xs.drop p).take n).length c' ∧ St w0 w' (hRow 5 1 A' ((xs.drop p).take n).length c' (bys ((xs.drop p).take n)) :: hRdr g A c xs (p + n) 0 :: H) := by
  have h1 := raw g A c xs p 0 n H w0 w hS hp hl (by omega)
  rw [takeM_ok (by decide) (by omega) (by omega)] at h1
  exact h1
theorem raw_short (g : Nat) (A : Option Addr) (c : Nat) (xs : List Nat) (p n : Nat) (H : List HP) (w0 w : World) (hS : St w0 w (hRdr g A c xs p 0 :: H)) (hp : p ≤ xs.length) (hl : xs.length ≤ 140737488355328) (h : xs.length < p + n) (hn : n ≤ 9223372036854775807) :
    Fn Try.prog 45 [.pointer (some ⟨g, 0, none⟩), .int .i64 (n : Int)] w fun v w' => ∃ A' c', v = .slice A' 0 c' ∧ St w0 w' (hRow 5 1 A' 0 c' [] :: hRdr g A c xs p 7 :: H) := by
  have h1 := raw g A c xs p 0 n H w0 w hS hp hl (by omega)
  rw [takeM_short (by decide) (by omega) (by omega)] at h1
  exact h1
theorem raw_err (g : Nat) (A : Option Addr) (c : Nat) (xs : List Nat) (p : Nat) (n : Int) (H : List HP) (w0 w : World) (hS : St w0 w (hRdr g A c xs p 7 :: H)) (hp : p ≤ xs.length) (hl : xs.length ≤ 140737488355328) (hn : -9223372036854775808 ≤ n ∧ n ≤ 9223372036854775807) :
    Fn Try.prog 45 [.pointer (some ⟨g, 0, none⟩), .int .i64 n] w fun v w' => ∃ A' c', v = .slice A' 0 c' ∧ St w0 w' (hRow 5 1 A' 0 c' [] :: hRdr g A c xs p 7 :: H) := by
  have h1 := raw g A c xs p 7 n H w0 w hS hp hl hn
  rw [takeM_err (by decide)] at h1
  exact h1
end Go.Proofs.Ytmfcffeoooegcaa
