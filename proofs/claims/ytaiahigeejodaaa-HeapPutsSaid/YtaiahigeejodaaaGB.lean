/-
  Contracts: the sum of 32 bits, by the program and by the document; bytes held against each other, and copied.
-/
import Derived.Test.YtaiahigeejodaaaK2
import Derived.Test.YtaiahigeejodaaaK1
import Derived.Test.YtaiahigeejodaaaOD
import Derived.Test.YtaiahigeejodaaaTy
import Derived.Test.YtaiahigeejodaaaSumM
namespace Go.Proofs.Ytaiahigeejodaaa
open Go.RowKit
set_option linter.unusedVariables false
set_option linter.unusedSimpArgs false

theorem crc32_lt (xs : List Nat) (hx : Bs xs) : crc32 xs < 4294967296 :=
  crc32_eq xs ▸ Nat.xor_lt_two_pow (n := 32) (by decide) (run_lt 32 2197175160 (by decide) xs 4294967295 (by decide) (fun c hc => by have := hx c hc; omega))
attribute [local irreducible] Rd hRow hBlk hRd hAll Fn
theorem str_list (l : List Nat) : (str l).toList = l.map UInt8.ofNat := by
  rw [ByteArray.toList_eq]
  simp [str]
theorem str_beq {xs ys : List Nat} (hx : Bs xs) (hy : Bs ys) : ((str xs).toList == (str ys).toList) = decide (xs = ys) := by
  rw [str_list, str_list]
  by_cases h : xs = ys
  · subst h; simp
  · have h2 : ¬ (xs.map UInt8.ofNat = ys.map UInt8.ofNat) := by
      intro e
      apply h
      have inv : ∀ l : List Nat, Bs l → (l.map UInt8.ofNat).map UInt8.toNat = l := by
        intro l hl
        rw [List.map_map]
        conv => rhs; rw [← List.map_id l]
        refine List.map_congr_left fun c hc => ?_
        show (UInt8.ofNat c).toNat = c
        rw [UInt8.toNat_ofNat']
        exact Nat.mod_eq_of_lt (hl c hc)
      rw [← inv xs hx, ← inv ys hy, e]
    rw [decide_eq_false h]
    exact beq_eq_false_iff_ne.2 h2
theorem bequal (A B : Option Addr) (c d : Nat) (xs ys : List Nat) (n m : Nat) (w0 : World) (hr : Rd w0 A (bys xs)) (hr2 : Rd w0 B (bys ys)) (hx : Bs xs) (hy : Bs ys) (hn : n = xs.length) (hm : m = ys.length) :
    Fn Try.prog 12 [.slice A n c, .slice B m d] w0 fun v w' => v = .bool (decide (xs = ys)) ∧ St w0 w' [] := by
  subst hn hm
  refine enter 10 Try.func12 rfl rfl rfl ?_
  intro a hE
  have hS := St.start w0
  repeat' (first

    | (with_reducible refine wp_seq ?_)
    | (with_reducible refine c_region ?_)
    | (with_reducible refine wpList_nil ?_)
    | (with_reducible refine then_normal ?_)
    | ((with_reducible refine g_move ?_); refine s_move hE rfl rfl ?_; clear hE a; intro a hE)
    | ((with_reducible refine g_assign ?_); refine s_assign hE rfl rfl ?_; clear hE a; intro a hE)
    )
  refine s_val hE rfl rfl rfl (r_str hE rfl (hr.st hS) rfl) ?_
  clear hE a; intro a hE
  repeat' (first

    | ((with_reducible refine g_move ?_); refine s_move hE rfl rfl ?_; clear hE a; intro a hE)
    )
  refine s_val hE rfl rfl rfl (r_str hE rfl (hr2.st hS) rfl) ?_
  clear hE a; intro a hE
  skip
  refine s_val hE rfl rfl rfl (r_seq hE rfl rfl) ?_
  clear hE a; intro a hE
  rw [str_beq hx hy] at hE
  repeat' (first

    | (with_reducible refine wpList_nil ?_)
    | (with_reducible refine then_normal ?_)
    | (with_reducible refine wp_ret ?_)
    | ((with_reducible refine g_assign ?_); refine s_assign hE rfl rfl ?_; clear hE a; intro a hE)
    )
  exact ret1 hE rfl rfl ⟨rfl, hS⟩
theorem bclone (A : Option Addr) (c : Nat) (xs : List Nat) (w0 : World) (hr : Rd w0 A (bys xs)) (hl : xs.length ≤ 140737488355328) :
    Fn Try.prog 47 [.slice A xs.length c] w0 fun v w' => ∃ A' c', v = .slice A' xs.length c' ∧ St w0 w' [hRow 5 1 A' xs.length c' (bys xs)] := by
  refine enter 8 Try.func47 rfl rfl rfl ?_
  intro a hE
  have hS := St.start w0
  cases A with
  | none =>
    repeat' (first
      | (with_reducible refine wp_seq ?_)
      | (with_reducible refine c_region ?_)
      | (with_reducible refine wpList_nil ?_)
      | (with_reducible refine then_normal ?_)
      | (with_reducible refine wp_ret ?_)
      | (with_reducible refine then_ret ?_)
      | ((with_reducible refine g_move ?_); refine s_move hE rfl rfl ?_; clear hE a; intro a hE)
      | ((with_reducible refine g_assign ?_); refine s_assign hE rfl rfl ?_; clear hE a; intro a hE)
      | ((with_reducible refine g_bin .eql ?_); refine s_eqnil hE rfl rfl rfl ?_; clear hE a; intro a hE)
      | ((with_reducible refine g_cond ?_); refine c_true hE rfl ?_)
      )
    have hx : xs = [] := hr.none_nil
    subst hx
    exact ret1 hE rfl rfl ⟨none, 0, rfl, hS.rowNil _ _⟩
  | some ad =>
    repeat' (first
      | (with_reducible refine wp_seq ?_)
      | (with_reducible refine c_region ?_)
      | (with_reducible refine wpList_nil ?_)
      | (with_reducible refine then_normal ?_)
      | (with_reducible refine wp_skip ?_)
      | ((with_reducible refine g_move ?_); refine s_move hE rfl rfl ?_; clear hE a; intro a hE)
      | ((with_reducible refine g_assign ?_); refine s_assign hE rfl rfl ?_; clear hE a; intro a hE)
      | ((with_reducible refine g_bin .eql ?_); refine s_eqnil hE rfl rfl rfl ?_; clear hE a; intro a hE)
      | ((with_reducible refine g_cond ?_); refine c_false hE rfl ?_)
      )
    refine s_lit (parts := []) (cs := []) hE hS rfl rfl rfl rfl rfl (by simp) rfl ?_
    clear hE a hS; intro g a w hE hS
    repeat' (first
      | ((with_reducible refine g_move ?_); refine s_move hE rfl rfl ?_; clear hE a; intro a hE)
      )
    refine s_append hE hS rfl rfl (hr.st hS) (by rw [bys_length, Nat.mul_one]) (bys_one xs) (by omega) rfl rfl rfl rfl ?_
    clear hE a hS; intro A' c' a w hE hS
    repeat' (first
      | (with_reducible refine wpList_nil ?_)
      | (with_reducible refine then_normal ?_)
      | (with_reducible refine wp_ret ?_)
      | ((with_reducible refine g_assign ?_); refine s_assign hE rfl rfl ?_; clear hE a; intro a hE)
      )
    refine ret1 hE rfl rfl ⟨A', c', by rw [Nat.zero_add], ?_⟩
    rw [Nat.zero_add, List.nil_append] at hS
    exact hS
end Go.Proofs.Ytaiahigeejodaaa
