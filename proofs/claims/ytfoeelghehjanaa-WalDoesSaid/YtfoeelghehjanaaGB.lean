/-
  Contracts: the sum of 32 bits, by the program and by the document; bytes held against each other, and copied.
-/
import Derived.Test.YtfoeelghehjanaaK2
import Derived.Test.YtfoeelghehjanaaK1
import Derived.Test.YtfoeelghehjanaaOD
import Derived.Test.YtfoeelghehjanaaTy
import Derived.Test.YtfoeelghehjanaaSumM
namespace Go.Proofs.Ytfoeelghehjanaa
open Go.RowKit
set_option linter.unusedVariables false
set_option linter.unusedSimpArgs false

theorem sum32 (A : Option Addr) (c : Nat) (xs : List Nat) (p : Nat) (hp : p < 4294967296) (w0 : World) (hr : Rd w0 A (bys xs)) (hx : Bs xs) (hl : xs.length ≤ 9223372036854775807) :
    Fn Try.prog 106 [.slice A xs.length c, .int .u32 (p : Int)] w0 fun v w' => v = .int .u32 ((4294967295 ^^^ run p 4294967295 xs : Nat) : Int) ∧ w' = w0 := by
  refine enter 36 Try.func106 rfl rfl rfl ?_
  intro a hE
  repeat' (first
    | (with_reducible refine wp_seq ?_)
    | (with_reducible refine c_region ?_)
    | (with_reducible refine wpList_nil ?_)
    | (with_reducible refine then_normal ?_)
    | (with_reducible refine wp_block ?_)
    | ((with_reducible refine g_move ?_); refine s_move hE rfl rfl ?_; clear hE a; intro a hE)
    | ((with_reducible refine g_assign ?_); refine s_assign hE rfl rfl ?_; clear hE a; intro a hE)
    | ((with_reducible refine g_un .xor ?_); refine s_com hE rfl rfl (by first | exact com_u32_0) ?_; clear hE a; intro a hE)
    | ((with_reducible refine g_conv ?_); refine s_conv hE rfl rfl (by first | exact wrap_u32_in (by omega) ) ?_; clear hE a; intro a hE)
    | ((with_reducible refine g_blt .len ?_); refine s_len hE rfl rfl ?_; clear hE a; intro a hE)
    )
  refine wp_loop_ghost (fun m a w => ∃ k s : Nat, k + m = xs.length ∧ s < 4294967296 ∧ s = run p 4294967295 (xs.take k) ∧ w = w0 ∧ Env 36 [(1, .int .u32 (p : Int)), (5, .int .u32 (s : Int)), (11, .slice A xs.length c), (12, .int .i64 (xs.length : Int)), (13, .int .i64 (k : Int))] a) xs.length ⟨0, 4294967295, by omega, by omega, rfl, rfl, hE.sub ⟨rfl, rfl, rfl, rfl, rfl, trivial⟩⟩ ?_
  clear hE a
  rintro m a w ⟨k, s, hk, hs, hse, rfl, hE⟩
  repeat' (first
    | (with_reducible refine wp_seq ?_)
    | (with_reducible refine c_region ?_)
    | (with_reducible refine wpList_nil ?_)
    | (with_reducible refine then_normal ?_)
    | (with_reducible refine wp_skip ?_)
    | (with_reducible refine wp_ret ?_)
    | (with_reducible refine wp_block ?_)
    | (with_reducible refine wp_exit ?_)
    | (with_reducible refine then_exit ?_)
    | (with_reducible refine block_same ?_)
    | ((with_reducible refine g_move ?_); refine s_move hE rfl rfl ?_; clear hE a; intro a hE)
    | ((with_reducible refine g_assign ?_); refine s_assign hE rfl rfl ?_; clear hE a; intro a hE)
    | ((with_reducible refine g_bin .lss ?_); refine s_lss hE rfl rfl rfl ?_; clear hE a; intro a hE)
    | ((with_reducible refine g_un .xor ?_); refine s_com hE rfl rfl (by first | rfl) ?_; clear hE a; intro a hE)
    | ((with_reducible refine g_cond ?_); refine c_dec hE rfl (fun hc => ?_) (fun hc => ?_) <;> try omega)
    )
  · have hk' : k < xs.length := by omega
    have hb := hx.get hk'
    refine s_get hE rfl rfl (by omega) (by omega) hr (bys_getI hk') rfl rfl ?_
    clear hE a; intro a _ hE
    repeat' (first
      | (with_reducible refine wp_seq ?_)
      | (with_reducible refine c_region ?_)
      | (with_reducible refine wpList_nil ?_)
      | (with_reducible refine then_normal ?_)
      | (with_reducible refine wp_block ?_)
      | ((with_reducible refine g_move ?_); refine s_move hE rfl rfl ?_; clear hE a; intro a hE)
      | ((with_reducible refine g_assign ?_); refine s_assign hE rfl rfl ?_; clear hE a; intro a hE)
      | ((with_reducible refine g_bin .xor ?_); refine s_xor hE rfl rfl rfl (by first | exact xor_u32 hs (by omega)) ?_; clear hE a; intro a hE)
      | ((with_reducible refine g_conv ?_); refine s_conv hE rfl rfl (by first | exact wrap_u32_in (by omega) ) ?_; clear hE a; intro a hE)
      )
    refine wp_loop_ghost (fun m2 a w2 => ∃ j s2 : Nat, j + m2 = 8 ∧ s2 < 4294967296 ∧ s2 = bits8 p j (s ^^^ xs[k]) ∧ w2 = w ∧ Env 36 [(1, .int .u32 (p : Int)), (5, .int .u32 (s2 : Int)), (11, .slice A xs.length c), (12, .int .i64 (xs.length : Int)), (13, .int .i64 (k : Int)), (21, .int .i64 (j : Int))] a) 8 ⟨0, s ^^^ xs[k], by omega, Nat.xor_lt_two_pow (n := 32) hs (by omega), rfl, rfl, hE.sub ⟨rfl, rfl, rfl, rfl, rfl, rfl, trivial⟩⟩ ?_
    clear hE a
    rintro m2 a w2 ⟨j, s2, hj, hs2, hse2, rfl, hE⟩
    repeat' (first
      | (with_reducible refine wp_seq ?_)
      | (with_reducible refine c_region ?_)
      | (with_reducible refine wpList_nil ?_)
      | (with_reducible refine then_normal ?_)
      | (with_reducible refine wp_skip ?_)
      | (with_reducible refine wp_block ?_)
      | (with_reducible refine block_normal ?_)
      | (with_reducible refine wp_exit ?_)
      | (with_reducible refine then_exit ?_)
      | (with_reducible refine block_same ?_)
      | ((with_reducible refine g_move ?_); refine s_move hE rfl rfl ?_; clear hE a; intro a hE)
      | ((with_reducible refine g_assign ?_); refine s_assign hE rfl rfl ?_; clear hE a; intro a hE)
      | ((with_reducible refine g_bin .lss ?_); refine s_lss hE rfl rfl rfl ?_; clear hE a; intro a hE)
      | ((with_reducible refine g_bin .eql ?_); refine s_eql hE rfl rfl rfl ?_; clear hE a; intro a hE)
      | ((with_reducible refine g_bin .add ?_); refine s_add hE rfl rfl rfl (by first | exact wrap64_in (by omega) ) ?_; clear hE a; intro a hE)
      | ((with_reducible refine g_bin .and ?_); refine s_and hE rfl rfl rfl (by first | exact and_u32 (b := 1) hs2 (by decide) ) ?_; clear hE a; intro a hE)
      | ((with_reducible refine g_bin .xor ?_); refine s_xor hE rfl rfl rfl (by first | exact xor_u32 (a := s2 / 2 ^ 1) (by omega) hp) ?_; clear hE a; intro a hE)
      | ((with_reducible refine g_bin .shr ?_); refine s_shr hE rfl rfl (by omega) rfl (by first | exact shr_nat s2 1 32 (by decide) ) ?_; clear hE a; intro a hE)
      | ((with_reducible refine g_cond ?_); refine c_dec hE rfl (fun hc => ?_) (fun hc => ?_) <;> try omega)
      )
    · exact ⟨m2 - 1, by omega, j + 1, _, by omega, bit_lt 32 p s2 hp hs2, by rw [hse2]; rfl, rfl, hE.sub ⟨rfl, by rw [← bit_of1 hc]; rfl, rfl, rfl, rfl, rfl, trivial⟩⟩
    · exact ⟨m2 - 1, by omega, j + 1, _, by omega, bit_lt 32 p s2 hp hs2, by rw [hse2]; rfl, rfl, hE.sub ⟨rfl, by rw [← bit_of0 hc]; rfl, rfl, rfl, rfl, rfl, trivial⟩⟩
    · obtain rfl : j = 8 := by omega
      exact ⟨m - 1, by omega, k + 1, s2, by omega, hs2, by rw [run_take _ _ _ _ hk', ← hse, hse2]; rfl, rfl, hE.sub ⟨rfl, rfl, rfl, rfl, rfl, trivial⟩⟩
  · obtain rfl : k = xs.length := by omega
    rw [List.take_length] at hse
    refine ret1 hE rfl rfl ⟨by rw [com_u32 hs, hse], rfl⟩


theorem crc32_lt (xs : List Nat) (hx : Bs xs) : crc32 xs < 4294967296 :=
  crc32_eq xs ▸ Nat.xor_lt_two_pow (n := 32) (by decide) (run_lt 32 2197175160 (by decide) xs 4294967295 (by decide) (fun c hc => by have := hx c hc; omega))
theorem Sum32 (A : Option Addr) (c : Nat) (xs : List Nat) (w0 : World) (hr : Rd w0 A (bys xs)) (hx : Bs xs) (hl : xs.length ≤ 9223372036854775807) :
    Fn Try.prog 97 [.slice A xs.length c] w0 fun v w' => v = .int .u32 ((crc32 xs : Nat) : Int) ∧ w' = w0 := by
  refine enter Try.f97.ntmps Try.func97 rfl rfl rfl ?_
  intro a hE
  repeat' (first
    | (with_reducible refine wp_seq ?_)
    | (with_reducible refine c_region ?_)
    | (with_reducible refine wpList_nil ?_)
    | (with_reducible refine then_normal ?_)
    | ((with_reducible refine g_move ?_); refine s_move hE rfl rfl ?_; clear hE a; intro a hE)
    | ((with_reducible refine g_assign ?_); refine s_assign hE rfl rfl ?_; clear hE a; intro a hE)
    )
  refine s_call hE rfl rfl rfl (sum32 A c xs 2197175160 (by decide) w0 hr hx hl) ?_
  rintro v w ⟨rfl, rfl⟩; clear hE a; intro a hE
  repeat' (first
    | (with_reducible refine wpList_nil ?_)
    | (with_reducible refine then_normal ?_)
    | (with_reducible refine wp_ret ?_)
    | ((with_reducible refine g_assign ?_); refine s_assign hE rfl rfl ?_; clear hE a; intro a hE)
    )
  exact ret1 hE rfl rfl ⟨by rw [crc32_eq], rfl⟩

theorem rsum (kk : Int) (all p : Nat) (hkk : (kk = 32 ∧ all = 4294967295 ∧ p = 2197175160) ∨ (kk = 16 ∧ all = 65535 ∧ p = 33800)) (A : Option Addr) (c : Nat) (xs : List Nat) (w0 : World) (hr : Rd w0 A (bys xs)) (hx : Bs xs) (hl : xs.length ≤ 9223372036854775806) :
    Fn Try.prog 89 [.slice A xs.length c, .int .i64 kk] w0 fun v w' => v = .int .u64 ((all ^^^ run p all xs : Nat) : Int) ∧ w' = w0 := by
  have hall : all < 4294967296 := by omega
  have hp : p < 4294967296 := by omega
  refine enter 43 Try.func89 rfl rfl rfl ?_
  intro a hE
  have hE1 : ∀ (a : Act), Env 43 [(0, .slice A xs.length c), (5, .int .u64 (all : Int)), (6, .int .u64 (p : Int)), (7, .int .u64 (all : Int)), (8, .int .i64 0)] a → Env 43 [(0, .slice A xs.length c), (5, .int .u64 (all : Int)), (6, .int .u64 (p : Int)), (7, .int .u64 (all : Int)), (8, .int .i64 0)] a := fun _ h => h
  rcases hkk with ⟨rfl, hq, hq2⟩ | ⟨rfl, hq, hq2⟩
  all_goals
    repeat' (first
      | (with_reducible refine wp_seq ?_)
      | (with_reducible refine c_region ?_)
      | (with_reducible refine wpList_nil ?_)
      | (with_reducible refine then_normal ?_)
      | (with_reducible refine wp_skip ?_)
      | (with_reducible refine wp_block ?_)
      | ((with_reducible refine g_move ?_); refine s_move hE rfl rfl ?_; clear hE a; intro a hE)
      | ((with_reducible refine g_assign ?_); refine s_assign hE rfl rfl ?_; clear hE a; intro a hE)
      | ((with_reducible refine g_bin .eql ?_); refine s_eql hE rfl rfl rfl ?_; clear hE a; intro a hE)
      | ((with_reducible refine g_cond ?_); refine c_true hE rfl ?_)
      | ((with_reducible refine g_cond ?_); refine c_false hE rfl ?_)
      )
    replace hE1 := hE1 a (hE.sub ⟨rfl, by rw [hq]; rfl, by rw [hq2]; rfl, by rw [hq]; rfl, rfl, trivial⟩)
    clear hE hq hq2
    refine wp_loop_ghost (fun m a w => ∃ k s : Nat, k + m = xs.length ∧ s < 4294967296 ∧ s = run p all (xs.take k) ∧ w = w0 ∧ Env 43 [(0, .slice A xs.length c), (5, .int .u64 (all : Int)), (6, .int .u64 (p : Int)), (7, .int .u64 (s : Int)), (8, .int .i64 (k : Int))] a) xs.length ⟨0, all, by omega, by omega, rfl, rfl, hE1⟩ ?_
    clear hE1 a
    rintro m a w ⟨k, s, hk, hs, hse, rfl, hE⟩
    repeat' (first
      | (with_reducible refine wp_seq ?_)
      | (with_reducible refine c_region ?_)
      | (with_reducible refine wpList_nil ?_)
      | (with_reducible refine then_normal ?_)
      | (with_reducible refine wp_skip ?_)
      | (with_reducible refine wp_ret ?_)
      | (with_reducible refine wp_block ?_)
      | (with_reducible refine wp_exit ?_)
      | (with_reducible refine then_exit ?_)
      | (with_reducible refine block_same ?_)
      | ((with_reducible refine g_move ?_); refine s_move hE rfl rfl ?_; clear hE a; intro a hE)
      | ((with_reducible refine g_assign ?_); refine s_assign hE rfl rfl ?_; clear hE a; intro a hE)
      | ((with_reducible refine g_bin .lss ?_); refine s_lss hE rfl rfl rfl ?_; clear hE a; intro a hE)
      | ((with_reducible refine g_bin .xor ?_); refine s_xor hE rfl rfl rfl (by first | rfl) ?_; clear hE a; intro a hE)
      | ((with_reducible refine g_blt .len ?_); refine s_len hE rfl rfl ?_; clear hE a; intro a hE)
      | ((with_reducible refine g_cond ?_); refine c_dec hE rfl (fun hc => ?_) (fun hc => ?_) <;> try omega)
      )
    · have hk' : k < xs.length := by omega
      have hb := hx.get hk'
      refine s_get hE rfl rfl (by omega) (by omega) hr (bys_getI hk') rfl rfl ?_
      clear hE a; intro a _ hE
      repeat' (first
        | (with_reducible refine wp_seq ?_)
        | (with_reducible refine c_region ?_)
        | (with_reducible refine wpList_nil ?_)
        | (with_reducible refine then_normal ?_)
        | (with_reducible refine wp_block ?_)
        | ((with_reducible refine g_assign ?_); refine s_assign hE rfl rfl ?_; clear hE a; intro a hE)
        | ((with_reducible refine g_bin .xor ?_); refine s_xor hE rfl rfl rfl (by first | exact xor_u64 (a := s) (by omega) (by omega)) ?_; clear hE a; intro a hE)
        | ((with_reducible refine g_conv ?_); refine s_conv hE rfl rfl (by first | exact wrap_u64_in (by omega) ) ?_; clear hE a; intro a hE)
        )
      refine wp_loop_ghost (fun m2 a w2 => ∃ j s2 : Nat, j + m2 = 8 ∧ s2 < 4294967296 ∧ s2 = bits8 p j (s ^^^ xs[k]) ∧ w2 = w ∧ Env 43 [(0, .slice A xs.length c), (5, .int .u64 (all : Int)), (6, .int .u64 (p : Int)), (7, .int .u64 (s2 : Int)), (8, .int .i64 (k : Int)), (9, .int .i64 (j : Int))] a) 8 ⟨0, s ^^^ xs[k], by omega, Nat.xor_lt_two_pow (n := 32) hs (by omega), rfl, rfl, hE.sub ⟨rfl, rfl, rfl, rfl, rfl, rfl, trivial⟩⟩ ?_
      clear hE a
      rintro m2 a w2 ⟨j, s2, hj, hs2, hse2, rfl, hE⟩
      repeat' (first
        | (with_reducible refine wp_seq ?_)
        | (with_reducible refine c_region ?_)
        | (with_reducible refine wpList_nil ?_)
        | (with_reducible refine then_normal ?_)
        | (with_reducible refine wp_skip ?_)
        | (with_reducible refine wp_block ?_)
        | (with_reducible refine block_normal ?_)
        | (with_reducible refine wp_exit ?_)
        | (with_reducible refine then_exit ?_)
        | (with_reducible refine block_same ?_)
        | ((with_reducible refine g_move ?_); refine s_move hE rfl rfl ?_; clear hE a; intro a hE)
        | ((with_reducible refine g_assign ?_); refine s_assign hE rfl rfl ?_; clear hE a; intro a hE)
        | ((with_reducible refine g_bin .lss ?_); refine s_lss hE rfl rfl rfl ?_; clear hE a; intro a hE)
        | ((with_reducible refine g_bin .eql ?_); refine s_eql hE rfl rfl rfl ?_; clear hE a; intro a hE)
        | ((with_reducible refine g_bin .add ?_); refine s_add hE rfl rfl rfl (by first | exact wrap64_in (by omega) ) ?_; clear hE a; intro a hE)
        | ((with_reducible refine g_bin .sub ?_); refine s_sub hE rfl rfl rfl (by first | exact wrap_u64_in (by omega) ) ?_; clear hE a; intro a hE)
        | ((with_reducible refine g_bin .xor ?_); refine s_xor hE rfl rfl rfl (by first | exact xor_u64 (a := s2 / 2) (by omega) (by omega)) ?_; clear hE a; intro a hE)
        | ((with_reducible refine g_bin .quo ?_); refine s_quo hE rfl rfl (by omega) rfl (by first | exact odd_half (by assumption) (by omega) | exact quo_u64 (a := s2) (b := 2) (by omega) ) ?_; clear hE a; intro a hE)
        | ((with_reducible refine g_bin .rem ?_); refine s_rem hE rfl rfl (by omega) rfl (by first | exact tmod_nat s2 2 ) ?_; clear hE a; intro a hE)
        | ((with_reducible refine g_cond ?_); refine c_dec hE rfl (fun hc => ?_) (fun hc => ?_) <;> try omega)
        )
      · refine ⟨m2 - 1, by omega, j + 1, _, by omega, bit_lt 32 p s2 hp hs2, by rw [hse2]; rfl, rfl, hE.sub ⟨rfl, rfl, rfl, ?_, rfl, rfl, trivial⟩⟩
        rw [← bit_odd (by assumption)]
        rfl
      · refine ⟨m2 - 1, by omega, j + 1, _, by omega, bit_lt 32 p s2 hp hs2, by rw [hse2]; rfl, rfl, hE.sub ⟨rfl, rfl, rfl, ?_, rfl, rfl, trivial⟩⟩
        rw [← bit_even (by assumption)]
        rfl
      · obtain rfl : j = 8 := by omega
        exact ⟨m - 1, by omega, k + 1, s2, by omega, hs2, by rw [run_take _ _ _ _ hk', ← hse, hse2]; rfl, rfl, hE.sub ⟨rfl, rfl, rfl, rfl, rfl, trivial⟩⟩
    · obtain rfl : k = xs.length := by omega
      rw [List.take_length] at hse
      refine ret1 hE rfl rfl ⟨?_, rfl⟩
      rw [xor_u64 (a := s) (by omega) (by omega), hse, Nat.xor_comm]

theorem rsum32 (A : Option Addr) (c : Nat) (xs : List Nat) (w0 : World) (hr : Rd w0 A (bys xs)) (hx : Bs xs) (hl : xs.length ≤ 9223372036854775806) :
    Fn Try.prog 89 [.slice A xs.length c, .int .i64 32] w0 fun v w' => v = .int .u64 ((crc32 xs : Nat) : Int) ∧ w' = w0 :=
  by rw [crc32_eq]; exact rsum 32 4294967295 2197175160 (by simp) A c xs w0 hr hx hl


attribute [local irreducible] Rd hRow hBlk hRd hAll Fn
theorem sum32S (A : Option Addr) (c : Nat) (xs : List Nat) (n : Nat) (w0 : World) (hr : Rd w0 A (bys xs)) (hx : Bs xs) (hl : xs.length ≤ 9223372036854775807) (hn : n = xs.length) :
    Fn Try.prog 97 [.slice A n c] w0 fun v w' => v = .int .u32 ((crc32 xs : Nat) : Int) ∧ St w0 w' [] := by
  subst hn
  exact Fn.mono (Sum32 A c xs w0 hr hx hl) fun v w' h => ⟨h.1, by rw [h.2]; exact St.start _⟩
theorem rsum32S (A : Option Addr) (c : Nat) (xs : List Nat) (n : Nat) (w0 : World) (hr : Rd w0 A (bys xs)) (hx : Bs xs) (hl : xs.length ≤ 9223372036854775806) (hn : n = xs.length) :
    Fn Try.prog 89 [.slice A n c, .int .i64 32] w0 fun v w' => v = .int .u64 ((crc32 xs : Nat) : Int) ∧ St w0 w' [] := by
  subst hn
  exact Fn.mono (rsum32 A c xs w0 hr hx hl) fun v w' h => ⟨h.1, by rw [h.2]; exact St.start _⟩
theorem str_list (l : List Nat) : (str l).toList = l.map UInt8.ofNat := by
  rw [ByteArray.toList_eq]
  simp [str]
theorem str_beq {xs ys : List Nat} (hx : Bs xs) (hy : Bs ys) : ((str xs).toList == (str ys).toList) = decide (xs = ys) := by
  rw [str_list, str_list]
  by_cases h : xs = ys
  · subst h; simp
  · have h2 : ¬ (xs.map UInt8.ofNat = ys.map UInt8.ofNat) := by
      intro e
      apply h
      have inv : ∀ l : List Nat, Bs l → (l.map UInt8.ofNat).map UInt8.toNat = l := by
        intro l hl
        rw [List.map_map]
        conv => rhs; rw [← List.map_id l]
        refine List.map_congr_left fun c hc => ?_
        show (UInt8.ofNat c).toNat = c
        rw [UInt8.toNat_ofNat']
        exact Nat.mod_eq_of_lt (hl c hc)
      rw [← inv xs hx, ← inv ys hy, e]
    rw [decide_eq_false h]
    exact beq_eq_false_iff_ne.2 h2
theorem bequal (A B : Option Addr) (c d : Nat) (xs ys : List Nat) (n m : Nat) (w0 : World) (hr : Rd w0 A (bys xs)) (hr2 : Rd w0 B (bys ys)) (hx : Bs xs) (hy : Bs ys) (hn : n = xs.length) (hm : m = ys.length) :
    Fn Try.prog 30 [.slice A n c, .slice B m d] w0 fun v w' => v = .bool (decide (xs = ys)) ∧ St w0 w' [] := by
  subst hn hm
  refine enter 10 Try.func30 rfl rfl rfl ?_
  intro a hE
  have hS := St.start w0
  repeat' (first

    | (with_reducible refine wp_seq ?_)
    | (with_reducible refine c_region ?_)
    | (with_reducible refine wpList_nil ?_)
    | (with_reducible refine then_normal ?_)
    | ((with_reducible refine g_move ?_); refine s_move hE rfl rfl ?_; clear hE a; intro a hE)
    | ((with_reducible refine g_assign ?_); refine s_assign hE rfl rfl ?_; clear hE a; intro a hE)
    )
  refine s_val hE rfl rfl rfl (r_str hE rfl (hr.st hS) rfl) ?_
  clear hE a; intro a hE
  repeat' (first

    | ((with_reducible refine g_move ?_); refine s_move hE rfl rfl ?_; clear hE a; intro a hE)
    )
  refine s_val hE rfl rfl rfl (r_str hE rfl (hr2.st hS) rfl) ?_
  clear hE a; intro a hE
  skip
  refine s_val hE rfl rfl rfl (r_seq hE rfl rfl) ?_
  clear hE a; intro a hE
  rw [str_beq hx hy] at hE
  repeat' (first

    | (with_reducible refine wpList_nil ?_)
    | (with_reducible refine then_normal ?_)
    | (with_reducible refine wp_ret ?_)
    | ((with_reducible refine g_assign ?_); refine s_assign hE rfl rfl ?_; clear hE a; intro a hE)
    )
  exact ret1 hE rfl rfl ⟨rfl, hS⟩
theorem bclone (A : Option Addr) (c : Nat) (xs : List Nat) (w0 : World) (hr : Rd w0 A (bys xs)) (hl : xs.length ≤ 140737488355328) :
    Fn Try.prog 55 [.slice A xs.length c] w0 fun v w' => ∃ A' c', v = .slice A' xs.length c' ∧ St w0 w' [hRow 5 1 A' xs.length c' (bys xs)] := by
  refine enter 8 Try.func55 rfl rfl rfl ?_
  intro a hE
  have hS := St.start w0
  cases A with
  | none =>
    repeat' (first
      | (with_reducible refine wp_seq ?_)
      | (with_reducible refine c_region ?_)
      | (with_reducible refine wpList_nil ?_)
      | (with_reducible refine then_normal ?_)
      | (with_reducible refine wp_ret ?_)
      | (with_reducible refine then_ret ?_)
      | ((with_reducible refine g_move ?_); refine s_move hE rfl rfl ?_; clear hE a; intro a hE)
      | ((with_reducible refine g_assign ?_); refine s_assign hE rfl rfl ?_; clear hE a; intro a hE)
      | ((with_reducible refine g_bin .eql ?_); refine s_eqnil hE rfl rfl rfl ?_; clear hE a; intro a hE)
      | ((with_reducible refine g_cond ?_); refine c_true hE rfl ?_)
      )
    have hx : xs = [] := hr.none_nil
    subst hx
    exact ret1 hE rfl rfl ⟨none, 0, rfl, hS.rowNil _ _⟩
  | some ad =>
    repeat' (first
      | (with_reducible refine wp_seq ?_)
      | (with_reducible refine c_region ?_)
      | (with_reducible refine wpList_nil ?_)
      | (with_reducible refine then_normal ?_)
      | (with_reducible refine wp_skip ?_)
      | ((with_reducible refine g_move ?_); refine s_move hE rfl rfl ?_; clear hE a; intro a hE)
      | ((with_reducible refine g_assign ?_); refine s_assign hE rfl rfl ?_; clear hE a; intro a hE)
      | ((with_reducible refine g_bin .eql ?_); refine s_eqnil hE rfl rfl rfl ?_; clear hE a; intro a hE)
      | ((with_reducible refine g_cond ?_); refine c_false hE rfl ?_)
      )
    refine s_lit (parts := []) (cs := []) hE hS rfl rfl rfl rfl rfl (by simp) rfl ?_
    clear hE a hS; intro g a w hE hS
    repeat' (first
      | ((with_reducible refine g_move ?_); refine s_move hE rfl rfl ?_; clear hE a; intro a hE)
      )
    refine s_append hE hS rfl rfl (hr.st hS) (by rw [bys_length, Nat.mul_one]) (bys_one xs) (by omega) rfl rfl rfl rfl ?_
    clear hE a hS; intro A' c' a w hE hS
    repeat' (first
      | (with_reducible refine wpList_nil ?_)
      | (with_reducible refine then_normal ?_)
      | (with_reducible refine wp_ret ?_)
      | ((with_reducible refine g_assign ?_); refine s_assign hE rfl rfl ?_; clear hE a; intro a hE)
      )
    refine ret1 hE rfl rfl ⟨A', c', by rw [Nat.zero_add], ?_⟩
    rw [Nat.zero_add, List.nil_append] at hS
    exact hS
end Go.Proofs.Ytfoeelghehjanaa
