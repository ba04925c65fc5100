/-
  Contracts of octet: readers; numbers put.
-/
import Derived.Test.YtfoeelghehjanaaOA
import Derived.Test.YtfoeelghehjanaaOM
namespace Go.Proofs.Ytfoeelghehjanaa
open Go.RowKit
set_option linter.unusedVariables false
set_option linter.unusedSimpArgs false
attribute [local irreducible] Rd hRow hBlk hRd hAll Fn

/-- a reader -/
def hRdr (g : Nat) (A : Option Addr) (c : Nat) (xs : List Nat) (p : Nat) (e : Int) : HP :=
  hAll [hBlk g 149 [.slice A xs.length c, .int .i64 (p : Int), .int .i64 e], hRow 5 1 A xs.length c (bys xs)]

theorem read (A : Option Addr) (c : Nat) (xs : List Nat) (w0 : World) (hr : Rd w0 A (bys xs)) (hl : xs.length ≤ 140737488355328) :
    Fn Try.prog 85 [.slice A xs.length c] w0 fun v w' => ∃ g A' c', v = .pointer (some ⟨g, 0, none⟩) ∧ St w0 w' [hRdr g A' c' xs 0 0] := by
  refine enter 8 Try.func85 rfl rfl rfl ?_
  intro a hE
  repeat' (first
    | (with_reducible refine wp_seq ?_)
    | (with_reducible refine c_region ?_)
    | (with_reducible refine wpList_nil ?_)
    | (with_reducible refine then_normal ?_)
    | ((with_reducible refine g_move ?_); refine s_move hE rfl rfl ?_; clear hE a; intro a hE)
    | ((with_reducible refine g_assign ?_); refine s_assign hE rfl rfl ?_; clear hE a; intro a hE)
    )
  refine s_call hE rfl rfl rfl (clone A c xs w0 hr hl) ?_
  rintro v w ⟨A1, c1, rfl, hS⟩; clear hE a; intro a hE
  refine s_build [.slice A1 xs.length c1, .int .i64 0, .int .i64 0] hE rfl rfl rfl ?_
  clear hE a; intro a hE
  refine s_build [.slice A1 xs.length c1, .int .i64 0, .int .i64 0] hE rfl rfl rfl ?_
  clear hE a; intro a hE
  refine s_box (cs := [.slice A1 xs.length c1, .int .i64 0, .int .i64 0]) hE hS rfl rfl rfl ?_
  clear hE a hS; intro g a w hE hS
  repeat' (first
    | (with_reducible refine wpList_nil ?_)
    | (with_reducible refine then_normal ?_)
    | (with_reducible refine wp_ret ?_)
    | ((with_reducible refine g_assign ?_); refine s_assign hE rfl rfl ?_; clear hE a; intro a hE)
    )
  exact ret1 hE rfl rfl ⟨g, A1, c1, rfl, St.close_ (M := [hBlk g 149 [.slice A1 xs.length c1, .int .i64 0, .int .i64 0], hRow 5 1 A1 xs.length c1 (bys xs)]) hS⟩

theorem take_ (g : Nat) (A : Option Addr) (c : Nat) (xs : List Nat) (p : Nat) (e n : Int) (H : List HP) (w0 w : World) (hS : St w0 w (hRdr g A c xs p e :: H)) (hp : p ≤ xs.length) (hl : xs.length ≤ 140737488355328) (hn : -9223372036854775808 ≤ n ∧ n ≤ 9223372036854775807) :
    Fn Try.prog 109 [.pointer (some ⟨g, 0, none⟩), .int .i64 n] w fun v w' => ∃ A' c', v = .slice A' (takeM xs p e n).1.length c' ∧ Rd w' A' (bys (takeM xs p e n).1) ∧ (takeM xs p e n).1.length ≤ c' ∧ St w0 w' (hRdr g A c xs (takeM xs p e n).2.1 (takeM xs p e n).2.2 :: H) := by
  refine enter 56 Try.func109 rfl rfl rfl ?_
  intro a hE
  replace hS := hS.open_
  simp only [List.cons_append, List.nil_append] at hS
  have hcap := (hS.lenAt (k := 1) rfl).2.1
  repeat' (first
    | (with_reducible refine wp_seq ?_)
    | (with_reducible refine c_region ?_)
    | (with_reducible refine wpList_nil ?_)
    | (with_reducible refine then_normal ?_)
    | (with_reducible refine wp_ret ?_)
    | (with_reducible refine then_ret ?_)
    | (with_reducible refine wp_block ?_)
    | (with_reducible refine block_ret ?_)
    | ((with_reducible refine g_move ?_); refine s_move hE rfl rfl ?_; clear hE a; intro a hE)
    | ((with_reducible refine g_assign ?_); refine s_assign hE rfl rfl ?_; clear hE a; intro a hE)
    | ((with_reducible refine g_bin .lss ?_); refine s_lss hE rfl rfl rfl ?_; clear hE a; intro a hE)
    | ((with_reducible refine g_bin .neq ?_); refine s_neq hE rfl rfl rfl ?_; clear hE a; intro a hE)
    | ((with_reducible refine g_fa ?_); refine s_fieldL hE rfl rfl rfl ?_; clear hE a; intro a hE)
    | ((with_reducible refine g_nc ?_); refine s_nilCheck hE rfl rfl ?_; clear hE a; intro a hE)
    | ((with_reducible refine g_cond ?_); refine c_dec hE rfl (fun hc => ?_) (fun hc => ?_) <;> try omega)
    | ((with_reducible refine g_load ?_); (first | (refine s_loadB (k := 0) hS hE rfl rfl rfl rfl ?_) ); clear hE a; intro a hE)
    | ((with_reducible refine g_store ?_); (first | (refine s_storeB (k := 0) hS hE rfl rfl rfl rfl rfl rfl ?_) ); clear hS; intro w hS; simp only [List.set_cons_zero, List.set_cons_succ, Nat.add_zero] at hS)
    )
  · have e1 : takeM xs p e n = ([], p, e) := by unfold takeM; rw [if_pos hc]
    rw [e1]
    exact ret1 hE rfl rfl ⟨none, 0, rfl, Rd.nil, Nat.zero_le _, St.close_ (M := [_, _]) hS⟩
  · rename_i he
    have e1 : takeM xs p e n = ([], p, 2) := by unfold takeM; rw [if_neg he, if_pos hc]
    rw [e1]
    exact ret1 hE rfl rfl ⟨none, 0, rfl, Rd.nil, Nat.zero_le _, St.close_ (M := [_, _]) hS⟩
  · rename_i he
    have hn0 := hc
    clear hc
    obtain ⟨m, rfl⟩ := Int.eq_ofNat_of_zero_le (show 0 ≤ n by omega)
    refine c_ordS hS 13 ((.rd 0 (.rd 1 (.rd 2 (.rd 3 (.rd 4 (.rd 5 (.rd 6 (.rd 7 (.rd 8 (.rd 9 (.rd 10 (.rd 11 (.rd 12 .done)))))))))))))) mixed (by decide +kernel) ?_; clear hS; intro w hS
    repeat' (first
      | (with_reducible refine o_rd rfl ?_)
      | (with_reducible refine o_done ?_)
      | ((with_reducible refine q_move ?_); refine d_val hE hS rfl (fun w hS => r_move hE rfl) ?_; clear hE a; intro a hE)
      | ((with_reducible refine q_assign ?_); refine d_val hE hS rfl (fun w hS => r_assign hE rfl) ?_; clear hE a; intro a hE)
      | ((with_reducible refine q_bin .gtr ?_); refine d_val hE hS rfl (fun w hS => r_gtr hE rfl rfl) ?_; clear hE a; intro a hE)
      | ((with_reducible refine q_bin .sub ?_); refine d_val hE hS rfl (fun w hS => r_sub hE rfl rfl (by first | exact subN (by omega) (by omega) )) ?_; clear hE a; intro a hE)
      | ((with_reducible refine q_blt .len ?_); refine d_val hE hS rfl (fun w hS => r_len hE rfl) ?_; clear hE a; intro a hE)
      | ((with_reducible refine q_fa ?_); refine d_val hE hS rfl (fun w hS => r_fieldL hE rfl rfl) ?_; clear hE a; intro a hE)
      | ((with_reducible refine q_nc ?_); refine d_val hE hS rfl (fun w hS => r_nilCheck hE rfl) ?_; clear hE a; intro a hE)
      | ((with_reducible refine q_load ?_); (first | (refine d_val hE hS rfl (fun w hS => r_loadB (k := 0) hS hE rfl rfl rfl) ?_) ); clear hE a; intro a hE)
      )
    repeat' (first
      | (with_reducible refine wp_seq ?_)
      | (with_reducible refine c_region ?_)
      | (with_reducible refine wpList_nil ?_)
      | (with_reducible refine then_normal ?_)
      | (with_reducible refine wp_skip ?_)
      | (with_reducible refine wp_ret ?_)
      | (with_reducible refine then_ret ?_)
      | (with_reducible refine block_normal ?_)
      | (with_reducible refine block_ret ?_)
      | ((with_reducible refine g_move ?_); refine s_move hE rfl rfl ?_; clear hE a; intro a hE)
      | ((with_reducible refine g_assign ?_); refine s_assign hE rfl rfl ?_; clear hE a; intro a hE)
      | ((with_reducible refine g_bin .add ?_); refine s_add hE rfl rfl rfl (by first | exact addN (by omega) ) ?_; clear hE a; intro a hE)
      | ((with_reducible refine g_fa ?_); refine s_fieldL hE rfl rfl rfl ?_; clear hE a; intro a hE)
      | ((with_reducible refine g_nc ?_); refine s_nilCheck hE rfl rfl ?_; clear hE a; intro a hE)
      | ((with_reducible refine g_cond ?_); refine c_dec hE rfl (fun hc => ?_) (fun hc => ?_) <;> try omega)
      | ((with_reducible refine g_load ?_); (first | (refine s_loadB (k := 0) hS hE rfl rfl rfl rfl ?_) ); clear hE a; intro a hE)
      | ((with_reducible refine g_store ?_); (first | (refine s_storeB (k := 0) hS hE rfl rfl rfl rfl rfl rfl ?_) ); clear hS; intro w hS; simp only [List.set_cons_zero, List.set_cons_succ, Nat.add_zero] at hS)
      )
    · have e1 : takeM xs p e (m : Int) = ([], p, 7) := by unfold takeM; rw [if_neg he, if_neg hn0, if_pos (by omega)]
      rw [e1]
      exact ret1 hE rfl rfl ⟨none, 0, rfl, Rd.nil, Nat.zero_le _, St.close_ (M := [_, _]) hS⟩
    · have e1 : takeM xs p e (m : Int) = ((xs.drop p).take m, p + m, e) := by
        unfold takeM
        rw [if_neg he, if_neg hn0, if_neg (by omega), Int.toNat_natCast]
        have : e = 0 := by omega
        rw [this]
      refine c_ordS hS 16 ((.rd 0 (.rd 1 (.rd 2 (.rd 3 (.rd 4 (.rd 5 (.rd 6 (.rd 7 (.rd 8 (.rd 9 (.rd 10 (.rd 11 (.rd 12 (.rd 13 (.rd 14 (.rd 15 .done))))))))))))))))) mixed (by decide +kernel) ?_; clear hS; intro w hS
      repeat' (first
        | (with_reducible refine o_rd rfl ?_)
        | (with_reducible refine o_done ?_)
        | ((with_reducible refine q_move ?_); refine d_val hE hS rfl (fun w hS => r_move hE rfl) ?_; clear hE a; intro a hE)
        | ((with_reducible refine q_assign ?_); refine d_val hE hS rfl (fun w hS => r_assign hE rfl) ?_; clear hE a; intro a hE)
        | ((with_reducible refine q_bin .sub ?_); refine d_val hE hS rfl (fun w hS => r_sub hE rfl rfl (by first | exact subN (by omega) (by omega) )) ?_; clear hE a; intro a hE)
        | ((with_reducible refine q_fa ?_); refine d_val hE hS rfl (fun w hS => r_fieldL hE rfl rfl) ?_; clear hE a; intro a hE)
        | ((with_reducible refine q_nc ?_); refine d_val hE hS rfl (fun w hS => r_nilCheck hE rfl) ?_; clear hE a; intro a hE)
        | ((with_reducible refine q_load ?_); (first | (refine d_val hE hS rfl (fun w hS => r_loadB (k := 0) hS hE rfl rfl rfl) ?_) ); clear hE a; intro a hE)
        | ((with_reducible refine q_slice ?_); refine d_val hE hS rfl (fun w hS => r_cutLH hE rfl rfl rfl (by omega) (by omega)) ?_; clear hE a; intro a hE)
        )
      repeat' (first
        | (with_reducible refine then_normal ?_)
        | (with_reducible refine wp_ret ?_)
        )
      have hlen : ((xs.drop p).take m).length = m := by rw [List.length_take, List.length_drop]; omega
      have e2 : ((p + m : Nat) : Int).toNat - ((p + m - m : Nat) : Int).toNat = m := by omega
      have e3 : ((p + m - m : Nat) : Int).toNat = p := by omega
      rw [e2, e3] at hE
      rw [e1]
      refine ret1 hE rfl rfl ⟨_, c - p, by rw [hlen], (hS.rdAt (k := 1) rfl).cutB hcap m, by rw [hlen]; omega, St.close_ (M := [_, _]) hS⟩
end Go.Proofs.Ytfoeelghehjanaa
