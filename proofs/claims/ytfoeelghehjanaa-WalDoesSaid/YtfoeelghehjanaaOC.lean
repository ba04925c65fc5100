/-
  Contracts of octet: what a reader tells; numbers put.
-/
import Derived.Test.YtfoeelghehjanaaOB
namespace Go.Proofs.Ytfoeelghehjanaa
open Go.RowKit
set_option linter.unusedVariables false
set_option linter.unusedSimpArgs false
attribute [local irreducible] Rd hRow hBlk hRd hAll Fn

theorem raw (g : Nat) (A : Option Addr) (c : Nat) (xs : List Nat) (p : Nat) (e n : Int) (H : List HP) (w0 w : World) (hS : St w0 w (hRdr g A c xs p e :: H)) (hp : p ≤ xs.length) (hl : xs.length ≤ 140737488355328) (hn : -9223372036854775808 ≤ n ∧ n ≤ 9223372036854775807) :
    Fn Try.prog 108 [.pointer (some ⟨g, 0, none⟩), .int .i64 n] w fun v w' => ∃ A' c', v = .slice A' (takeM xs p e n).1.length c' ∧ St w0 w' (hRow 5 1 A' (takeM xs p e n).1.length c' (bys (takeM xs p e n).1) :: hRdr g A c xs (takeM xs p e n).2.1 (takeM xs p e n).2.2 :: H) := by
  refine enter 13 Try.func108 rfl rfl rfl ?_
  intro a hE
  have hl2 := takeM_len (e := e) (n := n) hp
  repeat' (first
    | (with_reducible refine wp_seq ?_)
    | (with_reducible refine c_region ?_)
    | (with_reducible refine wpList_nil ?_)
    | (with_reducible refine then_normal ?_)
    | (with_reducible refine wp_skip ?_)
    | ((with_reducible refine g_move ?_); refine s_move hE rfl rfl ?_; clear hE a; intro a hE)
    | ((with_reducible refine g_assign ?_); refine s_assign hE rfl rfl ?_; clear hE a; intro a hE)
    | ((with_reducible refine g_fa ?_); refine s_fieldL hE rfl rfl rfl ?_; clear hE a; intro a hE)
    | ((with_reducible refine g_nc ?_); refine s_nilCheck hE rfl rfl ?_; clear hE a; intro a hE)
    | ((with_reducible refine g_cond ?_); refine c_false hE rfl ?_)
    | ((with_reducible refine g_bin .eql ?_); refine s_val hE rfl rfl rfl (r_eqp hE rfl rfl) ?_; clear hE a; intro a hE)
    )
  refine s_call hE rfl rfl rfl (take_ g A c xs p e n H w0 w hS hp hl hn) ?_
  rintro _ w ⟨A1, c1, rfl, hr, hc1, hS⟩; clear hE a; intro a hE
  refine s_call hE rfl rfl rfl (clone A1 c1 _ w hr (by omega)) ?_
  rintro _ w ⟨A2, c2, rfl, hS1⟩; clear hE a; intro a hE
  repeat' (first
    | (with_reducible refine wpList_nil ?_)
    | (with_reducible refine then_normal ?_)
    | (with_reducible refine wp_ret ?_)
    | ((with_reducible refine g_assign ?_); refine s_assign hE rfl rfl ?_; clear hE a; intro a hE)
    )
  exact ret1 hE rfl rfl ⟨A2, c2, rfl, hS.frame hS1⟩
theorem rawNil (n : Int) (w : World) :
    Fn Try.prog 108 [.pointer none, .int .i64 n] w fun v w' => v = .slice none 0 0 ∧ w' = w := by
  refine enter 13 Try.func108 rfl rfl rfl ?_
  intro a hE
  have hS := St.start w
  repeat' (first
    | (with_reducible refine wp_seq ?_)
    | (with_reducible refine c_region ?_)
    | (with_reducible refine wpList_nil ?_)
    | (with_reducible refine then_normal ?_)
    | (with_reducible refine wp_ret ?_)
    | (with_reducible refine then_ret ?_)
    | ((with_reducible refine g_move ?_); refine s_move hE rfl rfl ?_; clear hE a; intro a hE)
    | ((with_reducible refine g_assign ?_); refine s_assign hE rfl rfl ?_; clear hE a; intro a hE)
    | ((with_reducible refine g_cond ?_); refine c_true hE rfl ?_)
    | ((with_reducible refine g_bin .eql ?_); refine s_val hE rfl rfl rfl (r_eqp hE rfl rfl) ?_; clear hE a; intro a hE)
    )
  exact ret1 hE rfl rfl ⟨rfl, rfl⟩
theorem or_shl {x c : Nat} (hc : c < 256) (hx : x * 256 < 18446744073709551616) : bits .or .u64 ((x * 256 : Nat) : Int) (c : Int) = ((x * 256 + c : Nat) : Int) := by
  rw [or_u64 hx (by omega)]
  have := Nat.two_pow_add_eq_or_of_lt (i := 8) (b := c) hc x
  rw [Nat.mul_comm x 256, show 256 * x = 2 ^ 8 * x from rfl, ← this]
theorem shl8 {x : Nat} (hx : x * 256 < 18446744073709551616) : IntKind.u64.wrap ((x : Int) * 2 ^ min (8 : Int).toNat IntKind.u64.bits) = ((x * 256 : Nat) : Int) := by
  rw [show min (8 : Int).toNat IntKind.u64.bits = 8 from rfl, wrap_u64_in (by omega)]
  omega
theorem bnum_step {l : List Nat} {k : Nat} (h : ∀ c ∈ l, c < 256) (hk : k < l.length) (hl : l.length ≤ 8) : bnum 0 (l.take k) * 256 < 18446744073709551616 := by
  have h1 := bnum_lt (l.take k) (fun c hc => h c (List.mem_of_mem_take hc))
  have h2 : (256 : Nat) ^ (l.take k).length ≤ 256 ^ 7 := Nat.pow_le_pow_right (by decide) (by rw [List.length_take]; omega)
  have h3 : (256 : Nat) ^ 7 = 72057594037927936 := by decide
  omega
theorem bnum_take {l : List Nat} {k : Nat} (hk : k < l.length) : bnum 0 (l.take (k + 1)) = bnum 0 (l.take k) * 256 + l[k] := by
  rw [List.take_succ_eq_append_getElem hk, bnum_append]
  rfl
theorem number (g : Nat) (A : Option Addr) (c : Nat) (xs : List Nat) (p : Nat) (e : Int) (n : Nat) (H : List HP) (w0 w : World) (hS : St w0 w (hRdr g A c xs p e :: H)) (hx : Bs xs) (hp : p ≤ xs.length) (hl : xs.length ≤ 140737488355328) (hn : n ≤ 8) :
    Fn Try.prog 102 [.pointer (some ⟨g, 0, none⟩), .int .i64 (n : Int)] w fun v w' => v = .int .u64 ((bnum 0 (takeM xs p e n).1 : Nat) : Int) ∧ St w0 w' (hRdr g A c xs (takeM xs p e n).2.1 (takeM xs p e n).2.2 :: H) := by
  refine enter 23 Try.func102 rfl rfl rfl ?_
  intro a hE
  have hb := takeM_bs (p := p) (e := e) (n := (n : Int)) hx
  have hln := takeM_n (xs := xs) (p := p) (e := e) (n := n)
  repeat' (first
    | (with_reducible refine wp_seq ?_)
    | (with_reducible refine c_region ?_)
    | (with_reducible refine wpList_nil ?_)
    | (with_reducible refine then_normal ?_)
    | ((with_reducible refine g_move ?_); refine s_move hE rfl rfl ?_; clear hE a; intro a hE)
    | ((with_reducible refine g_assign ?_); refine s_assign hE rfl rfl ?_; clear hE a; intro a hE)
    )
  refine s_call hE rfl rfl rfl (raw g A c xs p e n H w0 w hS hp hl (by omega)) ?_
  rintro _ w ⟨A1, c1, rfl, hS⟩; clear hE a; intro a hE
  generalize takeM xs p e n = r at *
  obtain ⟨ys, p2, e2⟩ := r
  simp only at hS hE hb hln ⊢
  repeat' (first
    | (with_reducible refine wpList_nil ?_)
    | (with_reducible refine then_normal ?_)
    | (with_reducible refine wp_block ?_)
    | ((with_reducible refine g_move ?_); refine s_move hE rfl rfl ?_; clear hE a; intro a hE)
    | ((with_reducible refine g_blt .len ?_); refine s_len hE rfl rfl ?_; clear hE a; intro a hE)
    )
  refine wp_loop_ghost (fun q a w => ∃ (k : Nat), k + q = ys.length ∧ St w0 w (hRow 5 1 A1 ys.length c1 (bys ys) :: hRdr g A c xs p2 e2 :: H) ∧ Env 23 [(5, .int .u64 ((bnum 0 (ys.take k) : Nat) : Int)), (10, .slice A1 ys.length c1), (11, .int .i64 (ys.length : Int)), (12, .int .i64 (k : Int))] a) ys.length ⟨0, by omega, hS, hE.sub ⟨rfl, rfl, rfl, rfl, trivial⟩⟩ ?_
  clear hE a hS
  rintro q a w ⟨k, hk, hS, hE⟩
  by_cases hk1 : k < ys.length
  · have hst := bnum_step hb hk1 (by omega)
    have hbk : ys[k] < 256 := hb _ (List.getElem_mem hk1)
    repeat' (first
      | (with_reducible refine wp_seq ?_)
      | (with_reducible refine c_region ?_)
      | (with_reducible refine wpList_nil ?_)
      | (with_reducible refine then_normal ?_)
      | (with_reducible refine wp_skip ?_)
      | (with_reducible refine wp_block ?_)
      | (with_reducible refine block_normal ?_)
      | ((with_reducible refine g_move ?_); refine s_move hE rfl rfl ?_; clear hE a; intro a hE)
      | ((with_reducible refine g_assign ?_); refine s_assign hE rfl rfl ?_; clear hE a; intro a hE)
      | ((with_reducible refine g_bin .lss ?_); refine s_lss hE rfl rfl rfl ?_; clear hE a; intro a hE)
      | ((with_reducible refine g_bin .add ?_); refine s_add hE rfl rfl rfl (by first | exact wrap64_in (by omega) ) ?_; clear hE a; intro a hE)
      | ((with_reducible refine g_bin .or ?_); refine s_or hE rfl rfl rfl (by first | exact or_shl hbk hst) ?_; clear hE a; intro a hE)
      | ((with_reducible refine g_bin .shl ?_); refine s_shl hE rfl rfl (by omega) rfl (by first | exact shl8 hst ) ?_; clear hE a; intro a hE)
      | ((with_reducible refine g_conv ?_); refine s_conv hE rfl rfl (by first | exact wrap_u64_in (by omega) ) ?_; clear hE a; intro a hE)
      | ((with_reducible refine g_cond ?_); refine c_dec hE rfl (fun hc => ?_) (fun hc => ?_) <;> try omega)
      | ((with_reducible refine g_ia ?_); refine s_idxR hE rfl rfl (by omega) (by omega) (by (first | exact hS.rd )) (by first | (simp only [bys_length]; omega)) rfl ?_; clear hE a; intro a hE)
      | ((with_reducible refine g_load ?_); refine s_loadR hE rfl (by (first | exact hS.rd )) (by first | exact bys_getM hk1 ) rfl ?_; clear hE a; intro a hE)
      )
    refine ⟨q - 1, by omega, k + 1, by omega, hS, hE.sub ⟨?_, rfl, rfl, rfl, trivial⟩⟩
    rw [bnum_take hk1]
    rfl
  · obtain rfl : k = ys.length := by omega
    rw [List.take_length] at hE
    repeat' (first
      | (with_reducible refine wp_seq ?_)
      | (with_reducible refine c_region ?_)
      | (with_reducible refine wpList_nil ?_)
      | (with_reducible refine then_normal ?_)
      | (with_reducible refine wp_ret ?_)
      | (with_reducible refine wp_exit ?_)
      | (with_reducible refine then_exit ?_)
      | (with_reducible refine block_same ?_)
      | ((with_reducible refine g_move ?_); refine s_move hE rfl rfl ?_; clear hE a; intro a hE)
      | ((with_reducible refine g_assign ?_); refine s_assign hE rfl rfl ?_; clear hE a; intro a hE)
      | ((with_reducible refine g_bin .lss ?_); refine s_lss hE rfl rfl rfl ?_; clear hE a; intro a hE)
      | ((with_reducible refine g_cond ?_); refine c_dec hE rfl (fun hc => ?_) (fun hc => ?_) <;> try omega)
      )
    exact ret1 hE rfl rfl ⟨rfl, hS.tail⟩
theorem numberNil (n : Int) (w : World) :
    Fn Try.prog 102 [.pointer none, .int .i64 n] w fun v w' => v = .int .u64 0 ∧ w' = w := by
  refine enter 23 Try.func102 rfl rfl rfl ?_
  intro a hE
  have hS := St.start w
  repeat' (first
    | (with_reducible refine wp_seq ?_)
    | (with_reducible refine c_region ?_)
    | (with_reducible refine wpList_nil ?_)
    | (with_reducible refine then_normal ?_)
    | ((with_reducible refine g_move ?_); refine s_move hE rfl rfl ?_; clear hE a; intro a hE)
    | ((with_reducible refine g_assign ?_); refine s_assign hE rfl rfl ?_; clear hE a; intro a hE)
    )
  refine s_call hE rfl rfl rfl (rawNil n w) ?_
  rintro _ w ⟨rfl, rfl⟩; clear hE a; intro a hE
  repeat' (first
    | (with_reducible refine wpList_nil ?_)
    | (with_reducible refine then_normal ?_)
    | (with_reducible refine wp_block ?_)
    | ((with_reducible refine g_move ?_); refine s_move hE rfl rfl ?_; clear hE a; intro a hE)
    | ((with_reducible refine g_blt .len ?_); refine s_len hE rfl rfl ?_; clear hE a; intro a hE)
    )
  refine wp_loop_ghost (fun q a w' => w' = w ∧ Env 23 [(5, .int .u64 0), (10, .slice none 0 0), (11, .int .i64 0), (12, .int .i64 0)] a) 0 ⟨rfl, hE.sub ⟨rfl, rfl, rfl, rfl, trivial⟩⟩ ?_
  clear hE a
  rintro q a w' ⟨rfl, hE⟩
  repeat' (first
    | (with_reducible refine wp_seq ?_)
    | (with_reducible refine c_region ?_)
    | (with_reducible refine wpList_nil ?_)
    | (with_reducible refine then_normal ?_)
    | (with_reducible refine wp_ret ?_)
    | (with_reducible refine wp_exit ?_)
    | (with_reducible refine then_exit ?_)
    | (with_reducible refine block_same ?_)
    | ((with_reducible refine g_move ?_); refine s_move hE rfl rfl ?_; clear hE a; intro a hE)
    | ((with_reducible refine g_assign ?_); refine s_assign hE rfl rfl ?_; clear hE a; intro a hE)
    | ((with_reducible refine g_bin .lss ?_); refine s_lss hE rfl rfl rfl ?_; clear hE a; intro a hE)
    | ((with_reducible refine g_cond ?_); refine c_false hE rfl ?_)
    )
  exact ret1 hE rfl rfl ⟨rfl, rfl⟩

theorem u16 (g : Nat) (A : Option Addr) (c : Nat) (xs : List Nat) (p : Nat) (e : Int) (H : List HP) (w0 w : World) (hS : St w0 w (hRdr g A c xs p e :: H)) (hx : Bs xs) (hp : p ≤ xs.length) (hl : xs.length ≤ 140737488355328) :
    Fn Try.prog 87 [.pointer (some ⟨g, 0, none⟩)] w fun v w' => v = .int .u16 ((bnum 0 (takeM xs p e 2).1 : Nat) : Int) ∧ St w0 w' (hRdr g A c xs (takeM xs p e 2).2.1 (takeM xs p e 2).2.2 :: H) := by
  refine enter 6 Try.func87 rfl rfl rfl ?_
  intro a hE
  have hb := bnum_lt _ (takeM_bs (p := p) (e := e) (n := ((2 : Nat) : Int)) hx)
  have hln := takeM_n (xs := xs) (p := p) (e := e) (n := 2)
  have hpw : 256 ^ (takeM xs p e ((2 : Nat) : Int)).1.length ≤ 256 ^ 2 := Nat.pow_le_pow_right (by decide) hln
  repeat' (first
    | (with_reducible refine wp_seq ?_)
    | (with_reducible refine c_region ?_)
    | (with_reducible refine wpList_nil ?_)
    | (with_reducible refine then_normal ?_)
    | ((with_reducible refine g_move ?_); refine s_move hE rfl rfl ?_; clear hE a; intro a hE)
    | ((with_reducible refine g_assign ?_); refine s_assign hE rfl rfl ?_; clear hE a; intro a hE)
    )
  refine s_call hE rfl rfl rfl (number g A c xs p e 2 H w0 w hS hx hp hl (by omega)) ?_
  rintro _ w ⟨rfl, hS⟩; clear hE a; intro a hE
  repeat' (first
    | (with_reducible refine wpList_nil ?_)
    | (with_reducible refine then_normal ?_)
    | (with_reducible refine wp_ret ?_)
    | ((with_reducible refine g_assign ?_); refine s_assign hE rfl rfl ?_; clear hE a; intro a hE)
    | ((with_reducible refine g_conv ?_); refine s_conv hE rfl rfl (by first | exact wrap_u16_in (by omega) ) ?_; clear hE a; intro a hE)
    )
  exact ret1 hE rfl rfl ⟨rfl, hS⟩
theorem u16Nil (w : World) :
    Fn Try.prog 87 [.pointer none] w fun v w' => v = .int .u16 0 ∧ w' = w := by
  refine enter 6 Try.func87 rfl rfl rfl ?_
  intro a hE
  have hS := St.start w
  repeat' (first
    | (with_reducible refine wp_seq ?_)
    | (with_reducible refine c_region ?_)
    | (with_reducible refine wpList_nil ?_)
    | (with_reducible refine then_normal ?_)
    | ((with_reducible refine g_move ?_); refine s_move hE rfl rfl ?_; clear hE a; intro a hE)
    | ((with_reducible refine g_assign ?_); refine s_assign hE rfl rfl ?_; clear hE a; intro a hE)
    )
  refine s_call hE rfl rfl rfl (numberNil 2 w) ?_
  rintro _ w ⟨rfl, rfl⟩; clear hE a; intro a hE
  repeat' (first
    | (with_reducible refine wpList_nil ?_)
    | (with_reducible refine then_normal ?_)
    | (with_reducible refine wp_ret ?_)
    | ((with_reducible refine g_assign ?_); refine s_assign hE rfl rfl ?_; clear hE a; intro a hE)
    | ((with_reducible refine g_conv ?_); refine s_conv hE rfl rfl (by first | exact wrap_u16_in (by omega) ) ?_; clear hE a; intro a hE)
    )
  exact ret1 hE rfl rfl ⟨rfl, rfl⟩

theorem u32 (g : Nat) (A : Option Addr) (c : Nat) (xs : List Nat) (p : Nat) (e : Int) (H : List HP) (w0 w : World) (hS : St w0 w (hRdr g A c xs p e :: H)) (hx : Bs xs) (hp : p ≤ xs.length) (hl : xs.length ≤ 140737488355328) :
    Fn Try.prog 86 [.pointer (some ⟨g, 0, none⟩)] w fun v w' => v = .int .u32 ((bnum 0 (takeM xs p e 4).1 : Nat) : Int) ∧ St w0 w' (hRdr g A c xs (takeM xs p e 4).2.1 (takeM xs p e 4).2.2 :: H) := by
  refine enter 6 Try.func86 rfl rfl rfl ?_
  intro a hE
  have hb := bnum_lt _ (takeM_bs (p := p) (e := e) (n := ((4 : Nat) : Int)) hx)
  have hln := takeM_n (xs := xs) (p := p) (e := e) (n := 4)
  have hpw : 256 ^ (takeM xs p e ((4 : Nat) : Int)).1.length ≤ 256 ^ 4 := Nat.pow_le_pow_right (by decide) hln
  repeat' (first
    | (with_reducible refine wp_seq ?_)
    | (with_reducible refine c_region ?_)
    | (with_reducible refine wpList_nil ?_)
    | (with_reducible refine then_normal ?_)
    | ((with_reducible refine g_move ?_); refine s_move hE rfl rfl ?_; clear hE a; intro a hE)
    | ((with_reducible refine g_assign ?_); refine s_assign hE rfl rfl ?_; clear hE a; intro a hE)
    )
  refine s_call hE rfl rfl rfl (number g A c xs p e 4 H w0 w hS hx hp hl (by omega)) ?_
  rintro _ w ⟨rfl, hS⟩; clear hE a; intro a hE
  repeat' (first
    | (with_reducible refine wpList_nil ?_)
    | (with_reducible refine then_normal ?_)
    | (with_reducible refine wp_ret ?_)
    | ((with_reducible refine g_assign ?_); refine s_assign hE rfl rfl ?_; clear hE a; intro a hE)
    | ((with_reducible refine g_conv ?_); refine s_conv hE rfl rfl (by first | exact wrap_u32_in (by omega) ) ?_; clear hE a; intro a hE)
    )
  exact ret1 hE rfl rfl ⟨rfl, hS⟩
theorem u32Nil (w : World) :
    Fn Try.prog 86 [.pointer none] w fun v w' => v = .int .u32 0 ∧ w' = w := by
  refine enter 6 Try.func86 rfl rfl rfl ?_
  intro a hE
  have hS := St.start w
  repeat' (first
    | (with_reducible refine wp_seq ?_)
    | (with_reducible refine c_region ?_)
    | (with_reducible refine wpList_nil ?_)
    | (with_reducible refine then_normal ?_)
    | ((with_reducible refine g_move ?_); refine s_move hE rfl rfl ?_; clear hE a; intro a hE)
    | ((with_reducible refine g_assign ?_); refine s_assign hE rfl rfl ?_; clear hE a; intro a hE)
    )
  refine s_call hE rfl rfl rfl (numberNil 4 w) ?_
  rintro _ w ⟨rfl, rfl⟩; clear hE a; intro a hE
  repeat' (first
    | (with_reducible refine wpList_nil ?_)
    | (with_reducible refine then_normal ?_)
    | (with_reducible refine wp_ret ?_)
    | ((with_reducible refine g_assign ?_); refine s_assign hE rfl rfl ?_; clear hE a; intro a hE)
    | ((with_reducible refine g_conv ?_); refine s_conv hE rfl rfl (by first | exact wrap_u32_in (by omega) ) ?_; clear hE a; intro a hE)
    )
  exact ret1 hE rfl rfl ⟨rfl, rfl⟩

end Go.Proofs.Ytfoeelghehjanaa
