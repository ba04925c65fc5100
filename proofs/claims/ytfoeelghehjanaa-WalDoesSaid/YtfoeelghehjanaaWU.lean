/-
  What is done to a log: kinds and bytes; a log on a new disk.
-/
import Derived.Test.YtfoeelghehjanaaWQ
namespace Go.Proofs.Ytfoeelghehjanaa
open Go.RowKit
set_option linter.unusedVariables false
set_option linter.unusedSimpArgs false
attribute [local irreducible] Rd hRow hBlk hRd hRdr wrP hDk hWl Fn FnD hMarks

/-- what is done: kind, number, fill, what is kept -/
structure WOp where
  (kind n : Int) (fill : Nat) (K : Option Addr) (kc : Nat) (keep : List Bool)
def WOp.cells (o : WOp) : List Value := [.int .i64 o.kind, .int .i64 o.n, .int .u8 (o.fill : Int), .slice o.K o.keep.length o.kc]
def WOp.u (o : WOp) : Nat := (o.n % 18446744073709551616).toNat
def WOp.k (o : WOp) : Nat := [0, 0, 0, 0, 1, 2, 3, 4].getD ((o.kind % 18446744073709551616).toNat % 8) 0
def WOp.b (o : WOp) : List Nat := (List.range (o.u % 400)).map fun i => (o.fill + i * i) % 256
def WOp.rd (o : WOp) (w : World) : Prop := Rd w o.K (o.keep.map Value.bool)
structure WOp.wf (o : WOp) : Prop where
  kind : -9223372036854775808 ≤ o.kind ∧ o.kind ≤ 9223372036854775807
  n : -9223372036854775808 ≤ o.n ∧ o.n ≤ 9223372036854775807
  fill : o.fill < 256
  kl : o.keep.length ≤ o.kc ∧ o.keep.length ≤ 140737488351232
theorem WOp.b_len (o : WOp) : o.b.length = o.u % 400 := by simp [WOp.b]
theorem WOp.b_lt (o : WOp) : o.b.length ≤ 399 := by rw [o.b_len]; have := Nat.mod_lt o.u (show 0 < 400 by decide); omega
theorem WOp.b_bs (o : WOp) : Bs o.b := by
  intro c hc
  obtain ⟨i, _, rfl⟩ := List.mem_map.1 hc
  exact Nat.mod_lt _ (by decide)
section
variable {H : List HP} {w0 w : World} {gw gd : Nat} {W : WM}
set_option maxHeartbeats 8000000
theorem wrapU8 (x : Int) : IntKind.u8.wrap x = x % 256 := by simp [IntKind.wrap, IntKind.bits, IntKind.signed]
theorem u64_rem (x : Int) (m : Nat) (hm : 0 < m) : (IntKind.u64.wrap x).tmod (m : Int) = (((x % 18446744073709551616).toNat % m : Nat) : Int) := by
  rw [wrap_u64]
  have h1 : 0 ≤ x % 18446744073709551616 := Int.emod_nonneg _ (by decide)
  obtain ⟨k, hk⟩ := Int.eq_ofNat_of_zero_le h1
  rw [hk, Int.toNat_natCast]
  rfl
theorem kind (o : WOp) (w0 : World) : Fn Try.prog 17 [.agg o.cells.toArray] w0 fun v w' => v = .int .i64 (o.k : Int) ∧ St w0 w' [] := by
  have hS := St.start w0
  have hk : (IntKind.u64.wrap o.kind).tmod 8 = (((o.kind % 18446744073709551616).toNat % 8 : Nat) : Int) := u64_rem o.kind 8 (by decide)
  have hlt : (o.kind % 18446744073709551616).toNat % 8 < 8 := Nat.mod_lt _ (by decide)
  have hko : o.k = [0, 0, 0, 0, 1, 2, 3, 4].getD ((o.kind % 18446744073709551616).toNat % 8) 0 := rfl
  generalize (o.kind % 18446744073709551616).toNat % 8 = r at hk hlt hko
  have hv : ([.int .i64 0, .int .i64 0, .int .i64 0, .int .i64 0, .int .i64 1, .int .i64 2, .int .i64 3, .int .i64 4] : List Value)[((r : Nat) : Int).toNat * 1]? = some (.int .i64 (o.k : Int)) := by
    rw [hko]
    rcases (by omega : r = 0 ∨ r = 1 ∨ r = 2 ∨ r = 3 ∨ r = 4 ∨ r = 5 ∨ r = 6 ∨ r = 7) with rfl | rfl | rfl | rfl | rfl | rfl | rfl | rfl <;> rfl
  refine enter 9 Try.func17 rfl rfl rfl ?_
  intro a hE
  unfold WOp.cells at hE
  repeat' (first

    | (with_reducible refine wp_seq ?_)
    | (with_reducible refine c_region ?_)
    | (with_reducible refine wpList_nil ?_)
    | (with_reducible refine then_normal ?_)
    | (with_reducible refine wp_ret ?_)
    | ((with_reducible refine g_assign ?_); refine s_assign hE rfl rfl ?_; clear hE a; intro a hE)
    | ((with_reducible refine g_bin .rem ?_); refine s_rem hE rfl rfl (by omega) rfl (by first | exact hk ) ?_; clear hE a; intro a hE)
    | ((with_reducible refine g_conv ?_); refine s_conv hE rfl rfl (by first | rfl) ?_; clear hE a; intro a hE)
    | ((with_reducible refine g_fa ?_); refine s_fieldL hE rfl rfl rfl ?_; clear hE a; intro a hE)
    | ((with_reducible refine g_index ?_); refine s_val hE rfl rfl rfl (r_index1 hE rfl rfl (by omega) (by omega) (by assumption)) ?_; clear hE a; intro a hE)
    | ((with_reducible refine g_load ?_); (first | (refine s_loadB (k := 0) hS hE rfl rfl rfl rfl ?_) ); clear hE a; intro a hE)
    | ((with_reducible refine g_box ?_); refine s_boxS hE hS rfl rfl ?_; clear hE a hS; intro g a w hE hS)
    | ((with_reducible refine g_build ?_); refine s_build [_, _, _, _, _, _, _, _] hE rfl rfl rfl ?_; clear hE a; intro a hE)
    )
  exact ret1 hE rfl rfl ⟨rfl, hS.nil⟩
theorem obytes (o : WOp) (hw : o.wf) (w0 : World) : Fn Try.prog 16 [.agg o.cells.toArray] w0 fun v w' => ∃ A c, v = .slice A o.b.length c ∧ St w0 w' [hRow 5 1 A o.b.length c (bys o.b)] := by
  have hS := St.start w0
  obtain ⟨h1, h2, h3, h4⟩ := hw
  have hk : (IntKind.u64.wrap o.n).tmod 400 = ((o.u % 400 : Nat) : Int) := u64_rem o.n 400 (by decide)
  have hbl := o.b_len
  have hlt : o.u % 400 < 400 := Nat.mod_lt _ (by decide)
  refine enter 27 Try.func16 rfl rfl rfl ?_
  intro a hE
  unfold WOp.cells at hE
  repeat' (first

    | (with_reducible refine wp_seq ?_)
    | (with_reducible refine c_region ?_)
    | (with_reducible refine wpList_nil ?_)
    | (with_reducible refine then_normal ?_)
    | ((with_reducible refine g_assign ?_); refine s_assign hE rfl rfl ?_; clear hE a; intro a hE)
    | ((with_reducible refine g_bin .rem ?_); refine s_rem hE rfl rfl (by omega) rfl (by first | exact hk ) ?_; clear hE a; intro a hE)
    | ((with_reducible refine g_conv ?_); refine s_conv hE rfl rfl (by first | rfl) ?_; clear hE a; intro a hE)
    | ((with_reducible refine g_fa ?_); refine s_fieldL hE rfl rfl rfl ?_; clear hE a; intro a hE)
    | ((with_reducible refine g_load ?_); (first | (refine s_loadB (k := 0) hS hE rfl rfl rfl rfl ?_) ); clear hE a; intro a hE)
    | ((with_reducible refine g_box ?_); refine s_boxS hE hS rfl rfl ?_; clear hE a hS; intro g a w hE hS)
    )
  rw [← hbl] at hE
  have hbl4 := o.b_lt
  refine s_make hE hS rfl rfl (by omega) (by omega) (by omega) (by omega) rfl ?_
  clear hE a hS; intro gm a w hE hS
  rw [Int.toNat_natCast] at hE hS
  rw [show ((madeCells (Value.int .u8 0).cells (o.b.length * 1)).toList.take (o.b.length * 1)) = bys (o.b.take 0) ++ List.replicate (o.b.length - 0) (Value.int .u8 0) from by
    have := made_rep o.b.length 0 (Value.int .u8 0) (Value.int .u8 0).cells rfl
    rw [Nat.zero_add] at this
    rw [this, Nat.mul_one]
    rfl] at hS
  repeat' (first

    | (with_reducible refine wp_seq ?_)
    | (with_reducible refine c_region ?_)
    | (with_reducible refine wpList_nil ?_)
    | (with_reducible refine then_normal ?_)
    | (with_reducible refine wp_block ?_)
    | ((with_reducible refine g_move ?_); refine s_move hE rfl rfl ?_; clear hE a; intro a hE)
    | ((with_reducible refine g_assign ?_); refine s_assign hE rfl rfl ?_; clear hE a; intro a hE)
    | ((with_reducible refine g_blt .len ?_); refine s_len hE rfl rfl ?_; clear hE a; intro a hE)
    )
  obtain ⟨g1, rfl⟩ : ∃ x, x = g := ⟨_, rfl⟩
  refine wp_loop_ghost (fun q a w => ∃ (k : Nat), k + q = o.b.length ∧ St w0 w [hRow 5 1 (some ⟨gm, 0, none⟩) o.b.length o.b.length (bys (o.b.take k) ++ List.replicate (o.b.length - k) (Value.int .u8 0)), hBlk g1 33 [.int .i64 o.kind, .int .i64 o.n, .int .u8 (o.fill : Int), .slice o.K o.keep.length o.kc]] ∧ Env 27 [(1, .pointer (some ⟨g1, 0, none⟩)), (3, .slice (some ⟨gm, 0, none⟩) o.b.length o.b.length), (11, .int .i64 (o.b.length : Int)), (12, .int .i64 (k : Int))] a) o.b.length ⟨0, by omega, hS, hE.sub ⟨rfl, rfl, rfl, rfl, trivial⟩⟩ ?_
  clear hE a hS
  rintro q a w ⟨k, hkq, hS, hE⟩
  have hkl : (bys (o.b.take k) ++ List.replicate (o.b.length - k) (Value.int .u8 0)).length = o.b.length := by
    rw [List.length_append, bys_length, List.length_take, List.length_replicate]; omega
  by_cases hk1 : k < o.b.length
  · have hbk : o.b[k] = (o.fill + k * k) % 256 := by
      have h : o.b[k]? = some ((o.fill + k * k) % 256) := by
        unfold WOp.b
        rw [List.getElem?_map, List.getElem?_range (by omega)]
        rfl
      rw [List.getElem?_eq_getElem hk1] at h
      exact Option.some.inj h
    have hset : (bys (o.b.take k) ++ List.replicate (o.b.length - k) (Value.int .u8 0)).set k (.int .u8 (((o.fill + k * k) % 256 : Nat) : Int)) = bys (o.b.take (k + 1)) ++ List.replicate (o.b.length - (k + 1)) (Value.int .u8 0) := by
      have hl1 : (bys (o.b.take k)).length = k := by rw [bys_length, List.length_take]; omega
      rw [List.set_append_right _ _ (by omega), hl1, Nat.sub_self, show o.b.length - k = (o.b.length - (k + 1)) + 1 by omega, List.replicate_succ, List.set_cons_zero, List.take_succ_eq_append_getElem hk1, hbk]
      unfold bys
      rw [List.map_append, List.append_assoc]
      rfl
    generalize bys (o.b.take k) ++ List.replicate (o.b.length - k) (Value.int .u8 0) = cs at hS hkl hset
    have hkk : k * k ≤ 399 * 399 := Nat.mul_le_mul (by omega) (by omega)
    have e1 : IntKind.i64.wrap ((k : Int) * (k : Int)) = ((k * k : Nat) : Int) := by rw [← Int.natCast_mul, wrap64_in (by omega)]
    have e2 : IntKind.u8.wrap ((k * k : Nat) : Int) = ((k * k % 256 : Nat) : Int) := by rw [wrapU8]; rfl
    have e3 : IntKind.u8.wrap ((o.fill : Int) + ((k * k % 256 : Nat) : Int)) = (((o.fill + k * k) % 256 : Nat) : Int) := by rw [wrapU8]; omega
    repeat' (first

      | (with_reducible refine wp_seq ?_)
      | (with_reducible refine c_region ?_)
      | (with_reducible refine wpList_nil ?_)
      | (with_reducible refine then_normal ?_)
      | (with_reducible refine wp_skip ?_)
      | (with_reducible refine wp_block ?_)
      | (with_reducible refine block_normal ?_)
      | ((with_reducible refine g_move ?_); refine s_move hE rfl rfl ?_; clear hE a; intro a hE)
      | ((with_reducible refine g_assign ?_); refine s_assign hE rfl rfl ?_; clear hE a; intro a hE)
      | ((with_reducible refine g_bin .lss ?_); refine s_lss hE rfl rfl rfl ?_; clear hE a; intro a hE)
      | ((with_reducible refine g_bin .add ?_); refine s_add hE rfl rfl rfl (by first | exact e3 | exact wrap64_in (by omega) ) ?_; clear hE a; intro a hE)
      | ((with_reducible refine g_bin .mul ?_); refine s_mul hE rfl rfl rfl (by first | exact e1 ) ?_; clear hE a; intro a hE)
      | ((with_reducible refine g_conv ?_); refine s_conv hE rfl rfl (by first | exact e2 ) ?_; clear hE a; intro a hE)
      | ((with_reducible refine g_fa ?_); refine s_fieldL hE rfl rfl rfl ?_; clear hE a; intro a hE)
      | ((with_reducible refine g_cond ?_); refine c_dec hE rfl (fun hc => ?_) (fun hc => ?_) <;> try omega)
      | ((with_reducible refine g_ia ?_); refine s_idxR hE rfl rfl (by omega) (by omega) (by (first | exact hS.rd )) (by first | omega ) rfl ?_; clear hE a; intro a hE)
      | ((with_reducible refine g_load ?_); (first | (refine s_loadB (k := 1) hS hE rfl rfl rfl rfl ?_) ); clear hE a; intro a hE)
      | ((with_reducible refine g_store ?_); (first | (refine s_storeR1 (k := 0) hS hE rfl rfl rfl rfl (by first | omega ) rfl ?_) ); clear hS; intro w hS; simp only [List.set_cons_zero, List.set_cons_succ, Nat.add_zero] at hS)
      )
    rw [show ((k : Nat) : Int).toNat * 1 = k by omega, hset] at hS
    skip
    exact ⟨q - 1, by omega, k + 1, by omega, hS, hE.sub ⟨rfl, rfl, rfl, rfl, trivial⟩⟩
  · obtain rfl : k = o.b.length := by omega
    rw [Nat.sub_self, List.replicate_zero, List.append_nil, List.take_length] at hS
    repeat' (first

      | (with_reducible refine wp_seq ?_)
      | (with_reducible refine c_region ?_)
      | (with_reducible refine wpList_nil ?_)
      | (with_reducible refine then_normal ?_)
      | (with_reducible refine wp_ret ?_)
      | (with_reducible refine wp_exit ?_)
      | (with_reducible refine then_exit ?_)
      | (with_reducible refine block_same ?_)
      | ((with_reducible refine g_move ?_); refine s_move hE rfl rfl ?_; clear hE a; intro a hE)
      | ((with_reducible refine g_assign ?_); refine s_assign hE rfl rfl ?_; clear hE a; intro a hE)
      | ((with_reducible refine g_bin .lss ?_); refine s_lss hE rfl rfl rfl ?_; clear hE a; intro a hE)
      | ((with_reducible refine g_cond ?_); refine c_dec hE rfl (fun hc => ?_) (fun hc => ?_) <;> try omega)
      )
    exact ret1 hE rfl rfl ⟨_, _, rfl, hS.only 0 rfl⟩
theorem few (A : Option Addr) (n c : Nat) (w0 : World) (hc : n ≤ c) (hn : n ≤ 9223372036854775807) : Fn Try.prog 13 [.slice A n c] w0 fun v w' => v = .slice A (min n 40) c ∧ St w0 w' [] := by
  refine enter 8 Try.func13 rfl rfl rfl ?_
  intro a hE
  have hS := St.start w0
  repeat' (first

    | (with_reducible refine wp_seq ?_)
    | (with_reducible refine c_region ?_)
    | (with_reducible refine wpList_nil ?_)
    | (with_reducible refine then_normal ?_)
    | (with_reducible refine wp_ret ?_)
    | ((with_reducible refine g_move ?_); refine s_move hE rfl rfl ?_; clear hE a; intro a hE)
    | ((with_reducible refine g_assign ?_); refine s_assign hE rfl rfl ?_; clear hE a; intro a hE)
    | ((with_reducible refine g_blt .len ?_); refine s_len hE rfl rfl ?_; clear hE a; intro a hE)
    | ((with_reducible refine g_blt .min ?_); refine s_min hE rfl rfl rfl (by first  | rfl) ?_; clear hE a; intro a hE)
    | ((with_reducible refine g_sliceH ?_); refine s_val hE rfl rfl rfl (r_cutH hE rfl rfl (by omega)) ?_; clear hE a; intro a hE)
    )
  have e : (if 40 < (n : Int) then 40 else (n : Int)).toNat = min n 40 := by split <;> omega
  rw [e] at hE
  exact ret1 hE rfl rfl ⟨rfl, hS⟩
theorem made (ar : Nat) (har : 4 ≤ ar ∧ ar ≤ 1000) (w0 : World) : Fn Try.prog 11 [.int .i64 (ar : Int)] w0 fun v w' => ∃ gd gw D, v = .tuple #[.pointer (some ⟨gd, 0, none⟩), .pointer (some ⟨gw, 0, none⟩)] ∧ D.calm ∧ D.pend = [] ∧
    D.safe = headB 0 ar :: noughts :: (partsB 0 0 [] ++ List.replicate (2 + 2 * ar - 3) noughts) ∧ D.atN 2100 ∧ St w0 w' [hWl gw gd ⟨ar, 0, [[]], 1, false⟩, hDk gd D] := by
  have hS := St.start w0
  obtain ⟨D, e1, hc, hp, hs⟩ := fmt_fresh (2 + 2 * ar) ar har (Nat.le_refl _)
  have hf0 := fresh_atN (n := 2 + 2 * ar) (by omega) (by omega)
  have hf1 := fmt_atN hf0 (ar : Int) (by decide)
  rw [e1] at hf1
  have e2 : IntKind.i64.wrap (2 * (ar : Int)) = 2 * (ar : Int) := wrap64_in (by omega)
  have e3 : IntKind.i64.wrap (2 + 2 * (ar : Int)) = ((2 + 2 * ar : Nat) : Int) := by rw [wrap64_in (by omega)]; omega
  refine enter 26 Try.func11 rfl rfl rfl ?_
  intro a hE
  repeat' (first

    | (with_reducible refine wp_seq ?_)
    | (with_reducible refine c_region ?_)
    | (with_reducible refine wpList_nil ?_)
    | (with_reducible refine then_normal ?_)
    | ((with_reducible refine g_move ?_); refine s_move hE rfl rfl ?_; clear hE a; intro a hE)
    | ((with_reducible refine g_assign ?_); refine s_assign hE rfl rfl ?_; clear hE a; intro a hE)
    | ((with_reducible refine g_bin .add ?_); refine s_add hE rfl rfl rfl (by first | exact e3 ) ?_; clear hE a; intro a hE)
    | ((with_reducible refine g_bin .mul ?_); refine s_mul hE rfl rfl rfl (by first | exact e2 ) ?_; clear hE a; intro a hE)
    )
  refine s_call hE rfl rfl rfl (knew (2 + 2 * ar) (by omega) (by omega) w0) ?_
  rintro _ w ⟨gd, rfl, hS1⟩; clear hE a; intro a hE; replace hS := hS.frame hS1; clear hS1; try simp only [List.cons_append, List.nil_append] at hS
  repeat' (first

    | (with_reducible refine wp_seq ?_)
    | (with_reducible refine c_region ?_)
    | (with_reducible refine wpList_nil ?_)
    | (with_reducible refine then_normal ?_)
    | (with_reducible refine wp_skip ?_)
    | ((with_reducible refine g_move ?_); refine s_move hE rfl rfl ?_; clear hE a; intro a hE)
    | ((with_reducible refine g_assign ?_); refine s_assign hE rfl rfl ?_; clear hE a; intro a hE)
    | ((with_reducible refine g_bin .neq ?_); refine s_neq hE rfl rfl rfl ?_; clear hE a; intro a hE)
    | ((with_reducible refine g_extract ?_); refine s_extract hE rfl rfl rfl ?_; clear hE a; intro a hE)
    | ((with_reducible refine g_cond ?_); refine c_false hE rfl ?_)
    )
  refine s_call hE rfl rfl rfl (kfmt (m := 0) (ar : Int) (by omega) hf0 (by decide) hS) ?_
  rw [e1]
  dsimp only
  rintro _ w (⟨W, gw, hW, _, rfl, hS⟩ | ⟨hW, _⟩)
  rotate_left
  · cases hW
  obtain rfl := Option.some.inj hW
  clear hE a; intro a hE
  repeat' (first

    | (with_reducible refine wp_seq ?_)
    | (with_reducible refine c_region ?_)
    | (with_reducible refine wpList_nil ?_)
    | (with_reducible refine then_normal ?_)
    | (with_reducible refine wp_skip ?_)
    | (with_reducible refine wp_ret ?_)
    | ((with_reducible refine g_move ?_); refine s_move hE rfl rfl ?_; clear hE a; intro a hE)
    | ((with_reducible refine g_assign ?_); refine s_assign hE rfl rfl ?_; clear hE a; intro a hE)
    | ((with_reducible refine g_bin .neq ?_); refine s_neq hE rfl rfl rfl ?_; clear hE a; intro a hE)
    | ((with_reducible refine g_extract ?_); refine s_extract hE rfl rfl rfl ?_; clear hE a; intro a hE)
    | ((with_reducible refine g_cond ?_); refine c_false hE rfl ?_)
    )
  exact ret2 hE rfl rfl rfl ⟨gd, gw, D, rfl, hc, hp, hs, hf1.mono (by decide), hS⟩
end
end Go.Proofs.Ytfoeelghehjanaa
