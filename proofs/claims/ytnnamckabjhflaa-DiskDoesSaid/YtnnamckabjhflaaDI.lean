/-
  Contracts of the statements' own helpers: what is done to a disk.
-/
import Derived.Test.YtnnamckabjhflaaDH
namespace Go.Proofs.Ytnnamckabjhflaa
open Go.RowKit
set_option linter.unusedVariables false
set_option linter.unusedSimpArgs false
attribute [local irreducible] Rd hRow hBlk hRd hAll Fn hMarks
attribute [local simp] Wr.cells

/-- a block of a byte -/
def blkB (x : Nat) : Blk := (List.range 64).map fun i => x ^^^ i
theorem blkB_ok {x : Nat} (h : x < 256) : Blk.ok (blkB x) := by
  refine ⟨by simp [blkB], fun y hy => ?_⟩
  obtain ⟨i, hi, rfl⟩ := List.mem_map.1 hy
  have := List.mem_range.1 hi
  exact Nat.xor_lt_two_pow (n := 8) h (by omega)
def blkP (x k : Nat) : Blk := (List.range k).map (fun i => x ^^^ i) ++ List.replicate (64 - k) 0
theorem blkP_len (x k : Nat) (h : k ≤ 64) : (blkP x k).length = 64 := by simp [blkP]; omega
theorem blkP_set {x k : Nat} (h : k < 64) : (bys (blkP x k)).set k (.int .u8 ((x ^^^ k : Nat) : Int)) = bys (blkP x (k + 1)) := by
  have e : 64 - k = (64 - (k + 1)) + 1 := by omega
  unfold blkP
  rw [e, List.replicate_succ, List.range_succ, List.map_append, bys_append, List.append_assoc, bys_append]
  rw [List.set_append_right _ _ (by rw [bys_length, List.length_map, List.length_range]; exact Nat.le_refl _), bys_length, List.length_map, List.length_range, Nat.sub_self]
  rfl
structure Opn where
  (kind at_ : Int) (fill : Nat) (K : Option Addr) (kc : Nat) (keep : List Bool)
def Opn.cells (o : Opn) : List Value := [.int .i64 o.kind, .int .i64 o.at_, .int .u8 (o.fill : Int), .slice o.K o.keep.length o.kc]
def Opn.k (o : Opn) : Nat := (o.kind % 18446744073709551616).toNat % 6
def Opn.rd (o : Opn) (w : World) : Prop := Rd w o.K (o.keep.map Value.bool)
structure Opn.wf (o : Opn) : Prop where
  kind : -9223372036854775808 ≤ o.kind ∧ o.kind ≤ 9223372036854775807
  at_ : -9223372036854775808 ≤ o.at_ ∧ o.at_ ≤ 9223372036854775807
  fill : o.fill < 256
  kl : o.keep.length ≤ o.kc ∧ o.keep.length ≤ 140737488351232
theorem Opn.k_lt (o : Opn) : o.k < 6 := Nat.mod_lt _ (by decide)
/-- what an operation does -/
def DM.does (D : DM) (o : Opn) : DM × Blk × Int :=
  if o.k = 0 then D.read o.at_
  else if o.k = 1 then ((D.write o.at_ (blkB o.fill)).1, noughts, (D.write o.at_ (blkB o.fill)).2)
  else if o.k = 2 then (D.sync.1, noughts, D.sync.2)
  else if o.k = 3 then ((D.arm o.at_).1, noughts, (D.arm o.at_).2)
  else if o.k = 5 then ((D.fail o.at_).1, noughts, (D.fail o.at_).2)
  else (D.crash o.keep, noughts, 0)
attribute [local simp] Opn.cells
section
variable {g : Nat} {S : Option Addr} {c : Nat} {Q : Option Addr} {d : Nat} {D : DM} {H : List HP} {w0 w : World}
set_option maxHeartbeats 8000000
theorem kind_conv (o : Opn) : IntKind.i64.wrap ((IntKind.u64.wrap o.kind).tmod 6) = (o.k : Int) := by
  unfold Opn.k
  rw [wrap_u64]
  have h1 : 0 ≤ o.kind % 18446744073709551616 := Int.emod_nonneg _ (by decide)
  obtain ⟨m, hm⟩ := Int.eq_ofNat_of_zero_le h1
  rw [hm, Int.toNat_natCast]
  have e : ((m : Int)).tmod 6 = ((m % 6 : Nat) : Int) := rfl
  rw [e, wrap64_in (by omega)]
theorem kind (o : Opn) (w0 : World) : Fn Try.prog 13 [.agg o.cells.toArray] w0 fun v w' => v = .int .i64 (o.k : Int) ∧ St w0 w' [] := by
  refine enter 8 Try.func13 rfl rfl rfl ?_
  intro a hE
  have hS := St.start w0
  repeat' (first

    | (with_reducible refine wp_seq ?_)
    | (with_reducible refine c_region ?_)
    | (with_reducible refine wpList_nil ?_)
    | (with_reducible refine then_normal ?_)
    | (with_reducible refine wp_ret ?_)
    | ((with_reducible refine g_assign ?_); refine s_assign hE rfl rfl ?_; clear hE a; intro a hE)
    | ((with_reducible refine g_bin .rem ?_); refine s_rem hE rfl rfl (by omega) rfl (by first  | rfl) ?_; clear hE a; intro a hE)
    | ((with_reducible refine g_conv ?_); refine s_conv hE rfl rfl (by first  | rfl) ?_; clear hE a; intro a hE)
    | ((with_reducible refine g_fa ?_); refine s_fieldL hE rfl rfl rfl ?_; clear hE a; intro a hE)
    | ((with_reducible refine g_load ?_); (first | (refine s_loadB (k := 0) hS hE rfl rfl rfl rfl ?_) ); clear hE a; intro a hE)
    | ((with_reducible refine g_box ?_); refine s_boxS hE hS rfl rfl ?_; clear hE a hS; intro g a w hE hS)
    )
  exact ret1 hE rfl rfl ⟨by rw [kind_conv], hS.nil⟩
theorem few (A : Option Addr) (n c : Nat) (w0 : World) (hc : n ≤ c) (hn : n ≤ 9223372036854775807) : Fn Try.prog 12 [.slice A n c] w0 fun v w' => v = .slice A (min n 120) c ∧ St w0 w' [] := by
  refine enter 8 Try.func12 rfl rfl rfl ?_
  intro a hE
  have hS := St.start w0
  repeat' (first

    | (with_reducible refine wp_seq ?_)
    | (with_reducible refine c_region ?_)
    | (with_reducible refine wpList_nil ?_)
    | (with_reducible refine then_normal ?_)
    | (with_reducible refine wp_ret ?_)
    | ((with_reducible refine g_move ?_); refine s_move hE rfl rfl ?_; clear hE a; intro a hE)
    | ((with_reducible refine g_assign ?_); refine s_assign hE rfl rfl ?_; clear hE a; intro a hE)
    | ((with_reducible refine g_blt .len ?_); refine s_len hE rfl rfl ?_; clear hE a; intro a hE)
    | ((with_reducible refine g_blt .min ?_); refine s_min hE rfl rfl rfl (by first  | rfl) ?_; clear hE a; intro a hE)
    | ((with_reducible refine g_sliceH ?_); refine s_val hE rfl rfl rfl (r_cutH hE rfl rfl (by omega)) ?_; clear hE a; intro a hE)
    )
  have e : (if 120 < (n : Int) then 120 else (n : Int)).toNat = min n 120 := by split <;> omega
  rw [e] at hE
  exact ret1 hE rfl rfl ⟨rfl, hS⟩
theorem keeps (A : Option Addr) (c : Nat) (l : List Bool) (w0 : World) (hr : Rd w0 A (l.map Value.bool)) (hl : l.length ≤ 140737488351232) :
    Fn Try.prog 34 [.slice A l.length c] w0 fun v w' => ∃ A' c', v = .slice A' l.length c' ∧ St w0 w' [hRow 4 1 A' l.length c' (l.map Value.bool)] := by
  refine enter 9 Try.func34 rfl rfl rfl ?_
  intro a hE
  have hS := St.start w0
  repeat' (first

    | (with_reducible refine wp_seq ?_)
    | (with_reducible refine c_region ?_)
    | (with_reducible refine wpList_nil ?_)
    | (with_reducible refine then_normal ?_)
    | ((with_reducible refine g_move ?_); refine s_move hE rfl rfl ?_; clear hE a; intro a hE)
    | ((with_reducible refine g_assign ?_); refine s_assign hE rfl rfl ?_; clear hE a; intro a hE)
    | ((with_reducible refine g_bin .add ?_); refine s_add hE rfl rfl rfl (by first  | exact wrap64_in (by omega) ) ?_; clear hE a; intro a hE)
    | ((with_reducible refine g_blt .len ?_); refine s_len hE rfl rfl ?_; clear hE a; intro a hE)
    )
  refine s_make hE hS rfl rfl (by omega) (by omega) (by omega) (by omega) rfl ?_
  clear hE a hS; intro g a w hE hS
  rw [show (0 : Int).toNat = 0 from rfl] at hE hS
  rw [show (0 * 1 : Nat) = 0 from rfl, List.take_zero] at hS
  repeat' (first

    | ((with_reducible refine g_move ?_); refine s_move hE rfl rfl ?_; clear hE a; intro a hE)
    )
  refine s_appendAt0 (k := 0) hE hS rfl rfl rfl (hr.st hS) (by rw [List.length_map, Nat.mul_one]) (fun u hu => by obtain ⟨b, _, rfl⟩ := List.mem_map.1 hu; rfl) (by omega) rfl rfl rfl rfl ?_
  clear hE a hS; intro A' c' a w hE hS
  simp only [List.set_cons_zero] at hS
  repeat' (first

    | (with_reducible refine wpList_nil ?_)
    | (with_reducible refine then_normal ?_)
    | (with_reducible refine wp_ret ?_)
    | ((with_reducible refine g_assign ?_); refine s_assign hE rfl rfl ?_; clear hE a; intro a hE)
    )
  exact ret1 hE rfl rfl ⟨A', c', rfl, hS⟩
theorem block (x : Nat) (hx : x < 256) (w0 : World) : Fn Try.prog 14 [.int .u8 (x : Int)] w0 fun v w' => v = .agg (bys (blkB x)).toArray ∧ St w0 w' [] := by
  refine enter 16 Try.func14 rfl rfl rfl ?_
  intro a hE
  have hS := St.start w0
  repeat' (first

    | (with_reducible refine wp_seq ?_)
    | (with_reducible refine c_region ?_)
    | (with_reducible refine wpList_nil ?_)
    | (with_reducible refine then_normal ?_)
    | (with_reducible refine wp_block ?_)
    | ((with_reducible refine g_move ?_); refine s_move hE rfl rfl ?_; clear hE a; intro a hE)
    | ((with_reducible refine g_alloc ?_); refine s_allocS hE hS rfl rfl ?_; clear hE a hS; intro g a w hE hS)
    )
  rename_i g2 _
  refine wp_loop_ghost (fun q a w => ∃ (k : Nat), k + q = 64 ∧ St w0 w [hBlk g 27 (bys (blkP x k)), hBlk g2 27 (List.replicate 64 (Value.int .u8 0))] ∧ Env 16 [(5, .int .i64 (k : Int)), (3, .pointer (some ⟨g, 0, none⟩)), (2, .pointer (some ⟨g2, 0, none⟩)), (0, .int .u8 (x : Int))] a) 64 ⟨0, by omega, hS, hE.sub ⟨rfl, rfl, rfl, rfl, trivial⟩⟩ ?_
  clear hE a hS
  rintro q a w ⟨k, hk, hS, hE⟩
  have hbl := blkP_len x k
  by_cases hk1 : k < 64
  · repeat' (first

      | (with_reducible refine wp_seq ?_)
      | (with_reducible refine c_region ?_)
      | (with_reducible refine wpList_nil ?_)
      | (with_reducible refine then_normal ?_)
      | (with_reducible refine wp_skip ?_)
      | (with_reducible refine wp_block ?_)
      | ((with_reducible refine g_move ?_); refine s_move hE rfl rfl ?_; clear hE a; intro a hE)
      | ((with_reducible refine g_assign ?_); refine s_assign hE rfl rfl ?_; clear hE a; intro a hE)
      | ((with_reducible refine g_bin .lss ?_); refine s_lss hE rfl rfl rfl ?_; clear hE a; intro a hE)
      | ((with_reducible refine g_bin .xor ?_); refine s_xor hE rfl rfl rfl (by first | exact xor_u8 hx (by omega) ) ?_; clear hE a; intro a hE)
      | ((with_reducible refine g_conv ?_); refine s_conv hE rfl rfl (by first | exact wrap_u8_in (by omega) ) ?_; clear hE a; intro a hE)
      | ((with_reducible refine g_cond ?_); refine c_dec hE rfl (fun hc => ?_) (fun hc => ?_) <;> try omega)
      | ((with_reducible refine g_ia ?_); refine s_val hE rfl rfl rfl (r_idxP hE rfl rfl (by omega) (by omega)) ?_; clear hE a; intro a hE)
      )
    refine s_storeB (k := 0) hS hE rfl rfl rfl rfl (by rw [Nat.blt_eq, bys_length, hbl (by omega)]; omega) rfl ?_
    clear hS; intro w hS; simp only [List.set_cons_zero] at hS
    rw [Int.toNat_natCast, Nat.mul_one, Nat.zero_add, blkP_set hk1] at hS
    repeat' (first

      | (with_reducible refine c_region ?_)
      | (with_reducible refine wpList_nil ?_)
      | (with_reducible refine then_normal ?_)
      | (with_reducible refine block_normal ?_)
      | ((with_reducible refine g_move ?_); refine s_move hE rfl rfl ?_; clear hE a; intro a hE)
      | ((with_reducible refine g_bin .add ?_); refine s_add hE rfl rfl rfl (by first  | exact wrap64_in (by omega) ) ?_; clear hE a; intro a hE)
      )
    exact ⟨q - 1, by omega, k + 1, by omega, hS, hE.sub ⟨rfl, rfl, rfl, rfl, trivial⟩⟩
  · obtain rfl : k = 64 := by omega
    rw [show blkP x 64 = blkB x from List.append_nil _] at hS
    repeat' (first

      | (with_reducible refine wp_seq ?_)
      | (with_reducible refine c_region ?_)
      | (with_reducible refine wpList_nil ?_)
      | (with_reducible refine then_normal ?_)
      | (with_reducible refine wp_ret ?_)
      | (with_reducible refine wp_exit ?_)
      | (with_reducible refine then_exit ?_)
      | (with_reducible refine block_same ?_)
      | ((with_reducible refine g_bin .lss ?_); refine s_lss hE rfl rfl rfl ?_; clear hE a; intro a hE)
      | ((with_reducible refine g_cond ?_); refine c_false hE rfl ?_)
      | ((with_reducible refine g_load ?_); (first | (refine s_loadW (k := 0) hS hE rfl rfl rfl rfl ?_) ); clear hE a; intro a hE)
      | ((with_reducible refine g_store ?_); (first | (refine s_storeW (k := 1) hS hE rfl rfl rfl rfl rfl (by first | exact bys_one _ ) ?_) ); clear hS; intro w hS; simp only [List.set_cons_zero, List.set_cons_succ, Nat.add_zero] at hS)
      )
    exact retG (vs := [_]) hE rfl ⟨⟨_, rfl, res_W (k := 1) hS rfl rfl⟩, trivial⟩ ⟨rfl, hS.nil⟩
end
end Go.Proofs.Ytnnamckabjhflaa
