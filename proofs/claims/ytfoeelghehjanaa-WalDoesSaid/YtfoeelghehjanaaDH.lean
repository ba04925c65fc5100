/-
  Contracts of disk: new disks, copies; a disk that is not there.
-/
import Derived.Test.YtfoeelghehjanaaDG
import Derived.Test.YtfoeelghehjanaaK2
namespace Go.Proofs.Ytfoeelghehjanaa
open Go.RowKit
set_option linter.unusedVariables false
set_option linter.unusedSimpArgs false
attribute [local irreducible] Rd hRow hBlk hRd hAll Fn hMarks
attribute [local simp] Wr.cells

theorem flat_noughts (n : Nat) : (List.replicate n noughts).flatMap bys = List.replicate (n * 64) (.int .u8 0) := by
  induction n with
  | zero => rfl
  | succ n ih =>
    rw [List.replicate_succ, List.flatMap_cons, ih, Nat.add_one_mul, Nat.add_comm, ← List.replicate_append_replicate]
    rfl
theorem made64 (n : Nat) : ((madeCells (Value.agg (List.replicate 64 (Value.int .u8 0)).toArray).cells (n * 64)).toList.take (n * 64)) = (List.replicate n noughts).flatMap bys := by
  rw [flat_noughts]
  exact made_rep n 63 _ _ rfl
def DM.fresh (n : Nat) : DM := ⟨List.replicate n noughts, [], false, false, 0, 0, 0⟩
theorem fresh_ok {n : Nat} (h1 : 1 ≤ n) (h2 : n ≤ 2048) : (DM.fresh n).ok where
  safe := fun b hb => by rw [List.eq_of_mem_replicate hb]; exact noughts_ok
  pend := fun x hx => by cases hx
  len := by show (List.replicate n noughts).length ≤ _ ∧ 1 ≤ (List.replicate n noughts).length; rw [List.length_replicate]; omega
  plen := Nat.zero_le _
  left := ⟨by show (_ : Int) ≤ 0; decide, by show (0 : Int) ≤ _; decide, fun e => by cases e⟩
  fails := ⟨Int.le_refl 0, by show (0 : Int) ≤ _; decide⟩
  ops := ⟨Int.le_refl 0, by show (0 : Int) ≤ _; decide⟩
section
variable {g : Nat} {S : Option Addr} {c : Nat} {Q : Option Addr} {d : Nat} {D : DM} {H : List HP} {w0 w : World}
set_option maxHeartbeats 8000000
theorem dnew_no (n : Int) (hn : -9223372036854775808 ≤ n ∧ n ≤ 9223372036854775807) (h : n < 1 ∨ 2048 < n) (w0 : World) : Fn Try.prog 36 [.int .i64 n] w0 fun v w' => v = .tuple #[.pointer none, .int .i64 2] ∧ St w0 w' [] := by
  refine enter 14 Try.func36 rfl rfl rfl ?_
  intro a hE
  have hS := St.start w0
  repeat' (first

    | (with_reducible refine wp_seq ?_)
    | (with_reducible refine c_region ?_)
    | (with_reducible refine wpList_nil ?_)
    | (with_reducible refine then_normal ?_)
    | (with_reducible refine wp_ret ?_)
    | (with_reducible refine then_ret ?_)
    | ((with_reducible refine g_move ?_); refine s_move hE rfl rfl ?_; clear hE a; intro a hE)
    | ((with_reducible refine g_assign ?_); refine s_assign hE rfl rfl ?_; clear hE a; intro a hE)
    | ((with_reducible refine g_bin .lss ?_); refine s_lss hE rfl rfl rfl ?_; clear hE a; intro a hE)
    | ((with_reducible refine g_bin .gtr ?_); refine s_gtr hE rfl rfl rfl ?_; clear hE a; intro a hE)
    | ((with_reducible refine g_guard ?_); refine gd_yes hE rfl rfl rfl ?_)
    | ((with_reducible refine g_guard ?_); refine gd_no hE rfl rfl rfl rfl ?_; clear hE a; intro a hE)
    | ((with_reducible refine g_guard ?_); refine gd_dec hE rfl rfl (fun hc hE2 => ?_) (fun hc hE2 => ?_) <;> (try omega) <;> (replace hE := hE2; clear hE2))
    | ((with_reducible refine g_pick ?_); refine s_pickT hE rfl rfl rfl ?_; clear hE a; intro a hE)
    | ((with_reducible refine g_pick ?_); refine s_pickF hE rfl rfl rfl ?_; clear hE a; intro a hE)
    | ((with_reducible refine g_cond ?_); refine c_true hE rfl ?_)
    | ((with_reducible refine g_cond ?_); refine c_dec hE rfl (fun hc => ?_) (fun hc => ?_) <;> try omega)
    )
  all_goals exact ret2 hE rfl rfl rfl ⟨rfl, hS⟩
theorem dnew (n : Nat) (h1 : 1 ≤ n) (h2 : n ≤ 2048) (w0 : World) : Fn Try.prog 36 [.int .i64 (n : Int)] w0 fun v w' => ∃ g S c, v = .tuple #[.pointer (some ⟨g, 0, none⟩), .int .i64 0] ∧ St w0 w' (dk g S c none 0 (DM.fresh n) []) := by
  refine enter 14 Try.func36 rfl rfl rfl ?_
  intro a hE
  have hS := St.start w0
  repeat' (first

    | (with_reducible refine wp_seq ?_)
    | (with_reducible refine c_region ?_)
    | (with_reducible refine wpList_nil ?_)
    | (with_reducible refine then_normal ?_)
    | (with_reducible refine wp_skip ?_)
    | ((with_reducible refine g_move ?_); refine s_move hE rfl rfl ?_; clear hE a; intro a hE)
    | ((with_reducible refine g_assign ?_); refine s_assign hE rfl rfl ?_; clear hE a; intro a hE)
    | ((with_reducible refine g_bin .lss ?_); refine s_lss hE rfl rfl rfl ?_; clear hE a; intro a hE)
    | ((with_reducible refine g_bin .gtr ?_); refine s_gtr hE rfl rfl rfl ?_; clear hE a; intro a hE)
    | ((with_reducible refine g_guard ?_); refine gd_yes hE rfl rfl rfl ?_)
    | ((with_reducible refine g_guard ?_); refine gd_dec hE rfl rfl (fun hc hE2 => ?_) (fun hc hE2 => ?_) <;> (try omega) <;> (replace hE := hE2; clear hE2))
    | ((with_reducible refine g_pick ?_); refine s_pickF hE rfl rfl rfl ?_; clear hE a; intro a hE)
    | ((with_reducible refine g_cond ?_); refine c_dec hE rfl (fun hc => ?_) (fun hc => ?_) <;> try omega)
    )
  refine s_make hE hS rfl rfl (by omega) (by omega) (by omega) (by omega) rfl ?_
  clear hE a hS; intro gs a w hE hS
  rw [Int.toNat_natCast, made64] at hS
  rw [Int.toNat_natCast] at hE
  repeat' (first

    | (with_reducible refine wpList_nil ?_)
    | (with_reducible refine then_normal ?_)
    | (with_reducible refine wp_ret ?_)
    | ((with_reducible refine g_assign ?_); refine s_assign hE rfl rfl ?_; clear hE a; intro a hE)
    | ((with_reducible refine g_box ?_); refine s_boxS hE hS rfl rfl ?_; clear hE a hS; intro g a w hE hS)
    | ((with_reducible refine g_build ?_); refine s_build [_, _, _, _, _, _, _] hE rfl rfl rfl ?_; clear hE a; intro a hE)
    )
  rename_i g _
  refine ret2 hE rfl rfl rfl ⟨g, some ⟨gs, 0, none⟩, n, rfl, ?_⟩
  have e : (DM.fresh n).safe.length = n := List.length_replicate
  dsimp only [dk]
  rw [e]
  exact St.p2 (St.p2 (hS.rowNil _ _))
theorem clone_safe (A : Option Addr) (c n : Nat) (s : List Blk) (w0 : World) (hr : Rd w0 A (s.flatMap bys)) (hs : ∀ b ∈ s, Blk.ok b) (hn : n = s.length) (hl : s.length ≤ 2048) :
    Fn Try.prog 103 [.slice A n c] w0 fun v w' => ∃ A' c', v = .slice A' n c' ∧ St w0 w' [hRow 80 64 A' n c' (s.flatMap bys)] := by
  subst hn
  refine enter 8 Try.func103 rfl rfl rfl ?_
  intro a hE
  have hS := St.start w0
  have hfs : (s.flatMap bys).length = s.length * 64 := flat_len (blk_len hs)
  cases A with
  | none =>
    repeat' (first

      | (with_reducible refine wp_seq ?_)
      | (with_reducible refine c_region ?_)
      | (with_reducible refine wpList_nil ?_)
      | (with_reducible refine then_normal ?_)
      | (with_reducible refine wp_ret ?_)
      | (with_reducible refine then_ret ?_)
      | ((with_reducible refine g_move ?_); refine s_move hE rfl rfl ?_; clear hE a; intro a hE)
      | ((with_reducible refine g_assign ?_); refine s_assign hE rfl rfl ?_; clear hE a; intro a hE)
      | ((with_reducible refine g_bin .eql ?_); refine s_eqnil hE rfl rfl rfl ?_; clear hE a; intro a hE)
      | ((with_reducible refine g_cond ?_); refine c_true hE rfl ?_)
      )
    have hx : s = [] := by
      unfold Rd at hr
      cases s with
      | nil => rfl
      | cons x xs => exact absurd (hr (by intro e; rw [e] at hfs; simp at hfs)) (by rintro ⟨ad, h, _⟩; cases h)
    subst hx
    exact ret1 hE rfl rfl ⟨none, 0, rfl, hS.rowNil _ _⟩
  | some ad =>
    repeat' (first

      | (with_reducible refine wp_seq ?_)
      | (with_reducible refine c_region ?_)
      | (with_reducible refine wpList_nil ?_)
      | (with_reducible refine then_normal ?_)
      | (with_reducible refine wp_skip ?_)
      | ((with_reducible refine g_move ?_); refine s_move hE rfl rfl ?_; clear hE a; intro a hE)
      | ((with_reducible refine g_assign ?_); refine s_assign hE rfl rfl ?_; clear hE a; intro a hE)
      | ((with_reducible refine g_bin .eql ?_); refine s_eqnil hE rfl rfl rfl ?_; clear hE a; intro a hE)
      | ((with_reducible refine g_cond ?_); refine c_false hE rfl ?_)
      )
    refine s_lit0 hE hS rfl ?_
    clear hE a hS; intro g a w hE hS
    repeat' (first

      | ((with_reducible refine g_move ?_); refine s_move hE rfl rfl ?_; clear hE a; intro a hE)
      )
    have hone : ∀ v ∈ s.flatMap bys, v.oneCell' = true := by
      intro v hv
      obtain ⟨b, hb, hv⟩ := List.mem_flatMap.1 hv
      exact bys_one _ v hv
    refine s_appendAt0 (k := 0) hE hS rfl rfl rfl (hr.st hS) hfs hone (by omega) rfl rfl rfl rfl ?_
    clear hE a hS; intro A' c' a w hE hS
    simp only [List.set_cons_zero] at hS
    repeat' (first

      | (with_reducible refine wpList_nil ?_)
      | (with_reducible refine then_normal ?_)
      | (with_reducible refine wp_ret ?_)
      | ((with_reducible refine g_assign ?_); refine s_assign hE rfl rfl ?_; clear hE a; intro a hE)
      )
    exact ret1 hE rfl rfl ⟨A', c', rfl, hS⟩
theorem clone_pend (A : Option Addr) (c n : Nat) (s : List Wr) (w0 : World) (hr : Rd w0 A (s.flatMap Wr.cells)) (hs : ∀ x ∈ s, x.cells.length = 65) (hn : n = s.length) (hl : s.length ≤ 100000) :
    Fn Try.prog 104 [.slice A n c] w0 fun v w' => ∃ A' c', v = .slice A' n c' ∧ St w0 w' [hRow 112 65 A' n c' (s.flatMap Wr.cells)] := by
  subst hn
  refine enter 8 Try.func104 rfl rfl rfl ?_
  intro a hE
  have hS := St.start w0
  have hfs : (s.flatMap Wr.cells).length = s.length * 65 := flat_len hs
  cases A with
  | none =>
    repeat' (first

      | (with_reducible refine wp_seq ?_)
      | (with_reducible refine c_region ?_)
      | (with_reducible refine wpList_nil ?_)
      | (with_reducible refine then_normal ?_)
      | (with_reducible refine wp_ret ?_)
      | (with_reducible refine then_ret ?_)
      | ((with_reducible refine g_move ?_); refine s_move hE rfl rfl ?_; clear hE a; intro a hE)
      | ((with_reducible refine g_assign ?_); refine s_assign hE rfl rfl ?_; clear hE a; intro a hE)
      | ((with_reducible refine g_bin .eql ?_); refine s_eqnil hE rfl rfl rfl ?_; clear hE a; intro a hE)
      | ((with_reducible refine g_cond ?_); refine c_true hE rfl ?_)
      )
    have hx : s = [] := by
      unfold Rd at hr
      cases s with
      | nil => rfl
      | cons x xs => exact absurd (hr (by intro e; rw [e] at hfs; simp at hfs)) (by rintro ⟨ad, h, _⟩; cases h)
    subst hx
    exact ret1 hE rfl rfl ⟨none, 0, rfl, hS.rowNil _ _⟩
  | some ad =>
    repeat' (first

      | (with_reducible refine wp_seq ?_)
      | (with_reducible refine c_region ?_)
      | (with_reducible refine wpList_nil ?_)
      | (with_reducible refine then_normal ?_)
      | (with_reducible refine wp_skip ?_)
      | ((with_reducible refine g_move ?_); refine s_move hE rfl rfl ?_; clear hE a; intro a hE)
      | ((with_reducible refine g_assign ?_); refine s_assign hE rfl rfl ?_; clear hE a; intro a hE)
      | ((with_reducible refine g_bin .eql ?_); refine s_eqnil hE rfl rfl rfl ?_; clear hE a; intro a hE)
      | ((with_reducible refine g_cond ?_); refine c_false hE rfl ?_)
      )
    refine s_lit0 hE hS rfl ?_
    clear hE a hS; intro g a w hE hS
    repeat' (first

      | ((with_reducible refine g_move ?_); refine s_move hE rfl rfl ?_; clear hE a; intro a hE)
      )
    have hone : ∀ v ∈ s.flatMap Wr.cells, v.oneCell' = true := by
      intro v hv
      obtain ⟨b, hb, hv⟩ := List.mem_flatMap.1 hv
      rcases List.mem_cons.1 hv with rfl | hv
      · rfl
      · exact bys_one _ v hv
    refine s_appendAt0 (k := 0) hE hS rfl rfl rfl (hr.st hS) hfs hone (by omega) rfl rfl rfl rfl ?_
    clear hE a hS; intro A' c' a w hE hS
    simp only [List.set_cons_zero] at hS
    repeat' (first

      | (with_reducible refine wpList_nil ?_)
      | (with_reducible refine then_normal ?_)
      | (with_reducible refine wp_ret ?_)
      | ((with_reducible refine g_assign ?_); refine s_assign hE rfl rfl ?_; clear hE a; intro a hE)
      )
    exact ret1 hE rfl rfl ⟨A', c', rfl, hS⟩
theorem copy (hD : D.ok) (hS : St w0 w (dk g S c Q d D H)) : Fn Try.prog 90 [.pointer (some ⟨g, 0, none⟩)] w fun v w' => ∃ g2 S2 c2 Q2 d2, v = .pointer (some ⟨g2, 0, none⟩) ∧ St w0 w' (dk g2 S2 c2 Q2 d2 D (dk g S c Q d D H)) := by
  have hwl := wr_len hD
  have hpl := hD.plen
  have hsl := hD.len
  have hso := hD.safe
  obtain ⟨sf, pd, de, ar, lf, fl, op⟩ := D
  dsimp only at hwl hpl hsl hso
  dsimp only [dk] at hS
  obtain ⟨go, rfl⟩ : ∃ x, x = g := ⟨g, rfl⟩
  refine enter 21 Try.func90 rfl rfl rfl ?_
  intro a hE
  repeat' (first

    | (with_reducible refine wp_seq ?_)
    | (with_reducible refine c_region ?_)
    | (with_reducible refine wpList_nil ?_)
    | (with_reducible refine then_normal ?_)
    | (with_reducible refine wp_skip ?_)
    | ((with_reducible refine g_move ?_); refine s_move hE rfl rfl ?_; clear hE a; intro a hE)
    | ((with_reducible refine g_assign ?_); refine s_assign hE rfl rfl ?_; clear hE a; intro a hE)
    | ((with_reducible refine g_nc ?_); refine s_nilCheck hE rfl rfl ?_; clear hE a; intro a hE)
    | ((with_reducible refine g_cond ?_); refine c_false hE rfl ?_)
    | ((with_reducible refine g_bin .eql ?_); refine s_val hE rfl rfl rfl (r_eqp hE rfl rfl) ?_; clear hE a; intro a hE)
    | ((with_reducible refine g_alloc ?_); refine s_allocS hE hS rfl rfl ?_; clear hE a hS; intro g a w hE hS)
    | ((with_reducible refine g_load ?_); (first | (refine s_loadW (k := 0) hS hE rfl rfl rfl rfl ?_) ); clear hE a; intro a hE)
    | ((with_reducible refine g_store ?_); (first | (refine s_storeW (k := 0) hS hE rfl rfl rfl rfl rfl (by first | (simp [Value.oneCell']; done)) ?_) ); clear hS; intro w hS; simp only [List.set_cons_zero, List.set_cons_succ, Nat.add_zero] at hS)
    )
  refine c_ordH (hBlk go 109 [.slice S sf.length c, .slice Q pd.length d, .bool de, .bool ar, .int .i64 lf, .int .i64 fl, .int .i64 op] :: hRow 80 64 S sf.length c (sf.flatMap bys) :: hRow 112 65 Q pd.length d (pd.flatMap Wr.cells) :: H) hS (fun u hu => hu.tail) 12 ((.rd 0 (.rd 1 (.rd 2 (.rd 3 (.rd 5 (.rd 6 (.rd 7 (.rd 8 (.ef 4 (.ef 9 (.rd 10 (.ef 11 (.lt 12 (.lt 13 .done))))))))))))))) mixed (by decide +kernel) ?_
  clear hS; intro w hF hS
  repeat' (first
    | (with_reducible refine o_rd rfl ?_)
    | ((with_reducible refine q_move ?_); refine d_val hE hS rfl (fun w hS => r_move hE rfl) ?_; clear hE a; intro a hE)
    | ((with_reducible refine q_fa ?_); refine d_val hE hS rfl (fun w hS => r_fieldL hE rfl rfl) ?_; clear hE a; intro a hE)
    | ((with_reducible refine q_nc ?_); refine d_val hE hS rfl (fun w hS => r_nilCheck hE rfl) ?_; clear hE a; intro a hE)
    | ((with_reducible refine q_load ?_); (first | (refine d_val hE hS rfl (fun w hS => r_loadB (k := 0) hS hE rfl rfl rfl) ?_) ); clear hE a; intro a hE)
    | ((with_reducible refine o_ef rfl ?_))
    )
  refine s_call hE rfl rfl rfl (clone_safe S c _ sf w (hF.rdAt (k := 2) rfl) hso rfl hsl.1) ?_
  rintro _ w ⟨A1, c1, rfl, hS1⟩; clear hE a; intro a hE; replace hF := hF.frame hS1; clear hS1; simp only [List.cons_append, List.nil_append] at hF
  refine wpList_nil ?_
  refine o_back _ (fun _ h => h) hF.tail.tail ?_
  clear hS; have hS := hF.tail.tail
  repeat' (first
    | ((with_reducible refine o_ef rfl ?_))
    )
  refine s_call hE rfl rfl rfl (clone_pend Q d _ pd w (hF.rdAt (k := 4) rfl) hwl rfl hpl) ?_
  rintro _ w ⟨A2, c2, rfl, hS1⟩; clear hE a; intro a hE; replace hF := hF.frame hS1; clear hS1; simp only [List.cons_append, List.nil_append] at hF
  refine wpList_nil ?_
  refine o_back _ (fun _ h => h) hF.tail.tail.tail ?_
  clear hS; have hS := hF.tail.tail.tail
  repeat' (first
    | (with_reducible refine o_rd rfl ?_)
    | ((with_reducible refine q_fa ?_); refine d_val hE hS rfl (fun w hS => r_fieldL hE rfl rfl) ?_; clear hE a; intro a hE)
    | ((with_reducible refine o_ef rfl ?_))
    )
  refine g_store ?_
  refine s_storeB (k := 2) hF hE rfl rfl rfl rfl rfl rfl ?_
  clear hF; intro w hF; simp only [List.set_cons_zero, List.set_cons_succ] at hF
  refine wpList_nil ?_
  refine o_back _ (fun _ h => h) hF.tail.tail.tail ?_
  clear hS; have hS := hF; clear hF
  repeat' (first
    | ((with_reducible refine o_lt rfl ?_))
    )
  repeat' (first

    | (with_reducible refine wpList_nil ?_)
    | ((with_reducible refine g_fa ?_); refine s_fieldL hE rfl rfl rfl ?_; clear hE a; intro a hE)
    )
  refine o_backL ?_
  repeat' (first
    | ((with_reducible refine o_lt rfl ?_))
    )
  repeat' (first

    | (with_reducible refine wpList_nil ?_)
    | ((with_reducible refine g_store ?_); (first | (refine s_storeB (k := 2) hS hE rfl rfl rfl rfl rfl rfl ?_) ); clear hS; intro w hS; simp only [List.set_cons_zero, List.set_cons_succ, Nat.add_zero] at hS)
    )
  refine o_backL ?_
  repeat' (first
    | (with_reducible refine o_done ?_)
    )
  repeat' (first

    | (with_reducible refine wp_seq ?_)
    | (with_reducible refine c_region ?_)
    | (with_reducible refine wpList_nil ?_)
    | (with_reducible refine then_normal ?_)
    | (with_reducible refine wp_ret ?_)
    | ((with_reducible refine g_assign ?_); refine s_assign hE rfl rfl ?_; clear hE a; intro a hE)
    )
  refine ret1 hE rfl rfl ⟨g, A1, c1, A2, c2, rfl, ?_⟩
  exact hS.p1.p2
end
end Go.Proofs.Ytfoeelghehjanaa
