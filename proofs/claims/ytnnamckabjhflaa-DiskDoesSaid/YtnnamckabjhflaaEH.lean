/-
  Contract: a disk is as the document says.
-/
import Derived.Test.YtnnamckabjhflaaEG
namespace Go.Proofs.Ytnnamckabjhflaa
open Go.RowKit
set_option linter.unusedVariables false
set_option linter.unusedSimpArgs false
attribute [local irreducible] Rd hRow hBlk hRd hRs hAll Fn hMarks
attribute [local simp] Wr.cells Opn.cells

section
variable {g : Nat} {S : Option Addr} {c : Nat} {Q : Option Addr} {d : Nat} {D : DM} {S2 : Option Addr} {c2 : Nat} {Q2 : Option Addr} {d2 : Nat} {R : RM} {H : List HP} {w0 w : World}
set_option maxHeartbeats 8000000
theorem agree {n : Nat} (hD : D.ok) (hL : Rl n D R) (hr : ∀ w' L, St w0 w' (L ++ H) → Rd w' Q2 (R.pend.flatMap Wr.cells)) (hS : St w0 w (dk g S c Q d D H)) :
    Fn Try.prog 20 [.pointer (some ⟨g, 0, none⟩), .agg (R.cells S2 c2 Q2 d2).toArray] w fun v w' => v = .bool true ∧ St w0 w' (dk g S c Q d D H) := by
  have hwl := wr_len hD
  have hpl := hD.plen
  have hops := hD.ops
  obtain ⟨sf, pd, de, ar, lf, fl, op⟩ := D
  obtain ⟨sf', pd', de', lf', fl', op'⟩ := R
  obtain ⟨a1, a2, a3, a4, a5, a6, a7, a8⟩ := hL
  dsimp only at a1 a2 a3 a4 hr hwl hpl hops
  subst a1 a2 a3 a4
  dsimp only [RM.cells]
  have hfl : (pd'.flatMap Wr.cells).length = pd'.length * 65 := flat_len hwl
  refine enter 55 Try.func20 rfl rfl rfl ?_
  intro a hE
  refine wp_seq ?_
  refine c_region ?_
  refine s_boxS hE hS rfl rfl ?_
  clear hE a hS; intro b3 a w hE hS
  replace hS := front1 hS
  obtain ⟨go, rfl⟩ : ∃ x, x = g := ⟨g, rfl⟩
  repeat' (first

    | (with_reducible refine wp_seq ?_)
    | (with_reducible refine wpList_nil ?_)
    | (with_reducible refine then_normal ?_)
    | ((with_reducible refine g_assign ?_); refine s_assign hE rfl rfl ?_; clear hE a; intro a hE)
    )
  refine c_ordK hS 3 rfl 20 ((.rd 0 (.rd 2 (.rd 3 (.rd 4 (.ef 1 (.rd 5 (.rd 6 (.rd 7 (.rd 9 (.rd 10 (.ef 8 (.rd 11 (.rd 12 (.rd 13 (.rd 14 (.rd 16 (.rd 17 (.ef 15 (.rd 18 (.rd 19 .done))))))))))))))))))))) mixed (by decide +kernel) ?_
  clear hS; intro w hF hS
  repeat' (first
    | (with_reducible refine o_rd rfl ?_)
    | ((with_reducible refine q_move ?_); refine d_val hE hS rfl (fun w hS => r_move hE rfl) ?_; clear hE a; intro a hE)
    | ((with_reducible refine q_blt .len ?_); refine d_val hE hS rfl (fun w hS => r_len hE rfl) ?_; clear hE a; intro a hE)
    | ((with_reducible refine q_fa ?_); refine d_val hE hS rfl (fun w hS => r_fieldL hE rfl rfl) ?_; clear hE a; intro a hE)
    | ((with_reducible refine q_load ?_); (first | (refine d_val hE hS rfl (fun w hS => r_loadB (k := 0) hS hE rfl rfl rfl) ?_) ); clear hE a; intro a hE)
    | ((with_reducible refine o_ef rfl ?_))
    )
  have hl := dlen hF
  dsimp only at hl
  refine s_call hE rfl rfl rfl hl ?_
  clear hl
  rintro _ w ⟨rfl, hF⟩; clear hE a; intro a hE
  refine wpList_nil ?_
  refine o_back _ (fun _ h => h) (hF.only 3 rfl) ?_
  clear hS; have hS := hF.only 3 rfl
  repeat' (first
    | (with_reducible refine o_rd rfl ?_)
    | ((with_reducible refine q_move ?_); refine d_val hE hS rfl (fun w hS => r_move hE rfl) ?_; clear hE a; intro a hE)
    | ((with_reducible refine q_bin .neq ?_); refine d_val hE hS rfl (fun w hS => r_neq hE rfl rfl) ?_; clear hE a; intro a hE)
    | ((with_reducible refine q_fa ?_); refine d_val hE hS rfl (fun w hS => r_fieldL hE rfl rfl) ?_; clear hE a; intro a hE)
    | ((with_reducible refine q_guard ?_); refine d_yes hE rfl rfl rfl ?_)
    | ((with_reducible refine q_guard ?_); refine d_dec hE rfl rfl (fun hc hE2 => ?_) (fun hc hE2 => ?_) <;> (try omega) <;> (replace hE := hE2; clear hE2))
    | ((with_reducible refine q_load ?_); (first | (refine d_val hE hS rfl (fun w hS => r_loadB (k := 0) hS hE rfl rfl rfl) ?_) ); clear hE a; intro a hE)
    | ((with_reducible refine o_ef rfl ?_))
    )
  have hl := ddead hF
  dsimp only at hl
  refine gd_yes hE rfl rfl rfl ?_
  refine s_call hE rfl rfl rfl hl ?_
  clear hl
  rintro _ w ⟨rfl, hF⟩; clear hE a; intro a hE
  refine wpList_nil ?_
  refine o_back _ (fun _ h => h) (hF.only 3 rfl) ?_
  clear hS; have hS := hF.only 3 rfl
  repeat' (first
    | (with_reducible refine o_rd rfl ?_)
    | ((with_reducible refine q_move ?_); refine d_val hE hS rfl (fun w hS => r_move hE rfl) ?_; clear hE a; intro a hE)
    | ((with_reducible refine q_bin .neq ?_); refine d_val hE hS rfl (fun w hS => r_neb hE rfl rfl) ?_; clear hE a; intro a hE)
    | ((with_reducible refine q_fa ?_); refine d_val hE hS rfl (fun w hS => r_fieldL hE rfl rfl) ?_; clear hE a; intro a hE)
    | ((with_reducible refine q_guard ?_); refine d_yes hE rfl rfl rfl ?_)
    | ((with_reducible refine q_guard ?_); refine d_no hE hS rfl rfl rfl rfl ?_; clear hE a; intro a hE)
    | ((with_reducible refine q_guard ?_); refine d_bool hE rfl rfl (fun hc hE2 => ?_) (fun hc hE2 => ?_) <;> (replace hE := hE2; clear hE2))
    | ((with_reducible refine q_pick ?_); refine d_val hE hS rfl (fun w hS => r_pickF hE rfl rfl) ?_; clear hE a; intro a hE)
    | ((with_reducible refine q_load ?_); (first | (refine d_val hE hS rfl (fun w hS => r_loadB (k := 0) hS hE rfl rfl rfl) ?_) ); clear hE a; intro a hE)
    | ((with_reducible refine o_ef rfl ?_))
    )
  · simp at hc
  have hl := dops hF
  dsimp only at hl
  refine gd_yes hE rfl rfl rfl ?_
  refine s_call hE rfl rfl rfl hl ?_
  clear hl
  rintro _ w ⟨rfl, hF⟩; clear hE a; intro a hE
  refine wpList_nil ?_
  refine o_back _ (fun _ h => h) (hF.only 3 rfl) ?_
  clear hS; have hS := hF.only 3 rfl
  repeat' (first
    | (with_reducible refine o_rd rfl ?_)
    | (with_reducible refine o_done ?_)
    | ((with_reducible refine q_bin .neq ?_); refine d_val hE hS rfl (fun w hS => r_neq hE rfl rfl) ?_; clear hE a; intro a hE)
    | ((with_reducible refine q_guard ?_); refine d_yes hE rfl rfl rfl ?_)
    | ((with_reducible refine q_pick ?_); refine d_val hE hS rfl (fun w hS => r_pickF hE rfl rfl) ?_; clear hE a; intro a hE)
    )
  clear hS; have hS := hF; clear hF
  repeat' (first

    | (with_reducible refine wp_seq ?_)
    | (with_reducible refine c_region ?_)
    | (with_reducible refine then_normal ?_)
    | (with_reducible refine wp_skip ?_)
    | ((with_reducible refine g_move ?_); refine s_move hE rfl rfl ?_; clear hE a; intro a hE)
    | ((with_reducible refine g_cond ?_); refine c_dec hE rfl (fun hc => ?_) (fun hc => ?_) <;> try omega)
    )
  have hl := pending hD hS
  dsimp only at hl
  refine s_call hE rfl rfl rfl hl ?_
  clear hl
  rintro _ w ⟨A', c', rfl, hS⟩; clear hE a; intro a hE
  have hil : (ints (pd'.map Wr.at_)).length = pd'.length := by rw [ints_len, List.length_map]
  repeat' (first

    | (with_reducible refine wp_seq ?_)
    | (with_reducible refine c_region ?_)
    | (with_reducible refine wpList_nil ?_)
    | (with_reducible refine then_normal ?_)
    | (with_reducible refine wp_skip ?_)
    | (with_reducible refine wp_block ?_)
    | ((with_reducible refine g_move ?_); refine s_move hE rfl rfl ?_; clear hE a; intro a hE)
    | ((with_reducible refine g_assign ?_); refine s_assign hE rfl rfl ?_; clear hE a; intro a hE)
    | ((with_reducible refine g_bin .neq ?_); refine s_neq hE rfl rfl rfl ?_; clear hE a; intro a hE)
    | ((with_reducible refine g_blt .len ?_); refine s_len hE rfl rfl ?_; clear hE a; intro a hE)
    | ((with_reducible refine g_fa ?_); refine s_fieldL hE rfl rfl rfl ?_; clear hE a; intro a hE)
    | ((with_reducible refine g_cond ?_); refine c_dec hE rfl (fun hc => ?_) (fun hc => ?_) <;> try omega)
    | ((with_reducible refine g_load ?_); (first | (refine s_loadB (k := 4) hS hE rfl rfl rfl rfl ?_) ); clear hE a; intro a hE)
    )
  generalize hB : (hBlk b3 43 _ : HP) = B at hS
  generalize hDD : (⟨sf', pd', de', ar, lf, fl, op'⟩ : DM) = D at hS ⊢
  refine wp_loop_ghost (fun q a w => ∃ (k : Nat), k + q = pd'.length ∧ St w0 w (hRow 3 1 A' pd'.length c' (negs (pd'.map Wr.at_) k) :: dk go S c Q d D (B :: H)) ∧
    Env 55 [(36, .int .i64 (pd'.length : Int)), (37, .int .i64 (k : Int)), (5, .slice A' pd'.length c'), (3, .pointer (some ⟨b3, 0, none⟩))] a) pd'.length ⟨0, by omega, hS, hE.sub ⟨rfl, rfl, rfl, rfl, trivial⟩⟩ ?_
  clear hE a hS
  rintro q a w ⟨k, hk, hS, hE⟩
  by_cases hk1 : k < pd'.length
  · have hml : (pd'.map Wr.at_).length = pd'.length := List.length_map ..
    have hnl := negs_len (l := pd'.map Wr.at_) (k := k) (by omega)
    rw [hml] at hnl
    have hat := negs_at (l := pd'.map Wr.at_) (k := k) (by omega)
    rw [List.getElem_map] at hat
    have hset := negs_set (l := pd'.map Wr.at_) (k := k) (by omega)
    have hseg := flat_seg (c := Wr.cells) (size := 65) (l := pd') hwl hk1
    have hgp : (negs (pd'.map Wr.at_) k)[((k : Nat) : Int).toNat * 1]? = some (.int .i64 ((pd'[k]'hk1).at_ : Int)) := by rw [Int.toNat_natCast, Nat.mul_one]; exact hat
    have hcell : (pd'.flatMap Wr.cells)[((k : Nat) : Int).toNat * 65]? = some (.int .i64 ((pd'[k]'hk1).at_ : Int)) := by
      have h0 : (((pd'.flatMap Wr.cells).drop (k * 65)).take 65)[0]? = some (.int .i64 ((pd'[k]'hk1).at_ : Int)) := by rw [hseg]; rfl
      rw [Int.toNat_natCast]
      rw [List.getElem?_take_of_lt (by decide), List.getElem?_drop, Nat.add_zero] at h0
      exact h0
    have hrq : ∀ u, St w0 u (hRow 3 1 A' pd'.length c' (negs (pd'.map Wr.at_) k) :: dk go S c Q d D (B :: H)) → Rd u Q2 (pd'.flatMap Wr.cells) := fun u hu => hr u (hRow 3 1 A' pd'.length c' (negs (pd'.map Wr.at_) k) :: dk go S c Q d D [B]) hu
    rw [← hB] at hS hrq
    repeat' (first

      | (with_reducible refine wp_seq ?_)
      | (with_reducible refine c_region ?_)
      | (with_reducible refine wpList_nil ?_)
      | (with_reducible refine then_normal ?_)
      | (with_reducible refine wp_skip ?_)
      | (with_reducible refine wp_block ?_)
      | ((with_reducible refine g_move ?_); refine s_move hE rfl rfl ?_; clear hE a; intro a hE)
      | ((with_reducible refine g_assign ?_); refine s_assign hE rfl rfl ?_; clear hE a; intro a hE)
      | ((with_reducible refine g_bin .lss ?_); refine s_lss hE rfl rfl rfl ?_; clear hE a; intro a hE)
      | ((with_reducible refine g_cond ?_); refine c_dec hE rfl (fun hc => ?_) (fun hc => ?_) <;> try omega)
      )
    refine c_ordS hS 11 ((.rd 0 (.rd 1 (.rd 2 (.rd 3 (.rd 4 (.rd 5 (.rd 6 (.rd 7 (.rd 8 (.rd 9 (.rd 10 .done)))))))))))) mixed (by decide +kernel) ?_
    clear hS; intro w hS
    repeat' (first
      | (with_reducible refine o_rd rfl ?_)
      | ((with_reducible refine q_move ?_); refine d_val hE hS rfl (fun w hS => r_move hE rfl) ?_; clear hE a; intro a hE)
      | ((with_reducible refine q_fa ?_); refine d_val hE hS rfl (fun w hS => r_fieldL hE rfl rfl) ?_; clear hE a; intro a hE)
      | ((with_reducible refine q_ia ?_); refine d_val hE hS rfl (fun w hS => r_idxR hE rfl rfl (by omega) (by omega) (by (first | exact hS.rd )) (by first | omega )) ?_; clear hE a; intro a hE)
      | ((with_reducible refine q_load ?_); refine d_val hE hS rfl (fun w hS => r_loadR hE rfl (by (first | exact hS.rd )) (by first | exact hgp)) ?_; clear hE a; intro a hE)
      | ((with_reducible refine q_load ?_); (first | (refine d_val hE hS rfl (fun w hS => r_loadB (k := 4) hS hE rfl rfl rfl) ?_) ); clear hE a; intro a hE)
      )
    refine d_val hE hS rfl (fun w hS => r_idx (size := 65) hE rfl rfl (by omega) (by omega) ((hrq w hS).some hcell).1) ?_; clear hE a; intro a hE
    repeat' (first
      | (with_reducible refine o_rd rfl ?_)
      | ((with_reducible refine q_fa ?_); refine d_val hE hS rfl (fun w hS => r_fieldR hE rfl rfl) ?_; clear hE a; intro a hE)
      )
    refine d_val hE hS rfl (fun w hS => r_loadR hE rfl (hrq w hS) hcell) ?_; clear hE a; intro a hE
    repeat' (first
      | (with_reducible refine o_rd rfl ?_)
      | (with_reducible refine o_done ?_)
      | ((with_reducible refine q_bin .neq ?_); refine d_val hE hS rfl (fun w hS => r_neq hE rfl rfl) ?_; clear hE a; intro a hE)
      )
    repeat' (first

      | (with_reducible refine c_region ?_)
      | (with_reducible refine wpList_nil ?_)
      | (with_reducible refine then_normal ?_)
      | (with_reducible refine wp_skip ?_)
      | (with_reducible refine block_normal ?_)
      | ((with_reducible refine g_move ?_); refine s_move hE rfl rfl ?_; clear hE a; intro a hE)
      | ((with_reducible refine g_bin .add ?_); refine s_add hE rfl rfl rfl (by first  | exact wrap64_in (by omega) ) ?_; clear hE a; intro a hE)
      | ((with_reducible refine g_cond ?_); refine c_dec hE rfl (fun hc => ?_) (fun hc => ?_) <;> try omega)
      | ((with_reducible refine g_ia ?_); refine s_idxR hE rfl rfl (by omega) (by omega) (by (first | exact hS.rd )) (by first | omega ) rfl ?_; clear hE a; intro a hE)
      | ((with_reducible refine g_store ?_); (first | (refine s_storeR1 (k := 0) hS hE rfl rfl rfl rfl (by first | omega ) rfl ?_) ); clear hS; intro w hS; simp only [List.set_cons_zero, List.set_cons_succ, Nat.add_zero] at hS)
      )
    rw [Int.toNat_natCast, Nat.mul_one, hset, hB] at hS
    exact ⟨q - 1, by omega, k + 1, by omega, hS, hE.sub ⟨rfl, rfl, rfl, rfl, trivial⟩⟩
  · obtain rfl : k = pd'.length := by omega
    repeat' (first

      | (with_reducible refine wp_seq ?_)
      | (with_reducible refine c_region ?_)
      | (with_reducible refine wpList_nil ?_)
      | (with_reducible refine then_normal ?_)
      | (with_reducible refine wp_ret ?_)
      | (with_reducible refine wp_exit ?_)
      | (with_reducible refine then_exit ?_)
      | (with_reducible refine block_same ?_)
      | ((with_reducible refine g_assign ?_); refine s_assign hE rfl rfl ?_; clear hE a; intro a hE)
      | ((with_reducible refine g_bin .lss ?_); refine s_lss hE rfl rfl rfl ?_; clear hE a; intro a hE)
      | ((with_reducible refine g_cond ?_); refine c_dec hE rfl (fun hc => ?_) (fun hc => ?_) <;> try omega)
      )
    rw [← hB] at hS
    exact ret1 hE rfl rfl ⟨rfl, (hS.tail).drop 3⟩
end
end Go.Proofs.Ytnnamckabjhflaa
