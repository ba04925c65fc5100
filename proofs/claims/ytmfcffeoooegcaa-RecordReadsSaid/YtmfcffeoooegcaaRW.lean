/-
  Contracts of record: the records ahead of a place that are of a transaction.
-/
import Derived.Test.YtmfcffeoooegcaaRL
import Derived.Test.YtmfcffeoooegcaaKv
namespace Go.Proofs.Ytmfcffeoooegcaa
open Go.RowKit
set_option linter.unusedVariables false
set_option linter.unusedSimpArgs false
attribute [local irreducible] Rd hRow hBlk hRd hAll Fn hRdr
attribute [local simp] Rc.cells

theorem cellAt {rs : List Rc} {k j : Nat} (hk : k < rs.length) (hj : j < 9) : (rs.flatMap Rc.cells)[k * 9 + j]? = (rs[k]).cells[j]? := flat_one (c := Rc.cells) (size := 9) (fun _ _ => rfl) hk hj
set_option maxHeartbeats 4000000 in
theorem ahead (A : Option Addr) (c m : Nat) (k : Int) (t : Nat) (w0 : World) : Fn Try.prog 43 [.slice A m c, .int .i64 k, .int .u64 t] w0 fun v w' =>
    ∃ b3 b4 b5, v = .func (.func 52) #[] #[.pointer (some ⟨b4, 0, none⟩), .pointer (some ⟨b3, 0, none⟩), .pointer (some ⟨b5, 0, none⟩)] ∧
      St w0 w' [hBlk b5 22 [.int .u64 (t : Int)], hBlk b4 3 [.int .i64 k], hBlk b3 28 [.slice A m c]] := by
  refine enter 8 Try.func43 rfl rfl rfl ?_
  intro a hE
  have hS := St.start w0
  repeat' (first
    | (with_reducible refine wp_seq ?_)
    | (with_reducible refine c_region ?_)
    | (with_reducible refine wpList_nil ?_)
    | (with_reducible refine then_normal ?_)
    | ((with_reducible refine g_assign ?_); refine s_assign hE rfl rfl ?_; clear hE a; intro a hE)
    | ((with_reducible refine g_box ?_); refine s_box1 hE hS rfl rfl rfl ?_; clear hE a hS; intro g a w hE hS)
    )
  refine s_val hE rfl rfl rfl (r_func (first := []) hE rfl rfl) ?_
  clear hE a; intro a hE
  repeat' (first
    | (with_reducible refine wpList_nil ?_)
    | (with_reducible refine then_normal ?_)
    | (with_reducible refine wp_ret ?_)
    | ((with_reducible refine g_assign ?_); refine s_assign hE rfl rfl ?_; clear hE a; intro a hE)
    )
  exact ret1 hE rfl rfl ⟨_, _, _, rfl, hS⟩

/-- those ahead of a place that are of a transaction, the last one first -/
def aheadM (rs : List Rc) (k t : Nat) : List Rc := ((rs.take k).filter fun q => q.t == t).reverse
theorem aheadM_step {rs : List Rc} {k t : Nat} (hk : k < rs.length) : aheadM rs (k + 1) t = (if rs[k].t = t then [rs[k]] else []) ++ aheadM rs k t := by
  unfold aheadM
  rw [List.take_succ_eq_append_getElem hk, List.filter_append, List.reverse_append]
  congr 1
  by_cases h : rs[k].t = t
  · rw [if_pos h]; simp [h]
  · rw [if_neg h]; simp [h]
abbrev aheadBx (A : Option Addr) (c m : Nat) (k : Int) (t b3 b4 b5 : Nat) : List HP := [hBlk b5 22 [.int .u64 (t : Int)], hBlk b4 3 [.int .i64 k], hBlk b3 28 [.slice A m c]]
set_option maxHeartbeats 4000000 in
theorem ahead_iter (A : Option Addr) (c : Nat) (rs : List Rc) (k t b3 b4 b5 : Nat) (w0 : World) (hr : Rd w0 A (rs.flatMap Rc.cells)) (hl : rs.length ≤ 9223372036854775806) (hk : k ≤ rs.length) :
    Iter Try.prog 52 [.pointer (some ⟨b4, 0, none⟩), .pointer (some ⟨b3, 0, none⟩), .pointer (some ⟨b5, 0, none⟩)] (aheadBx A c rs.length k t b3 b4 b5) (fun x : Rc => [.agg x.cells.toArray]) (aheadM rs k t) w0 := by
  intro w lp own H J Hx hY hS
  have hF : Fn Try.prog 52 [.func (.yield lp) #[] #[], .pointer (some ⟨b4, 0, none⟩), .pointer (some ⟨b3, 0, none⟩), .pointer (some ⟨b5, 0, none⟩)] w fun v w' =>
      St w0 w' (aheadBx A c rs.length k t b3 b4 b5 ++ (H (aheadM rs k t) ++ own)) ∨ ∃ j pre x post, pre ++ x :: post = aheadM rs k t ∧ St w0 w' (aheadBx A c rs.length k t b3 b4 b5 ++ (Hx j (pre ++ [x]) ++ own)) := by
    refine enterI 28 Try.func52 rfl rfl rfl ?_
    intro a hE
    simp only [List.cons_append, List.nil_append] at hS
    repeat' (first
      | (with_reducible refine wpList_nil ?_)
      | (with_reducible refine then_normal ?_)
      | (with_reducible refine i_seq ?_)
      | (with_reducible refine i_block ?_)
      | ((with_reducible refine ig_region ?_); refine i_region rfl (fun _ _ h => h) ?_)
      | ((with_reducible refine g_assign ?_); refine s_assign hE rfl rfl ?_; clear hE a; intro a hE)
      | ((with_reducible refine g_bin .sub ?_); refine s_sub hE rfl rfl rfl (by first  | exact wrap64_in (by omega) ) ?_; clear hE a; intro a hE)
      | ((with_reducible refine g_load ?_); (first | (refine s_loadB (k := 1) hS hE rfl rfl rfl rfl ?_) ); clear hE a; intro a hE)
      )
    refine i_loop (fun q ds a w => ds = [] ∧ q ≤ k ∧ ∃ pre, pre ++ aheadM rs q t = aheadM rs k t ∧ St w0 w (aheadBx A c rs.length k t b3 b4 b5 ++ (H pre ++ own)) ∧ Env 28 [(0, .func (.yield lp) #[] #[]), (1, .pointer (some ⟨b4, 0, none⟩)), (2, .pointer (some ⟨b3, 0, none⟩)), (3, .pointer (some ⟨b5, 0, none⟩)), (5, .int .i64 ((q : Int) - 1))] a) k ⟨rfl, Nat.le_refl _, [], rfl, hS, hE.sub ⟨rfl, rfl, rfl, rfl, rfl, trivial⟩⟩ ?_
    clear hE a hS
    rintro q ds a w ⟨rfl, hq, pre, hpre, hS, hE⟩
    simp only [List.cons_append, List.nil_append] at hS
    repeat' (first
      | (with_reducible refine wpList_nil ?_)
      | (with_reducible refine then_normal ?_)
      | (with_reducible refine then_exit ?_)
      | (with_reducible refine block_same ?_)
      | (with_reducible refine i_seq ?_)
      | (with_reducible refine i_skip ?_)
      | (with_reducible refine i_exit ?_)
      | (with_reducible refine i_block ?_)
      | ((with_reducible refine ig_region ?_); refine i_region rfl (fun _ _ h => h) ?_)
      | ((with_reducible refine ig_cond ?_); refine i_dec hE rfl (fun hc => ?_) (fun hc => ?_) <;> try omega)
      | ((with_reducible refine g_move ?_); refine s_move hE rfl rfl ?_; clear hE a; intro a hE)
      | ((with_reducible refine g_bin .geq ?_); refine s_geq hE rfl rfl rfl ?_; clear hE a; intro a hE)
      )
    · obtain ⟨q, rfl⟩ : ∃ q', q = q' + 1 := ⟨q - 1, by omega⟩
      have hq1 : q < rs.length := by omega
      have ht : (rs.flatMap Rc.cells)[q * 9 + 2]? = some (.int .u64 (rs[q].t : Int)) := cellAt (j := 2) hq1 (by decide)
      have hseg := flat_seg (c := Rc.cells) (size := 9) (l := rs) (fun _ _ => rfl) hq1
      have hfl : (rs.flatMap Rc.cells).length = rs.length * 9 := flat_len (fun _ _ => rfl)
      have e1 : ((q + 1 : Nat) : Int) - 1 = (q : Int) := by omega
      rw [e1] at hE
      have hst := aheadM_step (t := t) hq1
      by_cases hT : rs[q].t = t
      · rw [if_pos hT] at hst
        refine i_ordY (aheadBx A c rs.length k t b3 b4 b5) hS (fun u hu => hu.keep3) 16 ((.rd 0 (.rd 1 (.rd 2 (.rd 3 (.rd 4 (.rd 5 (.rd 6 (.rd 7 (.rd 8 (.rd 9 (.rd 10 (.rd 11 (.rd 12 .done)))))))))))))) 13 ((.rd 14 (.rd 15 .done))) mixed (by decide +kernel) (by decide +kernel) ?_
        clear hS; intro w hF hS
        repeat' (first
          | (with_reducible refine o_rd rfl ?_)
          | (with_reducible refine o_done ?_)
          | ((with_reducible refine q_move ?_); refine d_val hE hS rfl (fun w hS => r_move hE rfl) ?_; clear hE a; intro a hE)
          | ((with_reducible refine q_bin .eql ?_); refine d_val hE hS rfl (fun w hS => r_eql hE rfl rfl) ?_; clear hE a; intro a hE)
          | ((with_reducible refine q_fa ?_); refine d_val hE hS rfl (fun w hS => r_fieldR hE rfl rfl) ?_; clear hE a; intro a hE)
          | ((with_reducible refine q_guard ?_); refine d_yes hE rfl rfl rfl ?_)
          | ((with_reducible refine q_guard ?_); refine d_dec hE rfl rfl (fun hc hE2 => ?_) (fun hc hE2 => ?_) <;> (try omega) <;> (replace hE := hE2; clear hE2))
          | ((with_reducible refine q_ia ?_); refine d_val hE hS rfl (fun w hS => r_idxR hE rfl rfl (by omega) (by omega) (by (first | exact Rd.st (by assumption) hS )) (by first | omega )) ?_; clear hE a; intro a hE)
          | ((with_reducible refine q_load ?_); refine d_val hE hS rfl (fun w hS => r_loadR hE rfl (by (first | exact Rd.st (by assumption) hS )) (by first | exact ht )) ?_; clear hE a; intro a hE)
          | ((with_reducible refine q_load ?_); (first | (refine d_val hE hS rfl (fun w hS => r_loadB (k := 0) hS hE rfl rfl rfl) ?_) | (refine d_val hE hS rfl (fun w hS => r_loadB (k := 2) hS hE rfl rfl rfl) ?_) ); clear hE a; intro a hE)
          | ((with_reducible refine q_load ?_); refine d_val hE hS rfl (fun w hS => r_elemR hE rfl (by first | exact Rd.st (by assumption) hS ) (by first | exact hseg) (by rfl) rfl) ?_; clear hE a; intro a hE)
          )
        intro _
        have hx := hY own pre rs[q] w ⟨aheadM rs q t, by rw [← hpre, hst]; rfl⟩ hF
        refine .inr ⟨_, rfl, ys_call hE rfl rfl rfl (wanted_at hE rfl rfl rfl) hx ?_⟩
        rintro e w' (⟨rfl, h1⟩ | ⟨rfl, j, h1⟩)
        · refine ⟨_, rfl, fun a hE => ⟨fun w' => St w0 w' (aheadBx A c rs.length k t b3 b4 b5), fun u hu => hu, h1.keep3, ?_⟩⟩
          have hF := h1
          have hS := h1.keep3
          repeat' (first
            | (with_reducible refine o_rd rfl ?_)
            | (with_reducible refine o_done ?_)
            | ((with_reducible refine q_un .not ?_); refine d_val hE hS rfl (fun w hS => r_notb hE rfl) ?_; clear hE a; intro a hE)
            | ((with_reducible refine q_guard ?_); refine d_yes hE rfl rfl rfl ?_)
            | ((with_reducible refine q_pick ?_); refine d_val hE hS rfl (fun w hS => r_pickT hE rfl rfl) ?_; clear hE a; intro a hE)
            )
          clear hS; have hS := hF; clear hF
          repeat' (first
            | (with_reducible refine wpList_nil ?_)
            | (with_reducible refine then_normal ?_)
            | (with_reducible refine block_normal ?_)
            | (with_reducible refine i_skip ?_)
            | ((with_reducible refine ig_region ?_); refine i_region rfl (fun _ _ h => h) ?_)
            | ((with_reducible refine ig_cond ?_); refine i_false hE rfl ?_)
            | ((with_reducible refine g_move ?_); refine s_move hE rfl rfl ?_; clear hE a; intro a hE)
            | ((with_reducible refine g_assign ?_); refine s_assign hE rfl rfl ?_; clear hE a; intro a hE)
            | ((with_reducible refine g_bin .sub ?_); refine s_sub hE rfl rfl rfl (by first  | exact wrap64_in (by omega) ) ?_; clear hE a; intro a hE)
            )
          exact ⟨q, by omega, rfl, by omega, pre ++ [rs[q]], by rw [← hpre, hst, List.append_assoc], hS, hE.sub ⟨rfl, rfl, rfl, rfl, rfl, trivial⟩⟩
        · refine ⟨_, rfl, fun a hE => ⟨fun w' => St w0 w' (aheadBx A c rs.length k t b3 b4 b5), fun u hu => hu, h1.keep3, ?_⟩⟩
          have hF := h1
          have hS := h1.keep3
          repeat' (first
            | (with_reducible refine o_rd rfl ?_)
            | (with_reducible refine o_done ?_)
            | ((with_reducible refine q_un .not ?_); refine d_val hE hS rfl (fun w hS => r_notb hE rfl) ?_; clear hE a; intro a hE)
            | ((with_reducible refine q_guard ?_); refine d_yes hE rfl rfl rfl ?_)
            | ((with_reducible refine q_pick ?_); refine d_val hE hS rfl (fun w hS => r_pickT hE rfl rfl) ?_; clear hE a; intro a hE)
            )
          clear hS; have hS := hF; clear hF
          repeat' (first
            | (with_reducible refine then_normal ?_)
            | (with_reducible refine then_ret ?_)
            | (with_reducible refine block_ret ?_)
            | (with_reducible refine i_ret ?_)
            | ((with_reducible refine ig_cond ?_); refine i_true hE rfl ?_)
            )
          exact i_ret0 hE rfl (.inr ⟨j, pre, rs[q], aheadM rs q t, by rw [← hpre, hst]; rfl, hS⟩)
      · rw [if_neg hT] at hst
        refine i_ordH (aheadBx A c rs.length k t b3 b4 b5) hS (fun u hu => hu.keep3) 16 ((.rd 0 (.rd 1 (.rd 2 (.rd 3 (.rd 4 (.rd 5 (.rd 6 (.rd 7 (.rd 8 (.rd 9 (.rd 10 (.rd 11 (.rd 12 (.ef 13 (.rd 14 (.rd 15 .done))))))))))))))))) mixed (by decide +kernel) (by decide +kernel) ?_
        clear hS; intro w hF hS
        repeat' (first
          | (with_reducible refine o_rd rfl ?_)
          | ((with_reducible refine q_move ?_); refine d_val hE hS rfl (fun w hS => r_move hE rfl) ?_; clear hE a; intro a hE)
          | ((with_reducible refine q_bin .eql ?_); refine d_val hE hS rfl (fun w hS => r_eql hE rfl rfl) ?_; clear hE a; intro a hE)
          | ((with_reducible refine q_fa ?_); refine d_val hE hS rfl (fun w hS => r_fieldR hE rfl rfl) ?_; clear hE a; intro a hE)
          | ((with_reducible refine q_guard ?_); refine d_no hE hS rfl rfl rfl rfl ?_; clear hE a; intro a hE)
          | ((with_reducible refine q_guard ?_); refine d_dec hE rfl rfl (fun hc hE2 => ?_) (fun hc hE2 => ?_) <;> (try omega) <;> (replace hE := hE2; clear hE2))
          | ((with_reducible refine q_ia ?_); refine d_val hE hS rfl (fun w hS => r_idxR hE rfl rfl (by omega) (by omega) (by (first | exact Rd.st (by assumption) hS )) (by first | omega )) ?_; clear hE a; intro a hE)
          | ((with_reducible refine q_load ?_); refine d_val hE hS rfl (fun w hS => r_loadR hE rfl (by (first | exact Rd.st (by assumption) hS )) (by first | exact ht )) ?_; clear hE a; intro a hE)
          | ((with_reducible refine q_load ?_); (first | (refine d_val hE hS rfl (fun w hS => r_loadB (k := 0) hS hE rfl rfl rfl) ?_) | (refine d_val hE hS rfl (fun w hS => r_loadB (k := 2) hS hE rfl rfl rfl) ?_) ); clear hE a; intro a hE)
          | ((with_reducible refine o_ef rfl ?_))
          )
        · repeat' (first
            | (with_reducible refine wpList_nil ?_)
            | ((with_reducible refine g_guard ?_); refine gd_no hE rfl rfl rfl rfl ?_; clear hE a; intro a hE)
            )
          refine o_same hS ?_
          repeat' (first
            | (with_reducible refine o_rd rfl ?_)
            | (with_reducible refine o_done ?_)
            | ((with_reducible refine q_guard ?_); refine d_no hE hS rfl rfl rfl rfl ?_; clear hE a; intro a hE)
            | ((with_reducible refine q_pick ?_); refine d_val hE hS rfl (fun w hS => r_pickF hE rfl rfl) ?_; clear hE a; intro a hE)
            )
          clear hS; have hS := hF; clear hF
          repeat' (first
            | (with_reducible refine wpList_nil ?_)
            | (with_reducible refine then_normal ?_)
            | (with_reducible refine block_normal ?_)
            | (with_reducible refine i_skip ?_)
            | ((with_reducible refine ig_region ?_); refine i_region rfl (fun _ _ h => h) ?_)
            | ((with_reducible refine ig_cond ?_); refine i_false hE rfl ?_)
            | ((with_reducible refine g_move ?_); refine s_move hE rfl rfl ?_; clear hE a; intro a hE)
            | ((with_reducible refine g_assign ?_); refine s_assign hE rfl rfl ?_; clear hE a; intro a hE)
            | ((with_reducible refine g_bin .sub ?_); refine s_sub hE rfl rfl rfl (by first  | exact wrap64_in (by omega) ) ?_; clear hE a; intro a hE)
            )
          exact ⟨q, by omega, rfl, by omega, pre, by rw [← hpre, hst, List.nil_append], hS, hE.sub ⟨rfl, rfl, rfl, rfl, rfl, trivial⟩⟩
        all_goals skip
    · obtain rfl : q = 0 := by omega
      have e1 : aheadM rs 0 t = [] := by simp [aheadM]
      rw [e1, List.append_nil] at hpre
      subst hpre
      exact i_end0 hE rfl (.inl hS)
  unfold Fn at hF
  exact Calls.mono hF fun e w' ⟨v, e1, h⟩ => ⟨⟨v, e1⟩, h⟩
end Go.Proofs.Ytmfcffeoooegcaa
