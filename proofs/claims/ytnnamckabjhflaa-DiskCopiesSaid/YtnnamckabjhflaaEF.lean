/-
  Contract of the document's disk: writing.
-/
import Derived.Test.YtnnamckabjhflaaEE
namespace Go.Proofs.Ytnnamckabjhflaa
open Go.RowKit
set_option linter.unusedVariables false
set_option linter.unusedSimpArgs false
attribute [local irreducible] Rd hRow hBlk hRd hRs hAll Fn hMarks
attribute [local simp] Wr.cells Opn.cells

section
variable {S : Option Addr} {c : Nat} {Q : Option Addr} {d : Nat} {R : RM} {H : List HP} {w0 w : World} {l : List (Option Addr × List Value)}
set_option maxHeartbeats 8000000
theorem rwrite (i : Int) (x : Blk) (hx : Blk.ok x) (hR : R.ok) (ho : R.ops < 4611686018427387904) (hk : Kn w0 l) (hin : R.at_ S Q l) :
    Fn Try.prog 35 [.agg (R.cells S c Q d).toArray, .int .i64 i, .agg (bys x).toArray] w0 fun v w' => ∃ (S' : Option Addr) (c' : Nat) (Q' : Option Addr) (d' : Nat) (new : List (Option Addr × List Value)), v = .tuple #[.agg ((R.write i x).1.cells S' c' Q' d').toArray, .int .i64 (R.write i x).2] ∧ (R.write i x).1.at_ S' Q' (new ++ l) ∧ St w0 w' [hRs new] := by
  have hao := asked_ok hR i
  obtain ⟨hops, hpe, hsa⟩ := asked_same R i
  have hxl : (bys x).length = 64 := by rw [bys_length]; exact hx.1
  refine enter 39 Try.func35 rfl rfl rfl ?_
  intro a hE
  have hS := St.start w0
  refine wp_seq ?_
  refine c_region ?_
  refine s_boxS hE hS rfl rfl ?_
  clear hE a hS; intro b3 a w hE hS
  refine s_boxS hE hS rfl rfl ?_
  clear hE a hS; intro b5 a w hE hS
  refine s_allocS hE hS rfl rfl ?_
  clear hE a hS; intro b6 a w hE hS
  repeat' (first

    | (with_reducible refine wp_seq ?_)
    | (with_reducible refine c_region ?_)
    | (with_reducible refine wpList_nil ?_)
    | (with_reducible refine then_normal ?_)
    | ((with_reducible refine g_move ?_); refine s_move hE rfl rfl ?_; clear hE a; intro a hE)
    | ((with_reducible refine g_assign ?_); refine s_assign hE rfl rfl ?_; clear hE a; intro a hE)
    | ((with_reducible refine g_load ?_); (first | (refine s_loadW (k := 2) hS hE rfl rfl rfl rfl ?_) ); clear hE a; intro a hE)
    )
  refine s_call hE rfl rfl rfl (rasked hR i w) ?_
  rintro _ w ⟨rfl, hS1⟩; clear hE a; intro a hE; replace hS := hS.frame hS1; clear hS1; try simp only [List.cons_append, List.nil_append] at hS
  by_cases he : (R.asked i).2 = 0
  · rw [he] at hE
    rw [← hops] at ho
    have hdo := done_ok hao ho
    have hii := asked_in he
    obtain ⟨n, rfl⟩ := Int.eq_ofNat_of_zero_le hii.1
    obtain ⟨dpe, dsa⟩ := done_same (R.asked (n : Int)).1
    repeat' (first

      | (with_reducible refine wp_seq ?_)
      | (with_reducible refine c_region ?_)
      | (with_reducible refine wpList_nil ?_)
      | (with_reducible refine then_normal ?_)
      | (with_reducible refine wp_skip ?_)
      | ((with_reducible refine g_move ?_); refine s_move hE rfl rfl ?_; clear hE a; intro a hE)
      | ((with_reducible refine g_assign ?_); refine s_assign hE rfl rfl ?_; clear hE a; intro a hE)
      | ((with_reducible refine g_bin .neq ?_); refine s_neq hE rfl rfl rfl ?_; clear hE a; intro a hE)
      | ((with_reducible refine g_extract ?_); refine s_extract hE rfl rfl rfl ?_; clear hE a; intro a hE)
      | ((with_reducible refine g_cond ?_); refine c_false hE rfl ?_)
      | ((with_reducible refine g_load ?_); (first | (refine s_loadW (k := 2) hS hE rfl rfl rfl rfl ?_) ); clear hE a; intro a hE)
      | ((with_reducible refine g_store ?_); (first | (refine s_storeW (k := 2) hS hE rfl rfl rfl rfl rfl (by first | (simp [Value.oneCell']; done)) ?_) ); clear hS; intro w hS; simp only [List.set_cons_zero, List.set_cons_succ, Nat.add_zero] at hS)
      )
    refine s_call hE rfl rfl rfl (rdone hao ho w) ?_
    rintro _ w ⟨rfl, hS1⟩; clear hE a; intro a hE; replace hS := hS.frame hS1; clear hS1; try simp only [List.cons_append, List.nil_append] at hS
    cases hb : (R.asked (n : Int)).1.done.2
    · have e : R.write (n : Int) x = ((R.asked (n : Int)).1.done.1, 9) := by unfold RM.write; rw [if_pos he, hb]; rfl
      rw [hb] at hE
      rw [e]
      repeat' (first

        | (with_reducible refine wp_seq ?_)
        | (with_reducible refine c_region ?_)
        | (with_reducible refine wpList_nil ?_)
        | (with_reducible refine then_normal ?_)
        | (with_reducible refine wp_ret ?_)
        | (with_reducible refine then_ret ?_)
        | ((with_reducible refine g_move ?_); refine s_move hE rfl rfl ?_; clear hE a; intro a hE)
        | ((with_reducible refine g_assign ?_); refine s_assign hE rfl rfl ?_; clear hE a; intro a hE)
        | ((with_reducible refine g_un .not ?_); refine s_notb hE rfl rfl ?_; clear hE a; intro a hE)
        | ((with_reducible refine g_extract ?_); refine s_extract hE rfl rfl rfl ?_; clear hE a; intro a hE)
        | ((with_reducible refine g_cond ?_); refine c_true hE rfl ?_)
        | ((with_reducible refine g_load ?_); (first | (refine s_loadW (k := 2) hS hE rfl rfl rfl rfl ?_) ); clear hE a; intro a hE)
        | ((with_reducible refine g_store ?_); (first | (refine s_storeW (k := 0) hS hE rfl rfl rfl rfl rfl (by first | (simp [Value.oneCell']; done)) ?_) | (refine s_storeW (k := 2) hS hE rfl rfl rfl rfl rfl (by first | (simp [Value.oneCell']; done)) ?_) ); clear hS; intro w hS; simp only [List.set_cons_zero, List.set_cons_succ, Nat.add_zero] at hS)
        )
      exact retG (vs := [_, _]) hE rfl ⟨⟨_, rfl, res_W (k := 0) hS rfl rfl⟩, rfl, trivial⟩ ⟨S, c, Q, d, _, rfl, hin.same (dsa.trans hsa) (dpe.trans hpe), hS.nil.rsNil⟩
    · have e : R.write (n : Int) x = ({ (R.asked (n : Int)).1.done.1 with pend := (R.asked (n : Int)).1.done.1.pend ++ [⟨n, x⟩] }, 0) := by unfold RM.write; rw [if_pos he, hb, dpe, hpe]; rfl
      rw [hb] at hE
      rw [e]
      have hin2 := hin.same (new := []) (dsa.trans hsa) (dpe.trans hpe)
      have hr : Rd w0 S (((R.asked (n : Int)).1.done.1).safe.flatMap bys) := by rw [dsa, hsa]; exact hk _ hin.1
      have hq : Rd w0 Q (((R.asked (n : Int)).1.done.1).pend.flatMap Wr.cells) := by rw [dpe, hpe]; exact hk _ hin.2
      clear hpe hsa dpe dsa hb e hao
      generalize (R.asked (n : Int)).1.done.1 = D at hE hdo hr hq hin2 ⊢
      have hpl := hdo.plen
      have hfl : (D.pend.flatMap Wr.cells).length = D.pend.length * 65 := flat_len (rwr_len hdo)
      have honeP : ∀ v ∈ D.pend.flatMap Wr.cells, v.oneCell' = true := by
        intro v hv
        obtain ⟨b, hb, hv⟩ := List.mem_flatMap.1 hv
        rcases List.mem_cons.1 hv with rfl | hv
        · rfl
        · exact bys_one _ v hv
      have hone : ∀ v ∈ (.int .i64 (n : Int) :: bys x : List Value), v.oneCell' = true := by
        intro v hv
        rcases List.mem_cons.1 hv with rfl | hv
        · rfl
        · exact bys_one _ v hv
      have eap : D.pend.flatMap Wr.cells ++ (.int .i64 (n : Int) :: bys x) = (D.pend ++ [(⟨n, x⟩ : Wr)]).flatMap Wr.cells := by simp [Wr.cells]
      have epl : D.pend.length + 1 = (D.pend ++ [(⟨n, x⟩ : Wr)]).length := by simp
      repeat' (first

        | (with_reducible refine wp_seq ?_)
        | (with_reducible refine c_region ?_)
        | (with_reducible refine wpList_nil ?_)
        | (with_reducible refine then_normal ?_)
        | (with_reducible refine wp_skip ?_)
        | ((with_reducible refine g_move ?_); refine s_move hE rfl rfl ?_; clear hE a; intro a hE)
        | ((with_reducible refine g_assign ?_); refine s_assign hE rfl rfl ?_; clear hE a; intro a hE)
        | ((with_reducible refine g_un .not ?_); refine s_notb hE rfl rfl ?_; clear hE a; intro a hE)
        | ((with_reducible refine g_extract ?_); refine s_extract hE rfl rfl rfl ?_; clear hE a; intro a hE)
        | ((with_reducible refine g_cond ?_); refine c_false hE rfl ?_)
        | ((with_reducible refine g_store ?_); (first | (refine s_storeW (k := 2) hS hE rfl rfl rfl rfl rfl (by first | (simp [Value.oneCell']; done)) ?_) ); clear hS; intro w hS; simp only [List.set_cons_zero, List.set_cons_succ, Nat.add_zero] at hS)
        )
      refine c_ordH _ hS (fun u hu => hu) 9 ((.rd 1 (.rd 2 (.rd 4 (.rd 5 (.rd 6 (.ef2 0 (.ef2 3 ((.ef 7 (.ef 8 (.lt 9 (.lt 10 .done))))) 7 ((.ef 3 (.ef 8 (.lt 9 (.lt 10 .done)))))) 7 ((.ef 0 (.ef 3 (.ef 8 (.lt 9 (.lt 10 .done))))))))))))) mixed (by decide +kernel) ?_
      clear hS; intro w hF hS
      repeat' (first
        | (with_reducible refine o_rd rfl ?_)
        | ((with_reducible refine q_move ?_); refine d_val hE hS rfl (fun w hS => r_move hE rfl) ?_; clear hE a; intro a hE)
        | ((with_reducible refine q_fa ?_); refine d_val hE hS rfl (fun w hS => r_fieldL hE rfl rfl) ?_; clear hE a; intro a hE)
        | ((with_reducible refine q_load ?_); (first | (refine d_val hE hS rfl (fun w hS => r_loadB (k := 2) hS hE rfl rfl rfl) ?_) ); clear hE a; intro a hE)
        | ((with_reducible refine q_load ?_); (first | (refine d_val hE hS rfl (fun w hS => r_loadW (k := 1) hS hE rfl rfl (by assumption)) ?_) ); clear hE a; intro a hE)
        )
      refine d_val hE hS rfl (fun w hS => r_build (.int .i64 (n : Int) :: bys x) hE rfl (wr_fill rfl hxl)) ?_; clear hE a; intro a hE
      skip
      refine o_ef2 rfl rfl ?_ ?_
      · refine s_lit0 hE hF rfl ?_
        clear hE a hF; intro g0 a w hE hF
        refine wpList_nil ?_
        refine o_back _ (fun _ h => h) hF.tail ?_
        clear hS; have hS := hF.tail
        refine o_ef2 rfl rfl ?_ ?_
        · refine s_appendAt0 (k := 0) hE hF rfl rfl rfl (hq.st hF) hfl honeP (by omega) rfl rfl rfl rfl ?_
          clear hE a hF; intro A1 c1 a w hE hF; simp only [List.set_cons_zero, List.set_cons_succ] at hF
          refine wpList_nil ?_
          refine o_back _ (fun _ h => h) hF.tail ?_
          clear hS; have hS := hF.tail
          repeat' (first
            | ((with_reducible refine o_ef rfl ?_))
            )
          refine s_litA (vs := .int .i64 (n : Int) :: bys x) hE hF rfl (by rw [List.length_cons, hxl]) rfl rfl rfl ?_
          clear hE a hF; intro g2 a w hE hF
          refine wpList_nil ?_
          refine o_back _ (fun _ h => h) hF.tail.tail ?_
          clear hS; have hS := hF.tail.tail
          repeat' (first
            | ((with_reducible refine o_ef rfl ?_))
            )
          refine s_appendAt (k := 1) hE hF rfl rfl rfl (hF.rdAt (k := 0) rfl) (by rw [List.length_cons, hxl]) hone (by omega) rfl rfl rfl rfl ?_
          clear hE a hF; intro A2 c2 a w hE hF; simp only [List.set_cons_zero, List.set_cons_succ] at hF
          refine wpList_nil ?_
          refine o_back _ (fun _ h => h) hF.tail.tail ?_
          clear hS; have hS := hF.tail; clear hF
          rw [eap, epl] at hS
          rw [epl] at hE
          repeat' (first
            | ((with_reducible refine o_lt rfl ?_))
            )
          repeat' (first

            | (with_reducible refine wpList_nil ?_)
            | ((with_reducible refine g_fa ?_); refine s_fieldL hE rfl rfl rfl ?_; clear hE a; intro a hE)
            )
          refine o_backL ?_
          repeat' (first
            | ((with_reducible refine o_lt rfl ?_))
            )
          repeat' (first

            | (with_reducible refine wpList_nil ?_)
            | ((with_reducible refine g_store ?_); (first | (refine s_storeB (k := 3) hS hE rfl rfl rfl rfl rfl rfl ?_) ); clear hS; intro w hS; simp only [List.set_cons_zero, List.set_cons_succ, Nat.add_zero] at hS)
            )
          refine o_backL ?_
          repeat' (first
            | (with_reducible refine o_done ?_)
            )
          repeat' (first

            | (with_reducible refine wp_seq ?_)
            | (with_reducible refine c_region ?_)
            | (with_reducible refine wpList_nil ?_)
            | (with_reducible refine then_normal ?_)
            | (with_reducible refine wp_ret ?_)
            | ((with_reducible refine g_assign ?_); refine s_assign hE rfl rfl ?_; clear hE a; intro a hE)
            | ((with_reducible refine g_load ?_); (first | (refine s_loadW (k := 3) hS hE rfl rfl rfl rfl ?_) ); clear hE a; intro a hE)
            | ((with_reducible refine g_store ?_); (first | (refine s_storeW (k := 1) hS hE rfl rfl rfl rfl rfl (by first | (simp [Value.oneCell']; done)) ?_) ); clear hS; intro w hS; simp only [List.set_cons_zero, List.set_cons_succ, Nat.add_zero] at hS)
            )
          refine retG (vs := [_, _]) hE rfl ⟨⟨_, rfl, res_W (k := 1) hS rfl rfl⟩, rfl, trivial⟩ ⟨S, c, A2, c2, _, rfl, ?_, (hS.only 0 rfl).rowRs⟩
          exact ⟨List.mem_append_right _ hin2.1, List.mem_append_left _ (by simp)⟩
        · refine s_litA (vs := .int .i64 (n : Int) :: bys x) hE hF rfl (by rw [List.length_cons, hxl]) rfl rfl rfl ?_
          clear hE a hF; intro g2 a w hE hF
          refine wpList_nil ?_
          refine o_back _ (fun _ h => h) hF.tail.tail ?_
          clear hS; have hS := hF.tail.tail
          repeat' (first
            | ((with_reducible refine o_ef rfl ?_))
            )
          refine s_appendAt0 (k := 1) hE hF rfl rfl rfl (hq.st hF) hfl honeP (by omega) rfl rfl rfl rfl ?_
          clear hE a hF; intro A1 c1 a w hE hF; simp only [List.set_cons_zero, List.set_cons_succ] at hF
          refine wpList_nil ?_
          refine o_back _ (fun _ h => h) hF.tail.tail ?_
          clear hS; have hS := hF.tail.tail
          repeat' (first
            | ((with_reducible refine o_ef rfl ?_))
            )
          refine s_appendAt (k := 1) hE hF rfl rfl rfl (hF.rdAt (k := 0) rfl) (by rw [List.length_cons, hxl]) hone (by omega) rfl rfl rfl rfl ?_
          clear hE a hF; intro A2 c2 a w hE hF; simp only [List.set_cons_zero, List.set_cons_succ] at hF
          refine wpList_nil ?_
          refine o_back _ (fun _ h => h) hF.tail.tail ?_
          clear hS; have hS := hF.tail; clear hF
          rw [eap, epl] at hS
          rw [epl] at hE
          repeat' (first
            | ((with_reducible refine o_lt rfl ?_))
            )
          repeat' (first

            | (with_reducible refine wpList_nil ?_)
            | ((with_reducible refine g_fa ?_); refine s_fieldL hE rfl rfl rfl ?_; clear hE a; intro a hE)
            )
          refine o_backL ?_
          repeat' (first
            | ((with_reducible refine o_lt rfl ?_))
            )
          repeat' (first

            | (with_reducible refine wpList_nil ?_)
            | ((with_reducible refine g_store ?_); (first | (refine s_storeB (k := 3) hS hE rfl rfl rfl rfl rfl rfl ?_) ); clear hS; intro w hS; simp only [List.set_cons_zero, List.set_cons_succ, Nat.add_zero] at hS)
            )
          refine o_backL ?_
          repeat' (first
            | (with_reducible refine o_done ?_)
            )
          repeat' (first

            | (with_reducible refine wp_seq ?_)
            | (with_reducible refine c_region ?_)
            | (with_reducible refine wpList_nil ?_)
            | (with_reducible refine then_normal ?_)
            | (with_reducible refine wp_ret ?_)
            | ((with_reducible refine g_assign ?_); refine s_assign hE rfl rfl ?_; clear hE a; intro a hE)
            | ((with_reducible refine g_load ?_); (first | (refine s_loadW (k := 3) hS hE rfl rfl rfl rfl ?_) ); clear hE a; intro a hE)
            | ((with_reducible refine g_store ?_); (first | (refine s_storeW (k := 1) hS hE rfl rfl rfl rfl rfl (by first | (simp [Value.oneCell']; done)) ?_) ); clear hS; intro w hS; simp only [List.set_cons_zero, List.set_cons_succ, Nat.add_zero] at hS)
            )
          refine retG (vs := [_, _]) hE rfl ⟨⟨_, rfl, res_W (k := 1) hS rfl rfl⟩, rfl, trivial⟩ ⟨S, c, A2, c2, _, rfl, ?_, (hS.only 0 rfl).rowRs⟩
          exact ⟨List.mem_append_right _ hin2.1, List.mem_append_left _ (by simp)⟩
      · refine s_litA (vs := .int .i64 (n : Int) :: bys x) hE hF rfl (by rw [List.length_cons, hxl]) rfl rfl rfl ?_
        clear hE a hF; intro g2 a w hE hF
        refine wpList_nil ?_
        refine o_back _ (fun _ h => h) hF.tail ?_
        clear hS; have hS := hF.tail
        repeat' (first
          | ((with_reducible refine o_ef rfl ?_))
          )
        refine s_lit0 hE hF rfl ?_
        clear hE a hF; intro g0 a w hE hF
        refine wpList_nil ?_
        refine o_back _ (fun _ h => h) hF.tail.tail ?_
        clear hS; have hS := hF.tail.tail
        repeat' (first
          | ((with_reducible refine o_ef rfl ?_))
          )
        refine s_appendAt0 (k := 0) hE hF rfl rfl rfl (hq.st hF) hfl honeP (by omega) rfl rfl rfl rfl ?_
        clear hE a hF; intro A1 c1 a w hE hF; simp only [List.set_cons_zero, List.set_cons_succ] at hF
        refine wpList_nil ?_
        refine o_back _ (fun _ h => h) hF.tail.tail ?_
        clear hS; have hS := hF.tail.tail
        repeat' (first
          | ((with_reducible refine o_ef rfl ?_))
          )
        refine s_appendAt (k := 0) hE hF rfl rfl rfl (hF.rdAt (k := 1) rfl) (by rw [List.length_cons, hxl]) hone (by omega) rfl rfl rfl rfl ?_
        clear hE a hF; intro A2 c2 a w hE hF; simp only [List.set_cons_zero, List.set_cons_succ] at hF
        refine wpList_nil ?_
        refine o_back _ (fun _ h => h) hF.tail.tail ?_
        clear hS; have hS := hF; clear hF
        rw [eap, epl] at hS
        rw [epl] at hE
        repeat' (first
          | ((with_reducible refine o_lt rfl ?_))
          )
        repeat' (first

          | (with_reducible refine wpList_nil ?_)
          | ((with_reducible refine g_fa ?_); refine s_fieldL hE rfl rfl rfl ?_; clear hE a; intro a hE)
          )
        refine o_backL ?_
        repeat' (first
          | ((with_reducible refine o_lt rfl ?_))
          )
        repeat' (first

          | (with_reducible refine wpList_nil ?_)
          | ((with_reducible refine g_store ?_); (first | (refine s_storeB (k := 4) hS hE rfl rfl rfl rfl rfl rfl ?_) ); clear hS; intro w hS; simp only [List.set_cons_zero, List.set_cons_succ, Nat.add_zero] at hS)
          )
        refine o_backL ?_
        repeat' (first
          | (with_reducible refine o_done ?_)
          )
        repeat' (first

          | (with_reducible refine wp_seq ?_)
          | (with_reducible refine c_region ?_)
          | (with_reducible refine wpList_nil ?_)
          | (with_reducible refine then_normal ?_)
          | (with_reducible refine wp_ret ?_)
          | ((with_reducible refine g_assign ?_); refine s_assign hE rfl rfl ?_; clear hE a; intro a hE)
          | ((with_reducible refine g_load ?_); (first | (refine s_loadW (k := 4) hS hE rfl rfl rfl rfl ?_) ); clear hE a; intro a hE)
          | ((with_reducible refine g_store ?_); (first | (refine s_storeW (k := 2) hS hE rfl rfl rfl rfl rfl (by first | (simp [Value.oneCell']; done)) ?_) ); clear hS; intro w hS; simp only [List.set_cons_zero, List.set_cons_succ, Nat.add_zero] at hS)
          )
        refine retG (vs := [_, _]) hE rfl ⟨⟨_, rfl, res_W (k := 2) hS rfl rfl⟩, rfl, trivial⟩ ⟨S, c, A2, c2, _, rfl, ?_, (hS.only 0 rfl).rowRs⟩
        exact ⟨List.mem_append_right _ hin2.1, List.mem_append_left _ (by simp)⟩
  · have e : R.write i x = ((R.asked i).1, (R.asked i).2) := by unfold RM.write; rw [if_neg he]
    rw [e]
    repeat' (first

      | (with_reducible refine wp_seq ?_)
      | (with_reducible refine c_region ?_)
      | (with_reducible refine wpList_nil ?_)
      | (with_reducible refine then_normal ?_)
      | (with_reducible refine wp_ret ?_)
      | (with_reducible refine then_ret ?_)
      | ((with_reducible refine g_move ?_); refine s_move hE rfl rfl ?_; clear hE a; intro a hE)
      | ((with_reducible refine g_assign ?_); refine s_assign hE rfl rfl ?_; clear hE a; intro a hE)
      | ((with_reducible refine g_bin .neq ?_); refine s_neq hE rfl rfl rfl ?_; clear hE a; intro a hE)
      | ((with_reducible refine g_extract ?_); refine s_extract hE rfl rfl rfl ?_; clear hE a; intro a hE)
      | ((with_reducible refine g_cond ?_); refine c_dec hE rfl (fun hc => ?_) (fun hc => ?_) <;> try omega)
      | ((with_reducible refine g_load ?_); (first | (refine s_loadW (k := 2) hS hE rfl rfl rfl rfl ?_) ); clear hE a; intro a hE)
      | ((with_reducible refine g_store ?_); (first | (refine s_storeW (k := 0) hS hE rfl rfl rfl rfl rfl (by first | (simp [Value.oneCell']; done)) ?_) | (refine s_storeW (k := 2) hS hE rfl rfl rfl rfl rfl (by first | (simp [Value.oneCell']; done)) ?_) ); clear hS; intro w hS; simp only [List.set_cons_zero, List.set_cons_succ, Nat.add_zero] at hS)
      )
    exact retG (vs := [_, _]) hE rfl ⟨⟨_, rfl, res_W (k := 0) hS rfl rfl⟩, rfl, trivial⟩ ⟨S, c, Q, d, _, rfl, hin.same hsa hpe, hS.nil.rsNil⟩
end
end Go.Proofs.Ytnnamckabjhflaa
