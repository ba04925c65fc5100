/-
  Contracts of the document's disk: what a sector holds, reading.
-/
import Derived.Test.YtnnamckabjhflaaEB
namespace Go.Proofs.Ytnnamckabjhflaa
open Go.RowKit
set_option linter.unusedVariables false
set_option linter.unusedSimpArgs false
attribute [local irreducible] Rd hRow hBlk hRd hAll Fn hMarks
attribute [local simp] Wr.cells Opn.cells

theorem rwr_len {R : RM} (hR : R.ok) : ∀ x ∈ R.pend, x.cells.length = 65 := fun x hx => by
  show (Value.int .i64 (x.at_ : Int) :: bys x.b).length = 65
  rw [List.length_cons, bys_length, (hR.pend x hx).1.1]
theorem lastP_ok {R : RM} (hR : R.ok) {i : Nat} (hi : i < R.safe.length) : ∀ k, Blk.ok ((lastOf (R.pend.take k) i).getD (R.safe.getD i noughts)) := by
  have base : Blk.ok (R.safe.getD i noughts) := by
    rw [List.getD_eq_getElem?_getD, List.getElem?_eq_getElem hi]
    exact hR.safe _ (List.getElem_mem hi)
  intro k
  induction k with
  | zero => exact base
  | succ k ih =>
    by_cases hk : k < R.pend.length
    · rw [List.take_succ_eq_append_getElem hk, lastOf_snoc]
      split
      · exact (hR.pend _ (List.getElem_mem hk)).1
      · exact ih
    · rw [List.take_of_length_le (by omega)] at ih ⊢
      exact ih
section
variable {S : Option Addr} {c : Nat} {Q : Option Addr} {d : Nat} {R : RM} {H : List HP} {w0 w : World}
set_option maxHeartbeats 8000000
theorem rholds (hR : R.ok) (hr : Rd w0 S (R.safe.flatMap bys)) (hq : Rd w0 Q (R.pend.flatMap Wr.cells)) (i : Nat) (hi : i < R.safe.length) :
    Fn Try.prog 43 [.agg (R.cells S c Q d).toArray, .int .i64 (i : Int)] w0 fun v w' => v = .agg (bys (R.holds i)).toArray ∧ St w0 w' [] := by
  have hlen := hR.len
  have hpl := hR.plen
  have hsl := blk_len hR.safe
  have hwl := rwr_len hR
  have hfs : (R.safe.flatMap bys).length = R.safe.length * 64 := flat_len hsl
  have hfl : (R.pend.flatMap Wr.cells).length = R.pend.length * 65 := flat_len hwl
  have hseg0 := flat_seg (c := bys) (size := 64) (l := R.safe) hsl hi
  have hb0 : R.safe.getD i noughts = R.safe[i] := by rw [List.getD_eq_getElem?_getD, List.getElem?_eq_getElem hi]; rfl
  have hbl0 : (bys R.safe[i]).length = 64 := hsl _ (List.getElem_mem hi)
  refine enter 28 Try.func43 rfl rfl rfl ?_
  intro a hE
  have hS := St.start w0
  refine wp_seq ?_
  refine c_region ?_
  refine s_boxS hE hS rfl rfl ?_
  clear hE a hS; intro b2 a w hE hS
  refine s_allocL (bys noughts) hE hS rfl rfl ?_
  clear hE a hS; intro b4 a w hE hS
  repeat' (first

    | (with_reducible refine wp_seq ?_)
    | (with_reducible refine c_region ?_)
    | (with_reducible refine wpList_nil ?_)
    | (with_reducible refine then_normal ?_)
    | (with_reducible refine wp_block ?_)
    | ((with_reducible refine g_move ?_); refine s_move hE rfl rfl ?_; clear hE a; intro a hE)
    | ((with_reducible refine g_blt .len ?_); refine s_len hE rfl rfl ?_; clear hE a; intro a hE)
    | ((with_reducible refine g_fa ?_); refine s_fieldL hE rfl rfl rfl ?_; clear hE a; intro a hE)
    | ((with_reducible refine g_ia ?_); refine s_idxR hE rfl rfl (by omega) (by omega) (by (first | exact Rd.st (by assumption) hS )) (by first | omega ) rfl ?_; clear hE a; intro a hE)
    | ((with_reducible refine g_load ?_); (first | (refine s_loadB (k := 1) hS hE rfl rfl rfl rfl ?_) | (refine s_loadB (k := 2) hS hE rfl rfl rfl rfl ?_) ); clear hE a; intro a hE)
    | ((with_reducible refine g_alloc ?_); refine s_allocS hE hS rfl rfl ?_; clear hE a hS; intro g a w hE hS)
    | ((with_reducible refine g_store ?_); (first | (refine s_storeW (k := 0) hS hE rfl rfl rfl (by assumption) (by first | rfl ) (by first | exact bys_one _ ) ?_) ); clear hS; intro w hS; simp only [List.set_cons_zero, List.set_cons_succ, Nat.add_zero] at hS)
    | ((with_reducible refine g_load ?_); refine s_elemR hE rfl (by (first | exact Rd.st (by assumption) hS )) (by first | exact hseg0 ) (by first | assumption) (by rfl) rfl ?_; clear hE a; intro a hE))
  obtain ⟨b5, rfl⟩ : ∃ x, x = g := ⟨g, rfl⟩
  refine wp_loop_ghost (fun q a w => ∃ (k : Nat), k + q = R.pend.length ∧ St w0 w [hBlk b5 27 (bys ((lastOf (R.pend.take k) i).getD (R.safe.getD i noughts))), hBlk b4 27 (bys noughts), hBlk b2 43 (R.cells S c Q d)] ∧ Env 28 [(14, .slice Q R.pend.length d), (15, .int .i64 (R.pend.length : Int)), (16, .int .i64 (k : Int)), (1, .int .i64 (i : Int)), (4, .pointer (some ⟨b4, 0, none⟩)), (5, .pointer (some ⟨b5, 0, none⟩))] a) R.pend.length ⟨0, by omega, by rw [List.take_zero, hb0]; exact hS, hE.sub ⟨rfl, rfl, rfl, rfl, rfl, rfl, trivial⟩⟩ ?_
  clear hE a hS
  rintro q a w ⟨k, hk, hS, hE⟩
  have hbo := lastP_ok hR hi k
  by_cases hk1 : k < R.pend.length
  · have hseg := flat_seg (c := Wr.cells) (size := 65) (l := R.pend) hwl hk1
    have hxk := hR.pend _ (List.getElem_mem hk1)
    have hxl := hwl _ (List.getElem_mem hk1)
    have hst : (lastOf (R.pend.take (k + 1)) i).getD (R.safe.getD i noughts) = if R.pend[k].at_ = i then R.pend[k].b else (lastOf (R.pend.take k) i).getD (R.safe.getD i noughts) := by
      rw [List.take_succ_eq_append_getElem hk1, lastOf_snoc]
      split <;> rfl
    have hone : ∀ v ∈ R.pend[k].cells, v.oneCell' = true := by
      intro v hv
      rcases List.mem_cons.1 hv with rfl | hv
      · rfl
      · exact bys_one _ v hv
    have hb : (R.pend[k].cells.drop (0 + 1)).take 64 = bys R.pend[k].b := by
      show (bys R.pend[k].b).take 64 = bys R.pend[k].b
      exact List.take_of_length_le (by rw [bys_length, hxk.1.1]; exact Nat.le_refl _)
    have hbl : (bys R.pend[k].b).length = 64 := by rw [bys_length]; exact hxk.1.1
    generalize (lastOf (R.pend.take k) i).getD (R.safe.getD i noughts) = b at hS hbo hst
    have hbl2 : (bys b).length = 64 := by rw [bys_length]; exact hbo.1
    repeat' (first

      | (with_reducible refine wp_seq ?_)
      | (with_reducible refine c_region ?_)
      | (with_reducible refine wpList_nil ?_)
      | (with_reducible refine then_normal ?_)
      | (with_reducible refine wp_skip ?_)
      | (with_reducible refine wp_block ?_)
      | (with_reducible refine block_normal ?_)
      | ((with_reducible refine g_move ?_); refine s_move hE rfl rfl ?_; clear hE a; intro a hE)
      | ((with_reducible refine g_bin .lss ?_); refine s_lss hE rfl rfl rfl ?_; clear hE a; intro a hE)
      | ((with_reducible refine g_bin .eql ?_); refine s_eql hE rfl rfl rfl ?_; clear hE a; intro a hE)
      | ((with_reducible refine g_bin .add ?_); refine s_add hE rfl rfl rfl (by first | exact wrap64_in (by omega) ) ?_; clear hE a; intro a hE)
      | ((with_reducible refine g_fa ?_); refine s_fieldL hE rfl rfl rfl ?_; clear hE a; intro a hE)
      | ((with_reducible refine g_cond ?_); refine c_dec hE rfl (fun hc => ?_) (fun hc => ?_) <;> try omega)
      | ((with_reducible refine g_ia ?_); refine s_idxR hE rfl rfl (by omega) (by omega) (by (first | exact Rd.st (by assumption) hS )) (by first | omega ) rfl ?_; clear hE a; intro a hE)
      | ((with_reducible refine g_load ?_); (first | (refine s_loadB (k := 0) hS hE rfl rfl rfl rfl ?_) ); clear hE a; intro a hE)
      | ((with_reducible refine g_alloc ?_); refine s_allocS hE hS rfl rfl ?_; clear hE a hS; intro g a w hE hS)
      | ((with_reducible refine g_load ?_); (first | (refine s_loadBs (k := 0) hS hE rfl rfl (by first | exact hb ) (by omega) rfl ?_) ); clear hE a; intro a hE)
      | ((with_reducible refine g_store ?_); (first | (refine s_storeW (k := 0) hS hE rfl rfl rfl (by assumption) (by first | rfl | assumption) (by first | exact bys_one _ | assumption) ?_) | (refine s_storeW (k := 1) hS hE rfl rfl rfl (by assumption) (by first | assumption) (by first | exact bys_one _ ) ?_) ); clear hS; intro w hS; simp only [List.set_cons_zero, List.set_cons_succ, Nat.add_zero] at hS)
      | ((with_reducible refine g_load ?_); refine s_elemR hE rfl (by (first | exact Rd.st (by assumption) hS )) (by first | exact hseg ) (by first | assumption) (by rfl) rfl ?_; clear hE a; intro a hE))
    · refine ⟨q - 1, by omega, k + 1, by omega, ?_, hE.sub ⟨rfl, rfl, rfl, rfl, rfl, rfl, trivial⟩⟩
      rw [hst, if_pos (by omega)]
      exact hS.drop 0
    · refine ⟨q - 1, by omega, k + 1, by omega, ?_, hE.sub ⟨rfl, rfl, rfl, rfl, rfl, rfl, trivial⟩⟩
      rw [hst, if_neg (by omega)]
      exact hS.drop 0
  · obtain rfl : k = R.pend.length := by omega
    rw [List.take_length] at hS hbo
    have e : (lastOf R.pend i).getD (R.safe.getD i noughts) = R.holds i := rfl
    rw [e] at hS hbo
    have hbl2 : (bys (R.holds i)).length = 64 := by rw [bys_length]; exact hbo.1
    repeat' (first

      | (with_reducible refine wp_seq ?_)
      | (with_reducible refine c_region ?_)
      | (with_reducible refine wpList_nil ?_)
      | (with_reducible refine then_normal ?_)
      | (with_reducible refine wp_ret ?_)
      | (with_reducible refine wp_exit ?_)
      | (with_reducible refine then_exit ?_)
      | (with_reducible refine block_same ?_)
      | ((with_reducible refine g_bin .lss ?_); refine s_lss hE rfl rfl rfl ?_; clear hE a; intro a hE)
      | ((with_reducible refine g_cond ?_); refine c_dec hE rfl (fun hc => ?_) (fun hc => ?_) <;> try omega)
      | ((with_reducible refine g_load ?_); (first | (refine s_loadW (k := 0) hS hE rfl rfl (by first | assumption ) rfl ?_) ); clear hE a; intro a hE)
      | ((with_reducible refine g_store ?_); (first | (refine s_storeW (k := 1) hS hE rfl rfl rfl (by assumption) (by first | rfl ) (by first | exact bys_one _ ) ?_) ); clear hS; intro w hS; simp only [List.set_cons_zero, List.set_cons_succ, Nat.add_zero] at hS)
      )
    exact retG (vs := [_]) hE rfl ⟨⟨_, rfl, res_W (k := 1) hS rfl hbl2⟩, trivial⟩ ⟨rfl, hS.nil⟩
theorem asked_same (R : RM) (i : Int) : (R.asked i).1.ops = R.ops ∧ (R.asked i).1.pend = R.pend ∧ (R.asked i).1.safe = R.safe := by
  unfold RM.asked
  split
  · exact ⟨rfl, rfl, rfl⟩
  · split
    · exact ⟨rfl, rfl, rfl⟩
    · split
      · exact ⟨rfl, rfl, rfl⟩
      · split <;> exact ⟨rfl, rfl, rfl⟩
theorem asked_ok {R : RM} (h : R.ok) (i : Int) : (R.asked i).1.ok := by
  obtain ⟨h1, h2, h3, h4, h5, h6, h7⟩ := h
  unfold RM.asked
  split
  · exact ⟨h1, h2, h3, h4, h5, h6, h7⟩
  · split
    · exact ⟨h1, h2, h3, h4, h5, h6, h7⟩
    · split
      · exact ⟨h1, h2, h3, h4, h5, ⟨by show (-1 : Int) ≤ -1; decide, by show (-1 : Int) ≤ _; decide⟩, h7⟩
      · split
        · exact ⟨h1, h2, h3, h4, h5, ⟨by show -1 ≤ R.fails - 1; omega, by show R.fails - 1 ≤ _; omega⟩, h7⟩
        · exact ⟨h1, h2, h3, h4, h5, h6, h7⟩
theorem asked_in {R : RM} {i : Int} (h : (R.asked i).2 = 0) : 0 ≤ i ∧ i < R.safe.length := by
  unfold RM.asked at h
  split at h
  · cases h
  · split at h
    · cases h
    · omega
theorem done_same (R : RM) : R.done.1.pend = R.pend ∧ R.done.1.safe = R.safe := by
  unfold RM.done
  split <;> exact ⟨rfl, rfl⟩
theorem done_ok {R : RM} (h : R.ok) (ho : R.ops < 4611686018427387904) : R.done.1.ok := by
  obtain ⟨h1, h2, h3, h4, h5, h6, h7⟩ := h
  unfold RM.done
  split
  · exact ⟨h1, h2, h3, h4, h5, h6, h7⟩
  · refine ⟨h1, h2, h3, h4, ?_, h6, ⟨by show 0 ≤ R.ops + 1; omega, by show R.ops + 1 ≤ _; omega⟩⟩
    show -1 ≤ (if 0 < R.left then R.left - 1 else R.left) ∧ (if 0 < R.left then R.left - 1 else R.left) ≤ 9223372036854775807
    split <;> omega
theorem rread (hR : R.ok) (ho : R.ops < 4611686018427387904) (hr : Rd w0 S (R.safe.flatMap bys)) (hq : Rd w0 Q (R.pend.flatMap Wr.cells)) (i : Int) :
    Fn Try.prog 23 [.agg (R.cells S c Q d).toArray, .int .i64 i] w0 fun v w' => v = .tuple #[.agg ((R.read i).1.cells S c Q d).toArray, .agg (bys (R.read i).2.1).toArray, .int .i64 (R.read i).2.2] ∧ St w0 w' [] := by
  have hao := asked_ok hR i
  obtain ⟨hops, hpe, hsa⟩ := asked_same R i
  refine enter 27 Try.func23 rfl rfl rfl ?_
  intro a hE
  have hS := St.start w0
  refine wp_seq ?_
  refine c_region ?_
  refine s_boxS hE hS rfl rfl ?_
  clear hE a hS; intro b2 a w hE hS
  refine s_allocS hE hS rfl rfl ?_
  clear hE a hS; intro b4 a w hE hS
  refine s_allocL (bys noughts) hE hS rfl rfl ?_
  clear hE a hS; intro b5 a w hE hS
  repeat' (first

    | (with_reducible refine wp_seq ?_)
    | (with_reducible refine c_region ?_)
    | (with_reducible refine wpList_nil ?_)
    | (with_reducible refine then_normal ?_)
    | ((with_reducible refine g_move ?_); refine s_move hE rfl rfl ?_; clear hE a; intro a hE)
    | ((with_reducible refine g_assign ?_); refine s_assign hE rfl rfl ?_; clear hE a; intro a hE)
    | ((with_reducible refine g_load ?_); (first | (refine s_loadW (k := 2) hS hE rfl rfl rfl rfl ?_) ); clear hE a; intro a hE)
    )
  refine s_call hE rfl rfl rfl (rasked hR i w) ?_
  rintro _ w ⟨rfl, hS1⟩; clear hE a; intro a hE; replace hS := hS.frame hS1; clear hS1; try simp only [List.cons_append, List.nil_append] at hS
  by_cases he : (R.asked i).2 = 0
  · have e : R.read i = ({ (R.asked i).1 with ops := (R.asked i).1.ops + 1 }, R.holds i.toNat, 0) := by unfold RM.read; rw [if_pos he]
    rw [he] at hE
    have hin := asked_in he
    obtain ⟨n, rfl⟩ := Int.eq_ofNat_of_zero_le hin.1
    rw [e, Int.toNat_natCast]
    rw [← hops] at ho
    generalize hA : (R.asked (n : Int)).1 = A at hE hao hpe hsa ho ⊢
    have hA2 : RM.ok { A with ops := A.ops + 1 } := by
      obtain ⟨h1, h2, h3, h4, h5, h6, h7⟩ := hao
      exact ⟨h1, h2, h3, h4, h5, h6, ⟨by show 0 ≤ A.ops + 1; omega, by show A.ops + 1 ≤ _; omega⟩⟩
    have hho : RM.holds { A with ops := A.ops + 1 } n = R.holds n := by unfold RM.holds; show (lastOf A.pend n).getD (A.safe.getD n noughts) = _; rw [hpe, hsa]
    have hop := hao.ops
    rw [← hsa] at hr hin
    rw [← hpe] at hq
    repeat' (first

      | (with_reducible refine wp_seq ?_)
      | (with_reducible refine c_region ?_)
      | (with_reducible refine wpList_nil ?_)
      | (with_reducible refine then_normal ?_)
      | (with_reducible refine wp_skip ?_)
      | ((with_reducible refine g_move ?_); refine s_move hE rfl rfl ?_; clear hE a; intro a hE)
      | ((with_reducible refine g_assign ?_); refine s_assign hE rfl rfl ?_; clear hE a; intro a hE)
      | ((with_reducible refine g_bin .neq ?_); refine s_neq hE rfl rfl rfl ?_; clear hE a; intro a hE)
      | ((with_reducible refine g_bin .add ?_); refine s_add hE rfl rfl rfl (by first  | exact wrap64_in (by omega) ) ?_; clear hE a; intro a hE)
      | ((with_reducible refine g_extract ?_); refine s_extract hE rfl rfl rfl ?_; clear hE a; intro a hE)
      | ((with_reducible refine g_fa ?_); refine s_fieldL hE rfl rfl rfl ?_; clear hE a; intro a hE)
      | ((with_reducible refine g_cond ?_); refine c_false hE rfl ?_)
      | ((with_reducible refine g_load ?_); (first | (refine s_loadB (k := 2) hS hE rfl rfl rfl rfl ?_) ); clear hE a; intro a hE)
      | ((with_reducible refine g_store ?_); (first | (refine s_storeB (k := 2) hS hE rfl rfl rfl rfl rfl rfl ?_) ); clear hS; intro w hS; simp only [List.set_cons_zero, List.set_cons_succ, Nat.add_zero] at hS)
      | ((with_reducible refine g_store ?_); (first | (refine s_storeW (k := 2) hS hE rfl rfl rfl rfl rfl (by first | (simp [Value.oneCell']; done)) ?_) ); clear hS; intro w hS; simp only [List.set_cons_zero, List.set_cons_succ, Nat.add_zero] at hS)
      )
    refine c_ordK hS 2 rfl 5 ((.rd 0 (.rd 1 (.rd 2 (.ef 3 (.ef 4 (.lt 5 (.lt 6 .done)))))))) mixed (by decide +kernel) ?_
    clear hS; intro w hF hS
    repeat' (first
      | (with_reducible refine o_rd rfl ?_)
      | ((with_reducible refine q_move ?_); refine d_val hE hS rfl (fun w hS => r_move hE rfl) ?_; clear hE a; intro a hE)
      | ((with_reducible refine q_load ?_); (first | (refine d_val hE hS rfl (fun w hS => r_loadW (k := 0) hS hE rfl rfl rfl) ?_) ); clear hE a; intro a hE)
      | ((with_reducible refine o_ef rfl ?_))
      )
    refine s_call hE rfl rfl rfl (rholds hA2 (hr.st hF) (hq.st hF) n (by show n < A.safe.length; omega)) ?_
    rintro _ w ⟨rfl, hS1⟩; clear hE a; intro a hE; replace hF := hF.frame hS1; clear hS1; simp only [List.nil_append] at hF
    rw [hho] at hE
    refine wpList_nil ?_
    refine o_back _ (fun _ h => h) (hF.only 2 rfl) ?_
    clear hS; have hS := hF.only 2 rfl
    repeat' (first
      | ((with_reducible refine o_ef rfl ?_))
      )
    refine s_storeW (k := 1) hF hE rfl rfl rfl rfl rfl (by simp [Value.oneCell']) ?_
    clear hF; intro w hF; simp only [List.set_cons_zero, List.set_cons_succ] at hF
    refine wpList_nil ?_
    refine o_back _ (fun _ h => h) (hF.only 2 rfl) ?_
    clear hS; have hS := hF; clear hF
    have hbo2 := lastP_ok hA2 (i := n) (by show n < A.safe.length; omega) A.pend.length
    rw [List.take_length] at hbo2
    have hbl2 : (bys (R.holds n)).length = 64 := by rw [← hho, bys_length]; exact hbo2.1
    repeat' (first
      | ((with_reducible refine o_lt rfl ?_))
      )
    repeat' (first

      | (with_reducible refine wpList_nil ?_)
      | ((with_reducible refine g_store ?_); (first | (refine s_storeW (k := 0) hS hE rfl rfl rfl (by assumption) (by first | rfl ) (by first | exact bys_one _ ) ?_) ); clear hS; intro w hS; simp only [List.set_cons_zero, List.set_cons_succ, Nat.add_zero] at hS)
      )
    refine o_backL ?_
    repeat' (first
      | ((with_reducible refine o_lt rfl ?_))
      )
    repeat' (first

      | (with_reducible refine wpList_nil ?_)
      | ((with_reducible refine g_assign ?_); refine s_assign hE rfl rfl ?_; clear hE a; intro a hE)
      )
    refine o_backL ?_
    repeat' (first
      | (with_reducible refine o_done ?_)
      )
    repeat' (first

      | (with_reducible refine then_normal ?_)
      | (with_reducible refine wp_ret ?_)
      )
    exact retG (vs := [_, _, _]) hE rfl ⟨⟨_, rfl, res_W (k := 1) hS rfl rfl⟩, ⟨_, rfl, res_W (k := 0) hS rfl hbl2⟩, rfl, trivial⟩ ⟨rfl, hS.nil⟩
  · have e : R.read i = ((R.asked i).1, noughts, (R.asked i).2) := by unfold RM.read; rw [if_neg he]
    rw [e]
    repeat' (first

      | (with_reducible refine wp_seq ?_)
      | (with_reducible refine c_region ?_)
      | (with_reducible refine wpList_nil ?_)
      | (with_reducible refine then_normal ?_)
      | ((with_reducible refine g_move ?_); refine s_move hE rfl rfl ?_; clear hE a; intro a hE)
      | ((with_reducible refine g_assign ?_); refine s_assign hE rfl rfl ?_; clear hE a; intro a hE)
      | ((with_reducible refine g_bin .neq ?_); refine s_neq hE rfl rfl rfl ?_; clear hE a; intro a hE)
      | ((with_reducible refine g_extract ?_); refine s_extract hE rfl rfl rfl ?_; clear hE a; intro a hE)
      | ((with_reducible refine g_cond ?_); refine c_dec hE rfl (fun hc => ?_) (fun hc => ?_) <;> try omega)
      | ((with_reducible refine g_load ?_); (first | (refine s_loadW (k := 2) hS hE rfl rfl rfl rfl ?_) ); clear hE a; intro a hE)
      | ((with_reducible refine g_store ?_); (first | (refine s_storeW (k := 2) hS hE rfl rfl rfl rfl rfl (by first | (simp [Value.oneCell']; done)) ?_) ); clear hS; intro w hS; simp only [List.set_cons_zero, List.set_cons_succ, Nat.add_zero] at hS)
      )
    refine s_build (bys noughts) hE rfl rfl rfl ?_
    clear hE a; intro a hE
    repeat' (first

      | (with_reducible refine wpList_nil ?_)
      | (with_reducible refine then_normal ?_)
      | (with_reducible refine wp_ret ?_)
      | (with_reducible refine then_ret ?_)
      | ((with_reducible refine g_move ?_); refine s_move hE rfl rfl ?_; clear hE a; intro a hE)
      | ((with_reducible refine g_assign ?_); refine s_assign hE rfl rfl ?_; clear hE a; intro a hE)
      | ((with_reducible refine g_store ?_); (first | (refine s_storeW (k := 0) hS hE rfl rfl rfl rfl rfl (by first | exact bys_one _ | (simp [Value.oneCell']; done)) ?_) | (refine s_storeW (k := 1) hS hE rfl rfl rfl rfl rfl (by first | (simp [Value.oneCell']; done)) ?_) ); clear hS; intro w hS; simp only [List.set_cons_zero, List.set_cons_succ, Nat.add_zero] at hS)
      )
    exact retG (vs := [_, _, _]) hE rfl ⟨⟨_, rfl, res_W (k := 1) hS rfl rfl⟩, ⟨_, rfl, res_W (k := 0) hS rfl rfl⟩, rfl, trivial⟩ ⟨rfl, hS.nil⟩
end
end Go.Proofs.Ytnnamckabjhflaa
