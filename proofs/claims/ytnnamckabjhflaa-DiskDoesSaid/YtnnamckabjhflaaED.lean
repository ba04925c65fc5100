/-
  Contracts of the document's disk: what lives, all of it, syncing, crashing.
-/
import Derived.Test.YtnnamckabjhflaaEC
import Derived.Test.YtnnamckabjhflaaDD
import Derived.Test.YtnnamckabjhflaaDT
namespace Go.Proofs.Ytnnamckabjhflaa
open Go.RowKit
set_option linter.unusedVariables false
set_option linter.unusedSimpArgs false
attribute [local irreducible] Rd hRow hBlk hRd hAll Fn hMarks
attribute [local simp] Wr.cells Opn.cells

section
variable {S : Option Addr} {c : Nat} {Q : Option Addr} {d : Nat} {R : RM} {H : List HP} {w0 w : World}
set_option maxHeartbeats 8000000
theorem rlive (K : Option Addr) (m : Nat) (keep : List Bool) (hR : R.ok) (hr : Rd w0 S (R.safe.flatMap bys)) (hq : Rd w0 Q (R.pend.flatMap Wr.cells)) (hk : Rd w0 K (keep.map .bool)) (hl : keep.length ≤ 9223372036854775806) :
    Fn Try.prog 54 [.agg (R.cells S c Q d).toArray, .slice K keep.length m] w0 fun v w' => ∃ S' c', v = .agg ((R.live keep).cells S' c' none 0).toArray ∧ St w0 w' [hRow 27 64 S' R.safe.length c' ((R.live keep).safe.flatMap bys)] := by
  have hlen := hR.len
  have hpl := hR.plen
  have hsl := blk_len hR.safe
  have hwl := rwr_len hR
  have hfs : (R.safe.flatMap bys).length = R.safe.length * 64 := flat_len hsl
  have hfl : (R.pend.flatMap Wr.cells).length = R.pend.length * 65 := flat_len hwl
  have hml : (keep.map Value.bool).length = keep.length := List.length_map ..
  have honeS : ∀ v ∈ R.safe.flatMap bys, v.oneCell' = true := by
    intro v hv
    obtain ⟨b, hb, hv⟩ := List.mem_flatMap.1 hv
    exact bys_one _ v hv
  refine enter 41 Try.func54 rfl rfl rfl ?_
  intro a hE
  have hS := St.start w0
  refine wp_seq ?_
  refine c_region ?_
  refine s_boxS hE hS rfl rfl ?_
  clear hE a hS; intro b2 a w hE hS
  refine s_allocS hE hS rfl rfl ?_
  clear hE a hS; intro b4 a w hE hS
  repeat' (first

    | (with_reducible refine wp_seq ?_)
    | (with_reducible refine c_region ?_)
    | (with_reducible refine wpList_nil ?_)
    | (with_reducible refine then_normal ?_)
    )
  refine s_lit0 hE hS rfl ?_
  clear hE a hS; intro g a w hE hS
  repeat' (first

    | ((with_reducible refine g_fa ?_); refine s_fieldL hE rfl rfl rfl ?_; clear hE a; intro a hE)
    | ((with_reducible refine g_load ?_); (first | (refine s_loadB (k := 2) hS hE rfl rfl rfl rfl ?_) ); clear hE a; intro a hE)
    )
  refine s_appendAt0 (k := 0) hE hS rfl rfl rfl (hr.st hS) hfs honeS (by omega) rfl rfl rfl rfl ?_
  clear hE a hS; intro A' c' a w hE hS
  simp only [List.set_cons_zero] at hS
  repeat' (first

    | (with_reducible refine wp_seq ?_)
    | (with_reducible refine c_region ?_)
    | (with_reducible refine wpList_nil ?_)
    | (with_reducible refine then_normal ?_)
    | (with_reducible refine wp_block ?_)
    | ((with_reducible refine g_move ?_); refine s_move hE rfl rfl ?_; clear hE a; intro a hE)
    | ((with_reducible refine g_assign ?_); refine s_assign hE rfl rfl ?_; clear hE a; intro a hE)
    | ((with_reducible refine g_blt .len ?_); refine s_len hE rfl rfl ?_; clear hE a; intro a hE)
    | ((with_reducible refine g_fa ?_); refine s_fieldL hE rfl rfl rfl ?_; clear hE a; intro a hE)
    | ((with_reducible refine g_load ?_); (first | (refine s_loadB (k := 2) hS hE rfl rfl rfl rfl ?_) ); clear hE a; intro a hE)
    )
  refine wp_loop_ghost (fun q a w => ∃ (k : Nat), k + q = R.pend.length ∧ St w0 w [hRow 27 64 A' R.safe.length c' ((lay R.safe (R.pend.take k) (fun i => keep.getD i false) 0).flatMap bys), hBlk b4 43 [.slice none 0 0, .slice none 0 0, .bool false, .int .i64 0, .int .i64 0, .int .i64 0], hBlk b2 43 (R.cells S c Q d)] ∧ Env 41 [(13, .slice Q R.pend.length d), (14, .int .i64 (R.pend.length : Int)), (15, .int .i64 (k : Int)), (1, .slice K keep.length m), (2, .pointer (some ⟨b2, 0, none⟩)), (4, .pointer (some ⟨b4, 0, none⟩)), (5, .slice A' R.safe.length c')] a) R.pend.length ⟨0, by omega, hS, hE.sub ⟨rfl, rfl, rfl, rfl, rfl, rfl, rfl, trivial⟩⟩ ?_
  clear hE a hS
  rintro q a w ⟨k, hk2, hS, hE⟩
  have hln := lay_length (R.pend.take k) R.safe (fun i => keep.getD i false) 0
  have hlo := lay_ok (R.pend.take k) R.safe (fun i => keep.getD i false) 0 hR.safe fun x hx => (hR.pend x (List.mem_of_mem_take hx)).1
  by_cases hk1 : k < R.pend.length
  · have hseg := flat_seg (c := Wr.cells) (size := 65) (l := R.pend) hwl hk1
    have hxk := hR.pend _ (List.getElem_mem hk1)
    have hxl := hwl _ (List.getElem_mem hk1)
    have hst : lay R.safe (R.pend.take (k + 1)) (fun i => keep.getD i false) 0 = if keep.getD k false then (lay R.safe (R.pend.take k) (fun i => keep.getD i false) 0).set R.pend[k].at_ R.pend[k].b else lay R.safe (R.pend.take k) (fun i => keep.getD i false) 0 := by
      rw [List.take_succ_eq_append_getElem hk1, lay_snoc, List.length_take, Nat.min_eq_left (by omega), Nat.zero_add]
    have hone : ∀ v ∈ R.pend[k].cells, v.oneCell' = true := by
      intro v hv
      rcases List.mem_cons.1 hv with rfl | hv
      · rfl
      · exact bys_one _ v hv
    have hb : (R.pend[k].cells.drop (0 + 1)).take 64 = bys R.pend[k].b := by
      show (bys R.pend[k].b).take 64 = bys R.pend[k].b
      exact List.take_of_length_le (by rw [bys_length, hxk.1.1]; exact Nat.le_refl _)
    have hbl : (bys R.pend[k].b).length = 64 := by rw [bys_length]; exact hxk.1.1
    generalize lay R.safe (R.pend.take k) (fun i => keep.getD i false) 0 = s at hS hln hlo hst
    have hfs2 : (s.flatMap bys).length = s.length * 64 := flat_len (blk_len hlo)
    have hat : R.pend[k].at_ < s.length := by omega
    by_cases hkk : k < keep.length
    · have hv : (keep.map Value.bool)[((k : Nat) : Int).toNat * 1]? = some (.bool keep[k]) := by
        rw [Int.toNat_natCast, Nat.mul_one, List.getElem?_map, List.getElem?_eq_getElem hkk]; rfl
      have hg : keep.getD k false = keep[k] := by rw [List.getD_eq_getElem?_getD, List.getElem?_eq_getElem hkk]; rfl
      rw [hg] at hst
      repeat' (first

        | (with_reducible refine wp_seq ?_)
        | (with_reducible refine c_region ?_)
        | (with_reducible refine wpList_nil ?_)
        | (with_reducible refine then_normal ?_)
        | (with_reducible refine wp_skip ?_)
        | (with_reducible refine wp_block ?_)
        | (with_reducible refine block_normal ?_)
        | ((with_reducible refine g_move ?_); refine s_move hE rfl rfl ?_; clear hE a; intro a hE)
        | ((with_reducible refine g_assign ?_); refine s_assign hE rfl rfl ?_; clear hE a; intro a hE)
        | ((with_reducible refine g_bin .lss ?_); refine s_lss hE rfl rfl rfl ?_; clear hE a; intro a hE)
        | ((with_reducible refine g_bin .add ?_); refine s_add hE rfl rfl rfl (by first | exact wrap64_in (by omega) ) ?_; clear hE a; intro a hE)
        | ((with_reducible refine g_blt .len ?_); refine s_len hE rfl rfl ?_; clear hE a; intro a hE)
        | ((with_reducible refine g_fa ?_); refine s_fieldL hE rfl rfl rfl ?_; clear hE a; intro a hE)
        | ((with_reducible refine g_guard ?_); refine gd_yes hE rfl rfl rfl ?_)
        | ((with_reducible refine g_guard ?_); refine gd_dec hE rfl rfl (fun hc hE2 => ?_) (fun hc hE2 => ?_) <;> (try omega) <;> (replace hE := hE2; clear hE2))
        | ((with_reducible refine g_pick ?_); refine s_pickT hE rfl rfl rfl ?_; clear hE a; intro a hE)
        | ((with_reducible refine g_cond ?_); refine c_dec hE rfl (fun hc => ?_) (fun hc => ?_) <;> try omega)
        | ((with_reducible refine g_cond ?_); refine c_bool hE rfl (fun hc => ?_) (fun hc => ?_))

        | ((with_reducible refine g_ia ?_); refine s_idxR hE rfl rfl (by omega) (by omega) (by (first | exact hS.rdAt (k := 1) rfl | exact Rd.st (by assumption) hS )) (by first | omega ) rfl ?_; clear hE a; intro a hE)
        | ((with_reducible refine g_load ?_); refine s_loadR hE rfl (by (first | exact hS.rdAt (k := 1) rfl | exact Rd.st (by assumption) hS )) (by first | exact hv ) rfl ?_; clear hE a; intro a hE)
        | ((with_reducible refine g_load ?_); (first | (refine s_loadB (k := 0) hS hE rfl rfl rfl rfl ?_) ); clear hE a; intro a hE)
        | ((with_reducible refine g_alloc ?_); refine s_allocS hE hS rfl rfl ?_; clear hE a hS; intro g a w hE hS)
        | ((with_reducible refine g_load ?_); (first | (refine s_loadBs (k := 0) hS hE rfl rfl (by first | exact hseg | exact hb ) (by omega) rfl ?_) ); clear hE a; intro a hE)
        | ((with_reducible refine g_store ?_); (first | (refine s_storeW (k := 0) hS hE rfl rfl rfl (by assumption) (by first | rfl ) (by first | assumption) ?_) ); clear hS; intro w hS; simp only [List.set_cons_zero, List.set_cons_succ, Nat.add_zero] at hS)
        | ((with_reducible refine g_load ?_); refine s_elemR hE rfl (by (first | exact Rd.st (by assumption) hS )) (by first | exact hseg ) (by first | assumption) (by rfl) rfl ?_; clear hE a; intro a hE))
      · refine s_storeRs (k := 1) hS hE rfl rfl rfl hbl rfl (by omega) (bys_one _) ?_
        clear hS; intro w hS; simp only [List.set_cons_zero, List.set_cons_succ] at hS
        rw [Int.toNat_natCast, splice_set hlo hat hxk.1.1] at hS
        repeat' (first

          | (with_reducible refine c_region ?_)
          | (with_reducible refine wpList_nil ?_)
          | (with_reducible refine then_normal ?_)
          | (with_reducible refine block_normal ?_)
          | ((with_reducible refine g_move ?_); refine s_move hE rfl rfl ?_; clear hE a; intro a hE)
          | ((with_reducible refine g_bin .add ?_); refine s_add hE rfl rfl rfl (by first  | exact wrap64_in (by omega) ) ?_; clear hE a; intro a hE)
          )
        refine ⟨q - 1, by omega, k + 1, by omega, ?_, hE.sub ⟨rfl, rfl, rfl, rfl, rfl, rfl, rfl, trivial⟩⟩
        rw [hst, if_pos (by assumption)]
        exact hS.tail
      · refine ⟨q - 1, by omega, k + 1, by omega, ?_, hE.sub ⟨rfl, rfl, rfl, rfl, rfl, rfl, rfl, trivial⟩⟩
        rw [hst, if_neg (by simp_all)]
        exact hS.tail
    · have hg : keep.getD k false = false := by rw [List.getD_eq_getElem?_getD, List.getElem?_eq_none (by omega)]; rfl
      rw [hg] at hst
      repeat' (first

        | (with_reducible refine wp_seq ?_)
        | (with_reducible refine c_region ?_)
        | (with_reducible refine wpList_nil ?_)
        | (with_reducible refine then_normal ?_)
        | (with_reducible refine wp_skip ?_)
        | (with_reducible refine wp_block ?_)
        | (with_reducible refine block_normal ?_)
        | ((with_reducible refine g_move ?_); refine s_move hE rfl rfl ?_; clear hE a; intro a hE)
        | ((with_reducible refine g_assign ?_); refine s_assign hE rfl rfl ?_; clear hE a; intro a hE)
        | ((with_reducible refine g_bin .lss ?_); refine s_lss hE rfl rfl rfl ?_; clear hE a; intro a hE)
        | ((with_reducible refine g_bin .add ?_); refine s_add hE rfl rfl rfl (by first | exact wrap64_in (by omega) ) ?_; clear hE a; intro a hE)
        | ((with_reducible refine g_blt .len ?_); refine s_len hE rfl rfl ?_; clear hE a; intro a hE)
        | ((with_reducible refine g_guard ?_); refine gd_no hE rfl rfl rfl rfl ?_; clear hE a; intro a hE)
        | ((with_reducible refine g_guard ?_); refine gd_dec hE rfl rfl (fun hc hE2 => ?_) (fun hc hE2 => ?_) <;> (try omega) <;> (replace hE := hE2; clear hE2))
        | ((with_reducible refine g_pick ?_); refine s_pickF hE rfl rfl rfl ?_; clear hE a; intro a hE)
        | ((with_reducible refine g_cond ?_); refine c_false hE rfl ?_)
        | ((with_reducible refine g_cond ?_); refine c_dec hE rfl (fun hc => ?_) (fun hc => ?_) <;> try omega)
        | ((with_reducible refine g_ia ?_); refine s_idxR hE rfl rfl (by omega) (by omega) (by (first | exact Rd.st (by assumption) hS )) (by first | omega ) rfl ?_; clear hE a; intro a hE)
        | ((with_reducible refine g_alloc ?_); refine s_allocS hE hS rfl rfl ?_; clear hE a hS; intro g a w hE hS)
        | ((with_reducible refine g_store ?_); (first | (refine s_storeW (k := 0) hS hE rfl rfl rfl (by assumption) (by first | rfl ) (by first | assumption) ?_) ); clear hS; intro w hS; simp only [List.set_cons_zero, List.set_cons_succ, Nat.add_zero] at hS)
        | ((with_reducible refine g_load ?_); refine s_elemR hE rfl (by (first | exact Rd.st (by assumption) hS )) (by first | exact hseg ) (by first | assumption) (by rfl) rfl ?_; clear hE a; intro a hE))
      refine ⟨q - 1, by omega, k + 1, by omega, ?_, hE.sub ⟨rfl, rfl, rfl, rfl, rfl, rfl, rfl, trivial⟩⟩
      rw [hst, if_neg (by decide)]
      exact hS.tail
  · obtain rfl : k = R.pend.length := by omega
    rw [List.take_length] at hS hln
    repeat' (first

      | (with_reducible refine wp_seq ?_)
      | (with_reducible refine c_region ?_)
      | (with_reducible refine wpList_nil ?_)
      | (with_reducible refine then_normal ?_)
      | (with_reducible refine wp_ret ?_)
      | (with_reducible refine wp_exit ?_)
      | (with_reducible refine then_exit ?_)
      | (with_reducible refine block_same ?_)
      | ((with_reducible refine g_move ?_); refine s_move hE rfl rfl ?_; clear hE a; intro a hE)
      | ((with_reducible refine g_bin .lss ?_); refine s_lss hE rfl rfl rfl ?_; clear hE a; intro a hE)
      | ((with_reducible refine g_fa ?_); refine s_fieldL hE rfl rfl rfl ?_; clear hE a; intro a hE)
      | ((with_reducible refine g_cond ?_); refine c_dec hE rfl (fun hc => ?_) (fun hc => ?_) <;> try omega)
      | ((with_reducible refine g_store ?_); (first | (refine s_storeB (k := 2) hS hE rfl rfl rfl rfl rfl rfl ?_) ); clear hS; intro w hS; simp only [List.set_cons_zero, List.set_cons_succ, Nat.add_zero] at hS)
      | ((with_reducible refine g_load ?_); (first | (refine s_loadW (k := 2) hS hE rfl rfl rfl rfl ?_) ); clear hE a; intro a hE)
      | ((with_reducible refine g_store ?_); (first | (refine s_storeW (k := 1) hS hE rfl rfl rfl rfl rfl (by first | (simp [Value.oneCell']; done)) ?_) ); clear hS; intro w hS; simp only [List.set_cons_zero, List.set_cons_succ, Nat.add_zero] at hS)
      )
    refine retG (vs := [_]) hE rfl ⟨⟨_, rfl, res_W (k := 1) hS rfl rfl⟩, trivial⟩ ⟨A', c', ?_, hS.only 0 rfl⟩
    unfold RM.live
    dsimp only [RM.cells]
    rw [hln]
    rfl
theorem rall (hR : R.ok) (w0 : World) :
    Fn Try.prog 55 [.agg (R.cells S c Q d).toArray] w0 fun v w' => ∃ g, v = .slice (some ⟨g, 0, none⟩) R.pend.length R.pend.length ∧ St w0 w' [hRow 4 1 (some ⟨g, 0, none⟩) R.pend.length R.pend.length ((List.replicate R.pend.length true).map Value.bool)] := by
  have hpl := hR.plen
  refine enter 19 Try.func55 rfl rfl rfl ?_
  intro a hE
  have hS := St.start w0
  repeat' (first

    | (with_reducible refine wp_seq ?_)
    | (with_reducible refine c_region ?_)
    | (with_reducible refine wpList_nil ?_)
    | (with_reducible refine then_normal ?_)
    | ((with_reducible refine g_assign ?_); refine s_assign hE rfl rfl ?_; clear hE a; intro a hE)
    | ((with_reducible refine g_blt .len ?_); refine s_len hE rfl rfl ?_; clear hE a; intro a hE)
    | ((with_reducible refine g_fa ?_); refine s_fieldL hE rfl rfl rfl ?_; clear hE a; intro a hE)
    | ((with_reducible refine g_load ?_); (first | (refine s_loadB (k := 0) hS hE rfl rfl rfl rfl ?_) ); clear hE a; intro a hE)
    | ((with_reducible refine g_box ?_); refine s_boxS hE hS rfl rfl ?_; clear hE a hS; intro g a w hE hS)
    )
  refine s_make hE hS rfl rfl (by omega) (by omega) (by show (1 : Int) * ((R.pend.length : Nat) : Int) ≤ 281474976710656; omega) (by show ((R.pend.length : Nat) : Int) ≤ 9223372036854775807; omega) rfl ?_
  clear hE a hS; intro gk a w hE hS
  have emk : (madeCells (Value.bool false).cells (((R.pend.length : Nat) : Int).toNat * 1)).toList.take (((R.pend.length : Nat) : Int).toNat * 1) = (trues R.pend.length 0).map Value.bool := by
    rw [Int.toNat_natCast]
    exact (made_rep R.pend.length 0 (Value.bool false) _ rfl).trans (by simp [trues])
  rw [emk] at hS
  rw [Int.toNat_natCast] at hE hS
  repeat' (first

    | (with_reducible refine wp_seq ?_)
    | (with_reducible refine c_region ?_)
    | (with_reducible refine wpList_nil ?_)
    | (with_reducible refine then_normal ?_)
    | (with_reducible refine wp_block ?_)
    | ((with_reducible refine g_move ?_); refine s_move hE rfl rfl ?_; clear hE a; intro a hE)
    | ((with_reducible refine g_assign ?_); refine s_assign hE rfl rfl ?_; clear hE a; intro a hE)
    | ((with_reducible refine g_blt .len ?_); refine s_len hE rfl rfl ?_; clear hE a; intro a hE)
    )
  generalize hpn : R.pend.length = pn at hE hS ⊢
  refine wp_loop_ghost (fun q a w => ∃ (i : Nat), i + q = pn ∧ St w0 w [hRow 4 1 (some ⟨gk, 0, none⟩) pn pn ((trues pn i).map Value.bool)] ∧
    Env 19 [(10, .int .i64 (pn : Int)), (11, .int .i64 (i : Int)), (3, .slice (some ⟨gk, 0, none⟩) pn pn)] a) pn ⟨0, by omega, hS.only 0 rfl, hE.sub ⟨rfl, rfl, rfl, trivial⟩⟩ ?_
  clear hE a hS
  rintro q a w ⟨i, hi, hS, hE⟩
  by_cases hi1 : i < pn
  · have htl : ((trues pn i).map Value.bool).length = pn := by rw [List.length_map, trues_len (by omega)]
    repeat' (first

      | (with_reducible refine wp_seq ?_)
      | (with_reducible refine c_region ?_)
      | (with_reducible refine wpList_nil ?_)
      | (with_reducible refine then_normal ?_)
      | (with_reducible refine wp_skip ?_)
      | (with_reducible refine wp_block ?_)
      | (with_reducible refine block_normal ?_)
      | ((with_reducible refine g_move ?_); refine s_move hE rfl rfl ?_; clear hE a; intro a hE)
      | ((with_reducible refine g_assign ?_); refine s_assign hE rfl rfl ?_; clear hE a; intro a hE)
      | ((with_reducible refine g_bin .lss ?_); refine s_lss hE rfl rfl rfl ?_; clear hE a; intro a hE)
      | ((with_reducible refine g_bin .add ?_); refine s_add hE rfl rfl rfl (by first  | exact wrap64_in (by omega) ) ?_; clear hE a; intro a hE)
      | ((with_reducible refine g_cond ?_); refine c_dec hE rfl (fun hc => ?_) (fun hc => ?_) <;> try omega)
      | ((with_reducible refine g_ia ?_); refine s_idxR hE rfl rfl (by omega) (by omega) (by (first | exact hS.rd )) (by first | omega ) rfl ?_; clear hE a; intro a hE)
      | ((with_reducible refine g_store ?_); (first | (refine s_storeR1 (k := 0) hS hE rfl rfl rfl rfl (by first | omega ) rfl ?_) ); clear hS; intro w hS; simp only [List.set_cons_zero, List.set_cons_succ, Nat.add_zero] at hS)
      )
    rw [Int.toNat_natCast, Nat.mul_one, trues_set hi1] at hS
    exact ⟨q - 1, by omega, i + 1, by omega, hS, hE.sub ⟨rfl, rfl, rfl, trivial⟩⟩
  · obtain rfl : i = pn := by omega
    rw [trues_all] at hS
    repeat' (first

      | (with_reducible refine wp_seq ?_)
      | (with_reducible refine c_region ?_)
      | (with_reducible refine wpList_nil ?_)
      | (with_reducible refine then_normal ?_)
      | (with_reducible refine wp_ret ?_)
      | (with_reducible refine wp_exit ?_)
      | (with_reducible refine then_exit ?_)
      | (with_reducible refine block_same ?_)
      | ((with_reducible refine g_move ?_); refine s_move hE rfl rfl ?_; clear hE a; intro a hE)
      | ((with_reducible refine g_assign ?_); refine s_assign hE rfl rfl ?_; clear hE a; intro a hE)
      | ((with_reducible refine g_bin .lss ?_); refine s_lss hE rfl rfl rfl ?_; clear hE a; intro a hE)
      | ((with_reducible refine g_cond ?_); refine c_dec hE rfl (fun hc => ?_) (fun hc => ?_) <;> try omega)
      )
    exact ret1 hE rfl rfl ⟨gk, rfl, hS⟩
end
end Go.Proofs.Ytnnamckabjhflaa
