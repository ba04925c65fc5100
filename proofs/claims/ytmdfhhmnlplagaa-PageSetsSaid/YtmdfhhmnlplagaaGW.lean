/-
  Contracts: a page's sectors, by the program and by the document.
-/
import Derived.Test.YtmdfhhmnlplagaaGV
namespace Go.Proofs.Ytmdfhhmnlplagaa
open Go.RowKit
set_option linter.unusedVariables false
set_option linter.unusedSimpArgs false
attribute [local irreducible] Rd hRow hBlk hRd hRdr rowsP Fn hMarks

theorem bys_blk (b : List Nat) (j : Nat) : bys (blk b j) = ((bys b).drop (64 * j)).take 64 := by unfold blk bys; rw [List.map_take, List.map_drop]
theorem blk_len {b : List Nat} {j : Nat} (h : 64 * j + 64 ≤ b.length) : (blk b j).length = 64 := by unfold blk; rw [List.length_take, List.length_drop]; omega
theorem take_blk (b : List Nat) (j : Nat) : b.take (64 * j) ++ blk b j = b.take (64 * (j + 1)) := by
  rw [show 64 * (j + 1) = 64 * j + 64 by omega, List.take_add]
  rfl
theorem splice_blk {b : List Nat} {j : Nat} (hb : b.length = 256) (hj : j < 4) : spliceN (b.take (64 * j) ++ List.replicate (256 - 64 * j) 0) (64 * j) (blk b j) = b.take (64 * (j + 1)) ++ List.replicate (256 - 64 * (j + 1)) 0 := by
  have hl : (b.take (64 * j)).length = 64 * j := by rw [List.length_take]; omega
  have hbl := blk_len (b := b) (j := j) (by omega)
  unfold spliceN
  have e1 : (b.take (64 * j) ++ List.replicate (256 - 64 * j) 0).take (64 * j) = b.take (64 * j) := by
    conv => lhs; arg 1; rw [← hl]
    exact List.take_left
  have e2 : (b.take (64 * j) ++ List.replicate (256 - 64 * j) 0).drop (64 * j + (blk b j).length) = List.replicate (256 - 64 * (j + 1)) 0 := by
    rw [hbl, List.drop_append, List.drop_eq_nil_of_le (by rw [hl]; omega), List.nil_append, hl, List.drop_replicate]
    congr 1
    omega
  rw [e1, e2, take_blk]
section
variable {H : List HP} {w0 w : World}
set_option maxHeartbeats 8000000
theorem sectors_no (p : Pg) (hp : p.wf) (h : p.m.right = false) (w0 : World) :
    Fn Try.prog 18 [.agg p.cells.toArray] w0 fun v w' => v = .tuple #[.slice none 0 0, .int .i64 160] ∧ St w0 w' [] := by
  have hcl : p.cells.length = 6 := by simp [hp.s4]
  refine enter 25 Try.func18 rfl rfl rfl ?_
  intro a hE
  have hS := St.start w0
  repeat' (first

    | (with_reducible refine wp_seq ?_)
    | (with_reducible refine c_region ?_)
    | (with_reducible refine wpList_nil ?_)
    | (with_reducible refine then_normal ?_)
    | ((with_reducible refine g_assign ?_); refine s_assign hE rfl rfl ?_; clear hE a; intro a hE)
    | ((with_reducible refine g_box ?_); refine s_boxS hE hS rfl rfl ?_; clear hE a hS; intro g a w hE hS)
    | ((with_reducible refine g_load ?_); (first | (refine s_loadW (k := 0) hS hE rfl rfl (by first | assumption ) rfl ?_) ); clear hE a; intro a hE)
    )
  refine s_call hE rfl rfl rfl (encode_no p hp h w) ?_
  rintro _ w ⟨rfl, hS1⟩; clear hE a; intro a hE; replace hS := hS.frame hS1; clear hS1; try simp only [List.cons_append, List.nil_append] at hS
  repeat' (first

    | (with_reducible refine wp_seq ?_)
    | (with_reducible refine c_region ?_)
    | (with_reducible refine wpList_nil ?_)
    | (with_reducible refine then_normal ?_)
    | (with_reducible refine wp_block ?_)
    | ((with_reducible refine g_move ?_); refine s_move hE rfl rfl ?_; clear hE a; intro a hE)
    | ((with_reducible refine g_assign ?_); refine s_assign hE rfl rfl ?_; clear hE a; intro a hE)
    | ((with_reducible refine g_extract ?_); refine s_extract hE rfl rfl rfl ?_; clear hE a; intro a hE)
    )
  refine wp_loop_ghost (fun q a w => St w0 w [] ∧ Env 25 [(4, .slice none 0 0), (5, .int .i64 160), (6, .slice none 0 0)] a) 0 ⟨hS.nil, hE.sub ⟨rfl, rfl, rfl, trivial⟩⟩ ?_
  clear hE a hS
  rintro q a w ⟨hS, hE⟩
  repeat' (first

    | (with_reducible refine wp_seq ?_)
    | (with_reducible refine c_region ?_)
    | (with_reducible refine wpList_nil ?_)
    | (with_reducible refine then_normal ?_)
    | (with_reducible refine wp_ret ?_)
    | (with_reducible refine wp_exit ?_)
    | (with_reducible refine then_exit ?_)
    | (with_reducible refine block_same ?_)
    | ((with_reducible refine g_move ?_); refine s_move hE rfl rfl ?_; clear hE a; intro a hE)
    | ((with_reducible refine g_assign ?_); refine s_assign hE rfl rfl ?_; clear hE a; intro a hE)
    | ((with_reducible refine g_bin .gtr ?_); refine s_gtr hE rfl rfl rfl ?_; clear hE a; intro a hE)
    | ((with_reducible refine g_blt .len ?_); refine s_len hE rfl rfl ?_; clear hE a; intro a hE)
    | ((with_reducible refine g_cond ?_); refine c_false hE rfl ?_)
    )
  exact ret2 hE rfl rfl rfl ⟨rfl, hS⟩
theorem sectors_ok (p : Pg) (hp : p.wf) (hr : p.rd w0) (h : p.m.right = true) :
    Fn Try.prog 18 [.agg p.cells.toArray] w0 fun v w' => ∃ A c, v = .tuple #[.slice A 4 c, .int .i64 0] ∧ St w0 w' [hRow 39 64 A 4 c (bys p.m.enc)] := by
  have hri := (right_iff p.m).1 h
  have hcl : p.cells.length = 6 := by simp [hp.s4]
  have hel : p.m.enc.length = 256 := enc_len hp.ok.s4 hri.2
  refine enter 25 Try.func18 rfl rfl rfl ?_
  intro a hE
  have hS := St.start w0
  repeat' (first

    | (with_reducible refine wp_seq ?_)
    | (with_reducible refine c_region ?_)
    | (with_reducible refine wpList_nil ?_)
    | (with_reducible refine then_normal ?_)
    | ((with_reducible refine g_assign ?_); refine s_assign hE rfl rfl ?_; clear hE a; intro a hE)
    | ((with_reducible refine g_box ?_); refine s_boxS hE hS rfl rfl ?_; clear hE a hS; intro g a w hE hS)
    | ((with_reducible refine g_load ?_); (first | (refine s_loadW (k := 0) hS hE rfl rfl (by first | assumption ) rfl ?_) ); clear hE a; intro a hE)
    )
  refine s_call hE rfl rfl rfl (encode_ok p hp (hr.st hS) h) ?_
  rintro _ w ⟨A, c, rfl, hS1⟩; clear hE a; intro a hE; replace hS := hS.frame hS1; clear hS1; try simp only [List.cons_append, List.nil_append] at hS
  generalize p.m.enc = b at hS hel ⊢
  have hbl : (bys b).length = 256 := by rw [bys_length]; exact hel
  obtain ⟨hA, _⟩ := hS.rd.some (List.getElem?_eq_getElem (show 0 < (bys b).length by omega))
  obtain ⟨ad, rfl⟩ : ∃ ad, A = some ad := ⟨_, hA⟩
  obtain ⟨_, hcap, _⟩ := hS.lenAt (k := 0) rfl
  repeat' (first

    | (with_reducible refine wp_seq ?_)
    | (with_reducible refine c_region ?_)
    | (with_reducible refine wpList_nil ?_)
    | (with_reducible refine then_normal ?_)
    | (with_reducible refine wp_block ?_)
    | ((with_reducible refine g_move ?_); refine s_move hE rfl rfl ?_; clear hE a; intro a hE)
    | ((with_reducible refine g_assign ?_); refine s_assign hE rfl rfl ?_; clear hE a; intro a hE)
    | ((with_reducible refine g_extract ?_); refine s_extract hE rfl rfl rfl ?_; clear hE a; intro a hE)
    )
  have hS2 : St w0 w [hRow 39 64 none 0 0 (bys (b.take (64 * 0))), hRow 5 1 (some ad) 256 c (bys b)] := St.rowNil (hS.only 0 rfl) _ _
  clear hS; have hS := hS2; clear hS2
  refine wp_loop_ghost (fun q a w => ∃ (j : Nat) (A2 A' : Option Addr) (c' : Nat), j + q = 4 ∧ (j < 4 → A2 = some (ad.add (64 * j))) ∧ St w0 w [hRow 39 64 A' j c' (bys (b.take (64 * j))), hRow 5 1 (some ad) 256 c (bys b)] ∧ Env 25 [(4, .slice A2 (256 - 64 * j) (c - 64 * j)), (5, .int .i64 0), (6, .slice A' j c')] a) 4 ⟨0, some ad, none, 0, by omega, fun _ => rfl, hS, hE.sub ⟨rfl, rfl, rfl, trivial⟩⟩ ?_
  clear hE a hS
  rintro q a w ⟨j, A2, A', c', hj, hA2, hS, hE⟩
  by_cases hj1 : j < 4
  · obtain rfl := hA2 hj1
    have hblk := blk_len (b := b) (j := j) (by omega)
    have hbk2 : (bys (blk b j)).length = 64 := by rw [bys_length]; exact hblk
    have hbk1 : (bys (blk b j)).length = 1 * 64 := hbk2
    repeat' (first

      | (with_reducible refine wp_seq ?_)
      | (with_reducible refine c_region ?_)
      | (with_reducible refine wpList_nil ?_)
      | (with_reducible refine then_normal ?_)
      | (with_reducible refine wp_skip ?_)
      | (with_reducible refine wp_block ?_)
      | ((with_reducible refine g_move ?_); refine s_move hE rfl rfl ?_; clear hE a; intro a hE)
      | ((with_reducible refine g_bin .gtr ?_); refine s_gtr hE rfl rfl rfl ?_; clear hE a; intro a hE)
      | ((with_reducible refine g_blt .len ?_); refine s_len hE rfl rfl ?_; clear hE a; intro a hE)
      | ((with_reducible refine g_cond ?_); refine c_dec hE rfl (fun hc => ?_) (fun hc => ?_) <;> try omega)
      )
    refine s_val hE rfl rfl rfl (r_toArr hE rfl (by omega)) ?_
    clear hE a; intro a hE
    refine s_loadA (ad := ad.add (64 * j)) (cs := bys (blk b j)) hE rfl hbk2 (by rw [bys_blk]; exact (hS.rdAt (k := 1) rfl).seg rfl (64 * j) 64) rfl ?_
    clear hE a; intro a hE
    refine s_litA (vs := bys (blk b j)) hE hS rfl hbk2 rfl rfl rfl ?_
    clear hE a hS; intro gl a w hE hS
    refine s_appendAt (k := 1) (size := 64) (bytes := 64) hE hS rfl rfl rfl (hS.rdAt (k := 0) rfl) hbk1 (bys_one _) (by omega) rfl rfl rfl rfl ?_
    clear hE a hS; intro A6 c6 a w hE hS
    simp only [List.set_cons_succ, List.set_cons_zero] at hS
    rw [bys_app, take_blk] at hS
    repeat' (first

      | (with_reducible refine c_region ?_)
      | (with_reducible refine wpList_nil ?_)
      | (with_reducible refine then_normal ?_)
      | (with_reducible refine block_normal ?_)
      | ((with_reducible refine g_move ?_); refine s_move hE rfl rfl ?_; clear hE a; intro a hE)
      | ((with_reducible refine g_assign ?_); refine s_assign hE rfl rfl ?_; clear hE a; intro a hE)
      | ((with_reducible refine g_sliceL ?_); refine s_val hE rfl rfl rfl (r_cutL hE rfl rfl (by omega)) ?_; clear hE a; intro a hE)
      )
    rw [show 256 - 64 * j - Int.toNat 64 = 256 - 64 * (j + 1) from by show 256 - 64 * j - 64 = _; omega, show c - 64 * j - Int.toNat 64 = c - 64 * (j + 1) from by show c - 64 * j - 64 = _; omega] at hE
    refine ⟨q - 1, by omega, j + 1, _, A6, c6, by omega, fun hj2 => ?_, hS.tail, hE.sub ⟨rfl, rfl, rfl, trivial⟩⟩
    rw [if_neg (by show ¬ c - 64 * j = 64; omega)]
    show some ((ad.add (64 * j)).add (64 * 1)) = _
    rw [add_add]
    rfl
  · obtain rfl : j = 4 := by omega
    rw [show 64 * 4 = 256 from rfl, List.take_of_length_le (by omega)] at hS
    repeat' (first

      | (with_reducible refine wp_seq ?_)
      | (with_reducible refine c_region ?_)
      | (with_reducible refine wpList_nil ?_)
      | (with_reducible refine then_normal ?_)
      | (with_reducible refine wp_ret ?_)
      | (with_reducible refine wp_exit ?_)
      | (with_reducible refine then_exit ?_)
      | (with_reducible refine block_same ?_)
      | ((with_reducible refine g_move ?_); refine s_move hE rfl rfl ?_; clear hE a; intro a hE)
      | ((with_reducible refine g_assign ?_); refine s_assign hE rfl rfl ?_; clear hE a; intro a hE)
      | ((with_reducible refine g_bin .gtr ?_); refine s_gtr hE rfl rfl rfl ?_; clear hE a; intro a hE)
      | ((with_reducible refine g_blt .len ?_); refine s_len hE rfl rfl ?_; clear hE a; intro a hE)
      | ((with_reducible refine g_cond ?_); refine c_false hE rfl ?_)
      )
    exact ret2 hE rfl rfl rfl ⟨A', c', rfl, hS.only 0 rfl⟩
theorem rsectors (p : Pg) (hp : p.wf) (hr : p.rd w0) (h : p.m.right = true) :
    Fn Try.prog 21 [.agg p.cells.toArray] w0 fun v w' => ∃ A c, v = .slice A 4 c ∧ St w0 w' [hRow 39 64 A 4 c (bys p.m.enc)] := by
  have hri := (right_iff p.m).1 h
  have hcl : p.cells.length = 6 := by simp [hp.s4]
  have hel : p.m.enc.length = 256 := enc_len hp.ok.s4 hri.2
  refine enter 25 Try.func21 rfl rfl rfl ?_
  intro a hE
  have hS := St.start w0
  repeat' (first

    | (with_reducible refine wp_seq ?_)
    | (with_reducible refine c_region ?_)
    | (with_reducible refine wpList_nil ?_)
    | (with_reducible refine then_normal ?_)
    | ((with_reducible refine g_assign ?_); refine s_assign hE rfl rfl ?_; clear hE a; intro a hE)
    | ((with_reducible refine g_box ?_); refine s_boxS hE hS rfl rfl ?_; clear hE a hS; intro g a w hE hS)
    | ((with_reducible refine g_load ?_); (first | (refine s_loadW (k := 0) hS hE rfl rfl (by first | assumption ) rfl ?_) ); clear hE a; intro a hE)
    )
  refine s_call hE rfl rfl rfl (rbytes p hp (hr.st hS) h) ?_
  rintro _ w ⟨A, c, rfl, hS1⟩; clear hE a; intro a hE; replace hS := hS.frame hS1; clear hS1; try simp only [List.cons_append, List.nil_append] at hS
  generalize p.m.enc = b at hS hel ⊢
  have hbl : (bys b).length = 256 := by rw [bys_length]; exact hel
  obtain ⟨_, hcap, _⟩ := hS.lenAt (k := 0) rfl
  repeat' (first

    | (with_reducible refine wp_seq ?_)
    | (with_reducible refine c_region ?_)
    | (with_reducible refine wpList_nil ?_)
    | (with_reducible refine then_normal ?_)
    | ((with_reducible refine g_assign ?_); refine s_assign hE rfl rfl ?_; clear hE a; intro a hE)
    )
  refine s_make hE hS rfl rfl (by decide) (by decide) (by decide) (by decide) rfl ?_
  clear hE a hS; intro gs a w hE hS
  have emk : ((madeCells (Value.agg (List.replicate 64 (Value.int .u8 0)).toArray).cells ((4 : Int).toNat * 64)).toList.take ((4 : Int).toNat * 64)) = bys (b.take (64 * 0) ++ List.replicate (256 - 64 * 0) 0) := by
    have h1 := made_rep 4 63 (Value.int .u8 0) (Value.agg (List.replicate 64 (Value.int .u8 0)).toArray).cells rfl
    refine h1.trans ?_
    show List.replicate 256 (Value.int .u8 0) = bys ([] ++ List.replicate 256 0)
    rw [List.nil_append]
    unfold bys
    rw [List.map_replicate]
    rfl
  rw [emk] at hS
  have hS2 : St w0 w [hRow 39 64 (some ⟨gs, 0, none⟩) 4 4 (bys (b.take (64 * 0) ++ List.replicate (256 - 64 * 0) 0)), hRow 5 1 A 256 c (bys b)] := hS.keep2
  clear hS; have hS := hS2; clear hS2
  repeat' (first

    | (with_reducible refine wp_seq ?_)
    | (with_reducible refine c_region ?_)
    | (with_reducible refine wpList_nil ?_)
    | (with_reducible refine then_normal ?_)
    | (with_reducible refine wp_block ?_)
    | ((with_reducible refine g_move ?_); refine s_move hE rfl rfl ?_; clear hE a; intro a hE)
    | ((with_reducible refine g_assign ?_); refine s_assign hE rfl rfl ?_; clear hE a; intro a hE)
    | ((with_reducible refine g_blt .len ?_); refine s_len hE rfl rfl ?_; clear hE a; intro a hE)
    )
  refine wp_loop_ghost (fun q a w => ∃ (j : Nat), j + q = 4 ∧ St w0 w [hRow 39 64 (some ⟨gs, 0, none⟩) 4 4 (bys (b.take (64 * j) ++ List.replicate (256 - 64 * j) 0)), hRow 5 1 A 256 c (bys b)] ∧ Env 25 [(10, .int .i64 4), (11, .int .i64 (j : Int)), (3, .slice A 256 c), (4, .slice (some ⟨gs, 0, none⟩) 4 4)] a) 4 ⟨0, by omega, hS, hE.sub ⟨rfl, rfl, rfl, rfl, trivial⟩⟩ ?_
  clear hE a hS
  rintro q a w ⟨j, hj, hS, hE⟩
  by_cases hj1 : j < 4
  · have hblk := blk_len (b := b) (j := j) (by omega)
    have hll : (bys (b.take (64 * j) ++ List.replicate (256 - 64 * j) 0)).length = 256 := by rw [bys_length, List.length_append, List.length_take, List.length_replicate]; omega
    repeat' (first

      | (with_reducible refine wp_seq ?_)
      | (with_reducible refine c_region ?_)
      | (with_reducible refine wpList_nil ?_)
      | (with_reducible refine then_normal ?_)
      | (with_reducible refine wp_skip ?_)
      | (with_reducible refine wp_block ?_)
      | ((with_reducible refine g_move ?_); refine s_move hE rfl rfl ?_; clear hE a; intro a hE)
      | ((with_reducible refine g_assign ?_); refine s_assign hE rfl rfl ?_; clear hE a; intro a hE)
      | ((with_reducible refine g_bin .lss ?_); refine s_lss hE rfl rfl rfl ?_; clear hE a; intro a hE)
      | ((with_reducible refine g_cond ?_); refine c_dec hE rfl (fun hc => ?_) (fun hc => ?_) <;> try omega)
      )
    refine c_ordH [] hS (fun u hu => hu.nil) 9 ((.rd 0 (.rd 1 (.rd 2 (.rd 3 (.rd 4 (.rd 5 (.rd 6 (.rd 7 (.ef 8 .done)))))))))) mixed (by decide +kernel) ?_
    clear hS; intro w hF hS
    repeat' (first
      | (with_reducible refine o_rd rfl ?_)
      | ((with_reducible refine q_move ?_); refine d_val hE hS rfl (fun w hS => r_move hE rfl) ?_; clear hE a; intro a hE)
      )
    refine d_val hE hS rfl (fun w hS => r_idx hE rfl rfl (by omega) (by omega) rfl) ?_
    clear hE a; intro a hE
    repeat' (first
      | (with_reducible refine o_rd rfl ?_)
      )
    refine d_val hE hS rfl (fun w hS => r_sliceAR hE rfl rfl) ?_
    clear hE a; intro a hE
    repeat' (first
      | (with_reducible refine o_rd rfl ?_)
      | ((with_reducible refine q_move ?_); refine d_val hE hS rfl (fun w hS => r_move hE rfl) ?_; clear hE a; intro a hE)
      | ((with_reducible refine q_bin .mul ?_); refine d_val hE hS rfl (fun w hS => r_mul hE rfl rfl (by first  | exact wrap64_in (by omega) )) ?_; clear hE a; intro a hE)
      | ((with_reducible refine q_sliceL ?_); refine d_val hE hS rfl (fun w hS => r_cutL hE rfl rfl (by omega)) ?_; clear hE a; intro a hE)
      | ((with_reducible refine o_ef rfl ?_))
      )
    have e1 : ((64 : Int) * (j : Int)).toNat = 64 * j := by omega
    rw [e1, Nat.mul_one] at hE
    have hbk : (bys (blk b j)).length = 64 := by rw [bys_length]; exact hblk
    have hrb : Rd w (if c = 64 * j then A else A.map (·.add (64 * j))) (bys (blk b j)) := by
      rw [bys_blk]
      exact ((hF.rdAt (k := 1) rfl).cut (c := c) (l := 64 * j) (by rw [bys_length]; omega) (64 * j) rfl).take 64
    refine s_copy (k := 0) (o := j * 64) (ad := ⟨gs, 0, none⟩) (news := bys (blk b j)) hE hF rfl rfl rfl rfl (fun _ => rfl) hrb (by rw [hbk]; show 64 = min (256 - 64 * j) 64 * 1; rw [Nat.min_eq_right (by omega)]) rfl (by rw [hbk, hll]; omega) (bys_one _) rfl ?_
    clear hE hF a; intro a w hE hF
    simp only [List.set_cons_zero] at hF
    rw [splice_bys, Nat.mul_comm j 64, splice_blk hel hj1] at hF
    refine wpList_nil ?_
    refine o_back _ (fun _ h => h) hF.nil ?_
    clear hS; have hS := hF; clear hF
    refine o_done ?_
    repeat' (first

      | (with_reducible refine c_region ?_)
      | (with_reducible refine wpList_nil ?_)
      | (with_reducible refine then_normal ?_)
      | (with_reducible refine block_normal ?_)
      | ((with_reducible refine g_move ?_); refine s_move hE rfl rfl ?_; clear hE a; intro a hE)
      | ((with_reducible refine g_bin .add ?_); refine s_add hE rfl rfl rfl (by first  | exact wrap64_in (by omega) ) ?_; clear hE a; intro a hE)
      )
    exact ⟨q - 1, by omega, j + 1, by omega, hS, hE.sub ⟨rfl, rfl, rfl, rfl, trivial⟩⟩
  · obtain rfl : j = 4 := by omega
    rw [show 64 * 4 = 256 from rfl, List.take_of_length_le (by omega), Nat.sub_self, List.replicate_zero, List.append_nil] at hS
    repeat' (first

      | (with_reducible refine wp_seq ?_)
      | (with_reducible refine c_region ?_)
      | (with_reducible refine wpList_nil ?_)
      | (with_reducible refine then_normal ?_)
      | (with_reducible refine wp_ret ?_)
      | (with_reducible refine wp_exit ?_)
      | (with_reducible refine then_exit ?_)
      | (with_reducible refine block_same ?_)
      | ((with_reducible refine g_move ?_); refine s_move hE rfl rfl ?_; clear hE a; intro a hE)
      | ((with_reducible refine g_assign ?_); refine s_assign hE rfl rfl ?_; clear hE a; intro a hE)
      | ((with_reducible refine g_bin .lss ?_); refine s_lss hE rfl rfl rfl ?_; clear hE a; intro a hE)
      | ((with_reducible refine g_cond ?_); refine c_false hE rfl ?_)
      )
    exact ret1 hE rfl rfl ⟨_, _, rfl, hS.only 0 rfl⟩
end
end Go.Proofs.Ytmdfhhmnlplagaa
