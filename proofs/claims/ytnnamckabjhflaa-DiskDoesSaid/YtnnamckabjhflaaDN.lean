/-
  Each sector holds what was written last.
-/
import Derived.Test.YtnnamckabjhflaaDL
namespace Go.Proofs.Ytnnamckabjhflaa
open Go.RowKit
set_option linter.unusedVariables false
set_option linter.unusedSimpArgs false
attribute [local irreducible] Rd hRow hBlk hRd hAll Fn hMarks
attribute [local simp] Wr.cells Opn.cells

theorem lastV_snoc (l : List Opn) (o : Opn) : lastV (l ++ [o]) = stepV (lastV l) o := by unfold lastV; rw [List.foldl_append]; rfl
theorem lastV_len (l : List Opn) : (lastV l).length = 6 := by
  have key : ∀ (l : List Opn) (v : List Blk), (l.foldl stepV v).length = v.length := by
    intro l
    induction l with
    | nil => intro v; rfl
    | cons o l ih => intro v; rw [List.foldl_cons, ih, stepV_len]
  exact key l _
theorem lastV_ok {l : List Opn} (hl : l.length ≤ 120) (hw : ∀ o ∈ l, o.wf) : ∀ b ∈ lastV l, Blk.ok b := by
  have key : ∀ (l : List Opn) (v : List Blk), (∀ o ∈ l, o.wf) → (∀ b ∈ v, Blk.ok b) → ∀ b ∈ l.foldl stepV v, Blk.ok b := by
    intro l
    induction l with
    | nil => intro v _ h; exact h
    | cons o l ih =>
      intro v hw h
      rw [List.foldl_cons]
      refine ih _ (fun x hx => hw x (by simp [hx])) ?_
      unfold stepV
      split
      · intro b hb
        rcases List.mem_or_eq_of_mem_set hb with h1 | h1
        · exact h b h1
        · subst h1; exact blkB_ok (hw o (by simp)).fill
      · exact h
  exact key l _ hw fun b hb => by rw [List.eq_of_mem_replicate hb]; exact noughts_ok
section
variable {H : List HP} {w0 w : World}
set_option maxHeartbeats 8000000
theorem law_DiskLast (y : LT) (w0 : World) (h : y.ok w0) : Fn Try.prog 3 [.slice y.1 y.2.2.length y.2.1] w0 fun v w' => v = .bool true ∧ St w0 w' [] := by
  rw [← LT.len]
  have hr := LT.rd h
  have hall := LT.all h
  obtain ⟨hcap, hbig⟩ := LT.cap h
  generalize y.opns = l at hr hall hcap hbig
  generalize y.1 = A at hr
  generalize y.2.1 = c at hcap
  refine enter 56 Try.func3 rfl rfl rfl ?_
  intro a hE
  have hS := St.start w0
  repeat' (first

    | (with_reducible refine wp_seq ?_)
    | (with_reducible refine c_region ?_)
    | (with_reducible refine wpList_nil ?_)
    | (with_reducible refine then_normal ?_)
    | ((with_reducible refine g_assign ?_); refine s_assign hE rfl rfl ?_; clear hE a; intro a hE)
    )
  refine s_call hE rfl rfl rfl (wakes w0) ?_
  rintro _ w ⟨rfl, hS1⟩; clear hE a; intro a hE; replace hS := hS.frame hS1; clear hS1; try simp only [List.cons_append, List.nil_append] at hS
  repeat' (first

    | (with_reducible refine wp_seq ?_)
    | (with_reducible refine c_region ?_)
    | (with_reducible refine wpList_nil ?_)
    | (with_reducible refine then_normal ?_)
    | (with_reducible refine wp_skip ?_)
    | ((with_reducible refine g_move ?_); refine s_move hE rfl rfl ?_; clear hE a; intro a hE)
    | ((with_reducible refine g_un .not ?_); refine s_notb hE rfl rfl ?_; clear hE a; intro a hE)
    | ((with_reducible refine g_cond ?_); refine c_false hE rfl ?_)
    )
  refine s_call hE rfl rfl rfl (worn A _ 0 c l w (hr.st hS) rfl hcap hbig fun o ho => ⟨(hall o ho).1, Rd.st (hall o ho).2 hS⟩) ?_
  rintro _ w ⟨gd, Sd, cd, Qd, dd, rfl, hS1⟩; clear hE a; intro a hE; replace hS := hS.frame hS1; clear hS1; try simp only [List.cons_append, List.nil_append] at hS
  have hlt : (l.take 120).length = min l.length 120 := by rw [List.length_take, Nat.min_comm]
  have hl2 : (l.take 120).length ≤ 120 := by rw [hlt]; omega
  have hall2 : ∀ o ∈ l.take 120, o.wf ∧ o.rd w0 := fun o ho => hall o (List.mem_of_mem_take ho)
  have hr2 := opn_take 120 hr
  obtain ⟨hfit, hvec, hlen⟩ := worn_fits hl2 fun o ho => (hall2 o ho).1
  generalize (DM.fresh 6).wear (l.take 120) = D at hS hfit hvec hlen
  repeat' (first

    | (with_reducible refine wp_seq ?_)
    | (with_reducible refine c_region ?_)
    | (with_reducible refine wpList_nil ?_)
    | (with_reducible refine then_normal ?_)
    | (with_reducible refine wp_skip ?_)
    | ((with_reducible refine g_move ?_); refine s_move hE rfl rfl ?_; clear hE a; intro a hE)
    | ((with_reducible refine g_assign ?_); refine s_assign hE rfl rfl ?_; clear hE a; intro a hE)
    | ((with_reducible refine g_cond ?_); refine c_false hE rfl ?_)
    | ((with_reducible refine g_bin .eql ?_); refine s_val hE rfl rfl rfl (r_eqp hE rfl rfl) ?_; clear hE a; intro a hE)
    | ((with_reducible refine g_alloc ?_); refine s_allocS hE hS rfl rfl ?_; clear hE a hS; intro g a w hE hS)
    )
  refine s_call hE rfl rfl rfl (few A l.length c w hcap hbig) ?_
  rintro _ w ⟨rfl, hS1⟩; clear hE a; intro a hE; replace hS := hS.frame hS1; clear hS1; try simp only [List.cons_append, List.nil_append] at hS
  rw [← hlt] at hE
  generalize l.take 120 = l2 at hE hr2 hall2 hl2 hfit hvec
  have hfl : (l2.flatMap Opn.cells).length = l2.length * 4 := flat_len (opn_len l2)
  obtain ⟨gl, rfl⟩ : ∃ x, x = g := ⟨g, rfl⟩
  have e384 : (List.replicate 384 (Value.int .u8 0)) = (lastV []).flatMap bys := (flat_noughts 6).symm
  rw [e384] at hS
  repeat' (first

    | (with_reducible refine wpList_nil ?_)
    | (with_reducible refine then_normal ?_)
    | (with_reducible refine wp_block ?_)
    | ((with_reducible refine g_move ?_); refine s_move hE rfl rfl ?_; clear hE a; intro a hE)
    | ((with_reducible refine g_blt .len ?_); refine s_len hE rfl rfl ?_; clear hE a; intro a hE)
    )
  refine wp_loop_ghost (fun q a w => ∃ (k : Nat), k + q = l2.length ∧ St w0 w (hBlk gl 28 ((lastV (l2.take k)).flatMap bys) :: dk gd Sd cd Qd dd D []) ∧ Env 56 [(16, .slice A l2.length c), (17, .int .i64 (l2.length : Int)), (18, .int .i64 (k : Int)), (3, .pointer (some ⟨gd, 0, none⟩)), (4, .pointer (some ⟨gl, 0, none⟩))] a) l2.length ⟨0, by omega, hS, hE.sub ⟨rfl, rfl, rfl, rfl, rfl, trivial⟩⟩ ?_
  clear hE a hS
  rintro q a w ⟨k, hk, hS, hE⟩
  by_cases hk1 : k < l2.length
  · have hseg := flat_seg (c := Opn.cells) (size := 4) (l := l2) (opn_len l2) hk1
    have hok := hall2 _ (List.getElem_mem hk1)
    have hst := lastV_snoc (l2.take k) l2[k]
    rw [← List.take_succ_eq_append_getElem hk1] at hst
    have hvl := lastV_len (l2.take k)
    have hvo := lastV_ok (l := l2.take k) (by rw [List.length_take]; omega) fun o ho => (hall2 o (List.mem_of_mem_take ho)).1
    generalize lastV (l2.take k) = v at hS hst hvl hvo
    have hbo := blkB_ok hok.1.fill
    have hfv : (v.flatMap bys).length = v.length * 64 := flat_len (blk_len hvo)
    repeat' (first

      | (with_reducible refine wp_seq ?_)
      | (with_reducible refine c_region ?_)
      | (with_reducible refine wpList_nil ?_)
      | (with_reducible refine then_normal ?_)
      | (with_reducible refine wp_skip ?_)
      | (with_reducible refine wp_block ?_)
      | ((with_reducible refine g_bin .lss ?_); refine s_lss hE rfl rfl rfl ?_; clear hE a; intro a hE)
      | ((with_reducible refine g_cond ?_); refine c_dec hE rfl (fun hc => ?_) (fun hc => ?_) <;> try omega)
      | ((with_reducible refine g_ia ?_); refine s_idxR hE rfl rfl (by omega) (by omega) (by (first | exact Rd.st (by assumption) hS )) (by first | omega ) rfl ?_; clear hE a; intro a hE)
      | ((with_reducible refine g_alloc ?_); refine s_allocS hE hS rfl rfl ?_; clear hE a hS; intro g a w hE hS)
      | ((with_reducible refine g_load ?_); (first | (refine s_loadW (k := 0) hS hE rfl rfl rfl rfl ?_) ); clear hE a; intro a hE)
      | ((with_reducible refine g_store ?_); (first | (refine s_storeW (k := 0) hS hE rfl rfl rfl rfl rfl (by first | (simp [Value.oneCell']; done)) ?_) ); clear hS; intro w hS; simp only [List.set_cons_zero, List.set_cons_succ, Nat.add_zero] at hS)
      | ((with_reducible refine g_load ?_); refine s_elemR hE rfl (by (first | exact Rd.st (by assumption) hS )) (by first | exact hseg ) (by first | rfl ) (by rfl) rfl ?_; clear hE a; intro a hE))
    refine s_call hE rfl rfl rfl (kind l2[k] w) ?_
    rintro _ w ⟨rfl, hS1⟩; clear hE a; intro a hE; replace hS := hS.frame hS1; clear hS1; try simp only [List.cons_append, List.nil_append] at hS
    repeat' (first

      | (with_reducible refine c_region ?_)
      | (with_reducible refine wpList_nil ?_)
      | (with_reducible refine then_normal ?_)
      | (with_reducible refine wp_skip ?_)
      | (with_reducible refine block_normal ?_)
      | ((with_reducible refine g_move ?_); refine s_move hE rfl rfl ?_; clear hE a; intro a hE)
      | ((with_reducible refine g_bin .lss ?_); refine s_lss hE rfl rfl rfl ?_; clear hE a; intro a hE)
      | ((with_reducible refine g_bin .geq ?_); refine s_geq hE rfl rfl rfl ?_; clear hE a; intro a hE)
      | ((with_reducible refine g_bin .eql ?_); refine s_eql hE rfl rfl rfl ?_; clear hE a; intro a hE)
      | ((with_reducible refine g_bin .add ?_); refine s_add hE rfl rfl rfl (by first  | exact wrap64_in (by omega) ) ?_; clear hE a; intro a hE)
      | ((with_reducible refine g_fa ?_); refine s_fieldL hE rfl rfl rfl ?_; clear hE a; intro a hE)
      | ((with_reducible refine g_guard ?_); refine gd_yes hE rfl rfl rfl ?_)
      | ((with_reducible refine g_guard ?_); refine gd_no hE rfl rfl rfl rfl ?_; clear hE a; intro a hE)
      | ((with_reducible refine g_guard ?_); refine gd_dec hE rfl rfl (fun hc hE2 => ?_) (fun hc hE2 => ?_) <;> (try omega) <;> (replace hE := hE2; clear hE2))
      | ((with_reducible refine g_pick ?_); refine s_pickT hE rfl rfl rfl ?_; clear hE a; intro a hE)
      | ((with_reducible refine g_pick ?_); refine s_pickF hE rfl rfl rfl ?_; clear hE a; intro a hE)
      | ((with_reducible refine g_cond ?_); refine c_false hE rfl ?_)
      | ((with_reducible refine g_cond ?_); refine c_dec hE rfl (fun hc => ?_) (fun hc => ?_) <;> try omega)
      | ((with_reducible refine g_load ?_); (first | (refine s_loadB (k := 0) hS hE rfl rfl rfl rfl ?_) ); clear hE a; intro a hE)
      )
    · have est : stepV v l2[k] = v.set l2[k].at_.toNat (blkB l2[k].fill) := by unfold stepV; rw [if_pos ⟨by omega, by assumption, by omega⟩]
      refine c_ordK hS 0 rfl 5 ((.rd 0 (.rd 1 (.rd 2 (.rd 3 (.ef 4 (.lt 5 (.lt 6 .done)))))))) mixed (by decide +kernel) ?_
      clear hS; intro w hF hS
      repeat' (first
        | (with_reducible refine o_rd rfl ?_)
        | ((with_reducible refine q_fa ?_); refine d_val hE hS rfl (fun w hS => r_fieldL hE rfl rfl) ?_; clear hE a; intro a hE)
        | ((with_reducible refine q_load ?_); (first | (refine d_val hE hS rfl (fun w hS => r_loadB (k := 0) hS hE rfl rfl rfl) ?_) ); clear hE a; intro a hE)
        | ((with_reducible refine o_ef rfl ?_))
        )
      refine s_call hE rfl rfl rfl (block l2[k].fill hok.1.fill w) ?_
      rintro _ w ⟨rfl, hS1⟩; clear hE a; intro a hE; replace hF := hF.frame hS1; clear hS1; simp only [List.nil_append] at hF
      refine wpList_nil ?_
      refine o_back _ (fun _ h => h) (hF.only 0 rfl) ?_
      clear hS; have hS := hF; clear hF
      repeat' (first
        | ((with_reducible refine o_lt rfl ?_))
        )
      repeat' (first

        | (with_reducible refine wpList_nil ?_)
        | ((with_reducible refine g_ia ?_); refine s_val hE rfl rfl rfl (r_idxP hE rfl rfl (by omega) (by omega)) ?_; clear hE a; intro a hE)
        )
      refine o_backL ?_
      repeat' (first
        | ((with_reducible refine o_lt rfl ?_))
        )
      refine g_store ?_
      refine s_storeBs' (k := 1) ((v.set l2[k].at_.toNat (blkB l2[k].fill)).flatMap bys) hS hE rfl rfl rfl (by rw [Nat.zero_add]; exact splice_set hvo (by omega) hbo.1) (by rw [bys_length]; exact hbo.1) (by omega) (bys_one _) ?_
      clear hS; intro w hS; simp only [List.set_cons_zero, List.set_cons_succ] at hS
      repeat' (first

        | (with_reducible refine wpList_nil ?_)
        )
      refine o_backL ?_
      repeat' (first
        | (with_reducible refine o_done ?_)
        )
      repeat' (first

        | (with_reducible refine c_region ?_)
        | (with_reducible refine wpList_nil ?_)
        | (with_reducible refine then_normal ?_)
        | (with_reducible refine block_normal ?_)
        | ((with_reducible refine g_move ?_); refine s_move hE rfl rfl ?_; clear hE a; intro a hE)
        | ((with_reducible refine g_bin .add ?_); refine s_add hE rfl rfl rfl (by first  | exact wrap64_in (by omega) ) ?_; clear hE a; intro a hE)
        )
      exact ⟨q - 1, by omega, k + 1, by omega, by rw [hst, est]; exact hS.tail, hE.sub ⟨rfl, rfl, rfl, rfl, rfl, trivial⟩⟩
    all_goals
      have est : stepV v l2[k] = v := by unfold stepV; rw [if_neg (by omega)]
      exact ⟨q - 1, by omega, k + 1, by omega, by rw [hst, est]; exact hS.tail, hE.sub ⟨rfl, rfl, rfl, rfl, rfl, trivial⟩⟩
  · obtain rfl : k = l2.length := by omega
    rw [List.take_length] at hS
    have hvl := lastV_len l2
    have hvo := lastV_ok hl2 fun o ho => (hall2 o ho).1
    repeat' (first

      | (with_reducible refine wp_seq ?_)
      | (with_reducible refine c_region ?_)
      | (with_reducible refine wpList_nil ?_)
      | (with_reducible refine then_normal ?_)
      | (with_reducible refine wp_exit ?_)
      | (with_reducible refine then_exit ?_)
      | (with_reducible refine block_same ?_)
      | ((with_reducible refine g_move ?_); refine s_move hE rfl rfl ?_; clear hE a; intro a hE)
      | ((with_reducible refine g_bin .lss ?_); refine s_lss hE rfl rfl rfl ?_; clear hE a; intro a hE)
      | ((with_reducible refine g_cond ?_); refine c_dec hE rfl (fun hc => ?_) (fun hc => ?_) <;> try omega)
      )
    refine s_call hE rfl rfl rfl (held hfit.at_ (by omega) (front1 hS)) ?_
    rintro _ w ⟨A3, c3, rfl, hS⟩; clear hE a; intro a hE
    rw [hold_vec hfit.lv, hvec, hlen] at hS
    rw [hlen] at hE
    dsimp only at hS
    generalize lastV l2 = v at hS hvl hvo hvec
    have hfv : (v.flatMap bys).length = v.length * 64 := flat_len (blk_len hvo)
    repeat' (first

      | (with_reducible refine wpList_nil ?_)
      | (with_reducible refine then_normal ?_)
      | (with_reducible refine wp_block ?_)
      | ((with_reducible refine g_move ?_); refine s_move hE rfl rfl ?_; clear hE a; intro a hE)
      | ((with_reducible refine g_blt .len ?_); refine s_len hE rfl rfl ?_; clear hE a; intro a hE)
      )
    refine wp_loop_ghost (fun q a w => ∃ (k : Nat), k + q = 6 ∧ St w0 w (hRow 27 64 A3 6 c3 (v.flatMap bys) :: hBlk gl 28 (v.flatMap bys) :: []) ∧ Env 56 [(43, .slice A3 6 c3), (44, .int .i64 6), (45, .int .i64 (k : Int)), (4, .pointer (some ⟨gl, 0, none⟩))] a) 6 ⟨0, by omega, ((hS.drop 1).drop 1).drop 1, hE.sub ⟨rfl, rfl, rfl, rfl, trivial⟩⟩ ?_
    clear hE a hS
    rintro q a w ⟨k, hk, hS, hE⟩
    by_cases hk1 : k < 6
    · have hkv : k < v.length := by omega
      have hseg := flat_seg (c := bys) (size := 64) (l := v) (blk_len hvo) hkv
      have hseg2 : ((v.flatMap bys).drop (0 + (k : Int).toNat * 64)).take 64 = bys v[k] := by rw [Nat.zero_add, Int.toNat_natCast]; exact hseg
      have hbl := blk_len hvo _ (List.getElem_mem hkv)
      have hbl2 := (hvo _ (List.getElem_mem hkv)).1
      repeat' (first

        | (with_reducible refine wp_seq ?_)
        | (with_reducible refine c_region ?_)
        | (with_reducible refine wpList_nil ?_)
        | (with_reducible refine then_normal ?_)
        | (with_reducible refine wp_skip ?_)
        | (with_reducible refine wp_block ?_)
        | ((with_reducible refine g_move ?_); refine s_move hE rfl rfl ?_; clear hE a; intro a hE)
        | ((with_reducible refine g_assign ?_); refine s_assign hE rfl rfl ?_; clear hE a; intro a hE)
        | ((with_reducible refine g_bin .lss ?_); refine s_lss hE rfl rfl rfl ?_; clear hE a; intro a hE)
        | ((with_reducible refine g_cond ?_); refine c_dec hE rfl (fun hc => ?_) (fun hc => ?_) <;> try omega)
        | ((with_reducible refine g_ia ?_); refine s_idxR hE rfl rfl (by omega) (by omega) (by (first | exact hS.rd )) (by first | omega ) rfl ?_; clear hE a; intro a hE)
        | ((with_reducible refine g_alloc ?_); refine s_allocS hE hS rfl rfl ?_; clear hE a hS; intro g a w hE hS)
        | ((with_reducible refine g_store ?_); (first | (refine s_storeW (k := 0) hS hE rfl rfl rfl (by assumption) (by first | rfl ) (by first | exact bys_one _ ) ?_) ); clear hS; intro w hS; simp only [List.set_cons_zero, List.set_cons_succ, Nat.add_zero] at hS)
        | ((with_reducible refine g_load ?_); refine s_elemR hE rfl (by (first | exact hS.rd )) (by first | exact hseg ) (by first | assumption) (by rfl) rfl ?_; clear hE a; intro a hE))
      refine c_ordS hS 5 ((.rd 0 (.rd 1 (.rd 2 (.rd 3 (.rd 4 .done)))))) mixed (by decide +kernel) ?_
      clear hS; intro w hS
      repeat' (first
        | (with_reducible refine o_rd rfl ?_)
        | (with_reducible refine o_done ?_)
        | ((with_reducible refine q_move ?_); refine d_val hE hS rfl (fun w hS => r_move hE rfl) ?_; clear hE a; intro a hE)
        | ((with_reducible refine q_ia ?_); refine d_val hE hS rfl (fun w hS => r_idxP hE rfl rfl (by omega) (by omega)) ?_; clear hE a; intro a hE)
        | ((with_reducible refine q_bin .neq ?_); refine d_val hE hS rfl (fun w hS => r_neS hE rfl rfl (by first | assumption )) ?_; clear hE a; intro a hE)
        | ((with_reducible refine q_load ?_); (first | (refine d_val hE hS rfl (fun w hS => r_loadW (k := 0) hS hE rfl rfl (by assumption)) ?_) ); clear hE a; intro a hE)
        | ((with_reducible refine q_load ?_); (first | (refine d_val hE hS rfl (fun w hS => r_loadBs (k := 2) hS hE rfl rfl (by first | exact hseg2) (by omega)) ?_) ); clear hE a; intro a hE)
        )
      repeat' (first

        | (with_reducible refine c_region ?_)
        | (with_reducible refine wpList_nil ?_)
        | (with_reducible refine then_normal ?_)
        | (with_reducible refine wp_skip ?_)
        | (with_reducible refine block_normal ?_)
        | ((with_reducible refine g_move ?_); refine s_move hE rfl rfl ?_; clear hE a; intro a hE)
        | ((with_reducible refine g_bin .add ?_); refine s_add hE rfl rfl rfl (by first  | exact wrap64_in (by omega) ) ?_; clear hE a; intro a hE)
        | ((with_reducible refine g_cond ?_); refine c_false hE rfl ?_)
        )
      exact ⟨q - 1, by omega, k + 1, by omega, hS.tail, hE.sub ⟨rfl, rfl, rfl, rfl, trivial⟩⟩
    · obtain rfl : k = 6 := by omega
      repeat' (first

        | (with_reducible refine wp_seq ?_)
        | (with_reducible refine c_region ?_)
        | (with_reducible refine wpList_nil ?_)
        | (with_reducible refine then_normal ?_)
        | (with_reducible refine wp_ret ?_)
        | (with_reducible refine wp_exit ?_)
        | (with_reducible refine then_exit ?_)
        | (with_reducible refine block_same ?_)
        | ((with_reducible refine g_assign ?_); refine s_assign hE rfl rfl ?_; clear hE a; intro a hE)
        | ((with_reducible refine g_bin .lss ?_); refine s_lss hE rfl rfl rfl ?_; clear hE a; intro a hE)
        | ((with_reducible refine g_cond ?_); refine c_false hE rfl ?_)
        )
      exact ret1 hE rfl rfl ⟨rfl, hS.nil⟩
end
end Go.Proofs.Ytnnamckabjhflaa
