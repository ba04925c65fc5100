/-
  A pair of disks and logs does one step alike.
-/
import Derived.Test.YtfoeelghehjanaaYL
namespace Go.Proofs.Ytfoeelghehjanaa
open Go.RowKit
set_option linter.unusedVariables false
set_option linter.unusedSimpArgs false
attribute [local irreducible] Rd hRow hBlk hRd hRdr wrP hDk hWl hMl Fn FnD hMarks
theorem arm_slen (D : DM) (n : Int) : (D.arm n).1.safe.length = D.safe.length := by unfold DM.arm; split <;> rfl
theorem fail_slen (D : DM) (n : Int) : (D.fail n).1.safe.length = D.safe.length := by unfold DM.fail; split <;> rfl
theorem crash_slen (D : DM) (keep : List Bool) : (D.crash keep).safe.length = D.safe.length := lay_length _ _ _ _
theorem opc_one (o : WOp) : ∀ v ∈ o.cells, v.oneCell' = true := by
  intro v hv
  unfold WOp.cells at hv
  simp only [List.mem_cons, List.not_mem_nil, or_false] at hv
  rcases hv with rfl | rfl | rfl | rfl <;> rfl
theorem opc_four (o : WOp) : o.cells.length = 4 := rfl
section
variable {H : List HP} {w0 w : World} {D : DM} {W : WM} {m gp gd gf gw gm : Nat}
set_option maxHeartbeats 16000000
set_option maxRecDepth 20000
theorem pdoes (o : WOp) (how : o.wf) (hW : W.ok) (hD : D.atN m) (hm : m ≤ 60000) (hl : D.safe.length ≤ 50) (hkr : Rd w0 o.K (o.keep.map .bool)) (hS : St w0 w (hBlk gp 77 [.pointer (some ⟨gd, 0, none⟩), .pointer (some ⟨gf, 0, none⟩), .pointer (some ⟨gw, 0, none⟩), .pointer (some ⟨gm, 0, none⟩)] :: hWl gw gd W :: hMl gm gf W :: hDk gd D :: hDk gf D :: H)) :
    Fn Try.prog 44 [.pointer (some ⟨gp, 0, none⟩), .agg o.cells.toArray] w fun v w' => v = .bool true ∧ ∃ gw gm W D', W.ok ∧ D'.atN (m + 60) ∧ D'.safe.length = D.safe.length ∧
      St w0 w' (hBlk gp 77 [.pointer (some ⟨gd, 0, none⟩), .pointer (some ⟨gf, 0, none⟩), .pointer (some ⟨gw, 0, none⟩), .pointer (some ⟨gm, 0, none⟩)] :: hWl gw gd W :: hMl gm gf W :: hDk gd D' :: hDk gf D' :: H) := by
  have hk30 : (IntKind.u64.wrap o.n).tmod 30 = ((o.u % 30 : Nat) : Int) := u64_rem o.n 30 (by decide)
  have hklt : o.u % 30 < 30 := Nat.mod_lt _ (by decide)
  generalize o.u % 30 = r at hk30 hklt
  have e1 : IntKind.i64.wrap ((r : Nat) : Int) = (r : Int) := wrap64_in (by omega)
  have hob := o.b_bs
  have hol := o.b_lt
  have hsn := secN_pos (n := o.b.length) (by omega)
  have hvl := opc_four o
  have hone := opc_one o
  have hkl := how.kl
  have ho4 : o.cells = [.int .i64 o.kind, .int .i64 o.n, .int .u8 (o.fill : Int), .slice o.K o.keep.length o.kc] := rfl
  refine enter 149 Try.func44 rfl rfl rfl ?_
  intro a hE
  repeat' (first
 | (with_reducible refine wp_seq ?_)
 | (with_reducible refine c_region ?_)
 | (with_reducible refine wpList_nil ?_)
 | (with_reducible refine then_normal ?_)
 | ((with_reducible refine g_assign ?_); refine s_assign hE rfl rfl ?_; clear hE a; intro a hE)
 | ((with_reducible refine g_box ?_); refine s_boxS hE hS rfl rfl ?_; clear hE a hS; intro g a w hE hS)
 | ((with_reducible refine g_load ?_); (first | (refine s_loadW (k := 0) hS hE rfl rfl rfl rfl ?_) ); clear hE a; intro a hE))
  obtain ⟨g3, rfl⟩ : ∃ x, x = g := ⟨_, rfl⟩
  refine s_call hE rfl rfl rfl (kind o w) ?_
  rintro _ w ⟨rfl, hS1⟩; clear hE a; intro a hE; replace hS := hS.frame hS1; clear hS1; try simp only [List.cons_append, List.nil_append] at hS
  have hS2 : St w0 w (hBlk gp 77 [.pointer (some ⟨gd, 0, none⟩), .pointer (some ⟨gf, 0, none⟩), .pointer (some ⟨gw, 0, none⟩), .pointer (some ⟨gm, 0, none⟩)] :: hBlk g3 33 o.cells :: hWl gw gd W :: hMl gm gf W :: hDk gd D :: hDk gf D :: H) := (St.selD [1, 0, 0, 0, 0, 0] 0 hS)
  clear hS; have hS := hS2; clear hS2
  by_cases hk0 : o.k = 0
  · rw [hk0] at hE
    repeat' (first
 | (with_reducible refine wp_seq ?_)
 | (with_reducible refine c_region ?_)
 | (with_reducible refine wpList_nil ?_)
 | (with_reducible refine then_normal ?_)
 | (with_reducible refine wp_block ?_)
 | ((with_reducible refine g_assign ?_); refine s_assign hE rfl rfl ?_; clear hE a; intro a hE)
 | ((with_reducible refine g_bin .eql ?_); refine s_eql hE rfl rfl rfl ?_; clear hE a; intro a hE)
 | ((with_reducible refine g_cond ?_); refine c_true hE rfl ?_)
 | ((with_reducible refine g_load ?_); (first | (refine s_loadW (k := 1) hS hE rfl rfl rfl rfl ?_) ); clear hE a; intro a hE))
    refine s_call hE rfl rfl rfl (obytes o how w) ?_
    rintro _ w ⟨A5, c5, rfl, hS1⟩; clear hE a; intro a hE; replace hS := hS.frame hS1; clear hS1; try simp only [List.cons_append, List.nil_append] at hS
    repeat' (first
 | (with_reducible refine wp_seq ?_)
 | (with_reducible refine wpList_nil ?_)
 | (with_reducible refine then_normal ?_)
 | ((with_reducible refine g_assign ?_); refine s_assign hE rfl rfl ?_; clear hE a; intro a hE))
    have hS2 : St w0 w (hBlk gp 77 [.pointer (some ⟨gd, 0, none⟩), .pointer (some ⟨gf, 0, none⟩), .pointer (some ⟨gw, 0, none⟩), .pointer (some ⟨gm, 0, none⟩)] :: hBlk g3 33 o.cells :: hRow 5 1 A5 o.b.length c5 (bys o.b) :: hMl gm gf W :: hDk gf D :: hWl gw gd W :: hDk gd D :: H) := (St.selD [1, 1, 0, 1, 2, 0, 0] 0 hS)
    clear hS; have hS := hS2; clear hS2
    refine c_ordH [hBlk gp 77 [.pointer (some ⟨gd, 0, none⟩), .pointer (some ⟨gf, 0, none⟩), .pointer (some ⟨gw, 0, none⟩), .pointer (some ⟨gm, 0, none⟩)], hBlk g3 33 o.cells] hS (fun u hu => hu.keep2) 14 ((.rd 0 (.rd 1 (.rd 2 (.rd 3 (.rd 4 (.rd 6 (.rd 7 (.rd 8 (.rd 9 (.rd 10 (.ef 5 (.ef 11 (.ef 12 (.rd 13 (.lt 14 .done)))))))))))))))) mixed (by decide +kernel) ?_
    clear hS; intro w hF hS
    repeat' (first
 | (with_reducible refine o_rd rfl ?_)
 | ((with_reducible refine q_move ?_); refine d_val hE hS rfl (fun w hS => r_move hE rfl) ?_; clear hE a; intro a hE)
 | ((with_reducible refine q_fa ?_); refine d_val hE hS rfl (fun w hS => r_fieldL hE rfl rfl) ?_; clear hE a; intro a hE)
 | ((with_reducible refine q_nc ?_); refine d_val hE hS rfl (fun w hS => r_nilCheck hE rfl) ?_; clear hE a; intro a hE)
 | ((with_reducible refine q_load ?_); (first | (refine d_val hE hS rfl (fun w hS => r_loadB (k := 0) hS hE rfl rfl rfl) ?_) ); clear hE a; intro a hE)
 | ((with_reducible refine q_load ?_); (first | (refine d_val hE hS rfl (fun w hS => r_loadW (k := 1) hS hE rfl rfl rfl) ?_) ); clear hE a; intro a hE)
 | ((with_reducible refine o_ef rfl ?_)))
    have hap := kapp (w0 := w0) (w := w) (H := hRow 5 1 A5 o.b.length c5 (bys o.b) :: hBlk gp 77 [.pointer (some ⟨gd, 0, none⟩), .pointer (some ⟨gf, 0, none⟩), .pointer (some ⟨gw, 0, none⟩), .pointer (some ⟨gm, 0, none⟩)] :: hBlk g3 33 o.cells :: hMl gm gf W :: hDk gf D :: H) gw gd W D o.b A5 c5 hW hob (by omega) (fun w' L h => (h.perm (List.perm_append_comm (l₁ := L))).rd) hD (by omega) (St.selD [5, 5, 2, 0, 0, 0, 0] 0 hF)
    refine s_call hE rfl rfl rfl hap ?_
    clear hap
    rintro _ w ⟨rfl, hF⟩; clear hE a; intro a hE
    have hF2 : St w0 w (hBlk gp 77 [.pointer (some ⟨gd, 0, none⟩), .pointer (some ⟨gf, 0, none⟩), .pointer (some ⟨gw, 0, none⟩), .pointer (some ⟨gm, 0, none⟩)] :: hBlk g3 33 o.cells :: hRow 5 1 A5 o.b.length c5 (bys o.b) :: hMl gm gf W :: hDk gf D :: hWl gw gd (W.app D o.b).1 :: hDk gd (W.app D o.b).2.1 :: H) := (St.selD [3, 3, 2, 2, 2, 0, 0] 0 hF)
    clear hF; have hF := hF2; clear hF2
    refine wpList_nil ?_
    refine o_back _ (fun _ h => h) hF.keep2 ?_
    clear hS; have hS := hF.keep2
    repeat' (first
 | ((with_reducible refine o_ef rfl ?_)))
    refine s_call hE rfl rfl rfl (obytes o how w) ?_
    rintro _ w ⟨A6, c6, rfl, hS1⟩; clear hE a; intro a hE; replace hF := hF.frame hS1; clear hS1
    have hF2 : St w0 w (hBlk gp 77 [.pointer (some ⟨gd, 0, none⟩), .pointer (some ⟨gf, 0, none⟩), .pointer (some ⟨gw, 0, none⟩), .pointer (some ⟨gm, 0, none⟩)] :: hBlk g3 33 o.cells :: hRow 5 1 A6 o.b.length c6 (bys o.b) :: hRow 5 1 A5 o.b.length c5 (bys o.b) :: hMl gm gf W :: hDk gf D :: hWl gw gd (W.app D o.b).1 :: hDk gd (W.app D o.b).2.1 :: H) := (St.selD [1, 1, 0, 0, 0, 0, 0, 0] 0 hF)
    clear hF; have hF := hF2; clear hF2
    refine wpList_nil ?_
    refine o_back _ (fun _ h => h) hF.keep2 ?_
    clear hS; have hS := hF.keep2
    repeat' (first
 | ((with_reducible refine o_ef rfl ?_)))
    have hap := rapp (w0 := w0) (w := w) (H := hRow 5 1 A6 o.b.length c6 (bys o.b) :: hRow 5 1 A5 o.b.length c5 (bys o.b) :: hBlk gp 77 [.pointer (some ⟨gd, 0, none⟩), .pointer (some ⟨gf, 0, none⟩), .pointer (some ⟨gw, 0, none⟩), .pointer (some ⟨gm, 0, none⟩)] :: hBlk g3 33 o.cells :: hWl gw gd (W.app D o.b).1 :: hDk gd (W.app D o.b).2.1 :: H) gm gf W D o.b A6 c6 hW hob (by omega) (fun w' L h => (h.perm (List.perm_append_comm (l₁ := L))).rd) hD (by omega) (St.selD [4, 4, 2, 2, 0, 0, 0, 0] 0 hF)
    refine s_call hE rfl rfl rfl hap ?_
    clear hap
    rintro _ w ⟨rfl, hF⟩; clear hE a; intro a hE
    have hF2 : St w0 w (hBlk gp 77 [.pointer (some ⟨gd, 0, none⟩), .pointer (some ⟨gf, 0, none⟩), .pointer (some ⟨gw, 0, none⟩), .pointer (some ⟨gm, 0, none⟩)] :: hBlk g3 33 o.cells :: hRow 5 1 A5 o.b.length c5 (bys o.b) :: hWl gw gd (W.app D o.b).1 :: hMl gm gf (W.app D o.b).1 :: hDk gd (W.app D o.b).2.1 :: hDk gf (W.app D o.b).2.1 :: H) := (St.selD [4, 4, 3, 3, 0, 2, 0] 1 hF)
    clear hF; have hF := hF2; clear hF2
    refine wpList_nil ?_
    refine o_back _ (fun _ h => h) hF.keep2 ?_
    clear hS; have hS := hF.keep2
    repeat' (first
 | (with_reducible refine o_rd rfl ?_)
 | ((with_reducible refine q_assign ?_); refine d_val hE hS rfl (fun w hS => r_assign hE rfl) ?_; clear hE a; intro a hE)
 | ((with_reducible refine o_lt rfl ?_)))
    clear hS; have hS := hF; clear hF
    obtain ⟨hWo, _⟩ := app_ok (D := D) hW hob
    have hat := app_atN (W := W) hD hob (by omega)
    have hln := app_len W D o.b
    generalize W.app D o.b = R at hS hE hWo hat hln
    repeat' (first
 | (with_reducible refine wpList_nil ?_)
 | ((with_reducible refine g_assign ?_); refine s_assign hE rfl rfl ?_; clear hE a; intro a hE))
    refine o_backL ?_
    repeat' (first
 | (with_reducible refine o_done ?_))
    repeat' (first
 | (with_reducible refine wp_seq ?_)
 | (with_reducible refine c_region ?_)
 | (with_reducible refine wpList_nil ?_)
 | (with_reducible refine then_normal ?_)
 | (with_reducible refine wp_block ?_)
 | ((with_reducible refine g_move ?_); refine s_move hE rfl rfl ?_; clear hE a; intro a hE)
 | ((with_reducible refine g_blt .len ?_); refine s_len hE rfl rfl ?_; clear hE a; intro a hE))
    refine wp_loop_ghost (fun q a w => ∃ (k : Nat) (b2 : List Nat), k + q = o.b.length ∧ b2.length = o.b.length ∧ Bs b2 ∧ St w0 w (hBlk gp 77 [.pointer (some ⟨gd, 0, none⟩), .pointer (some ⟨gf, 0, none⟩), .pointer (some ⟨gw, 0, none⟩), .pointer (some ⟨gm, 0, none⟩)] :: hRow 5 1 A5 o.b.length c5 (bys b2) :: hWl gw gd R.1 :: hMl gm gf R.1 :: hDk gd R.2.1 :: hDk gf R.2.1 :: H) ∧ Env 149 [(5, .slice A5 o.b.length c5), (6, .int .i64 R.2.2), (7, .int .i64 R.2.2), (32, .slice A5 o.b.length c5), (33, .int .i64 (o.b.length : Int)), (34, .int .i64 (k : Int))] a) o.b.length
      ⟨0, o.b, by omega, rfl, hob, (St.selD [0, 1, 1, 1, 1, 1] 1 hS), hE.sub ⟨rfl, rfl, rfl, rfl, rfl, rfl, trivial⟩⟩ ?_
    clear hE a hS
    rintro q a w ⟨k, b2, hkq, hbl2, hbb2, hS, hE⟩
    by_cases hk9 : k < o.b.length
    · have hrl2 : (bys b2).length = o.b.length := by rw [bys_length]; exact hbl2
      have hbk : (bys b2)[(k : Int).toNat * 1]? = some (.int .u8 ((b2.getD k 0 : Nat) : Int)) := by
        rw [Int.toNat_natCast, Nat.mul_one]
        unfold bys
        rw [List.getElem?_map, List.getElem?_eq_getElem (by omega), List.getD_eq_getElem?_getD, List.getElem?_eq_getElem (by omega)]
        rfl
      have hxb : b2.getD k 0 < 256 := by
        rw [List.getD_eq_getElem?_getD, List.getElem?_eq_getElem (by omega)]
        exact hbb2 _ (List.getElem_mem _)
      generalize b2.getD k 0 = xb at hbk hxb
      have hxr := xor_u8 hxb (show 238 < 256 by decide)
      repeat' (first
 | (with_reducible refine wp_seq ?_)
 | (with_reducible refine c_region ?_)
 | (with_reducible refine wpList_nil ?_)
 | (with_reducible refine then_normal ?_)
 | (with_reducible refine wp_skip ?_)
 | (with_reducible refine wp_block ?_)
 | (with_reducible refine block_normal ?_)
 | ((with_reducible refine g_move ?_); refine s_move hE rfl rfl ?_; clear hE a; intro a hE)
 | ((with_reducible refine g_assign ?_); refine s_assign hE rfl rfl ?_; clear hE a; intro a hE)
 | ((with_reducible refine g_bin .lss ?_); refine s_lss hE rfl rfl rfl ?_; clear hE a; intro a hE)
 | ((with_reducible refine g_bin .add ?_); refine s_add hE rfl rfl rfl (by first | exact wrap64_in (by omega) ) ?_; clear hE a; intro a hE)
 | ((with_reducible refine g_bin .xor ?_); refine s_xor hE rfl rfl rfl (by first | exact hxr ) ?_; clear hE a; intro a hE)
 | ((with_reducible refine g_cond ?_); refine c_dec hE rfl (fun hc => ?_) (fun hc => ?_) <;> try omega)
 | ((with_reducible refine g_ia ?_); refine s_idxR hE rfl rfl (by omega) (by omega) (by (first | exact hS.rdAt (k := 1) rfl )) (by first | omega ) rfl ?_; clear hE a; intro a hE)
 | ((with_reducible refine g_load ?_); refine s_loadR hE rfl (by (first | exact hS.rdAt (k := 1) rfl )) (by first | exact hbk ) rfl ?_; clear hE a; intro a hE)
 | ((with_reducible refine g_store ?_); (first | (refine s_storeR1 (k := 1) hS hE rfl rfl rfl rfl (by first | omega ) rfl ?_) ); clear hS; intro w hS; simp only [List.set_cons_zero, List.set_cons_succ, Nat.add_zero] at hS))
      refine ⟨q - 1, by omega, k + 1, b2.set k (xb ^^^ 238), by omega, by rw [List.length_set]; exact hbl2, ?_, ?_, hE.sub ⟨rfl, rfl, rfl, rfl, rfl, rfl, trivial⟩⟩
      · intro y hy
        rcases List.mem_or_eq_of_mem_set hy with h | rfl
        · exact hbb2 y h
        · exact Nat.xor_lt_two_pow (n := 8) hxb (by decide)
      · rw [show bys (b2.set k (xb ^^^ 238)) = (bys b2).set ((k : Int).toNat * 1) (.int .u8 ((xb ^^^ 238 : Nat) : Int)) from by rw [Int.toNat_natCast, Nat.mul_one]; unfold bys; rw [List.map_set]]
        exact hS
    · repeat' (first
 | (with_reducible refine wp_seq ?_)
 | (with_reducible refine c_region ?_)
 | (with_reducible refine wpList_nil ?_)
 | (with_reducible refine then_normal ?_)
 | (with_reducible refine wp_ret ?_)
 | (with_reducible refine then_ret ?_)
 | (with_reducible refine block_ret ?_)
 | (with_reducible refine wp_exit ?_)
 | (with_reducible refine then_exit ?_)
 | (with_reducible refine block_same ?_)
 | ((with_reducible refine g_move ?_); refine s_move hE rfl rfl ?_; clear hE a; intro a hE)
 | ((with_reducible refine g_assign ?_); refine s_assign hE rfl rfl ?_; clear hE a; intro a hE)
 | ((with_reducible refine g_bin .lss ?_); refine s_lss hE rfl rfl rfl ?_; clear hE a; intro a hE)
 | ((with_reducible refine g_bin .eql ?_); refine s_eql hE rfl rfl rfl ?_; clear hE a; intro a hE)
 | ((with_reducible refine g_cond ?_); refine c_dec hE rfl (fun hc => ?_) (fun hc => ?_) <;> try omega))
      rw [show decide (R.2.2 = R.2.2) = true from decide_eq_true rfl] at hE
      exact ret1 hE rfl rfl ⟨rfl, gw, gm, R.1, R.2.1, hWo, hat.mono (by omega), hln, (St.selD [0, 1, 1, 1, 1] 1 hS)⟩
  by_cases hk1 : o.k = 1
  · rw [hk1] at hE
    repeat' (first
 | (with_reducible refine wp_seq ?_)
 | (with_reducible refine c_region ?_)
 | (with_reducible refine wpList_nil ?_)
 | (with_reducible refine then_normal ?_)
 | (with_reducible refine wp_block ?_)
 | ((with_reducible refine g_assign ?_); refine s_assign hE rfl rfl ?_; clear hE a; intro a hE)
 | ((with_reducible refine g_bin .eql ?_); refine s_eql hE rfl rfl rfl ?_; clear hE a; intro a hE)
 | ((with_reducible refine g_cond ?_); refine c_true hE rfl ?_)
 | ((with_reducible refine g_cond ?_); refine c_false hE rfl ?_)
 | ((with_reducible refine g_load ?_); (first | (refine s_loadW (k := 1) hS hE rfl rfl rfl rfl ?_) ); clear hE a; intro a hE))
    refine s_call hE rfl rfl rfl (obytes o how w) ?_
    rintro _ w ⟨A5, c5, rfl, hS1⟩; clear hE a; intro a hE; replace hS := hS.frame hS1; clear hS1; try simp only [List.cons_append, List.nil_append] at hS
    repeat' (first
 | (with_reducible refine wp_seq ?_)
 | (with_reducible refine wpList_nil ?_)
 | (with_reducible refine then_normal ?_)
 | ((with_reducible refine g_assign ?_); refine s_assign hE rfl rfl ?_; clear hE a; intro a hE))
    have hS2 : St w0 w (hBlk gp 77 [.pointer (some ⟨gd, 0, none⟩), .pointer (some ⟨gf, 0, none⟩), .pointer (some ⟨gw, 0, none⟩), .pointer (some ⟨gm, 0, none⟩)] :: hBlk g3 33 o.cells :: hRow 5 1 A5 o.b.length c5 (bys o.b) :: hMl gm gf W :: hDk gf D :: hWl gw gd W :: hDk gd D :: H) := (St.selD [1, 1, 0, 1, 2, 0, 0] 0 hS)
    clear hS; have hS := hS2; clear hS2
    refine c_ordH [hBlk gp 77 [.pointer (some ⟨gd, 0, none⟩), .pointer (some ⟨gf, 0, none⟩), .pointer (some ⟨gw, 0, none⟩), .pointer (some ⟨gm, 0, none⟩)], hBlk g3 33 o.cells] hS (fun u hu => hu.keep2) 14 ((.rd 0 (.rd 1 (.rd 2 (.rd 3 (.rd 4 (.rd 6 (.rd 7 (.rd 8 (.rd 9 (.rd 10 (.ef 5 (.ef 11 (.ef 12 (.rd 13 (.lt 14 .done)))))))))))))))) mixed (by decide +kernel) ?_
    clear hS; intro w hF hS
    repeat' (first
 | (with_reducible refine o_rd rfl ?_)
 | ((with_reducible refine q_move ?_); refine d_val hE hS rfl (fun w hS => r_move hE rfl) ?_; clear hE a; intro a hE)
 | ((with_reducible refine q_fa ?_); refine d_val hE hS rfl (fun w hS => r_fieldL hE rfl rfl) ?_; clear hE a; intro a hE)
 | ((with_reducible refine q_nc ?_); refine d_val hE hS rfl (fun w hS => r_nilCheck hE rfl) ?_; clear hE a; intro a hE)
 | ((with_reducible refine q_load ?_); (first | (refine d_val hE hS rfl (fun w hS => r_loadB (k := 0) hS hE rfl rfl rfl) ?_) ); clear hE a; intro a hE)
 | ((with_reducible refine q_load ?_); (first | (refine d_val hE hS rfl (fun w hS => r_loadW (k := 1) hS hE rfl rfl rfl) ?_) ); clear hE a; intro a hE)
 | ((with_reducible refine o_ef rfl ?_)))
    have hap := kchk (w0 := w0) (w := w) (H := hRow 5 1 A5 o.b.length c5 (bys o.b) :: hBlk gp 77 [.pointer (some ⟨gd, 0, none⟩), .pointer (some ⟨gf, 0, none⟩), .pointer (some ⟨gw, 0, none⟩), .pointer (some ⟨gm, 0, none⟩)] :: hBlk g3 33 o.cells :: hMl gm gf W :: hDk gf D :: H) gw gd W D o.b A5 c5 hW hob (by omega) (fun w' L h => (h.perm (List.perm_append_comm (l₁ := L))).rd) hD (by omega) (St.selD [5, 5, 2, 0, 0, 0, 0] 0 hF)
    refine s_call hE rfl rfl rfl hap ?_
    clear hap
    rintro _ w ⟨rfl, hF⟩; clear hE a; intro a hE
    have hF2 : St w0 w (hBlk gp 77 [.pointer (some ⟨gd, 0, none⟩), .pointer (some ⟨gf, 0, none⟩), .pointer (some ⟨gw, 0, none⟩), .pointer (some ⟨gm, 0, none⟩)] :: hBlk g3 33 o.cells :: hRow 5 1 A5 o.b.length c5 (bys o.b) :: hMl gm gf W :: hDk gf D :: hWl gw gd (W.chk D o.b).1 :: hDk gd (W.chk D o.b).2.1 :: H) := (St.selD [3, 3, 2, 2, 2, 0, 0] 0 hF)
    clear hF; have hF := hF2; clear hF2
    refine wpList_nil ?_
    refine o_back _ (fun _ h => h) hF.keep2 ?_
    clear hS; have hS := hF.keep2
    repeat' (first
 | ((with_reducible refine o_ef rfl ?_)))
    refine s_call hE rfl rfl rfl (obytes o how w) ?_
    rintro _ w ⟨A6, c6, rfl, hS1⟩; clear hE a; intro a hE; replace hF := hF.frame hS1; clear hS1
    have hF2 : St w0 w (hBlk gp 77 [.pointer (some ⟨gd, 0, none⟩), .pointer (some ⟨gf, 0, none⟩), .pointer (some ⟨gw, 0, none⟩), .pointer (some ⟨gm, 0, none⟩)] :: hBlk g3 33 o.cells :: hRow 5 1 A6 o.b.length c6 (bys o.b) :: hRow 5 1 A5 o.b.length c5 (bys o.b) :: hMl gm gf W :: hDk gf D :: hWl gw gd (W.chk D o.b).1 :: hDk gd (W.chk D o.b).2.1 :: H) := (St.selD [1, 1, 0, 0, 0, 0, 0, 0] 0 hF)
    clear hF; have hF := hF2; clear hF2
    refine wpList_nil ?_
    refine o_back _ (fun _ h => h) hF.keep2 ?_
    clear hS; have hS := hF.keep2
    repeat' (first
 | ((with_reducible refine o_ef rfl ?_)))
    have hap := rchk (w0 := w0) (w := w) (H := hRow 5 1 A6 o.b.length c6 (bys o.b) :: hRow 5 1 A5 o.b.length c5 (bys o.b) :: hBlk gp 77 [.pointer (some ⟨gd, 0, none⟩), .pointer (some ⟨gf, 0, none⟩), .pointer (some ⟨gw, 0, none⟩), .pointer (some ⟨gm, 0, none⟩)] :: hBlk g3 33 o.cells :: hWl gw gd (W.chk D o.b).1 :: hDk gd (W.chk D o.b).2.1 :: H) gm gf W D o.b A6 c6 hW hob (by omega) (fun w' L h => (h.perm (List.perm_append_comm (l₁ := L))).rd) hD (by omega) (St.selD [4, 4, 2, 2, 0, 0, 0, 0] 0 hF)
    refine s_call hE rfl rfl rfl hap ?_
    clear hap
    rintro _ w ⟨rfl, hF⟩; clear hE a; intro a hE
    have hF2 : St w0 w (hBlk gp 77 [.pointer (some ⟨gd, 0, none⟩), .pointer (some ⟨gf, 0, none⟩), .pointer (some ⟨gw, 0, none⟩), .pointer (some ⟨gm, 0, none⟩)] :: hBlk g3 33 o.cells :: hRow 5 1 A5 o.b.length c5 (bys o.b) :: hWl gw gd (W.chk D o.b).1 :: hMl gm gf (W.chk D o.b).1 :: hDk gd (W.chk D o.b).2.1 :: hDk gf (W.chk D o.b).2.1 :: H) := (St.selD [4, 4, 3, 3, 0, 2, 0] 1 hF)
    clear hF; have hF := hF2; clear hF2
    refine wpList_nil ?_
    refine o_back _ (fun _ h => h) hF.keep2 ?_
    clear hS; have hS := hF.keep2
    repeat' (first
 | (with_reducible refine o_rd rfl ?_)
 | ((with_reducible refine q_assign ?_); refine d_val hE hS rfl (fun w hS => r_assign hE rfl) ?_; clear hE a; intro a hE)
 | ((with_reducible refine o_lt rfl ?_)))
    clear hS; have hS := hF; clear hF
    obtain ⟨hWo, _⟩ := chk_ok (D := D) hW hob
    have hat := chk_atN (W := W) hD hob (by omega)
    have hln := chk_len W D o.b
    generalize W.chk D o.b = R at hS hE hWo hat hln
    repeat' (first
 | (with_reducible refine wpList_nil ?_)
 | ((with_reducible refine g_assign ?_); refine s_assign hE rfl rfl ?_; clear hE a; intro a hE))
    refine o_backL ?_
    repeat' (first
 | (with_reducible refine o_done ?_))
    repeat' (first
 | (with_reducible refine wp_seq ?_)
 | (with_reducible refine c_region ?_)
 | (with_reducible refine wpList_nil ?_)
 | (with_reducible refine then_normal ?_)
 | (with_reducible refine wp_block ?_)
 | ((with_reducible refine g_move ?_); refine s_move hE rfl rfl ?_; clear hE a; intro a hE)
 | ((with_reducible refine g_blt .len ?_); refine s_len hE rfl rfl ?_; clear hE a; intro a hE))
    refine wp_loop_ghost (fun q a w => ∃ (k : Nat) (b2 : List Nat), k + q = o.b.length ∧ b2.length = o.b.length ∧ Bs b2 ∧ St w0 w (hBlk gp 77 [.pointer (some ⟨gd, 0, none⟩), .pointer (some ⟨gf, 0, none⟩), .pointer (some ⟨gw, 0, none⟩), .pointer (some ⟨gm, 0, none⟩)] :: hRow 5 1 A5 o.b.length c5 (bys b2) :: hWl gw gd R.1 :: hMl gm gf R.1 :: hDk gd R.2.1 :: hDk gf R.2.1 :: H) ∧ Env 149 [(9, .slice A5 o.b.length c5), (10, .int .i64 R.2.2), (11, .int .i64 R.2.2), (64, .slice A5 o.b.length c5), (65, .int .i64 (o.b.length : Int)), (66, .int .i64 (k : Int))] a) o.b.length
      ⟨0, o.b, by omega, rfl, hob, (St.selD [0, 1, 1, 1, 1, 1] 1 hS), hE.sub ⟨rfl, rfl, rfl, rfl, rfl, rfl, trivial⟩⟩ ?_
    clear hE a hS
    rintro q a w ⟨k, b2, hkq, hbl2, hbb2, hS, hE⟩
    by_cases hk9 : k < o.b.length
    · have hrl2 : (bys b2).length = o.b.length := by rw [bys_length]; exact hbl2
      have hbk : (bys b2)[(k : Int).toNat * 1]? = some (.int .u8 ((b2.getD k 0 : Nat) : Int)) := by
        rw [Int.toNat_natCast, Nat.mul_one]
        unfold bys
        rw [List.getElem?_map, List.getElem?_eq_getElem (by omega), List.getD_eq_getElem?_getD, List.getElem?_eq_getElem (by omega)]
        rfl
      have hxb : b2.getD k 0 < 256 := by
        rw [List.getD_eq_getElem?_getD, List.getElem?_eq_getElem (by omega)]
        exact hbb2 _ (List.getElem_mem _)
      generalize b2.getD k 0 = xb at hbk hxb
      have hxr := xor_u8 hxb (show 238 < 256 by decide)
      repeat' (first
 | (with_reducible refine wp_seq ?_)
 | (with_reducible refine c_region ?_)
 | (with_reducible refine wpList_nil ?_)
 | (with_reducible refine then_normal ?_)
 | (with_reducible refine wp_skip ?_)
 | (with_reducible refine wp_block ?_)
 | (with_reducible refine block_normal ?_)
 | ((with_reducible refine g_move ?_); refine s_move hE rfl rfl ?_; clear hE a; intro a hE)
 | ((with_reducible refine g_assign ?_); refine s_assign hE rfl rfl ?_; clear hE a; intro a hE)
 | ((with_reducible refine g_bin .lss ?_); refine s_lss hE rfl rfl rfl ?_; clear hE a; intro a hE)
 | ((with_reducible refine g_bin .add ?_); refine s_add hE rfl rfl rfl (by first | exact wrap64_in (by omega) ) ?_; clear hE a; intro a hE)
 | ((with_reducible refine g_bin .xor ?_); refine s_xor hE rfl rfl rfl (by first | exact hxr ) ?_; clear hE a; intro a hE)
 | ((with_reducible refine g_cond ?_); refine c_dec hE rfl (fun hc => ?_) (fun hc => ?_) <;> try omega)
 | ((with_reducible refine g_ia ?_); refine s_idxR hE rfl rfl (by omega) (by omega) (by (first | exact hS.rdAt (k := 1) rfl )) (by first | omega ) rfl ?_; clear hE a; intro a hE)
 | ((with_reducible refine g_load ?_); refine s_loadR hE rfl (by (first | exact hS.rdAt (k := 1) rfl )) (by first | exact hbk ) rfl ?_; clear hE a; intro a hE)
 | ((with_reducible refine g_store ?_); (first | (refine s_storeR1 (k := 1) hS hE rfl rfl rfl rfl (by first | omega ) rfl ?_) ); clear hS; intro w hS; simp only [List.set_cons_zero, List.set_cons_succ, Nat.add_zero] at hS))
      refine ⟨q - 1, by omega, k + 1, b2.set k (xb ^^^ 238), by omega, by rw [List.length_set]; exact hbl2, ?_, ?_, hE.sub ⟨rfl, rfl, rfl, rfl, rfl, rfl, trivial⟩⟩
      · intro y hy
        rcases List.mem_or_eq_of_mem_set hy with h | rfl
        · exact hbb2 y h
        · exact Nat.xor_lt_two_pow (n := 8) hxb (by decide)
      · rw [show bys (b2.set k (xb ^^^ 238)) = (bys b2).set ((k : Int).toNat * 1) (.int .u8 ((xb ^^^ 238 : Nat) : Int)) from by rw [Int.toNat_natCast, Nat.mul_one]; unfold bys; rw [List.map_set]]
        exact hS
    · repeat' (first
 | (with_reducible refine wp_seq ?_)
 | (with_reducible refine c_region ?_)
 | (with_reducible refine wpList_nil ?_)
 | (with_reducible refine then_normal ?_)
 | (with_reducible refine wp_ret ?_)
 | (with_reducible refine then_ret ?_)
 | (with_reducible refine block_ret ?_)
 | (with_reducible refine wp_exit ?_)
 | (with_reducible refine then_exit ?_)
 | (with_reducible refine block_same ?_)
 | ((with_reducible refine g_move ?_); refine s_move hE rfl rfl ?_; clear hE a; intro a hE)
 | ((with_reducible refine g_assign ?_); refine s_assign hE rfl rfl ?_; clear hE a; intro a hE)
 | ((with_reducible refine g_bin .lss ?_); refine s_lss hE rfl rfl rfl ?_; clear hE a; intro a hE)
 | ((with_reducible refine g_bin .eql ?_); refine s_eql hE rfl rfl rfl ?_; clear hE a; intro a hE)
 | ((with_reducible refine g_cond ?_); refine c_dec hE rfl (fun hc => ?_) (fun hc => ?_) <;> try omega))
      rw [show decide (R.2.2 = R.2.2) = true from decide_eq_true rfl] at hE
      exact ret1 hE rfl rfl ⟨rfl, gw, gm, R.1, R.2.1, hWo, hat.mono (by omega), hln, (St.selD [0, 1, 1, 1, 1] 1 hS)⟩
  by_cases hk2 : o.k = 2
  · rw [hk2] at hE
    rw [ho4] at hS
    repeat' (first
 | (with_reducible refine wp_seq ?_)
 | (with_reducible refine c_region ?_)
 | (with_reducible refine wpList_nil ?_)
 | (with_reducible refine then_normal ?_)
 | (with_reducible refine wp_block ?_)
 | ((with_reducible refine g_assign ?_); refine s_assign hE rfl rfl ?_; clear hE a; intro a hE)
 | ((with_reducible refine g_bin .eql ?_); refine s_eql hE rfl rfl rfl ?_; clear hE a; intro a hE)
 | ((with_reducible refine g_cond ?_); refine c_true hE rfl ?_)
 | ((with_reducible refine g_cond ?_); refine c_false hE rfl ?_))
    refine c_ordH [hBlk gp 77 [.pointer (some ⟨gd, 0, none⟩), .pointer (some ⟨gf, 0, none⟩), .pointer (some ⟨gw, 0, none⟩), .pointer (some ⟨gm, 0, none⟩)], hBlk g3 33 [.int .i64 o.kind, .int .i64 o.n, .int .u8 (o.fill : Int), .slice o.K o.keep.length o.kc]] hS (fun u hu => hu.keep2) 21 ((.rd 0 (.rd 1 (.rd 2 (.rd 3 (.rd 4 (.rd 5 (.rd 6 (.rd 7 (.rd 8 (.rd 10 (.rd 11 (.rd 12 (.rd 13 (.rd 14 (.rd 15 (.rd 16 (.rd 17 (.rd 18 (.ef 9 (.ef 19 (.rd 20 (.lt 21 .done))))))))))))))))))))))) mixed (by decide +kernel) ?_
    clear hS; intro w hF hS
    repeat' (first
 | (with_reducible refine o_rd rfl ?_)
 | ((with_reducible refine q_move ?_); refine d_val hE hS rfl (fun w hS => r_move hE rfl) ?_; clear hE a; intro a hE)
 | ((with_reducible refine q_bin .rem ?_); refine d_val hE hS rfl (fun w hS => r_rem hE rfl rfl (by omega) (by first | exact hk30 )) ?_; clear hE a; intro a hE)
 | ((with_reducible refine q_conv ?_); refine d_val hE hS rfl (fun w hS => r_conv hE rfl (by first | exact e1| rfl)) ?_; clear hE a; intro a hE)
 | ((with_reducible refine q_fa ?_); refine d_val hE hS rfl (fun w hS => r_fieldL hE rfl rfl) ?_; clear hE a; intro a hE)
 | ((with_reducible refine q_nc ?_); refine d_val hE hS rfl (fun w hS => r_nilCheck hE rfl) ?_; clear hE a; intro a hE)
 | ((with_reducible refine q_load ?_); (first | (refine d_val hE hS rfl (fun w hS => r_loadB (k := 0) hS hE rfl rfl rfl) ?_) | (refine d_val hE hS rfl (fun w hS => r_loadB (k := 1) hS hE rfl rfl rfl) ?_) ); clear hE a; intro a hE)
 | ((with_reducible refine o_ef rfl ?_)))
    refine s_call hE rfl rfl rfl (kfail (r : Int) (by omega) (hF.focus (k := 4) rfl)) ?_
    rintro _ w ⟨rfl, hF⟩; clear hE a; intro a hE
    simp only [List.eraseIdx_cons_succ, List.eraseIdx_cons_zero] at hF
    refine wpList_nil ?_
    refine o_back _ (fun _ h => h) hF.tail.keep2 ?_
    clear hS; have hS := hF.tail.keep2
    repeat' (first
 | ((with_reducible refine o_ef rfl ?_)))
    refine s_call hE rfl rfl rfl (kfail (r : Int) (by omega) (hF.focus (k := 5) rfl)) ?_
    rintro _ w ⟨rfl, hF⟩; clear hE a; intro a hE
    simp only [List.eraseIdx_cons_succ, List.eraseIdx_cons_zero] at hF
    refine wpList_nil ?_
    refine o_back _ (fun _ h => h) hF.tail.tail.keep2 ?_
    clear hS; have hS := hF.tail.tail.keep2
    repeat' (first
 | (with_reducible refine o_rd rfl ?_)
 | ((with_reducible refine q_bin .eql ?_); refine d_val hE hS rfl (fun w hS => r_eql hE rfl rfl) ?_; clear hE a; intro a hE)
 | ((with_reducible refine o_lt rfl ?_)))
    rw [show decide ((D.fail (r : Int)).2 = (D.fail (r : Int)).2) = true from decide_eq_true rfl] at hE
    clear hS; have hS := hF; clear hF
    repeat' (first
 | (with_reducible refine wpList_nil ?_)
 | ((with_reducible refine g_assign ?_); refine s_assign hE rfl rfl ?_; clear hE a; intro a hE))
    refine o_backL ?_
    repeat' (first
 | (with_reducible refine o_done ?_))
    repeat' (first
 | (with_reducible refine then_normal ?_)
 | (with_reducible refine wp_ret ?_)
 | (with_reducible refine then_ret ?_)
 | (with_reducible refine block_ret ?_))
    exact ret1 hE rfl rfl ⟨rfl, gw, gm, W, _, hW, (fail_atN hD _).mono (by omega), fail_slen D _, (St.selD [2, 3, 3, 1, 0] 1 hS)⟩
  by_cases hk3 : o.k = 3
  · rw [hk3] at hE
    rw [ho4] at hS
    repeat' (first
 | (with_reducible refine wp_seq ?_)
 | (with_reducible refine c_region ?_)
 | (with_reducible refine wpList_nil ?_)
 | (with_reducible refine then_normal ?_)
 | (with_reducible refine wp_block ?_)
 | ((with_reducible refine g_assign ?_); refine s_assign hE rfl rfl ?_; clear hE a; intro a hE)
 | ((with_reducible refine g_bin .eql ?_); refine s_eql hE rfl rfl rfl ?_; clear hE a; intro a hE)
 | ((with_reducible refine g_cond ?_); refine c_true hE rfl ?_)
 | ((with_reducible refine g_cond ?_); refine c_false hE rfl ?_))
    refine c_ordH [hBlk gp 77 [.pointer (some ⟨gd, 0, none⟩), .pointer (some ⟨gf, 0, none⟩), .pointer (some ⟨gw, 0, none⟩), .pointer (some ⟨gm, 0, none⟩)], hBlk g3 33 [.int .i64 o.kind, .int .i64 o.n, .int .u8 (o.fill : Int), .slice o.K o.keep.length o.kc]] hS (fun u hu => hu.keep2) 21 ((.rd 0 (.rd 1 (.rd 2 (.rd 3 (.rd 4 (.rd 5 (.rd 6 (.rd 7 (.rd 8 (.rd 10 (.rd 11 (.rd 12 (.rd 13 (.rd 14 (.rd 15 (.rd 16 (.rd 17 (.rd 18 (.ef 9 (.ef 19 (.rd 20 (.lt 21 .done))))))))))))))))))))))) mixed (by decide +kernel) ?_
    clear hS; intro w hF hS
    repeat' (first
 | (with_reducible refine o_rd rfl ?_)
 | ((with_reducible refine q_move ?_); refine d_val hE hS rfl (fun w hS => r_move hE rfl) ?_; clear hE a; intro a hE)
 | ((with_reducible refine q_bin .rem ?_); refine d_val hE hS rfl (fun w hS => r_rem hE rfl rfl (by omega) (by first | exact hk30 )) ?_; clear hE a; intro a hE)
 | ((with_reducible refine q_conv ?_); refine d_val hE hS rfl (fun w hS => r_conv hE rfl (by first | exact e1| rfl)) ?_; clear hE a; intro a hE)
 | ((with_reducible refine q_fa ?_); refine d_val hE hS rfl (fun w hS => r_fieldL hE rfl rfl) ?_; clear hE a; intro a hE)
 | ((with_reducible refine q_nc ?_); refine d_val hE hS rfl (fun w hS => r_nilCheck hE rfl) ?_; clear hE a; intro a hE)
 | ((with_reducible refine q_load ?_); (first | (refine d_val hE hS rfl (fun w hS => r_loadB (k := 0) hS hE rfl rfl rfl) ?_) | (refine d_val hE hS rfl (fun w hS => r_loadB (k := 1) hS hE rfl rfl rfl) ?_) ); clear hE a; intro a hE)
 | ((with_reducible refine o_ef rfl ?_)))
    refine s_call hE rfl rfl rfl (karm (r : Int) (by omega) (hF.focus (k := 4) rfl)) ?_
    rintro _ w ⟨rfl, hF⟩; clear hE a; intro a hE
    simp only [List.eraseIdx_cons_succ, List.eraseIdx_cons_zero] at hF
    refine wpList_nil ?_
    refine o_back _ (fun _ h => h) hF.tail.keep2 ?_
    clear hS; have hS := hF.tail.keep2
    repeat' (first
 | ((with_reducible refine o_ef rfl ?_)))
    refine s_call hE rfl rfl rfl (karm (r : Int) (by omega) (hF.focus (k := 5) rfl)) ?_
    rintro _ w ⟨rfl, hF⟩; clear hE a; intro a hE
    simp only [List.eraseIdx_cons_succ, List.eraseIdx_cons_zero] at hF
    refine wpList_nil ?_
    refine o_back _ (fun _ h => h) hF.tail.tail.keep2 ?_
    clear hS; have hS := hF.tail.tail.keep2
    repeat' (first
 | (with_reducible refine o_rd rfl ?_)
 | ((with_reducible refine q_bin .eql ?_); refine d_val hE hS rfl (fun w hS => r_eql hE rfl rfl) ?_; clear hE a; intro a hE)
 | ((with_reducible refine o_lt rfl ?_)))
    rw [show decide ((D.arm (r : Int)).2 = (D.arm (r : Int)).2) = true from decide_eq_true rfl] at hE
    clear hS; have hS := hF; clear hF
    repeat' (first
 | (with_reducible refine wpList_nil ?_)
 | ((with_reducible refine g_assign ?_); refine s_assign hE rfl rfl ?_; clear hE a; intro a hE))
    refine o_backL ?_
    repeat' (first
 | (with_reducible refine o_done ?_))
    repeat' (first
 | (with_reducible refine then_normal ?_)
 | (with_reducible refine wp_ret ?_)
 | (with_reducible refine then_ret ?_)
 | (with_reducible refine block_ret ?_))
    exact ret1 hE rfl rfl ⟨rfl, gw, gm, W, _, hW, (arm_atN hD (i := (r : Int)) (by omega)).mono (by omega), arm_slen D _, (St.selD [2, 3, 3, 1, 0] 1 hS)⟩
  · rw [ho4] at hS
    have hk4 : ¬ o.k = 0 := hk0
    repeat' (first
 | (with_reducible refine wp_seq ?_)
 | (with_reducible refine c_region ?_)
 | (with_reducible refine wpList_nil ?_)
 | (with_reducible refine then_normal ?_)
 | (with_reducible refine wp_skip ?_)
 | (with_reducible refine wp_block ?_)
 | (with_reducible refine block_normal ?_)
 | ((with_reducible refine g_assign ?_); refine s_assign hE rfl rfl ?_; clear hE a; intro a hE)
 | ((with_reducible refine g_bin .eql ?_); refine s_eql hE rfl rfl rfl ?_; clear hE a; intro a hE)
 | ((with_reducible refine g_cond ?_); refine c_dec hE rfl (fun hc => ?_) (fun hc => ?_) <;> try omega))
    refine c_ordH [hBlk gp 77 [.pointer (some ⟨gd, 0, none⟩), .pointer (some ⟨gf, 0, none⟩), .pointer (some ⟨gw, 0, none⟩), .pointer (some ⟨gm, 0, none⟩)], hBlk g3 33 [.int .i64 o.kind, .int .i64 o.n, .int .u8 (o.fill : Int), .slice o.K o.keep.length o.kc]] hS (fun u hu => hu.keep2) 22 ((.rd 0 (.rd 1 (.rd 2 (.rd 3 (.rd 5 (.rd 6 (.ef 4 (.ef 7 (.ef 8 (.rd 9 (.rd 10 (.rd 11 (.rd 12 (.rd 13 (.rd 14 (.rd 16 (.rd 17 (.ef 15 (.ef 18 (.ef 19 (.rd 20 (.rd 21 .done))))))))))))))))))))))) mixed (by decide +kernel) ?_
    clear hS; intro w hF hS
    repeat' (first
 | (with_reducible refine o_rd rfl ?_)
 | ((with_reducible refine q_move ?_); refine d_val hE hS rfl (fun w hS => r_move hE rfl) ?_; clear hE a; intro a hE)
 | ((with_reducible refine q_fa ?_); refine d_val hE hS rfl (fun w hS => r_fieldL hE rfl rfl) ?_; clear hE a; intro a hE)
 | ((with_reducible refine q_nc ?_); refine d_val hE hS rfl (fun w hS => r_nilCheck hE rfl) ?_; clear hE a; intro a hE)
 | ((with_reducible refine q_load ?_); (first | (refine d_val hE hS rfl (fun w hS => r_loadB (k := 0) hS hE rfl rfl rfl) ?_) | (refine d_val hE hS rfl (fun w hS => r_loadB (k := 1) hS hE rfl rfl rfl) ?_) ); clear hE a; intro a hE)
 | ((with_reducible refine o_ef rfl ?_)))
    clear hS; have hS := hF; clear hF
    repeat' (first
 | (with_reducible refine wpList_nil ?_)
 | ((with_reducible refine g_lit ?_); refine s_lit hE hS rfl rfl rfl rfl rfl (by first | (simp [Value.oneCell']; done)) rfl ?_; clear hE a hS; intro g a w hE hS))
    have hF := hS; clear hS
    have hS := hF.tail.keep2
    refine o_back _ (fun _ h => h) hS ?_
    repeat' (first
 | ((with_reducible refine o_ef rfl ?_)))
    clear hS; have hS := hF; clear hF
    refine s_appendAt0 (k := 0) hE hS rfl rfl rfl (hkr.st hS) (by rw [List.length_map, Nat.mul_one]) (fun v hv => by obtain ⟨x, _, rfl⟩ := List.mem_map.1 hv; rfl) (by omega) rfl rfl rfl rfl ?_
    clear hS hE a; intro A8 c8 a w hE hS
    simp only [List.set_cons_zero, List.set_cons_succ] at hS
    refine wpList_nil ?_
    have hF := hS; clear hS
    have hS := hF.tail.keep2
    refine o_back _ (fun _ h => h) hS ?_
    repeat' (first
 | ((with_reducible refine o_ef rfl ?_)))
    have hap := kcrash (w0 := w0) (w := w) (H := hRow 4 1 A8 o.keep.length c8 (o.keep.map .bool) :: hBlk gp 77 [.pointer (some ⟨gd, 0, none⟩), .pointer (some ⟨gf, 0, none⟩), .pointer (some ⟨gw, 0, none⟩), .pointer (some ⟨gm, 0, none⟩)] :: hBlk g3 33 [.int .i64 o.kind, .int .i64 o.n, .int .u8 (o.fill : Int), .slice o.K o.keep.length o.kc] :: hWl gw gd W :: hMl gm gf W :: hDk gf D :: H) A8 c8 o.keep hD.ok (fun w' L h => (h.perm (List.perm_append_comm (l₁ := L))).rd) (by omega) (St.selD [5, 0, 0, 0, 0, 0, 0] 0 hF)
    refine s_call hE rfl rfl rfl hap ?_
    clear hap
    rintro _ w ⟨rfl, hF⟩; clear hE a; intro a hE
    have hF2 : St w0 w (hBlk gp 77 [.pointer (some ⟨gd, 0, none⟩), .pointer (some ⟨gf, 0, none⟩), .pointer (some ⟨gw, 0, none⟩), .pointer (some ⟨gm, 0, none⟩)] :: hBlk g3 33 [.int .i64 o.kind, .int .i64 o.n, .int .u8 (o.fill : Int), .slice o.K o.keep.length o.kc] :: hWl gw gd W :: hMl gm gf W :: hDk gd (D.crash o.keep) :: hDk gf D :: H) := (St.selD [2, 2, 2, 2, 0, 1] 1 hF)
    clear hF; have hF := hF2; clear hF2
    refine wpList_nil ?_
    refine o_back _ (fun _ h => h) hF.keep2 ?_
    clear hS; have hS := hF.keep2
    repeat' (first
 | (with_reducible refine o_rd rfl ?_)
 | ((with_reducible refine q_move ?_); refine d_val hE hS rfl (fun w hS => r_move hE rfl) ?_; clear hE a; intro a hE)
 | ((with_reducible refine q_bin .neq ?_); refine d_val hE hS rfl (fun w hS => r_neq hE rfl rfl) ?_; clear hE a; intro a hE)
 | ((with_reducible refine q_fa ?_); refine d_val hE hS rfl (fun w hS => r_fieldL hE rfl rfl) ?_; clear hE a; intro a hE)
 | ((with_reducible refine q_nc ?_); refine d_val hE hS rfl (fun w hS => r_nilCheck hE rfl) ?_; clear hE a; intro a hE)
 | ((with_reducible refine q_guard ?_); refine d_yes hE rfl rfl rfl ?_)
 | ((with_reducible refine q_load ?_); (first | (refine d_val hE hS rfl (fun w hS => r_loadB (k := 0) hS hE rfl rfl rfl) ?_) | (refine d_val hE hS rfl (fun w hS => r_loadB (k := 1) hS hE rfl rfl rfl) ?_) ); clear hE a; intro a hE)
 | ((with_reducible refine o_ef rfl ?_)))
    clear hS; have hS := hF; clear hF
    refine gd_yes hE rfl rfl rfl ?_
    repeat' (first
 | (with_reducible refine wpList_nil ?_)
 | ((with_reducible refine g_lit ?_); refine s_lit hE hS rfl rfl rfl rfl rfl (by first | (simp [Value.oneCell']; done)) rfl ?_; clear hE a hS; intro g a w hE hS))
    have hF := hS; clear hS
    have hS := hF.tail.keep2
    refine o_back _ (fun _ h => h) hS ?_
    repeat' (first
 | ((with_reducible refine o_ef rfl ?_)))
    clear hS; have hS := hF; clear hF
    refine gd_yes hE rfl rfl rfl ?_
    refine s_appendAt0 (k := 0) hE hS rfl rfl rfl (hkr.st hS) (by rw [List.length_map, Nat.mul_one]) (fun v hv => by obtain ⟨x, _, rfl⟩ := List.mem_map.1 hv; rfl) (by omega) rfl rfl rfl rfl ?_
    clear hS hE a; intro A8 c8 a w hE hS
    simp only [List.set_cons_zero, List.set_cons_succ] at hS
    refine wpList_nil ?_
    have hF := hS; clear hS
    have hS := hF.tail.keep2
    refine o_back _ (fun _ h => h) hS ?_
    repeat' (first
 | ((with_reducible refine o_ef rfl ?_)))
    have hap := kcrash (w0 := w0) (w := w) (H := hRow 4 1 A8 o.keep.length c8 (o.keep.map .bool) :: hBlk gp 77 [.pointer (some ⟨gd, 0, none⟩), .pointer (some ⟨gf, 0, none⟩), .pointer (some ⟨gw, 0, none⟩), .pointer (some ⟨gm, 0, none⟩)] :: hBlk g3 33 [.int .i64 o.kind, .int .i64 o.n, .int .u8 (o.fill : Int), .slice o.K o.keep.length o.kc] :: hWl gw gd W :: hMl gm gf W :: hDk gd (D.crash o.keep) :: H) A8 c8 o.keep hD.ok (fun w' L h => (h.perm (List.perm_append_comm (l₁ := L))).rd) (by omega) (St.selD [6, 0, 0, 0, 0, 0, 0] 0 hF)
    refine gd_yes hE rfl rfl rfl ?_
    refine s_call hE rfl rfl rfl hap ?_
    clear hap
    rintro _ w ⟨rfl, hF⟩; clear hE a; intro a hE
    have hF2 : St w0 w (hBlk gp 77 [.pointer (some ⟨gd, 0, none⟩), .pointer (some ⟨gf, 0, none⟩), .pointer (some ⟨gw, 0, none⟩), .pointer (some ⟨gm, 0, none⟩)] :: hBlk g3 33 [.int .i64 o.kind, .int .i64 o.n, .int .u8 (o.fill : Int), .slice o.K o.keep.length o.kc] :: hWl gw gd W :: hMl gm gf W :: hDk gd (D.crash o.keep) :: hDk gf (D.crash o.keep) :: H) := (St.selD [2, 2, 2, 2, 2, 0] 1 hF)
    clear hF; have hF := hF2; clear hF2
    refine wpList_nil ?_
    refine o_back _ (fun _ h => h) hF.keep2 ?_
    clear hS; have hS := hF.keep2
    repeat' (first
 | (with_reducible refine o_rd rfl ?_)
 | (with_reducible refine o_done ?_)
 | ((with_reducible refine q_bin .neq ?_); refine d_val hE hS rfl (fun w hS => r_neq hE rfl rfl) ?_; clear hE a; intro a hE)
 | ((with_reducible refine q_guard ?_); refine d_yes hE rfl rfl rfl ?_)
 | ((with_reducible refine q_pick ?_); refine d_val hE hS rfl (fun w hS => r_pickF hE rfl rfl) ?_; clear hE a; intro a hE))
    clear hS; have hS := hF; clear hF
    repeat' (first
 | (with_reducible refine wp_seq ?_)
 | (with_reducible refine c_region ?_)
 | (with_reducible refine then_normal ?_)
 | (with_reducible refine wp_skip ?_)
 | ((with_reducible refine g_move ?_); refine s_move hE rfl rfl ?_; clear hE a; intro a hE)
 | ((with_reducible refine g_cond ?_); refine c_false hE rfl ?_))
    refine s_call hE rfl rfl rfl (pagain hW (crash_atN hD o.keep) (by omega) (by rw [crash_slen]; omega) (St.selD [0, 1, 1, 1, 1] 1 hS)) ?_
    rintro _ w ⟨rfl, gw2, gm2, W2, D2, y1, y2, y3, hS⟩; clear hE a; intro a hE
    rw [crash_slen] at y2 y3
    repeat' (first
 | (with_reducible refine wpList_nil ?_)
 | (with_reducible refine then_normal ?_)
 | (with_reducible refine wp_ret ?_)
 | ((with_reducible refine g_assign ?_); refine s_assign hE rfl rfl ?_; clear hE a; intro a hE))
    exact ret1 hE rfl rfl ⟨rfl, gw2, gm2, W2, D2, y1, y2.mono (by omega), y3, hS⟩
end
end Go.Proofs.Ytfoeelghehjanaa
