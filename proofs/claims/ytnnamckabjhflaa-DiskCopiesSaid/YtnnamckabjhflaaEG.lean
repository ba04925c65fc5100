/-
  Contracts: what an operation does by the document; a disk is as the document says.
-/
import Derived.Test.YtnnamckabjhflaaEF
import Derived.Test.YtnnamckabjhflaaDJ
namespace Go.Proofs.Ytnnamckabjhflaa
open Go.RowKit
set_option linter.unusedVariables false
set_option linter.unusedSimpArgs false
attribute [local irreducible] Rd hRow hBlk hRd hRs hAll Fn hMarks
attribute [local simp] Wr.cells Opn.cells

theorem rholds_ok {R : RM} (hR : R.ok) {i : Nat} (hi : i < R.safe.length) : Blk.ok (R.holds i) := by
  have := lastP_ok hR hi R.pend.length
  rw [List.take_length] at this
  exact this
theorem rread_blk {R : RM} (hR : R.ok) (i : Int) : Blk.ok (R.read i).2.1 := by
  unfold RM.read
  split
  · rename_i h
    have := asked_in h
    exact rholds_ok hR (by omega)
  · exact noughts_ok
def negs (l : List Nat) (k : Nat) : List Value := List.replicate k (.int .i64 (-1)) ++ (ints l).drop k
theorem negs_len {l : List Nat} {k : Nat} (h : k ≤ l.length) : (negs l k).length = l.length := by simp [negs, ints]; omega
theorem negs_at {l : List Nat} {k : Nat} (h : k < l.length) : (negs l k)[k]? = some (.int .i64 (l[k] : Int)) := by
  unfold negs
  rw [List.getElem?_append_right (by simp), List.length_replicate, Nat.sub_self, List.getElem?_drop, Nat.add_zero]
  simp [ints, h]
theorem negs_set {l : List Nat} {k : Nat} (h : k < l.length) : (negs l k).set k (.int .i64 (-1)) = negs l (k + 1) := by
  unfold negs
  have hd : (ints l).drop k = (ints l)[k]'(by rw [ints_len]; exact h) :: (ints l).drop (k + 1) := List.drop_eq_getElem_cons _
  rw [List.set_append_right _ _ (by simp), List.length_replicate, Nat.sub_self, hd, List.set_cons_zero, List.replicate_succ', List.append_assoc]
  rfl
section
variable {S : Option Addr} {c : Nat} {Q : Option Addr} {d : Nat} {R : RM} {H : List HP} {w0 w : World} {l : List (Option Addr × List Value)}
set_option maxHeartbeats 8000000
theorem want (o : Opn) (hw : o.wf) (hor : o.rd w0) (hR : R.ok) (ho : R.ops < 4611686018427387904) (hk : Kn w0 l) (hin : R.at_ S Q l) :
    Fn Try.prog 19 [.agg (R.cells S c Q d).toArray, .agg o.cells.toArray] w0 fun v w' => ∃ (S' : Option Addr) (c' : Nat) (Q' : Option Addr) (d' : Nat) (new : List (Option Addr × List Value)), v = .tuple #[.agg ((R.want o).1.cells S' c' Q' d').toArray, .agg (bys (R.want o).2.1).toArray, .int .i64 (R.want o).2.2] ∧ (R.want o).1.at_ S' Q' (new ++ l) ∧ St w0 w' [hRs new] := by
  have hk5 := o.k_lt
  have hwa := hw.at_
  have hkl := hw.kl
  have hbo := blkB_ok hw.fill
  have hwf := hw.fill
  refine enter 63 Try.func19 rfl rfl rfl ?_
  intro a hE
  have hS := St.start w0
  refine wp_seq ?_
  refine c_region ?_
  refine s_boxS hE hS rfl rfl ?_
  clear hE a hS; intro b2 a w hE hS
  refine s_boxS hE hS rfl rfl ?_
  clear hE a hS; intro b3 a w hE hS
  refine s_allocS hE hS rfl rfl ?_
  clear hE a hS; intro b4 a w hE hS
  refine s_allocL (bys noughts) hE hS rfl rfl ?_
  clear hE a hS; intro b5 a w hE hS
  repeat' (first

    | (with_reducible refine wp_seq ?_)
    | (with_reducible refine c_region ?_)
    | (with_reducible refine wpList_nil ?_)
    | (with_reducible refine then_normal ?_)
    | ((with_reducible refine g_assign ?_); refine s_assign hE rfl rfl ?_; clear hE a; intro a hE)
    | ((with_reducible refine g_load ?_); (first | (refine s_loadW (k := 2) hS hE rfl rfl rfl rfl ?_) ); clear hE a; intro a hE)
    )
  refine s_call hE rfl rfl rfl (kind o w) ?_
  rintro _ w ⟨rfl, hS1⟩; clear hE a; intro a hE; replace hS := hS.frame hS1; clear hS1; try simp only [List.cons_append, List.nil_append] at hS
  rcases (show o.k = 0 ∨ o.k = 1 ∨ o.k = 2 ∨ o.k = 3 ∨ o.k = 4 ∨ o.k = 5 by omega) with hk6 | hk6 | hk6 | hk6 | hk6 | hk6 <;> rw [hk6] at hE
  · have e : R.want o = R.read o.at_ := by unfold RM.want; rw [if_pos hk6]
    rw [e]
    repeat' (first

      | (with_reducible refine wp_seq ?_)
      | (with_reducible refine c_region ?_)
      | (with_reducible refine wpList_nil ?_)
      | (with_reducible refine then_normal ?_)
      | (with_reducible refine wp_block ?_)
      | ((with_reducible refine g_assign ?_); refine s_assign hE rfl rfl ?_; clear hE a; intro a hE)
      | ((with_reducible refine g_bin .eql ?_); refine s_eql hE rfl rfl rfl ?_; clear hE a; intro a hE)
      | ((with_reducible refine g_fa ?_); refine s_fieldL hE rfl rfl rfl ?_; clear hE a; intro a hE)
      | ((with_reducible refine g_cond ?_); refine c_true hE rfl ?_)
      | ((with_reducible refine g_load ?_); (first | (refine s_loadB (k := 2) hS hE rfl rfl rfl rfl ?_) ); clear hE a; intro a hE)
      | ((with_reducible refine g_load ?_); (first | (refine s_loadW (k := 3) hS hE rfl rfl rfl rfl ?_) ); clear hE a; intro a hE)
      )
    refine s_call hE rfl rfl rfl (rread (c := c) (d := d) hR ho ((hk _ hin.1).st hS) ((hk _ hin.2).st hS) o.at_) ?_
    rintro _ w ⟨rfl, hS1⟩; clear hE a; intro a hE; replace hS := hS.frame hS1; clear hS1; try simp only [List.cons_append, List.nil_append] at hS
    have hb : (bys (R.read o.at_).2.1).length = 64 := by rw [bys_length]; exact (rread_blk hR o.at_).1
    have hs2 : (R.read o.at_).1.safe = R.safe ∧ (R.read o.at_).1.pend = R.pend := by
      obtain ⟨_, h2, h3⟩ := asked_same R o.at_
      unfold RM.read
      split <;> exact ⟨h3, h2⟩
    repeat' (first

      | (with_reducible refine wpList_nil ?_)
      | (with_reducible refine then_normal ?_)
      | (with_reducible refine wp_ret ?_)
      | (with_reducible refine then_ret ?_)
      | (with_reducible refine block_ret ?_)
      | ((with_reducible refine g_assign ?_); refine s_assign hE rfl rfl ?_; clear hE a; intro a hE)
      | ((with_reducible refine g_extract ?_); refine s_extract hE rfl rfl rfl ?_; clear hE a; intro a hE)
      | ((with_reducible refine g_store ?_); (first | (refine s_storeW (k := 1) hS hE rfl rfl rfl rfl rfl (by first | (simp [Value.oneCell']; done)) ?_) ); clear hS; intro w hS; simp only [List.set_cons_zero, List.set_cons_succ, Nat.add_zero] at hS)
      | ((with_reducible refine g_store ?_); (first | (refine s_storeW (k := 0) hS hE rfl rfl rfl (by assumption) (by first | rfl ) (by first | exact bys_one _ ) ?_) ); clear hS; intro w hS; simp only [List.set_cons_zero, List.set_cons_succ, Nat.add_zero] at hS)
      )
    exact retG (vs := [_, _, _]) hE rfl ⟨⟨_, rfl, res_W (k := 1) hS rfl rfl⟩, ⟨_, rfl, res_W (k := 0) hS rfl hb⟩, rfl, trivial⟩ ⟨S, c, Q, d, _, rfl, hin.same hs2.1 hs2.2, hS.nil.rsNil⟩
  · have e : R.want o = ((R.write o.at_ (blkB o.fill)).1, noughts, (R.write o.at_ (blkB o.fill)).2) := by unfold RM.want; rw [if_neg (by omega), if_pos hk6]
    rw [e]
    repeat' (first

      | (with_reducible refine wp_seq ?_)
      | (with_reducible refine c_region ?_)
      | (with_reducible refine wpList_nil ?_)
      | (with_reducible refine then_normal ?_)
      | (with_reducible refine wp_block ?_)
      | ((with_reducible refine g_assign ?_); refine s_assign hE rfl rfl ?_; clear hE a; intro a hE)
      | ((with_reducible refine g_bin .eql ?_); refine s_eql hE rfl rfl rfl ?_; clear hE a; intro a hE)
      | ((with_reducible refine g_cond ?_); refine c_true hE rfl ?_)
      | ((with_reducible refine g_cond ?_); refine c_false hE rfl ?_)
      )
    refine c_ordK hS 2 rfl 11 ((.rd 1 (.rd 2 (.rd 3 (.rd 4 (.ef2 0 ((.ef 5 (.ef 6 (.rd 7 (.rd 8 (.rd 9 (.ef 10 (.lt 11 .done)))))))) 5 ((.ef 0 (.ef 6 (.rd 7 (.rd 8 (.rd 9 (.ef 10 (.lt 11 .done)))))))))))))) mixed (by decide +kernel) ?_
    clear hS; intro w hF hS
    repeat' (first
      | (with_reducible refine o_rd rfl ?_)
      | ((with_reducible refine q_fa ?_); refine d_val hE hS rfl (fun w hS => r_fieldL hE rfl rfl) ?_; clear hE a; intro a hE)
      | ((with_reducible refine q_load ?_); (first | (refine d_val hE hS rfl (fun w hS => r_loadB (k := 0) hS hE rfl rfl rfl) ?_) ); clear hE a; intro a hE)
      )
    refine o_ef2 rfl rfl ?_ ?_
    · refine g_load ?_
      refine s_loadW (k := 3) hF hE rfl rfl rfl rfl ?_
      clear hE a; intro a hE
      refine wpList_nil ?_
      refine o_back _ (fun _ h => h) (hF.only 2 rfl) ?_
      clear hS; have hS := hF.only 2 rfl
      repeat' (first
        | ((with_reducible refine o_ef rfl ?_))
        )
      refine s_call hE rfl rfl rfl (block o.fill hwf w) ?_
      rintro _ w ⟨rfl, hS1⟩; clear hE a; intro a hE; replace hF := hF.frame hS1; clear hS1; simp only [List.nil_append] at hF
      refine wpList_nil ?_
      refine o_back _ (fun _ h => h) (hF.only 2 rfl) ?_
      clear hS; have hS := hF.only 2 rfl
      repeat' (first
        | ((with_reducible refine o_ef rfl ?_))
        )
      refine s_call hE rfl rfl rfl (rwrite (c := c) (d := d) o.at_ (blkB o.fill) hbo hR ho (fun p hp => (hk p hp).st hF) hin) ?_
      rintro _ w ⟨S', c', Q', d', new, rfl, hat, hS1⟩; clear hE a; intro a hE; replace hF := hF.frame hS1; clear hS1; simp only [List.cons_append, List.nil_append] at hF
      refine wpList_nil ?_
      refine o_back _ (fun _ h => h) (hF.only 3 rfl) ?_
      clear hS; have hS := hF.only 3 rfl
      repeat' (first
        | (with_reducible refine o_rd rfl ?_)
        | ((with_reducible refine q_move ?_); refine d_val hE hS rfl (fun w hS => r_move hE rfl) ?_; clear hE a; intro a hE)
        | ((with_reducible refine q_extract ?_); refine d_val hE hS rfl (fun w hS => r_extract hE rfl rfl) ?_; clear hE a; intro a hE)
        | ((with_reducible refine o_ef rfl ?_))
        )
      refine g_store ?_
      refine s_storeW (k := 4) hF hE rfl rfl rfl rfl rfl (by simp [Value.oneCell']) ?_
      clear hF; intro w hF; simp only [List.set_cons_zero, List.set_cons_succ] at hF
      refine wpList_nil ?_
      refine o_back _ (fun _ h => h) (hF.only 3 rfl) ?_
      clear hS; have hS := hF; clear hF
      repeat' (first
        | ((with_reducible refine o_lt rfl ?_))
        )
      repeat' (first

        | (with_reducible refine wpList_nil ?_)
        | ((with_reducible refine g_assign ?_); refine s_assign hE rfl rfl ?_; clear hE a; intro a hE)
        )
      refine o_backL ?_
      repeat' (first
        | (with_reducible refine o_done ?_)
        )
      repeat' (first

        | (with_reducible refine wp_seq ?_)
        | (with_reducible refine c_region ?_)
        | (with_reducible refine then_normal ?_)
        | (with_reducible refine block_normal ?_)
        | ((with_reducible refine g_load ?_); (first | (refine s_loadW (k := 4) hS hE rfl rfl rfl rfl ?_) ); clear hE a; intro a hE)
        )
      refine s_build (bys noughts) hE rfl rfl rfl ?_
      clear hE a; intro a hE
      repeat' (first

        | (with_reducible refine wpList_nil ?_)
        | (with_reducible refine then_normal ?_)
        | (with_reducible refine wp_ret ?_)
        | ((with_reducible refine g_move ?_); refine s_move hE rfl rfl ?_; clear hE a; intro a hE)
        | ((with_reducible refine g_assign ?_); refine s_assign hE rfl rfl ?_; clear hE a; intro a hE)
        | ((with_reducible refine g_store ?_); (first | (refine s_storeW (k := 1) hS hE rfl rfl rfl rfl rfl (by first | exact bys_one _ | (simp [Value.oneCell']; done)) ?_) | (refine s_storeW (k := 2) hS hE rfl rfl rfl rfl rfl (by first | (simp [Value.oneCell']; done)) ?_) ); clear hS; intro w hS; simp only [List.set_cons_zero, List.set_cons_succ, Nat.add_zero] at hS)
        )
      exact retG (vs := [_, _, _]) hE rfl ⟨⟨_, rfl, res_W (k := 2) hS rfl rfl⟩, ⟨_, rfl, res_W (k := 1) hS rfl rfl⟩, rfl, trivial⟩ ⟨S', c', Q', d', new, rfl, hat, hS.only 0 rfl⟩
    · refine s_call hE rfl rfl rfl (block o.fill hwf w) ?_
      rintro _ w ⟨rfl, hS1⟩; clear hE a; intro a hE; replace hF := hF.frame hS1; clear hS1; simp only [List.nil_append] at hF
      refine wpList_nil ?_
      refine o_back _ (fun _ h => h) (hF.only 2 rfl) ?_
      clear hS; have hS := hF.only 2 rfl
      repeat' (first
        | ((with_reducible refine o_ef rfl ?_))
        )
      refine g_load ?_
      refine s_loadW (k := 3) hF hE rfl rfl rfl rfl ?_
      clear hE a; intro a hE
      refine wpList_nil ?_
      refine o_back _ (fun _ h => h) (hF.only 2 rfl) ?_
      clear hS; have hS := hF.only 2 rfl
      repeat' (first
        | ((with_reducible refine o_ef rfl ?_))
        )
      refine s_call hE rfl rfl rfl (rwrite (c := c) (d := d) o.at_ (blkB o.fill) hbo hR ho (fun p hp => (hk p hp).st hF) hin) ?_
      rintro _ w ⟨S', c', Q', d', new, rfl, hat, hS1⟩; clear hE a; intro a hE; replace hF := hF.frame hS1; clear hS1; simp only [List.cons_append, List.nil_append] at hF
      refine wpList_nil ?_
      refine o_back _ (fun _ h => h) (hF.only 3 rfl) ?_
      clear hS; have hS := hF.only 3 rfl
      repeat' (first
        | (with_reducible refine o_rd rfl ?_)
        | ((with_reducible refine q_move ?_); refine d_val hE hS rfl (fun w hS => r_move hE rfl) ?_; clear hE a; intro a hE)
        | ((with_reducible refine q_extract ?_); refine d_val hE hS rfl (fun w hS => r_extract hE rfl rfl) ?_; clear hE a; intro a hE)
        | ((with_reducible refine o_ef rfl ?_))
        )
      refine g_store ?_
      refine s_storeW (k := 4) hF hE rfl rfl rfl rfl rfl (by simp [Value.oneCell']) ?_
      clear hF; intro w hF; simp only [List.set_cons_zero, List.set_cons_succ] at hF
      refine wpList_nil ?_
      refine o_back _ (fun _ h => h) (hF.only 3 rfl) ?_
      clear hS; have hS := hF; clear hF
      repeat' (first
        | ((with_reducible refine o_lt rfl ?_))
        )
      repeat' (first

        | (with_reducible refine wpList_nil ?_)
        | ((with_reducible refine g_assign ?_); refine s_assign hE rfl rfl ?_; clear hE a; intro a hE)
        )
      refine o_backL ?_
      repeat' (first
        | (with_reducible refine o_done ?_)
        )
      repeat' (first

        | (with_reducible refine wp_seq ?_)
        | (with_reducible refine c_region ?_)
        | (with_reducible refine then_normal ?_)
        | (with_reducible refine block_normal ?_)
        | ((with_reducible refine g_load ?_); (first | (refine s_loadW (k := 4) hS hE rfl rfl rfl rfl ?_) ); clear hE a; intro a hE)
        )
      refine s_build (bys noughts) hE rfl rfl rfl ?_
      clear hE a; intro a hE
      repeat' (first

        | (with_reducible refine wpList_nil ?_)
        | (with_reducible refine then_normal ?_)
        | (with_reducible refine wp_ret ?_)
        | ((with_reducible refine g_move ?_); refine s_move hE rfl rfl ?_; clear hE a; intro a hE)
        | ((with_reducible refine g_assign ?_); refine s_assign hE rfl rfl ?_; clear hE a; intro a hE)
        | ((with_reducible refine g_store ?_); (first | (refine s_storeW (k := 1) hS hE rfl rfl rfl rfl rfl (by first | exact bys_one _ | (simp [Value.oneCell']; done)) ?_) | (refine s_storeW (k := 2) hS hE rfl rfl rfl rfl rfl (by first | (simp [Value.oneCell']; done)) ?_) ); clear hS; intro w hS; simp only [List.set_cons_zero, List.set_cons_succ, Nat.add_zero] at hS)
        )
      exact retG (vs := [_, _, _]) hE rfl ⟨⟨_, rfl, res_W (k := 2) hS rfl rfl⟩, ⟨_, rfl, res_W (k := 1) hS rfl rfl⟩, rfl, trivial⟩ ⟨S', c', Q', d', new, rfl, hat, hS.only 0 rfl⟩
  · have e : R.want o = (R.sync.1, noughts, R.sync.2) := by unfold RM.want; rw [if_neg (by omega), if_neg (by omega), if_pos hk6]
    rw [e]
    repeat' (first

      | (with_reducible refine wp_seq ?_)
      | (with_reducible refine c_region ?_)
      | (with_reducible refine wpList_nil ?_)
      | (with_reducible refine then_normal ?_)
      | (with_reducible refine wp_block ?_)
      | ((with_reducible refine g_assign ?_); refine s_assign hE rfl rfl ?_; clear hE a; intro a hE)
      | ((with_reducible refine g_bin .eql ?_); refine s_eql hE rfl rfl rfl ?_; clear hE a; intro a hE)
      | ((with_reducible refine g_cond ?_); refine c_true hE rfl ?_)
      | ((with_reducible refine g_cond ?_); refine c_false hE rfl ?_)
      | ((with_reducible refine g_load ?_); (first | (refine s_loadW (k := 3) hS hE rfl rfl rfl rfl ?_) ); clear hE a; intro a hE)
      )
    refine s_call hE rfl rfl rfl (rsync (c := c) (d := d) hR ho (fun p hp => (hk p hp).st hS) hin) ?_
    rintro _ w ⟨S', c', Q', d', new, rfl, hat, hS1⟩; clear hE a; intro a hE; replace hS := hS.frame hS1; clear hS1; try simp only [List.cons_append, List.nil_append] at hS
    repeat' (first

      | (with_reducible refine wp_seq ?_)
      | (with_reducible refine c_region ?_)
      | (with_reducible refine wpList_nil ?_)
      | (with_reducible refine then_normal ?_)
      | (with_reducible refine block_normal ?_)
      | ((with_reducible refine g_move ?_); refine s_move hE rfl rfl ?_; clear hE a; intro a hE)
      | ((with_reducible refine g_assign ?_); refine s_assign hE rfl rfl ?_; clear hE a; intro a hE)
      | ((with_reducible refine g_extract ?_); refine s_extract hE rfl rfl rfl ?_; clear hE a; intro a hE)
      | ((with_reducible refine g_load ?_); (first | (refine s_loadW (k := 4) hS hE rfl rfl rfl rfl ?_) ); clear hE a; intro a hE)
      | ((with_reducible refine g_store ?_); (first | (refine s_storeW (k := 4) hS hE rfl rfl rfl rfl rfl (by first | (simp [Value.oneCell']; done)) ?_) ); clear hS; intro w hS; simp only [List.set_cons_zero, List.set_cons_succ, Nat.add_zero] at hS)
      )
    refine s_build (bys noughts) hE rfl rfl rfl ?_
    clear hE a; intro a hE
    repeat' (first

      | (with_reducible refine wpList_nil ?_)
      | (with_reducible refine then_normal ?_)
      | (with_reducible refine wp_ret ?_)
      | ((with_reducible refine g_move ?_); refine s_move hE rfl rfl ?_; clear hE a; intro a hE)
      | ((with_reducible refine g_assign ?_); refine s_assign hE rfl rfl ?_; clear hE a; intro a hE)
      | ((with_reducible refine g_store ?_); (first | (refine s_storeW (k := 1) hS hE rfl rfl rfl rfl rfl (by first | exact bys_one _ | (simp [Value.oneCell']; done)) ?_) | (refine s_storeW (k := 2) hS hE rfl rfl rfl rfl rfl (by first | (simp [Value.oneCell']; done)) ?_) ); clear hS; intro w hS; simp only [List.set_cons_zero, List.set_cons_succ, Nat.add_zero] at hS)
      )
    exact retG (vs := [_, _, _]) hE rfl ⟨⟨_, rfl, res_W (k := 2) hS rfl rfl⟩, ⟨_, rfl, res_W (k := 1) hS rfl rfl⟩, rfl, trivial⟩ ⟨S', c', Q', d', new, rfl, hat, hS.only 0 rfl⟩
  · have e : R.want o = ((R.arm o.at_).1, noughts, (R.arm o.at_).2) := by unfold RM.want; rw [if_neg (by omega), if_neg (by omega), if_neg (by omega), if_pos hk6]
    rw [e]
    repeat' (first

      | (with_reducible refine wp_seq ?_)
      | (with_reducible refine c_region ?_)
      | (with_reducible refine wpList_nil ?_)
      | (with_reducible refine then_normal ?_)
      | (with_reducible refine wp_block ?_)
      | ((with_reducible refine g_assign ?_); refine s_assign hE rfl rfl ?_; clear hE a; intro a hE)
      | ((with_reducible refine g_bin .eql ?_); refine s_eql hE rfl rfl rfl ?_; clear hE a; intro a hE)
      | ((with_reducible refine g_fa ?_); refine s_fieldL hE rfl rfl rfl ?_; clear hE a; intro a hE)
      | ((with_reducible refine g_cond ?_); refine c_true hE rfl ?_)
      | ((with_reducible refine g_cond ?_); refine c_false hE rfl ?_)
      | ((with_reducible refine g_load ?_); (first | (refine s_loadB (k := 2) hS hE rfl rfl rfl rfl ?_) ); clear hE a; intro a hE)
      | ((with_reducible refine g_load ?_); (first | (refine s_loadW (k := 3) hS hE rfl rfl rfl rfl ?_) ); clear hE a; intro a hE)
      )
    refine s_call hE rfl rfl rfl (rarm (c := c) (d := d) o.at_ hwa w) ?_
    rintro _ w ⟨rfl, hS1⟩; clear hE a; intro a hE; replace hS := hS.frame hS1; clear hS1; try simp only [List.cons_append, List.nil_append] at hS
    have hs2 : (R.arm o.at_).1.safe = R.safe ∧ (R.arm o.at_).1.pend = R.pend := by
      unfold RM.arm
      split <;> exact ⟨rfl, rfl⟩
    repeat' (first

      | (with_reducible refine wp_seq ?_)
      | (with_reducible refine c_region ?_)
      | (with_reducible refine wpList_nil ?_)
      | (with_reducible refine then_normal ?_)
      | (with_reducible refine block_normal ?_)
      | ((with_reducible refine g_move ?_); refine s_move hE rfl rfl ?_; clear hE a; intro a hE)
      | ((with_reducible refine g_assign ?_); refine s_assign hE rfl rfl ?_; clear hE a; intro a hE)
      | ((with_reducible refine g_extract ?_); refine s_extract hE rfl rfl rfl ?_; clear hE a; intro a hE)
      | ((with_reducible refine g_load ?_); (first | (refine s_loadW (k := 3) hS hE rfl rfl rfl rfl ?_) ); clear hE a; intro a hE)
      | ((with_reducible refine g_store ?_); (first | (refine s_storeW (k := 3) hS hE rfl rfl rfl rfl rfl (by first | (simp [Value.oneCell']; done)) ?_) ); clear hS; intro w hS; simp only [List.set_cons_zero, List.set_cons_succ, Nat.add_zero] at hS)
      )
    refine s_build (bys noughts) hE rfl rfl rfl ?_
    clear hE a; intro a hE
    repeat' (first

      | (with_reducible refine wpList_nil ?_)
      | (with_reducible refine then_normal ?_)
      | (with_reducible refine wp_ret ?_)
      | ((with_reducible refine g_move ?_); refine s_move hE rfl rfl ?_; clear hE a; intro a hE)
      | ((with_reducible refine g_assign ?_); refine s_assign hE rfl rfl ?_; clear hE a; intro a hE)
      | ((with_reducible refine g_store ?_); (first | (refine s_storeW (k := 0) hS hE rfl rfl rfl rfl rfl (by first | exact bys_one _ | (simp [Value.oneCell']; done)) ?_) | (refine s_storeW (k := 1) hS hE rfl rfl rfl rfl rfl (by first | (simp [Value.oneCell']; done)) ?_) ); clear hS; intro w hS; simp only [List.set_cons_zero, List.set_cons_succ, Nat.add_zero] at hS)
      )
    exact retG (vs := [_, _, _]) hE rfl ⟨⟨_, rfl, res_W (k := 1) hS rfl rfl⟩, ⟨_, rfl, res_W (k := 0) hS rfl rfl⟩, rfl, trivial⟩ ⟨S, c, Q, d, _, rfl, hin.same hs2.1 hs2.2, hS.nil.rsNil⟩
  · have e : R.want o = (R.crash o.keep, noughts, 0) := by unfold RM.want; rw [if_neg (by omega), if_neg (by omega), if_neg (by omega), if_neg (by omega), if_neg (by omega)]
    rw [e]
    repeat' (first

      | (with_reducible refine wp_seq ?_)
      | (with_reducible refine c_region ?_)
      | (with_reducible refine wpList_nil ?_)
      | (with_reducible refine then_normal ?_)
      | (with_reducible refine wp_block ?_)
      | ((with_reducible refine g_assign ?_); refine s_assign hE rfl rfl ?_; clear hE a; intro a hE)
      | ((with_reducible refine g_bin .eql ?_); refine s_eql hE rfl rfl rfl ?_; clear hE a; intro a hE)
      | ((with_reducible refine g_fa ?_); refine s_fieldL hE rfl rfl rfl ?_; clear hE a; intro a hE)
      | ((with_reducible refine g_cond ?_); refine c_false hE rfl ?_)
      | ((with_reducible refine g_load ?_); (first | (refine s_loadB (k := 2) hS hE rfl rfl rfl rfl ?_) ); clear hE a; intro a hE)
      | ((with_reducible refine g_load ?_); (first | (refine s_loadW (k := 3) hS hE rfl rfl rfl rfl ?_) ); clear hE a; intro a hE)
      )
    refine s_call hE rfl rfl rfl (rcrash (c := c) (d := d) o.K o.kc o.keep hR (fun p hp => (hk p hp).st hS) hin (Rd.st hor hS) (by omega)) ?_
    rintro _ w ⟨S', c', Q', d', new, rfl, hat, hS1⟩; clear hE a; intro a hE; replace hS := hS.frame hS1; clear hS1; try simp only [List.cons_append, List.nil_append] at hS
    repeat' (first

      | (with_reducible refine wp_seq ?_)
      | (with_reducible refine c_region ?_)
      | (with_reducible refine wpList_nil ?_)
      | (with_reducible refine then_normal ?_)
      | (with_reducible refine block_normal ?_)
      | ((with_reducible refine g_load ?_); (first | (refine s_loadW (k := 4) hS hE rfl rfl rfl rfl ?_) ); clear hE a; intro a hE)
      | ((with_reducible refine g_store ?_); (first | (refine s_storeW (k := 4) hS hE rfl rfl rfl rfl rfl (by first | (simp [Value.oneCell']; done)) ?_) ); clear hS; intro w hS; simp only [List.set_cons_zero, List.set_cons_succ, Nat.add_zero] at hS)
      )
    refine s_build (bys noughts) hE rfl rfl rfl ?_
    clear hE a; intro a hE
    repeat' (first

      | (with_reducible refine wpList_nil ?_)
      | (with_reducible refine then_normal ?_)
      | (with_reducible refine wp_ret ?_)
      | ((with_reducible refine g_move ?_); refine s_move hE rfl rfl ?_; clear hE a; intro a hE)
      | ((with_reducible refine g_assign ?_); refine s_assign hE rfl rfl ?_; clear hE a; intro a hE)
      | ((with_reducible refine g_store ?_); (first | (refine s_storeW (k := 1) hS hE rfl rfl rfl rfl rfl (by first | exact bys_one _ | (simp [Value.oneCell']; done)) ?_) | (refine s_storeW (k := 2) hS hE rfl rfl rfl rfl rfl (by first | (simp [Value.oneCell']; done)) ?_) ); clear hS; intro w hS; simp only [List.set_cons_zero, List.set_cons_succ, Nat.add_zero] at hS)
      )
    exact retG (vs := [_, _, _]) hE rfl ⟨⟨_, rfl, res_W (k := 2) hS rfl rfl⟩, ⟨_, rfl, res_W (k := 1) hS rfl rfl⟩, rfl, trivial⟩ ⟨S', c', Q', d', new, rfl, hat, hS.only 0 rfl⟩
  · have e : R.want o = ((R.fail o.at_).1, noughts, (R.fail o.at_).2) := by unfold RM.want; rw [if_neg (by omega), if_neg (by omega), if_neg (by omega), if_neg (by omega), if_pos hk6]
    rw [e]
    repeat' (first

      | (with_reducible refine wp_seq ?_)
      | (with_reducible refine c_region ?_)
      | (with_reducible refine wpList_nil ?_)
      | (with_reducible refine then_normal ?_)
      | (with_reducible refine wp_block ?_)
      | ((with_reducible refine g_assign ?_); refine s_assign hE rfl rfl ?_; clear hE a; intro a hE)
      | ((with_reducible refine g_bin .eql ?_); refine s_eql hE rfl rfl rfl ?_; clear hE a; intro a hE)
      | ((with_reducible refine g_fa ?_); refine s_fieldL hE rfl rfl rfl ?_; clear hE a; intro a hE)
      | ((with_reducible refine g_cond ?_); refine c_true hE rfl ?_)
      | ((with_reducible refine g_cond ?_); refine c_false hE rfl ?_)
      | ((with_reducible refine g_load ?_); (first | (refine s_loadB (k := 2) hS hE rfl rfl rfl rfl ?_) ); clear hE a; intro a hE)
      | ((with_reducible refine g_load ?_); (first | (refine s_loadW (k := 3) hS hE rfl rfl rfl rfl ?_) ); clear hE a; intro a hE)
      )
    refine s_call hE rfl rfl rfl (rfail (c := c) (d := d) o.at_ hwa w) ?_
    rintro _ w ⟨rfl, hS1⟩; clear hE a; intro a hE; replace hS := hS.frame hS1; clear hS1; try simp only [List.cons_append, List.nil_append] at hS
    have hs2 : (R.fail o.at_).1.safe = R.safe ∧ (R.fail o.at_).1.pend = R.pend := by
      unfold RM.fail
      split <;> exact ⟨rfl, rfl⟩
    repeat' (first

      | (with_reducible refine wp_seq ?_)
      | (with_reducible refine c_region ?_)
      | (with_reducible refine wpList_nil ?_)
      | (with_reducible refine then_normal ?_)
      | (with_reducible refine block_normal ?_)
      | ((with_reducible refine g_move ?_); refine s_move hE rfl rfl ?_; clear hE a; intro a hE)
      | ((with_reducible refine g_assign ?_); refine s_assign hE rfl rfl ?_; clear hE a; intro a hE)
      | ((with_reducible refine g_extract ?_); refine s_extract hE rfl rfl rfl ?_; clear hE a; intro a hE)
      | ((with_reducible refine g_load ?_); (first | (refine s_loadW (k := 3) hS hE rfl rfl rfl rfl ?_) ); clear hE a; intro a hE)
      | ((with_reducible refine g_store ?_); (first | (refine s_storeW (k := 3) hS hE rfl rfl rfl rfl rfl (by first | (simp [Value.oneCell']; done)) ?_) ); clear hS; intro w hS; simp only [List.set_cons_zero, List.set_cons_succ, Nat.add_zero] at hS)
      )
    refine s_build (bys noughts) hE rfl rfl rfl ?_
    clear hE a; intro a hE
    repeat' (first

      | (with_reducible refine wpList_nil ?_)
      | (with_reducible refine then_normal ?_)
      | (with_reducible refine wp_ret ?_)
      | ((with_reducible refine g_move ?_); refine s_move hE rfl rfl ?_; clear hE a; intro a hE)
      | ((with_reducible refine g_assign ?_); refine s_assign hE rfl rfl ?_; clear hE a; intro a hE)
      | ((with_reducible refine g_store ?_); (first | (refine s_storeW (k := 0) hS hE rfl rfl rfl rfl rfl (by first | exact bys_one _ | (simp [Value.oneCell']; done)) ?_) | (refine s_storeW (k := 1) hS hE rfl rfl rfl rfl rfl (by first | (simp [Value.oneCell']; done)) ?_) ); clear hS; intro w hS; simp only [List.set_cons_zero, List.set_cons_succ, Nat.add_zero] at hS)
      )
    exact retG (vs := [_, _, _]) hE rfl ⟨⟨_, rfl, res_W (k := 1) hS rfl rfl⟩, ⟨_, rfl, res_W (k := 0) hS rfl rfl⟩, rfl, trivial⟩ ⟨S, c, Q, d, _, rfl, hin.same hs2.1 hs2.2, hS.nil.rsNil⟩
end
end Go.Proofs.Ytnnamckabjhflaa
