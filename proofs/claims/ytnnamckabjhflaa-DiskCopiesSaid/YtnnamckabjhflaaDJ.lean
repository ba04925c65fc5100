/-
  Contracts of the statements' own helpers: an operation is done.
-/
import Derived.Test.YtnnamckabjhflaaDI
namespace Go.Proofs.Ytnnamckabjhflaa
open Go.RowKit
set_option linter.unusedVariables false
set_option linter.unusedSimpArgs false
attribute [local irreducible] Rd hRow hBlk hRd hAll Fn hMarks
attribute [local simp] Wr.cells Opn.cells

section
variable {g : Nat} {S : Option Addr} {c : Nat} {Q : Option Addr} {d : Nat} {D : DM} {H : List HP} {w0 w : World}
set_option maxHeartbeats 8000000
theorem front2 {a b : HP} (hS : St w0 w (a :: b :: dk g S c Q d D H)) : St w0 w (dk g S c Q d D (a :: b :: H)) :=
  St.perm hS (List.perm_append_comm (l₁ := [a, b]) (l₂ := dk g S c Q d D []) |>.append_right H)
theorem front1 {a : HP} (hS : St w0 w (a :: dk g S c Q d D H)) : St w0 w (dk g S c Q d D (a :: H)) :=
  St.perm hS (List.perm_append_comm (l₁ := [a]) (l₂ := dk g S c Q d D []) |>.append_right H)
theorem holds_ok (hD : D.ok) (i : Nat) (hi : i < D.safe.length) : Blk.ok (D.holds i) := by
  unfold DM.holds
  cases h : lastOf D.pend i with
  | none =>
    rw [Option.getD_none, List.getD_eq_getElem?_getD, List.getElem?_eq_getElem hi]
    exact hD.safe _ (List.getElem_mem hi)
  | some b =>
    have key : ∀ l : List Wr, (∀ x ∈ l, Blk.ok x.b) → lastOf l i = some b → Blk.ok b := by
      intro l
      induction l with
      | nil => intro _ h; cases h
      | cons x l ih =>
        intro hl h
        unfold lastOf at h
        cases h2 : lastOf l i with
        | some b' => rw [h2] at h; injection h with h; subst h; exact ih (fun y hy => hl y (by simp [hy])) h2
        | none =>
          rw [h2] at h
          dsimp only at h
          split at h
          · injection h with h; subst h; exact hl x (by simp)
          · cases h
    exact key _ (fun x hx => (hD.pend x hx).1) h
theorem read_blk (hD : D.ok) (i : Int) : Blk.ok (D.read i).2.1 := by
  unfold DM.read
  split
  · rename_i h
    have := ready_in h
    exact holds_ok hD _ (by omega)
  · exact noughts_ok
theorem does (o : Opn) (hw : o.wf) (hr : o.rd w0) (hD : D.ok) (ho : D.ops < 4611686018427387904) (hS : St w0 w (dk g S c Q d D H)) :
    Fn Try.prog 18 [.pointer (some ⟨g, 0, none⟩), .agg o.cells.toArray] w fun v w' => v = .tuple #[.agg (bys (D.does o).2.1).toArray, .int .i64 (D.does o).2.2] ∧ ∃ Q' d', St w0 w' (dk g S c Q' d' (D.does o).1 H) := by
  have hk5 := o.k_lt
  have hwa := hw.at_
  have hbo := blkB_ok hw.fill
  refine enter 51 Try.func18 rfl rfl rfl ?_
  intro a hE
  refine wp_seq ?_
  refine c_region ?_
  refine s_boxS hE hS rfl rfl ?_
  clear hE a hS; intro b3 a w hE hS
  refine s_allocL (bys noughts) hE hS rfl rfl ?_
  clear hE a hS; intro b4 a w hE hS
  repeat' (first

    | (with_reducible refine wp_seq ?_)
    | (with_reducible refine c_region ?_)
    | (with_reducible refine wpList_nil ?_)
    | (with_reducible refine then_normal ?_)
    | ((with_reducible refine g_assign ?_); refine s_assign hE rfl rfl ?_; clear hE a; intro a hE)
    | ((with_reducible refine g_load ?_); (first | (refine s_loadW (k := 1) hS hE rfl rfl rfl rfl ?_) ); clear hE a; intro a hE)
    )
  refine s_call hE rfl rfl rfl (kind o w) ?_
  rintro _ w ⟨rfl, hS1⟩; clear hE a; intro a hE; replace hS := hS.frame hS1; clear hS1; try simp only [List.cons_append, List.nil_append] at hS
  replace hS := front2 hS
  rcases (show o.k = 0 ∨ o.k = 1 ∨ o.k = 2 ∨ o.k = 3 ∨ o.k = 4 ∨ o.k = 5 by omega) with hk | hk | hk | hk | hk | hk <;> rw [hk] at hE
  · have e : D.does o = D.read o.at_ := by unfold DM.does; rw [if_pos hk]
    rw [e]
    repeat' (first

      | (with_reducible refine wp_seq ?_)
      | (with_reducible refine c_region ?_)
      | (with_reducible refine wpList_nil ?_)
      | (with_reducible refine then_normal ?_)
      | (with_reducible refine wp_block ?_)
      | ((with_reducible refine g_move ?_); refine s_move hE rfl rfl ?_; clear hE a; intro a hE)
      | ((with_reducible refine g_assign ?_); refine s_assign hE rfl rfl ?_; clear hE a; intro a hE)
      | ((with_reducible refine g_bin .eql ?_); refine s_eql hE rfl rfl rfl ?_; clear hE a; intro a hE)
      | ((with_reducible refine g_fa ?_); refine s_fieldL hE rfl rfl rfl ?_; clear hE a; intro a hE)
      | ((with_reducible refine g_cond ?_); refine c_true hE rfl ?_)
      | ((with_reducible refine g_load ?_); (first | (refine s_loadB (k := 4) hS hE rfl rfl rfl rfl ?_) ); clear hE a; intro a hE)
      )
    refine s_call hE rfl rfl rfl (read_ o.at_ hD ho hS) ?_
    rintro _ w ⟨rfl, hS⟩; clear hE a; intro a hE
    have hb : (bys (D.read o.at_).2.1).length = 64 := by rw [bys_length]; exact (read_blk hD o.at_).1
    repeat' (first

      | (with_reducible refine wpList_nil ?_)
      | (with_reducible refine then_normal ?_)
      | (with_reducible refine wp_ret ?_)
      | (with_reducible refine then_ret ?_)
      | (with_reducible refine block_ret ?_)
      | ((with_reducible refine g_assign ?_); refine s_assign hE rfl rfl ?_; clear hE a; intro a hE)
      | ((with_reducible refine g_extract ?_); refine s_extract hE rfl rfl rfl ?_; clear hE a; intro a hE)
      | ((with_reducible refine g_store ?_); (first | (refine s_storeW (k := 3) hS hE rfl rfl rfl (by assumption) (by first | rfl ) (by first | exact bys_one _ ) ?_) ); clear hS; intro w hS; simp only [List.set_cons_zero, List.set_cons_succ, Nat.add_zero] at hS)
      )
    exact retG (vs := [_, _]) hE rfl ⟨⟨_, rfl, res_W (k := 3) hS rfl hb⟩, rfl, trivial⟩ ⟨rfl, _, _, (hS.drop 3).drop 3⟩
  · have e : D.does o = ((D.write o.at_ (blkB o.fill)).1, noughts, (D.write o.at_ (blkB o.fill)).2) := by unfold DM.does; rw [if_neg (by omega), if_pos hk]
    rw [e]
    repeat' (first

      | (with_reducible refine wp_seq ?_)
      | (with_reducible refine c_region ?_)
      | (with_reducible refine wpList_nil ?_)
      | (with_reducible refine then_normal ?_)
      | (with_reducible refine wp_block ?_)
      | ((with_reducible refine g_assign ?_); refine s_assign hE rfl rfl ?_; clear hE a; intro a hE)
      | ((with_reducible refine g_bin .eql ?_); refine s_eql hE rfl rfl rfl ?_; clear hE a; intro a hE)
      | ((with_reducible refine g_cond ?_); refine c_true hE rfl ?_)
      | ((with_reducible refine g_cond ?_); refine c_false hE rfl ?_)
      )
    refine c_ordK hS 4 rfl 9 ((.rd 0 (.rd 1 (.rd 2 (.rd 3 (.rd 4 (.rd 5 (.ef 6 (.ef 7 (.ef 8 (.lt 9 .done))))))))))) mixed (by decide +kernel) ?_
    clear hS; intro w hF hS
    repeat' (first
      | (with_reducible refine o_rd rfl ?_)
      )
    refine d_val hE hS rfl (fun w hS => r_build (bys noughts) hE rfl rfl) ?_; clear hE a; intro a hE
    repeat' (first
      | (with_reducible refine o_rd rfl ?_)
      | ((with_reducible refine q_move ?_); refine d_val hE hS rfl (fun w hS => r_move hE rfl) ?_; clear hE a; intro a hE)
      | ((with_reducible refine q_fa ?_); refine d_val hE hS rfl (fun w hS => r_fieldL hE rfl rfl) ?_; clear hE a; intro a hE)
      | ((with_reducible refine q_load ?_); (first | (refine d_val hE hS rfl (fun w hS => r_loadB (k := 0) hS hE rfl rfl rfl) ?_) ); clear hE a; intro a hE)
      | ((with_reducible refine o_ef rfl ?_))
      )
    refine s_call hE rfl rfl rfl (block o.fill hw.fill w) ?_
    rintro _ w ⟨rfl, hS1⟩; clear hE a; intro a hE; replace hF := hF.frame hS1; clear hS1; simp only [List.nil_append] at hF
    refine wpList_nil ?_
    refine o_back _ (fun _ h => h) (hF.only 4 rfl) ?_
    clear hS; have hS := hF.only 4 rfl
    repeat' (first
      | ((with_reducible refine o_ef rfl ?_))
      )
    refine s_call hE rfl rfl rfl (write o.at_ (blkB o.fill) hbo hD ho hF) ?_
    clear hF
    rintro _ w ⟨rfl, Q', d', hF⟩; clear hE a; intro a hE
    refine wpList_nil ?_
    refine o_back _ (fun _ h => h) (hF.only 4 rfl) ?_
    clear hS; have hS := hF.only 4 rfl
    repeat' (first
      | ((with_reducible refine o_ef rfl ?_))
      )
    refine g_store ?_
    refine s_storeW (k := 3) hF hE rfl rfl rfl rfl rfl (bys_one _) ?_
    clear hF; intro w hF; simp only [List.set_cons_zero, List.set_cons_succ] at hF
    refine wpList_nil ?_
    refine o_back _ (fun _ h => h) (hF.only 4 rfl) ?_
    clear hS; have hS := hF; clear hF
    repeat' (first
      | ((with_reducible refine o_lt rfl ?_))
      )
    repeat' (first

      | (with_reducible refine wpList_nil ?_)
      | ((with_reducible refine g_assign ?_); refine s_assign hE rfl rfl ?_; clear hE a; intro a hE)
      )
    refine o_backL ?_
    repeat' (first
      | (with_reducible refine o_done ?_)
      )
    repeat' (first

      | (with_reducible refine then_normal ?_)
      | (with_reducible refine wp_ret ?_)
      | (with_reducible refine then_ret ?_)
      | (with_reducible refine block_ret ?_)
      )
    exact retG (vs := [_, _]) hE rfl ⟨⟨_, rfl, res_W (k := 3) hS rfl rfl⟩, rfl, trivial⟩ ⟨rfl, _, _, (hS.drop 3).drop 3⟩
  · have e : D.does o = (D.sync.1, noughts, D.sync.2) := by unfold DM.does; rw [if_neg (by omega), if_neg (by omega), if_pos hk]
    rw [e]
    repeat' (first

      | (with_reducible refine wp_seq ?_)
      | (with_reducible refine c_region ?_)
      | (with_reducible refine wpList_nil ?_)
      | (with_reducible refine then_normal ?_)
      | (with_reducible refine wp_block ?_)
      | ((with_reducible refine g_assign ?_); refine s_assign hE rfl rfl ?_; clear hE a; intro a hE)
      | ((with_reducible refine g_bin .eql ?_); refine s_eql hE rfl rfl rfl ?_; clear hE a; intro a hE)
      | ((with_reducible refine g_cond ?_); refine c_true hE rfl ?_)
      | ((with_reducible refine g_cond ?_); refine c_false hE rfl ?_)
      )
    refine s_build (bys noughts) hE rfl rfl rfl ?_
    clear hE a; intro a hE
    repeat' (first

      | ((with_reducible refine g_move ?_); refine s_move hE rfl rfl ?_; clear hE a; intro a hE)
      )
    refine s_call hE rfl rfl rfl (sync hD ho hS) ?_
    rintro _ w ⟨rfl, Q', d', hS⟩; clear hE a; intro a hE
    repeat' (first

      | (with_reducible refine wpList_nil ?_)
      | (with_reducible refine then_normal ?_)
      | (with_reducible refine wp_ret ?_)
      | (with_reducible refine then_ret ?_)
      | (with_reducible refine block_ret ?_)
      | ((with_reducible refine g_assign ?_); refine s_assign hE rfl rfl ?_; clear hE a; intro a hE)
      | ((with_reducible refine g_store ?_); (first | (refine s_storeW (k := 3) hS hE rfl rfl rfl rfl rfl (by first | exact bys_one _ ) ?_) ); clear hS; intro w hS; simp only [List.set_cons_zero, List.set_cons_succ, Nat.add_zero] at hS)
      )
    exact retG (vs := [_, _]) hE rfl ⟨⟨_, rfl, res_W (k := 3) hS rfl rfl⟩, rfl, trivial⟩ ⟨rfl, _, _, (hS.drop 3).drop 3⟩
  · have e : D.does o = ((D.arm o.at_).1, noughts, (D.arm o.at_).2) := by unfold DM.does; rw [if_neg (by omega), if_neg (by omega), if_neg (by omega), if_pos hk]
    rw [e]
    repeat' (first

      | (with_reducible refine wp_seq ?_)
      | (with_reducible refine c_region ?_)
      | (with_reducible refine wpList_nil ?_)
      | (with_reducible refine then_normal ?_)
      | (with_reducible refine wp_block ?_)
      | ((with_reducible refine g_assign ?_); refine s_assign hE rfl rfl ?_; clear hE a; intro a hE)
      | ((with_reducible refine g_bin .eql ?_); refine s_eql hE rfl rfl rfl ?_; clear hE a; intro a hE)
      | ((with_reducible refine g_cond ?_); refine c_true hE rfl ?_)
      | ((with_reducible refine g_cond ?_); refine c_false hE rfl ?_)
      )
    refine s_build (bys noughts) hE rfl rfl rfl ?_
    clear hE a; intro a hE
    repeat' (first

      | ((with_reducible refine g_move ?_); refine s_move hE rfl rfl ?_; clear hE a; intro a hE)
      | ((with_reducible refine g_fa ?_); refine s_fieldL hE rfl rfl rfl ?_; clear hE a; intro a hE)
      | ((with_reducible refine g_load ?_); (first | (refine s_loadB (k := 4) hS hE rfl rfl rfl rfl ?_) ); clear hE a; intro a hE)
      )
    refine s_call hE rfl rfl rfl (arm o.at_ hwa hS) ?_
    rintro _ w ⟨rfl, hS⟩; clear hE a; intro a hE
    repeat' (first

      | (with_reducible refine wpList_nil ?_)
      | (with_reducible refine then_normal ?_)
      | (with_reducible refine wp_ret ?_)
      | (with_reducible refine then_ret ?_)
      | (with_reducible refine block_ret ?_)
      | ((with_reducible refine g_assign ?_); refine s_assign hE rfl rfl ?_; clear hE a; intro a hE)
      | ((with_reducible refine g_store ?_); (first | (refine s_storeW (k := 3) hS hE rfl rfl rfl rfl rfl (by first | exact bys_one _ ) ?_) ); clear hS; intro w hS; simp only [List.set_cons_zero, List.set_cons_succ, Nat.add_zero] at hS)
      )
    exact retG (vs := [_, _]) hE rfl ⟨⟨_, rfl, res_W (k := 3) hS rfl rfl⟩, rfl, trivial⟩ ⟨rfl, _, _, (hS.drop 3).drop 3⟩
  · have e : D.does o = (D.crash o.keep, noughts, 0) := by unfold DM.does; rw [if_neg (by omega), if_neg (by omega), if_neg (by omega), if_neg (by omega), if_neg (by omega)]
    rw [e]
    repeat' (first

      | (with_reducible refine wp_seq ?_)
      | (with_reducible refine c_region ?_)
      | (with_reducible refine wpList_nil ?_)
      | (with_reducible refine then_normal ?_)
      | (with_reducible refine wp_skip ?_)
      | (with_reducible refine wp_block ?_)
      | (with_reducible refine block_normal ?_)
      | ((with_reducible refine g_assign ?_); refine s_assign hE rfl rfl ?_; clear hE a; intro a hE)
      | ((with_reducible refine g_bin .eql ?_); refine s_eql hE rfl rfl rfl ?_; clear hE a; intro a hE)
      | ((with_reducible refine g_cond ?_); refine c_false hE rfl ?_)
      )
    refine s_build (bys noughts) hE rfl rfl rfl ?_
    clear hE a; intro a hE
    repeat' (first

      | ((with_reducible refine g_move ?_); refine s_move hE rfl rfl ?_; clear hE a; intro a hE)
      | ((with_reducible refine g_fa ?_); refine s_fieldL hE rfl rfl rfl ?_; clear hE a; intro a hE)
      | ((with_reducible refine g_load ?_); (first | (refine s_loadB (k := 4) hS hE rfl rfl rfl rfl ?_) ); clear hE a; intro a hE)
      )
    refine s_call hE rfl rfl rfl (keeps o.K o.kc o.keep w (by exact Rd.st hr hS) hw.kl.2) ?_
    rintro _ w ⟨A', c', rfl, hS1⟩; clear hE a; intro a hE; replace hS := hS.frame hS1; clear hS1; try simp only [List.cons_append, List.nil_append] at hS
    skip
    refine s_call hE rfl rfl rfl (crash A' c' o.keep hD (fun w' L h => h.rdAt (k := L.length) (by rw [List.getElem?_append_right (Nat.le_refl _), Nat.sub_self]; rfl)) (by have := hw.kl; omega) (front1 hS)) ?_
    rintro _ w ⟨rfl, Q', d', hS⟩; clear hE a; intro a hE
    repeat' (first

      | (with_reducible refine wpList_nil ?_)
      | (with_reducible refine then_normal ?_)
      | (with_reducible refine wp_ret ?_)
      | ((with_reducible refine g_assign ?_); refine s_assign hE rfl rfl ?_; clear hE a; intro a hE)
      | ((with_reducible refine g_store ?_); (first | (refine s_storeW (k := 4) hS hE rfl rfl rfl rfl rfl (by first | exact bys_one _ ) ?_) ); clear hS; intro w hS; simp only [List.set_cons_zero, List.set_cons_succ, Nat.add_zero] at hS)
      )
    exact retG (vs := [_, _]) hE rfl ⟨⟨_, rfl, res_W (k := 4) hS rfl rfl⟩, rfl, trivial⟩ ⟨rfl, _, _, ((hS.drop 3).drop 3).drop 3⟩
  · have e : D.does o = ((D.fail o.at_).1, noughts, (D.fail o.at_).2) := by unfold DM.does; rw [if_neg (by omega), if_neg (by omega), if_neg (by omega), if_neg (by omega), if_pos hk]
    rw [e]
    repeat' (first

      | (with_reducible refine wp_seq ?_)
      | (with_reducible refine c_region ?_)
      | (with_reducible refine wpList_nil ?_)
      | (with_reducible refine then_normal ?_)
      | (with_reducible refine wp_block ?_)
      | ((with_reducible refine g_assign ?_); refine s_assign hE rfl rfl ?_; clear hE a; intro a hE)
      | ((with_reducible refine g_bin .eql ?_); refine s_eql hE rfl rfl rfl ?_; clear hE a; intro a hE)
      | ((with_reducible refine g_cond ?_); refine c_true hE rfl ?_)
      | ((with_reducible refine g_cond ?_); refine c_false hE rfl ?_)
      )
    refine s_build (bys noughts) hE rfl rfl rfl ?_
    clear hE a; intro a hE
    repeat' (first

      | ((with_reducible refine g_move ?_); refine s_move hE rfl rfl ?_; clear hE a; intro a hE)
      | ((with_reducible refine g_fa ?_); refine s_fieldL hE rfl rfl rfl ?_; clear hE a; intro a hE)
      | ((with_reducible refine g_load ?_); (first | (refine s_loadB (k := 4) hS hE rfl rfl rfl rfl ?_) ); clear hE a; intro a hE)
      )
    refine s_call hE rfl rfl rfl (fail o.at_ hwa hS) ?_
    rintro _ w ⟨rfl, hS⟩; clear hE a; intro a hE
    repeat' (first

      | (with_reducible refine wpList_nil ?_)
      | (with_reducible refine then_normal ?_)
      | (with_reducible refine wp_ret ?_)
      | (with_reducible refine then_ret ?_)
      | (with_reducible refine block_ret ?_)
      | ((with_reducible refine g_assign ?_); refine s_assign hE rfl rfl ?_; clear hE a; intro a hE)
      | ((with_reducible refine g_store ?_); (first | (refine s_storeW (k := 3) hS hE rfl rfl rfl rfl rfl (by first | exact bys_one _ ) ?_) ); clear hS; intro w hS; simp only [List.set_cons_zero, List.set_cons_succ, Nat.add_zero] at hS)
      )
    exact retG (vs := [_, _]) hE rfl ⟨⟨_, rfl, res_W (k := 3) hS rfl rfl⟩, rfl, trivial⟩ ⟨rfl, _, _, (hS.drop 3).drop 3⟩
end
end Go.Proofs.Ytnnamckabjhflaa
