/-
  Contracts of the statements' own helpers: a disk that wakes, one that is worn, what it holds.
-/
import Derived.Test.YtnnamckabjhflaaDJ
namespace Go.Proofs.Ytnnamckabjhflaa
open Go.RowKit
set_option linter.unusedVariables false
set_option linter.unusedSimpArgs false
attribute [local irreducible] Rd hRow hBlk hRd hAll Fn hMarks
attribute [local simp] Wr.cells Opn.cells

instance : TyG Try.prog 27 := ⟨by kernel_rfl⟩
/-- a disk on which so many operations were done at most -/
structure DM.atN (D : DM) (n : Nat) : Prop where
  ok : D.ok
  pend : D.pend.length ≤ n
  ops : D.ops ≤ n
theorem DM.atN.mono {D : DM} {n m : Nat} (h : D.atN n) (hm : n ≤ m) : D.atN m := ⟨h.ok, Nat.le_trans h.pend hm, by have := h.ops; omega⟩
theorem ready_atN {D : DM} {n : Nat} (h : D.atN n) (i : Int) : (D.ready i).1.atN n := by
  obtain ⟨h1, h2, h3⟩ := ready_same D i
  exact ⟨ready_ok h.ok i, by rw [h2]; exact h.pend, by rw [h1]; exact h.ops⟩
theorem do_atN {D : DM} {n : Nat} (h : D.atN n) (hn : n ≤ 90000) : D.do_.1.atN (n + 1) := by
  obtain ⟨h1, h2⟩ := do_same D
  have ho := h.ops
  refine ⟨do_ok h.ok (by omega), by rw [h1]; exact Nat.le_succ_of_le h.pend, ?_⟩
  unfold DM.do_
  split
  · split <;> dsimp only <;> omega
  · dsimp only; omega
theorem read_atN {D : DM} {n : Nat} (h : D.atN n) (hn : n ≤ 90000) (i : Int) : (D.read i).1.atN (n + 1) := by
  have hr := ready_atN h i
  obtain ⟨⟨h1, h2, h3, h4, h5, h6, h7⟩, hp, ho⟩ := hr
  unfold DM.read
  split
  · exact ⟨⟨h1, h2, h3, h4, h5, h6, ⟨by dsimp only; omega, by dsimp only; omega⟩⟩, Nat.le_succ_of_le hp, by dsimp only; omega⟩
  · exact (ready_atN h i).mono (Nat.le_succ _)
theorem write_atN {D : DM} {n : Nat} (h : D.atN n) (hn : n ≤ 90000) (i : Int) {b : Blk} (hb : Blk.ok b) : (D.write i b).1.atN (n + 1) := by
  have hr := ready_atN h i
  have hd := do_atN hr hn
  obtain ⟨r1, r2, r3⟩ := ready_same D i
  obtain ⟨d1, d2⟩ := do_same (D.ready i).1
  unfold DM.write
  split
  · rename_i he
    have hin := ready_in he
    split
    · obtain ⟨⟨h1, h2, h3, h4, h5, h6, h7⟩, hp, ho⟩ := hd
      have hpl : D.pend.length ≤ n := h.pend
      refine ⟨⟨h1, ?_, h3, ?_, h5, h6, h7⟩, ?_, ho⟩
      · intro x hx
        show _ ∧ x.at_ < (D.ready i).1.do_.1.safe.length
        rw [d2, r3]
        rcases List.mem_append.1 hx with hx | hx
        · exact h.ok.pend x hx
        · rw [List.mem_singleton] at hx
          subst hx
          exact ⟨hb, by dsimp only; omega⟩
      · show (D.pend ++ [(⟨i.toNat, b⟩ : Wr)]).length ≤ _
        rw [List.length_append, List.length_singleton]; omega
      · show (D.pend ++ [(⟨i.toNat, b⟩ : Wr)]).length ≤ _
        rw [List.length_append, List.length_singleton]; omega
    · exact hd
  · exact hr.mono (Nat.le_succ _)
theorem settle_atN {D : DM} {n : Nat} (h : D.atN n) (live : Nat → Bool) : (D.settle live).atN n := ⟨settle_ok h.ok live, Nat.zero_le _, h.ops⟩
theorem sync_atN {D : DM} {n : Nat} (h : D.atN n) (hn : n ≤ 90000) : D.sync.1.atN (n + 1) := by
  have hr := ready_atN h 0
  have hd := do_atN hr hn
  unfold DM.sync
  split
  · split
    · exact settle_atN hd _
    · exact hd
  · exact hr.mono (Nat.le_succ _)
theorem arm_atN {D : DM} {n : Nat} (h : D.atN n) {i : Int} (hi : -9223372036854775808 ≤ i ∧ i ≤ 9223372036854775807) : (D.arm i).1.atN n := by
  unfold DM.arm
  split
  · exact h
  · obtain ⟨⟨h1, h2, h3, h4, h5, h6, h7⟩, hp, ho⟩ := h
    exact ⟨⟨h1, h2, h3, h4, ⟨hi.1, hi.2, fun e => of_decide_eq_true e⟩, h6, h7⟩, hp, ho⟩
theorem fail_atN {D : DM} {n : Nat} (h : D.atN n) (i : Int) : (D.fail i).1.atN n := by
  unfold DM.fail
  split
  · exact h
  · obtain ⟨⟨h1, h2, h3, h4, h5, h6, h7⟩, hp, ho⟩ := h
    refine ⟨⟨h1, h2, h3, h4, h5, ?_, h7⟩, hp, ho⟩
    dsimp only
    split <;> omega
theorem crash_atN {D : DM} {n : Nat} (h : D.atN n) (keep : List Bool) : (D.crash keep).atN n := by
  have hs := settle_atN h (fun i => keep.getD i false)
  obtain ⟨⟨h1, h2, h3, h4, h5, h6, h7⟩, hp, ho⟩ := hs
  exact ⟨⟨h1, h2, h3, h4, ⟨h5.1, h5.2.1, fun e => by cases e⟩, ⟨Int.le_refl 0, by show (0 : Int) ≤ _; decide⟩, h7⟩, hp, ho⟩
theorem does_atN {D : DM} {n : Nat} (h : D.atN n) (hn : n ≤ 90000) {o : Opn} (ho : o.wf) : (D.does o).1.atN (n + 1) := by
  unfold DM.does
  split
  · exact read_atN h hn _
  · split
    · exact write_atN h hn _ (blkB_ok ho.fill)
    · split
      · exact sync_atN h hn
      · split
        · exact (arm_atN h ho.at_).mono (Nat.le_succ _)
        · split
          · exact (fail_atN h _).mono (Nat.le_succ _)
          · exact (crash_atN h _).mono (Nat.le_succ _)
theorem fresh_atN {n : Nat} (h1 : 1 ≤ n) (h2 : n ≤ 2048) : (DM.fresh n).atN 0 := ⟨fresh_ok h1 h2, Nat.le_refl 0, Int.le_refl 0⟩
theorem Rd.left {w : World} {A : Option Addr} {xs ys : List Value} (h : Rd w A (xs ++ ys)) : Rd w A xs := by
  unfold Rd at h ⊢
  intro hx
  obtain ⟨ad, e, hc⟩ := h (by intro e; exact hx (List.append_eq_nil_iff.1 e).1)
  exact ⟨ad, e, fun j u hu => hc j u (by rw [List.getElem?_append_left (List.getElem?_eq_some_iff.1 hu).1]; exact hu)⟩
theorem opn_take {w : World} {A : Option Addr} {l : List Opn} (n : Nat) (h : Rd w A (l.flatMap Opn.cells)) : Rd w A ((l.take n).flatMap Opn.cells) := by
  have e : l.flatMap Opn.cells = (l.take n).flatMap Opn.cells ++ (l.drop n).flatMap Opn.cells := by rw [← List.flatMap_append, List.take_append_drop]
  rw [e] at h
  exact h.left
theorem opn_len (l : List Opn) : ∀ o ∈ l, (Opn.cells o).length = 4 := fun _ _ => rfl
def DM.wear (D : DM) (l : List Opn) : DM := l.foldl (fun D o => if o.k < 3 then (D.does o).1 else D) D
theorem wear_atN {D : DM} {n : Nat} : ∀ {l : List Opn}, D.atN n → n + l.length ≤ 90000 → (∀ o ∈ l, o.wf) → (D.wear l).atN (n + l.length)
  | [], h, _, _ => h
  | o :: l, h, hn, hw => by
    rw [List.length_cons] at hn ⊢
    show (DM.wear _ l).atN _
    have h1 : (if o.k < 3 then (D.does o).1 else D).atN (n + 1) := by
      split
      · exact does_atN h (by omega) (hw o (by simp))
      · exact h.mono (by omega)
    have := wear_atN (l := l) h1 (by omega) fun x hx => hw x (by simp [hx])
    rw [show n + (l.length + 1) = n + 1 + l.length by omega]
    exact this
theorem wear_snoc (D : DM) (l : List Opn) (o : Opn) : D.wear (l ++ [o]) = if o.k < 3 then ((D.wear l).does o).1 else D.wear l := by unfold DM.wear; rw [List.foldl_append]; rfl
/-- all sectors, read one by one -/
def DM.hold : Nat → DM → DM × List Blk
  | 0, D => (D, [])
  | k + 1, D => (((DM.hold k D).1.read (k : Int)).1, (DM.hold k D).2 ++ [((DM.hold k D).1.read (k : Int)).2.1])
theorem hold_len (D : DM) : ∀ k, (DM.hold k D).2.length = k
  | 0 => rfl
  | k + 1 => by unfold DM.hold; rw [List.length_append, hold_len D k]; rfl
theorem hold_atN {D : DM} {n : Nat} (h : D.atN n) : ∀ k, n + k ≤ 90000 → (DM.hold k D).1.atN (n + k)
  | 0, _ => h
  | k + 1, hk => read_atN (hold_atN h k (by omega)) (by omega) _
theorem hold_blk {D : DM} {n : Nat} (h : D.atN n) : ∀ k, n + k ≤ 90000 → ∀ b ∈ (DM.hold k D).2, Blk.ok b
  | 0, _ => fun b hb => by cases hb
  | k + 1, hk => fun b hb => by
    rcases List.mem_append.1 hb with hb | hb
    · exact hold_blk h k (by omega) b hb
    · rw [List.mem_singleton] at hb
      subst hb
      exact read_blk (hold_atN h k (by omega)).ok _
section
variable {g : Nat} {S : Option Addr} {c : Nat} {Q : Option Addr} {d : Nat} {D : DM} {H : List HP} {w0 w : World}
set_option maxHeartbeats 8000000
theorem back1 {a : HP} (hS : St w0 w (dk g S c Q d D (a :: H))) : St w0 w (a :: dk g S c Q d D H) :=
  St.perm hS (List.perm_append_comm (l₁ := dk g S c Q d D []) (l₂ := [a]) |>.append_right H)
def b7 : Blk := 7 :: List.replicate 63 0
theorem b7_ok : Blk.ok b7 := ⟨by decide, fun x hx => by rcases List.mem_cons.1 hx with rfl | hx; decide; rw [List.eq_of_mem_replicate hx]; decide⟩
theorem wakes (w0 : World) : Fn Try.prog 10 [] w0 fun v w' => v = .bool true ∧ St w0 w' [] := by
  refine enter 43 Try.func10 rfl rfl rfl ?_
  intro a hE
  repeat' (first

    | (with_reducible refine wp_seq ?_)
    | (with_reducible refine c_region ?_)
    | (with_reducible refine wpList_nil ?_)
    | (with_reducible refine then_normal ?_)
    | ((with_reducible refine g_assign ?_); refine s_assign hE rfl rfl ?_; clear hE a; intro a hE)
    )
  refine s_call hE rfl rfl rfl (dnew 2 (by decide) (by decide) w0) ?_
  rintro _ w ⟨g, S, c, rfl, hS⟩; clear hE a; intro a hE
  have e1 : (DM.fresh 2).write 1 b7 = (⟨[noughts, noughts], [⟨1, b7⟩], false, false, 0, 0, 1⟩, 0) := rfl
  have e2 : (⟨[noughts, noughts], [⟨1, b7⟩], false, false, 0, 0, 1⟩ : DM).read 1 = (⟨[noughts, noughts], [⟨1, b7⟩], false, false, 0, 0, 2⟩, b7, 0) := rfl
  have a1 : ((DM.fresh 2).write 1 b7).1.atN 1 := write_atN (fresh_atN (by decide) (by decide)) (by decide) 1 b7_ok
  rw [e1] at a1
  have a2 := read_atN a1 (by decide) 1
  rw [e2] at a2
  repeat' (first

    | (with_reducible refine wp_seq ?_)
    | (with_reducible refine c_region ?_)
    | (with_reducible refine wpList_nil ?_)
    | (with_reducible refine then_normal ?_)
    | ((with_reducible refine g_move ?_); refine s_move hE rfl rfl ?_; clear hE a; intro a hE)
    | ((with_reducible refine g_assign ?_); refine s_assign hE rfl rfl ?_; clear hE a; intro a hE)
    | ((with_reducible refine g_bin .neq ?_); refine s_neq hE rfl rfl rfl ?_; clear hE a; intro a hE)
    | ((with_reducible refine g_extract ?_); refine s_extract hE rfl rfl rfl ?_; clear hE a; intro a hE)
    | ((with_reducible refine g_guard ?_); refine gd_yes hE rfl rfl rfl ?_)
    | ((with_reducible refine g_pick ?_); refine s_pickF hE rfl rfl rfl ?_; clear hE a; intro a hE)
    | ((with_reducible refine g_bin .eql ?_); refine s_val hE rfl rfl rfl (r_eqp hE rfl rfl) ?_; clear hE a; intro a hE)
    )
  refine s_build (bys b7) hE rfl rfl rfl ?_
  clear hE a; intro a hE
  repeat' (first

    | ((with_reducible refine g_guard ?_); refine gd_yes hE rfl rfl rfl ?_)
    )
  refine s_call hE rfl rfl rfl (write 1 b7 b7_ok (fresh_ok (by decide) (by decide)) (by decide) hS) ?_
  rw [e1]
  rintro _ w ⟨rfl, Q', d', hS⟩; clear hE a; intro a hE
  repeat' (first

    | (with_reducible refine wp_seq ?_)
    | (with_reducible refine c_region ?_)
    | (with_reducible refine wpList_nil ?_)
    | (with_reducible refine then_normal ?_)
    | (with_reducible refine wp_skip ?_)
    | ((with_reducible refine g_move ?_); refine s_move hE rfl rfl ?_; clear hE a; intro a hE)
    | ((with_reducible refine g_bin .neq ?_); refine s_neq hE rfl rfl rfl ?_; clear hE a; intro a hE)
    | ((with_reducible refine g_guard ?_); refine gd_yes hE rfl rfl rfl ?_)
    | ((with_reducible refine g_pick ?_); refine s_pickF hE rfl rfl rfl ?_; clear hE a; intro a hE)
    | ((with_reducible refine g_cond ?_); refine c_false hE rfl ?_)
    )
  refine s_call hE rfl rfl rfl (read_ 1 a1.ok (by have := a1.ops; omega) hS) ?_
  rw [e2]
  rintro _ w ⟨rfl, hS⟩; clear hE a; intro a hE
  repeat' (first

    | (with_reducible refine wp_seq ?_)
    | (with_reducible refine c_region ?_)
    | (with_reducible refine wpList_nil ?_)
    | (with_reducible refine then_normal ?_)
    | ((with_reducible refine g_move ?_); refine s_move hE rfl rfl ?_; clear hE a; intro a hE)
    | ((with_reducible refine g_assign ?_); refine s_assign hE rfl rfl ?_; clear hE a; intro a hE)
    | ((with_reducible refine g_bin .eql ?_); refine s_eql hE rfl rfl rfl ?_; clear hE a; intro a hE)
    | ((with_reducible refine g_extract ?_); refine s_extract hE rfl rfl rfl ?_; clear hE a; intro a hE)
    | ((with_reducible refine g_guard ?_); refine gd_yes hE rfl rfl rfl ?_)
    | ((with_reducible refine g_pick ?_); refine s_pickT hE rfl rfl rfl ?_; clear hE a; intro a hE)
    | ((with_reducible refine g_ia ?_); refine s_val hE rfl rfl rfl (r_idxP hE rfl rfl (by omega) (by omega)) ?_; clear hE a; intro a hE)
    | ((with_reducible refine g_load ?_); (first | (refine s_loadB (k := 0) hS hE rfl rfl rfl rfl ?_) ); clear hE a; intro a hE)
    | ((with_reducible refine g_alloc ?_); refine s_allocS hE hS rfl rfl ?_; clear hE a hS; intro g a w hE hS)
    | ((with_reducible refine g_store ?_); (first | (refine s_storeW (k := 0) hS hE rfl rfl rfl rfl rfl (by first | exact bys_one _ ) ?_) ); clear hS; intro w hS; simp only [List.set_cons_zero, List.set_cons_succ, Nat.add_zero] at hS)
    )
  refine s_call hE rfl rfl rfl (pending a2.ok (front1 hS)) ?_
  rintro _ w ⟨A', c', rfl, hS⟩; clear hE a; intro a hE
  repeat' (first

    | ((with_reducible refine g_move ?_); refine s_move hE rfl rfl ?_; clear hE a; intro a hE)
    | ((with_reducible refine g_bin .eql ?_); refine s_eql hE rfl rfl rfl ?_; clear hE a; intro a hE)
    | ((with_reducible refine g_blt .len ?_); refine s_len hE rfl rfl ?_; clear hE a; intro a hE)
    | ((with_reducible refine g_guard ?_); refine gd_yes hE rfl rfl rfl ?_)
    | ((with_reducible refine g_pick ?_); refine s_pickT hE rfl rfl rfl ?_; clear hE a; intro a hE)
    )
  refine s_call hE rfl rfl rfl (dlen (front1 hS)) ?_
  rintro _ w ⟨rfl, hS⟩; clear hE a; intro a hE
  repeat' (first

    | (with_reducible refine wpList_nil ?_)
    | (with_reducible refine then_normal ?_)
    | (with_reducible refine wp_ret ?_)
    | ((with_reducible refine g_assign ?_); refine s_assign hE rfl rfl ?_; clear hE a; intro a hE)
    | ((with_reducible refine g_bin .eql ?_); refine s_eql hE rfl rfl rfl ?_; clear hE a; intro a hE)
    | ((with_reducible refine g_guard ?_); refine gd_yes hE rfl rfl rfl ?_)
    | ((with_reducible refine g_pick ?_); refine s_pickT hE rfl rfl rfl ?_; clear hE a; intro a hE)
    )
  exact ret1 hE rfl rfl ⟨rfl, hS.nil⟩
theorem worn (A : Option Addr) (n m c : Nat) (l : List Opn) (w0 : World) (hr : Rd w0 A (l.flatMap Opn.cells)) (hn : n = l.length) (hc : n ≤ c) (hl : l.length ≤ 9223372036854775807) (hw : ∀ o ∈ l, o.wf ∧ o.rd w0) :
    Fn Try.prog 11 [.slice A n c] w0 fun v w' => ∃ g S c Q d, v = .pointer (some ⟨g, 0, none⟩) ∧ St w0 w' (dk g S c Q d ((DM.fresh 6).wear (l.take 120)) []) := by
  subst hn
  refine enter 32 Try.func11 rfl rfl rfl ?_
  intro a hE
  repeat' (first

    | (with_reducible refine wp_seq ?_)
    | (with_reducible refine c_region ?_)
    | (with_reducible refine wpList_nil ?_)
    | (with_reducible refine then_normal ?_)
    | ((with_reducible refine g_assign ?_); refine s_assign hE rfl rfl ?_; clear hE a; intro a hE)
    )
  refine s_call hE rfl rfl rfl (dnew 6 (by decide) (by decide) w0) ?_
  rintro _ w ⟨g, S, c2, rfl, hS⟩; clear hE a; intro a hE
  repeat' (first

    | (with_reducible refine wp_seq ?_)
    | (with_reducible refine c_region ?_)
    | (with_reducible refine wpList_nil ?_)
    | (with_reducible refine then_normal ?_)
    | (with_reducible refine wp_skip ?_)
    | ((with_reducible refine g_move ?_); refine s_move hE rfl rfl ?_; clear hE a; intro a hE)
    | ((with_reducible refine g_assign ?_); refine s_assign hE rfl rfl ?_; clear hE a; intro a hE)
    | ((with_reducible refine g_bin .neq ?_); refine s_neq hE rfl rfl rfl ?_; clear hE a; intro a hE)
    | ((with_reducible refine g_extract ?_); refine s_extract hE rfl rfl rfl ?_; clear hE a; intro a hE)
    | ((with_reducible refine g_guard ?_); refine gd_yes hE rfl rfl rfl ?_)
    | ((with_reducible refine g_pick ?_); refine s_pickF hE rfl rfl rfl ?_; clear hE a; intro a hE)
    | ((with_reducible refine g_cond ?_); refine c_false hE rfl ?_)
    | ((with_reducible refine g_bin .eql ?_); refine s_val hE rfl rfl rfl (r_eqp hE rfl rfl) ?_; clear hE a; intro a hE)
    )
  refine s_call hE rfl rfl rfl (few A l.length c w hc hl) ?_
  rintro _ w ⟨rfl, hS1⟩; clear hE a; intro a hE; replace hS := hS.frame hS1; clear hS1; try simp only [List.cons_append, List.nil_append] at hS
  have hlt : (l.take 120).length = min l.length 120 := by rw [List.length_take, Nat.min_comm]
  rw [← hlt] at hE
  have hr2 := opn_take 120 hr
  have hw2 : ∀ o ∈ l.take 120, o.wf ∧ o.rd w0 := fun o ho => hw o (List.mem_of_mem_take ho)
  have hl2 : (l.take 120).length ≤ 120 := by rw [hlt]; omega
  generalize l.take 120 = l2 at hE hr2 hw2 hl2 ⊢
  have hfl : (l2.flatMap Opn.cells).length = l2.length * 4 := flat_len (opn_len l2)
  repeat' (first

    | (with_reducible refine wpList_nil ?_)
    | (with_reducible refine then_normal ?_)
    | (with_reducible refine wp_block ?_)
    | ((with_reducible refine g_move ?_); refine s_move hE rfl rfl ?_; clear hE a; intro a hE)
    | ((with_reducible refine g_blt .len ?_); refine s_len hE rfl rfl ?_; clear hE a; intro a hE)
    )
  refine wp_loop_ghost (fun q a w => ∃ (k : Nat) (Q : Option Addr) (d : Nat), k + q = l2.length ∧ St w0 w (dk g S c2 Q d ((DM.fresh 6).wear (l2.take k)) []) ∧ Env 32 [(18, .slice A l2.length c), (19, .int .i64 (l2.length : Int)), (20, .int .i64 (k : Int)), (3, .pointer (some ⟨g, 0, none⟩))] a) l2.length ⟨0, none, 0, by omega, hS, hE.sub ⟨rfl, rfl, rfl, rfl, trivial⟩⟩ ?_
  clear hE a hS
  rintro q a w ⟨k, Q, d, hk, hS, hE⟩
  by_cases hk1 : k < l2.length
  · have hseg := flat_seg (c := Opn.cells) (size := 4) (l := l2) (opn_len l2) hk1
    have hok := hw2 _ (List.getElem_mem hk1)
    have hat : ((DM.fresh 6).wear (l2.take k)).atN (0 + (l2.take k).length) := wear_atN (fresh_atN (by decide) (by decide)) (by rw [List.length_take]; omega) fun o ho => (hw2 o (List.mem_of_mem_take ho)).1
    rw [List.length_take, Nat.min_eq_left (by omega), Nat.zero_add] at hat
    have hst := wear_snoc (DM.fresh 6) (l2.take k) l2[k]
    rw [← List.take_succ_eq_append_getElem hk1] at hst
    generalize (DM.fresh 6).wear (l2.take k) = D at hS hat hst
    have hops := hat.ops
    obtain ⟨go, rfl⟩ : ∃ x, x = g := ⟨g, rfl⟩
    repeat' (first

      | (with_reducible refine wp_seq ?_)
      | (with_reducible refine c_region ?_)
      | (with_reducible refine wpList_nil ?_)
      | (with_reducible refine then_normal ?_)
      | (with_reducible refine wp_skip ?_)
      | (with_reducible refine wp_block ?_)
      | ((with_reducible refine g_bin .lss ?_); refine s_lss hE rfl rfl rfl ?_; clear hE a; intro a hE)
      | ((with_reducible refine g_cond ?_); refine c_dec hE rfl (fun hc => ?_) (fun hc => ?_) <;> try omega)
      | ((with_reducible refine g_ia ?_); refine s_idxR hE rfl rfl (by omega) (by omega) (by (first | exact Rd.st (by assumption) hS )) (by first | omega ) rfl ?_; clear hE a; intro a hE)
      | ((with_reducible refine g_alloc ?_); refine s_allocS hE hS rfl rfl ?_; clear hE a hS; intro g a w hE hS)
      | ((with_reducible refine g_load ?_); (first | (refine s_loadW (k := 0) hS hE rfl rfl rfl rfl ?_) ); clear hE a; intro a hE)
      | ((with_reducible refine g_store ?_); (first | (refine s_storeW (k := 0) hS hE rfl rfl rfl rfl rfl (by first | (simp [Value.oneCell']; done)) ?_) ); clear hS; intro w hS; simp only [List.set_cons_zero, List.set_cons_succ, Nat.add_zero] at hS)
      | ((with_reducible refine g_load ?_); refine s_elemR hE rfl (by (first | exact Rd.st (by assumption) hS )) (by first | exact hseg ) (by first | rfl ) (by rfl) rfl ?_; clear hE a; intro a hE))
    refine s_call hE rfl rfl rfl (kind l2[k] w) ?_
    rintro _ w ⟨rfl, hS1⟩; clear hE a; intro a hE; replace hS := hS.frame hS1; clear hS1; try simp only [List.cons_append, List.nil_append] at hS
    repeat' (first

      | (with_reducible refine c_region ?_)
      | (with_reducible refine wpList_nil ?_)
      | (with_reducible refine then_normal ?_)
      | (with_reducible refine wp_skip ?_)
      | (with_reducible refine block_normal ?_)
      | ((with_reducible refine g_move ?_); refine s_move hE rfl rfl ?_; clear hE a; intro a hE)
      | ((with_reducible refine g_bin .lss ?_); refine s_lss hE rfl rfl rfl ?_; clear hE a; intro a hE)
      | ((with_reducible refine g_bin .add ?_); refine s_add hE rfl rfl rfl (by first  | exact wrap64_in (by omega) ) ?_; clear hE a; intro a hE)
      | ((with_reducible refine g_cond ?_); refine c_dec hE rfl (fun hc => ?_) (fun hc => ?_) <;> try omega)
      | ((with_reducible refine g_load ?_); (first | (refine s_loadW (k := 0) hS hE rfl rfl rfl rfl ?_) ); clear hE a; intro a hE)
      )
    · refine s_call hE rfl rfl rfl (does l2[k] hok.1 hok.2 hat.ok (by omega) (front1 hS)) ?_
      rintro _ w ⟨rfl, Q', d', hS⟩; clear hE a; intro a hE
      repeat' (first

        | (with_reducible refine c_region ?_)
        | (with_reducible refine wpList_nil ?_)
        | (with_reducible refine then_normal ?_)
        | (with_reducible refine block_normal ?_)
        | ((with_reducible refine g_move ?_); refine s_move hE rfl rfl ?_; clear hE a; intro a hE)
        | ((with_reducible refine g_bin .add ?_); refine s_add hE rfl rfl rfl (by first  | exact wrap64_in (by omega) ) ?_; clear hE a; intro a hE)
        )
      exact ⟨q - 1, by omega, k + 1, Q', d', by omega, by rw [hst, if_pos (by omega)]; exact hS.drop 3, hE.sub ⟨rfl, rfl, rfl, rfl, trivial⟩⟩
    · exact ⟨q - 1, by omega, k + 1, _, _, by omega, by rw [hst, if_neg (by omega)]; exact hS.tail, hE.sub ⟨rfl, rfl, rfl, rfl, trivial⟩⟩
  · obtain rfl : k = l2.length := by omega
    rw [List.take_length] at hS
    repeat' (first

      | (with_reducible refine wp_seq ?_)
      | (with_reducible refine c_region ?_)
      | (with_reducible refine wpList_nil ?_)
      | (with_reducible refine then_normal ?_)
      | (with_reducible refine wp_ret ?_)
      | (with_reducible refine wp_exit ?_)
      | (with_reducible refine then_exit ?_)
      | (with_reducible refine block_same ?_)
      | ((with_reducible refine g_move ?_); refine s_move hE rfl rfl ?_; clear hE a; intro a hE)
      | ((with_reducible refine g_assign ?_); refine s_assign hE rfl rfl ?_; clear hE a; intro a hE)
      | ((with_reducible refine g_bin .lss ?_); refine s_lss hE rfl rfl rfl ?_; clear hE a; intro a hE)
      | ((with_reducible refine g_cond ?_); refine c_dec hE rfl (fun hc => ?_) (fun hc => ?_) <;> try omega)
      )
    exact ret1 hE rfl rfl ⟨_, _, _, _, _, rfl, hS⟩
theorem held {n : Nat} (hD : D.atN n) (hn : n ≤ 80000) (hS : St w0 w (dk g S c Q d D H)) :
    Fn Try.prog 15 [.pointer (some ⟨g, 0, none⟩)] w fun v w' => ∃ A' c', v = .slice A' D.safe.length c' ∧ St w0 w' (hRow 27 64 A' D.safe.length c' ((DM.hold D.safe.length D).2.flatMap bys) :: dk g S c Q d (DM.hold D.safe.length D).1 H) := by
  refine enter 24 Try.func15 rfl rfl rfl ?_
  intro a hE
  have hlen := hD.ok.len
  repeat' (first

    | (with_reducible refine wp_seq ?_)
    | (with_reducible refine c_region ?_)
    | (with_reducible refine wpList_nil ?_)
    | (with_reducible refine then_normal ?_)
    | ((with_reducible refine g_move ?_); refine s_move hE rfl rfl ?_; clear hE a; intro a hE)
    | ((with_reducible refine g_assign ?_); refine s_assign hE rfl rfl ?_; clear hE a; intro a hE)
    )
  refine s_call hE rfl rfl rfl (dlen hS) ?_
  rintro _ w ⟨rfl, hS⟩; clear hE a; intro a hE
  repeat' (first

    | (with_reducible refine wpList_nil ?_)
    | (with_reducible refine then_normal ?_)
    | (with_reducible refine wp_block ?_)
    | ((with_reducible refine g_move ?_); refine s_move hE rfl rfl ?_; clear hE a; intro a hE)
    )
  generalize hm : D.safe.length = m at hE hlen ⊢
  refine wp_loop_ghost (fun q a w => ∃ (k : Nat) (A' : Option Addr) (c' : Nat), k + q = m ∧ St w0 w (hRow 27 64 A' k c' ((DM.hold k D).2.flatMap bys) :: dk g S c Q d (DM.hold k D).1 H) ∧ Env 24 [(8, .int .i64 (m : Int)), (9, .int .i64 (k : Int)), (3, .slice A' k c'), (0, .pointer (some ⟨g, 0, none⟩))] a) m ⟨0, none, 0, by omega, hS.rowNil _ _, hE.sub ⟨rfl, rfl, rfl, rfl, trivial⟩⟩ ?_
  clear hE a hS
  rintro q a w ⟨k, A', c', hk, hS, hE⟩
  by_cases hk1 : k < m
  · have hat := hold_atN hD k (by omega)
    have hl := hold_len D k
    have hst : DM.hold (k + 1) D = (((DM.hold k D).1.read (k : Int)).1, (DM.hold k D).2 ++ [((DM.hold k D).1.read (k : Int)).2.1]) := rfl
    have hbk := hold_blk hD k (by omega)
    generalize DM.hold k D = p at hS hat hst hl hbk
    obtain ⟨D1, l1⟩ := p
    dsimp only at hS hat hst hl hbk
    have hbr := read_blk hat.ok (k : Int)
    have hbl : (bys (D1.read (k : Int)).2.1).length = 64 := by rw [bys_length]; exact hbr.1
    have hops := hat.ops
    have hfl : (l1.flatMap bys).length = l1.length * 64 := flat_len (blk_len hbk)
    repeat' (first

      | (with_reducible refine wp_seq ?_)
      | (with_reducible refine c_region ?_)
      | (with_reducible refine wpList_nil ?_)
      | (with_reducible refine then_normal ?_)
      | (with_reducible refine wp_skip ?_)
      | (with_reducible refine wp_block ?_)
      | ((with_reducible refine g_move ?_); refine s_move hE rfl rfl ?_; clear hE a; intro a hE)
      | ((with_reducible refine g_assign ?_); refine s_assign hE rfl rfl ?_; clear hE a; intro a hE)
      | ((with_reducible refine g_bin .lss ?_); refine s_lss hE rfl rfl rfl ?_; clear hE a; intro a hE)
      | ((with_reducible refine g_cond ?_); refine c_dec hE rfl (fun hc => ?_) (fun hc => ?_) <;> try omega)
      )
    refine s_call hE rfl rfl rfl (read_ (k : Int) hat.ok (by omega) (front1 hS)) ?_
    rintro _ w ⟨rfl, hS⟩; clear hE a; intro a hE
    generalize D1.read (k : Int) = r at hE hS hst hbr hbl
    obtain ⟨D2, b2, e2⟩ := r
    dsimp only at hE hS hst hbr hbl
    obtain ⟨go, rfl⟩ : ∃ x, x = g := ⟨g, rfl⟩
    have hone : ∀ v ∈ bys b2, v.oneCell' = true := bys_one _
    repeat' (first

      | (with_reducible refine c_region ?_)
      | (with_reducible refine wpList_nil ?_)
      | (with_reducible refine then_normal ?_)
      | ((with_reducible refine g_move ?_); refine s_move hE rfl rfl ?_; clear hE a; intro a hE)
      | ((with_reducible refine g_assign ?_); refine s_assign hE rfl rfl ?_; clear hE a; intro a hE)
      | ((with_reducible refine g_extract ?_); refine s_extract hE rfl rfl rfl ?_; clear hE a; intro a hE)
      | ((with_reducible refine g_alloc ?_); refine s_allocS hE hS rfl rfl ?_; clear hE a hS; intro g a w hE hS)
      | ((with_reducible refine g_load ?_); (first | (refine s_loadW (k := 0) hS hE rfl rfl (by first | assumption ) rfl ?_) ); clear hE a; intro a hE)
      | ((with_reducible refine g_store ?_); (first | (refine s_storeW (k := 0) hS hE rfl rfl rfl (by assumption) (by first | rfl ) (by first | exact bys_one _ ) ?_) ); clear hS; intro w hS; simp only [List.set_cons_zero, List.set_cons_succ, Nat.add_zero] at hS)
      )
    refine s_litA (vs := bys b2) hE hS rfl hbl rfl rfl rfl ?_
    clear hE a hS; intro g2 a w hE hS
    skip
    refine s_appendAt (k := 5) hE hS rfl rfl rfl hS.rd hbl hone (by omega) rfl rfl rfl rfl ?_
    clear hE a hS; intro A2 c2 a w hE hS
    simp only [List.set_cons_zero, List.set_cons_succ] at hS
    repeat' (first

      | (with_reducible refine c_region ?_)
      | (with_reducible refine wpList_nil ?_)
      | (with_reducible refine then_normal ?_)
      | (with_reducible refine block_normal ?_)
      | ((with_reducible refine g_move ?_); refine s_move hE rfl rfl ?_; clear hE a; intro a hE)
      | ((with_reducible refine g_assign ?_); refine s_assign hE rfl rfl ?_; clear hE a; intro a hE)
      | ((with_reducible refine g_bin .add ?_); refine s_add hE rfl rfl rfl (by first  | exact wrap64_in (by omega) ) ?_; clear hE a; intro a hE)
      )
    refine ⟨q - 1, by omega, k + 1, A2, c2, by omega, ?_, hE.sub ⟨rfl, rfl, rfl, rfl, trivial⟩⟩
    rw [hst, List.flatMap_append, List.flatMap_singleton]
    exact back1 hS.tail.tail
  · obtain rfl : k = m := by omega
    repeat' (first

      | (with_reducible refine wp_seq ?_)
      | (with_reducible refine c_region ?_)
      | (with_reducible refine wpList_nil ?_)
      | (with_reducible refine then_normal ?_)
      | (with_reducible refine wp_ret ?_)
      | (with_reducible refine wp_exit ?_)
      | (with_reducible refine then_exit ?_)
      | (with_reducible refine block_same ?_)
      | ((with_reducible refine g_move ?_); refine s_move hE rfl rfl ?_; clear hE a; intro a hE)
      | ((with_reducible refine g_assign ?_); refine s_assign hE rfl rfl ?_; clear hE a; intro a hE)
      | ((with_reducible refine g_bin .lss ?_); refine s_lss hE rfl rfl rfl ?_; clear hE a; intro a hE)
      | ((with_reducible refine g_cond ?_); refine c_dec hE rfl (fun hc => ?_) (fun hc => ?_) <;> try omega)
      )
    exact ret1 hE rfl rfl ⟨_, _, rfl, hS⟩
theorem same (A : Option Addr) (c : Nat) (xs : List Blk) (B : Option Addr) (d : Nat) (ys : List Blk) (n m : Nat) (w0 : World) (hr : Rd w0 A (xs.flatMap bys)) (hr2 : Rd w0 B (ys.flatMap bys)) (hx : ∀ b ∈ xs, Blk.ok b) (hy : ∀ b ∈ ys, Blk.ok b) (hn : n = xs.length) (hm : m = ys.length) (hb : xs.length ≤ 9223372036854775807) :
    Fn Try.prog 30 [.slice A n c, .slice B m d] w0 fun v w' => v = .bool (decide (xs = ys)) ∧ St w0 w' [] := by
  subst hn hm
  refine enter 26 Try.func30 rfl rfl rfl ?_
  intro a hE
  have hS := St.start w0
  have hfx : (xs.flatMap bys).length = xs.length * 64 := flat_len (blk_len hx)
  have hfy : (ys.flatMap bys).length = ys.length * 64 := flat_len (blk_len hy)
  by_cases hl : xs.length = ys.length
  · repeat' (first

      | (with_reducible refine wp_seq ?_)
      | (with_reducible refine c_region ?_)
      | (with_reducible refine wpList_nil ?_)
      | (with_reducible refine then_normal ?_)
      | (with_reducible refine wp_skip ?_)
      | (with_reducible refine wp_block ?_)
      | ((with_reducible refine g_move ?_); refine s_move hE rfl rfl ?_; clear hE a; intro a hE)
      | ((with_reducible refine g_assign ?_); refine s_assign hE rfl rfl ?_; clear hE a; intro a hE)
      | ((with_reducible refine g_bin .neq ?_); refine s_neq hE rfl rfl rfl ?_; clear hE a; intro a hE)
      | ((with_reducible refine g_blt .len ?_); refine s_len hE rfl rfl ?_; clear hE a; intro a hE)
      | ((with_reducible refine g_cond ?_); refine c_dec hE rfl (fun hc => ?_) (fun hc => ?_) <;> try omega)
      )
    refine wp_loop_ghost (fun q a w => ∃ (k : Nat), k + q = xs.length ∧ xs.take k = ys.take k ∧ St w0 w [] ∧ Env 26 [(0, .slice A xs.length c), (1, .slice B ys.length d), (12, .int .i64 (xs.length : Int)), (13, .int .i64 (k : Int))] a) xs.length ⟨0, by omega, rfl, hS, hE.sub ⟨rfl, rfl, rfl, rfl, trivial⟩⟩ ?_
    clear hE a hS
    rintro q a w ⟨k, hk, hpre, hS, hE⟩
    by_cases hk1 : k < xs.length
    · have hk2 : k < ys.length := by omega
      have hsx := flat_seg (c := bys) (size := 64) (l := xs) (blk_len hx) hk1
      have hsy := flat_seg (c := bys) (size := 64) (l := ys) (blk_len hy) hk2
      have hxl := (hx _ (List.getElem_mem hk1)).1
      have hyl := (hy _ (List.getElem_mem hk2)).1
      have hxl2 := blk_len hx _ (List.getElem_mem hk1)
      have hyl2 := blk_len hy _ (List.getElem_mem hk2)
      repeat' (first

        | (with_reducible refine wp_seq ?_)
        | (with_reducible refine c_region ?_)
        | (with_reducible refine wpList_nil ?_)
        | (with_reducible refine then_normal ?_)
        | (with_reducible refine wp_skip ?_)
        | (with_reducible refine wp_block ?_)
        | ((with_reducible refine g_move ?_); refine s_move hE rfl rfl ?_; clear hE a; intro a hE)
        | ((with_reducible refine g_assign ?_); refine s_assign hE rfl rfl ?_; clear hE a; intro a hE)
        | ((with_reducible refine g_bin .lss ?_); refine s_lss hE rfl rfl rfl ?_; clear hE a; intro a hE)
        | ((with_reducible refine g_cond ?_); refine c_dec hE rfl (fun hc => ?_) (fun hc => ?_) <;> try omega)
        )
      refine c_ordS hS 9 ((.rd 0 (.rd 1 (.rd 2 (.rd 3 (.rd 4 (.rd 5 (.rd 6 (.rd 7 (.rd 8 .done)))))))))) mixed (by decide +kernel) ?_
      clear hS; intro w hS
      repeat' (first
        | (with_reducible refine o_rd rfl ?_)
        | (with_reducible refine o_done ?_)
        | ((with_reducible refine q_move ?_); refine d_val hE hS rfl (fun w hS => r_move hE rfl) ?_; clear hE a; intro a hE)
        | ((with_reducible refine q_ia ?_); refine d_val hE hS rfl (fun w hS => r_idxR hE rfl rfl (by omega) (by omega) (by (first | exact Rd.st (by assumption) hS )) (by first | omega )) ?_; clear hE a; intro a hE)
        | ((with_reducible refine q_bin .neq ?_); refine d_val hE hS rfl (fun w hS => r_neA hE rfl rfl (by first | assumption ) (by first | assumption )) ?_; clear hE a; intro a hE)
        | ((with_reducible refine q_load ?_); refine d_val hE hS rfl (fun w hS => r_elemR hE rfl (by first | exact Rd.st (by assumption) hS ) (by first | exact hsx | exact hsy) (by first | assumption) rfl) ?_; clear hE a; intro a hE)
        )
      repeat' (first

        | (with_reducible refine wp_seq ?_)
        | (with_reducible refine c_region ?_)
        | (with_reducible refine wpList_nil ?_)
        | (with_reducible refine then_normal ?_)
        | (with_reducible refine wp_skip ?_)
        | (with_reducible refine wp_ret ?_)
        | (with_reducible refine then_ret ?_)
        | (with_reducible refine block_normal ?_)
        | (with_reducible refine block_ret ?_)
        | ((with_reducible refine g_move ?_); refine s_move hE rfl rfl ?_; clear hE a; intro a hE)
        | ((with_reducible refine g_assign ?_); refine s_assign hE rfl rfl ?_; clear hE a; intro a hE)
        | ((with_reducible refine g_bin .add ?_); refine s_add hE rfl rfl rfl (by first  | exact wrap64_in (by omega) ) ?_; clear hE a; intro a hE)
        | ((with_reducible refine g_cond ?_); refine c_dec hE rfl (fun hc => ?_) (fun hc => ?_) <;> try omega)
        )
      · refine ret1 hE rfl rfl ⟨?_, hS⟩
        rw [decide_eq_false fun e => hc (by simp only [e])]
      · have hc2 : xs[k] = ys[k] := Classical.not_not.1 hc
        exact ⟨q - 1, by omega, k + 1, by omega, by rw [List.take_succ_eq_append_getElem hk1, List.take_succ_eq_append_getElem hk2, hpre, hc2], hS, hE.sub ⟨rfl, rfl, rfl, rfl, trivial⟩⟩
    · obtain rfl : k = xs.length := by omega
      rw [List.take_length, hl, List.take_length] at hpre
      repeat' (first

        | (with_reducible refine wp_seq ?_)
        | (with_reducible refine c_region ?_)
        | (with_reducible refine wpList_nil ?_)
        | (with_reducible refine then_normal ?_)
        | (with_reducible refine wp_ret ?_)
        | (with_reducible refine wp_exit ?_)
        | (with_reducible refine then_exit ?_)
        | (with_reducible refine block_same ?_)
        | ((with_reducible refine g_assign ?_); refine s_assign hE rfl rfl ?_; clear hE a; intro a hE)
        | ((with_reducible refine g_bin .lss ?_); refine s_lss hE rfl rfl rfl ?_; clear hE a; intro a hE)
        | ((with_reducible refine g_cond ?_); refine c_dec hE rfl (fun hc => ?_) (fun hc => ?_) <;> try omega)
        )
      exact ret1 hE rfl rfl ⟨by rw [decide_eq_true hpre], hS⟩
  · have hne : ¬ xs = ys := fun h => hl (by rw [h])
    rw [decide_eq_false hne]
    repeat' (first

      | (with_reducible refine wp_seq ?_)
      | (with_reducible refine c_region ?_)
      | (with_reducible refine wpList_nil ?_)
      | (with_reducible refine then_normal ?_)
      | (with_reducible refine wp_ret ?_)
      | (with_reducible refine then_ret ?_)
      | ((with_reducible refine g_move ?_); refine s_move hE rfl rfl ?_; clear hE a; intro a hE)
      | ((with_reducible refine g_assign ?_); refine s_assign hE rfl rfl ?_; clear hE a; intro a hE)
      | ((with_reducible refine g_bin .neq ?_); refine s_neq hE rfl rfl rfl ?_; clear hE a; intro a hE)
      | ((with_reducible refine g_blt .len ?_); refine s_len hE rfl rfl ?_; clear hE a; intro a hE)
      | ((with_reducible refine g_cond ?_); refine c_dec hE rfl (fun hc => ?_) (fun hc => ?_) <;> try omega)
      )
    exact ret1 hE rfl rfl ⟨rfl, hS⟩
end
end Go.Proofs.Ytnnamckabjhflaa
