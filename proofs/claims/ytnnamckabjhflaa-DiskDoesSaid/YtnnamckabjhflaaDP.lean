/-
  The plain law of a disk that is alive, not armed, and does not fail (no program in sight).
-/
import Derived.Test.YtnnamckabjhflaaDK
namespace Go.Proofs.Ytnnamckabjhflaa
open Go.RowKit
set_option linter.unusedVariables false
set_option linter.unusedSimpArgs false

structure DM.lv (D : DM) : Prop where
  dead : D.dead = false
  armed : D.armed = false
  fails : D.fails = 0
theorem ready_lv {D : DM} (h : D.lv) (i : Int) : D.ready i = if i < 0 ∨ (D.safe.length : Int) ≤ i then (D, 2) else (D, 0) := by
  unfold DM.ready
  rw [h.dead, h.fails]
  simp
theorem ready_yes {D : DM} (h : D.lv) {i : Int} (h0 : 0 ≤ i) (h1 : i < D.safe.length) : D.ready i = (D, 0) := by rw [ready_lv h, if_neg (by omega)]
theorem ready_no {D : DM} (h : D.lv) {i : Int} (hi : i < 0 ∨ (D.safe.length : Int) ≤ i) : D.ready i = (D, 2) := by rw [ready_lv h, if_pos hi]
theorem do_lv {D : DM} (h : D.lv) : D.do_ = ({ D with ops := D.ops + 1 }, true) := by
  unfold DM.do_; rw [h.armed]; simp
theorem read_lv {D : DM} (h : D.lv) {i : Nat} (hi : i < D.safe.length) : D.read (i : Int) = ({ D with ops := D.ops + 1 }, D.holds i, 0) := by
  unfold DM.read
  rw [ready_yes h (by omega) (by omega)]
  simp
theorem read_out {D : DM} (h : D.lv) {i : Int} (hi : i < 0 ∨ (D.safe.length : Int) ≤ i) : D.read i = (D, noughts, 2) := by
  unfold DM.read
  rw [ready_no h hi]
  simp
theorem write_lv {D : DM} (h : D.lv) {i : Nat} (hi : i < D.safe.length) (b : Blk) : D.write (i : Int) b = ({ D with ops := D.ops + 1, pend := D.pend ++ [⟨i, b⟩] }, 0) := by
  unfold DM.write
  rw [ready_yes h (by omega) (by omega)]
  simp [do_lv h]
theorem write_out {D : DM} (h : D.lv) {i : Int} (hi : i < 0 ∨ (D.safe.length : Int) ≤ i) (b : Blk) : D.write i b = (D, 2) := by
  unfold DM.write
  rw [ready_no h hi]
  simp
theorem sync_lv {D : DM} (h : D.lv) (hl : 1 ≤ D.safe.length) : D.sync = (DM.settle { D with ops := D.ops + 1 } fun _ => true, 0) := by
  unfold DM.sync
  rw [ready_yes h (by omega) (by omega)]
  simp [do_lv h]
theorem holds_snoc (D : DM) (n : Nat) (b : Blk) (i : Nat) : DM.holds { D with pend := D.pend ++ [⟨n, b⟩] } i = if n = i then b else D.holds i := by
  unfold DM.holds
  rw [lastOf_snoc]
  by_cases h : n = i
  · simp [h]
  · simp [h]
theorem lay_all : ∀ (l : List Wr) (s : List Blk) (j : Nat) (i : Nat), (∀ x ∈ l, x.at_ < s.length) → i < s.length → (lay s l (fun _ => true) j).getD i noughts = (lastOf l i).getD (s.getD i noughts)
  | [], s, j, i, _, hi => rfl
  | x :: l, s, j, i, hx, hi => by
    unfold lay lastOf
    have hxs := hx x (by simp)
    have ih := lay_all l (s.set x.at_ x.b) (j + 1) i (fun y hy => by rw [List.length_set]; exact hx y (by simp [hy])) (by rw [List.length_set]; exact hi)
    simp only [if_true]
    rw [ih]
    cases h : lastOf l i with
    | some b => rfl
    | none =>
      simp only [Option.getD_none]
      by_cases hc : x.at_ = i
      · subst hc
        simp [List.getD_eq_getElem?_getD, hxs]
      · simp [List.getD_eq_getElem?_getD, hc, List.getElem?_set]
theorem settle_lv {D : DM} (h : D.lv) (live : Nat → Bool) : (D.settle live).lv := ⟨h.dead, h.armed, h.fails⟩
theorem settle_len (D : DM) (live : Nat → Bool) : (D.settle live).safe.length = D.safe.length := lay_length _ _ _ _
theorem holds_settle {D : DM} (hD : D.ok) {i : Nat} (hi : i < D.safe.length) : (D.settle fun _ => true).holds i = D.holds i := by
  have := lay_all D.pend D.safe 0 i (fun x hx => (hD.pend x hx).2) hi
  unfold DM.holds
  show (lastOf [] i).getD ((lay D.safe D.pend (fun _ => true) 0).getD i noughts) = _
  rw [this]
  rfl
/-- all that the sectors hold -/
def DM.vec (D : DM) : List Blk := (List.range D.safe.length).map D.holds
theorem vec_len (D : DM) : D.vec.length = D.safe.length := by simp [DM.vec]
theorem hold_lv {D : DM} (h : D.lv) : ∀ k, k ≤ D.safe.length → DM.hold k D = ({ D with ops := D.ops + k }, (List.range k).map D.holds)
  | 0, _ => by simp [DM.hold]
  | k + 1, hk => by
    unfold DM.hold
    rw [hold_lv h k (by omega)]
    have hl : DM.lv { D with ops := D.ops + (k : Int) } := ⟨h.dead, h.armed, h.fails⟩
    dsimp only
    rw [read_lv hl (by dsimp only; omega)]
    dsimp only
    have e1 : DM.holds { D with ops := D.ops + (k : Int) } k = D.holds k := rfl
    rw [e1, List.range_succ, List.map_append]
    refine Prod.ext ?_ rfl
    dsimp only
    congr 1
    omega
theorem hold_vec {D : DM} (h : D.lv) : DM.hold D.safe.length D = ({ D with ops := D.ops + (D.safe.length : Int) }, D.vec) := hold_lv h _ (Nat.le_refl _)
/-- what an operation of the first three kinds does to what the sectors hold -/
def stepV (v : List Blk) (o : Opn) : List Blk := if o.k = 1 ∧ 0 ≤ o.at_ ∧ o.at_ < (v.length : Int) then v.set o.at_.toNat (blkB o.fill) else v
theorem stepV_len (v : List Blk) (o : Opn) : (stepV v o).length = v.length := by unfold stepV; split <;> simp
theorem vec_write {D : DM} {n : Nat} (hn : n < D.safe.length) (b : Blk) (k : Int) : DM.vec { D with ops := k, pend := D.pend ++ [⟨n, b⟩] } = D.vec.set n b := by
  apply List.ext_getElem
  · simp [DM.vec]
  · intro i h1 h2
    have hi : i < D.safe.length := by simpa [DM.vec] using h1
    have e : DM.holds { D with ops := k, pend := D.pend ++ [⟨n, b⟩] } i = if n = i then b else D.holds i := holds_snoc D n b i
    rw [List.getElem_set]
    simp only [DM.vec, List.getElem_map, List.getElem_range]
    exact e
theorem vec_sync {D : DM} (hD : D.ok) (k : Int) : DM.vec (DM.settle { D with ops := k } fun _ => true) = D.vec := by
  apply List.ext_getElem
  · rw [vec_len, vec_len, settle_len]
  · intro i h1 h2
    have hi : i < D.safe.length := by rw [vec_len] at h2; exact h2
    have e := holds_settle hD hi
    simp only [DM.vec, List.getElem_map, List.getElem_range]
    exact e
structure DM.fits (D : DM) (n : Nat) : Prop where
  at_ : D.atN n
  lv : D.lv
theorem does_fits {D : DM} {n : Nat} (h : D.fits n) (hn : n ≤ 90000) {o : Opn} (ho : o.wf) (hk : o.k < 3) : (D.does o).1.fits (n + 1) ∧ (D.does o).1.vec = stepV D.vec o ∧ (D.does o).1.safe.length = D.safe.length := by
  obtain ⟨ha, hl⟩ := h
  have h1 := does_atN ha hn ho
  have hle := ha.ok.len
  have hlv : ∀ k : Int, DM.lv { D with ops := k } := fun k => ⟨hl.dead, hl.armed, hl.fails⟩
  rcases (show o.k = 0 ∨ o.k = 1 ∨ o.k = 2 by omega) with h0 | h0 | h0
  · have e : D.does o = D.read o.at_ := by unfold DM.does; rw [if_pos h0]
    have es : stepV D.vec o = D.vec := by unfold stepV; rw [if_neg (by omega)]
    rw [e] at h1 ⊢
    rw [es]
    by_cases hi : o.at_ < 0 ∨ (D.safe.length : Int) ≤ o.at_
    · rw [read_out hl hi] at h1 ⊢
      exact ⟨⟨h1, hl⟩, rfl, rfl⟩
    · obtain ⟨m, hm⟩ := Int.eq_ofNat_of_zero_le (show 0 ≤ o.at_ by omega)
      rw [hm, read_lv hl (by omega)] at h1 ⊢
      exact ⟨⟨h1, hlv _⟩, rfl, rfl⟩
  · have e : D.does o = ((D.write o.at_ (blkB o.fill)).1, noughts, (D.write o.at_ (blkB o.fill)).2) := by unfold DM.does; rw [if_neg (by omega), if_pos h0]
    rw [e] at h1 ⊢
    by_cases hi : o.at_ < 0 ∨ (D.safe.length : Int) ≤ o.at_
    · have es : stepV D.vec o = D.vec := by unfold stepV; rw [vec_len, if_neg (by omega)]
      rw [write_out hl hi] at h1 ⊢
      exact ⟨⟨h1, hl⟩, es.symm, rfl⟩
    · have es : stepV D.vec o = D.vec.set o.at_.toNat (blkB o.fill) := by unfold stepV; rw [vec_len, if_pos (by omega)]
      rw [es]
      obtain ⟨m, hm⟩ := Int.eq_ofNat_of_zero_le (show 0 ≤ o.at_ by omega)
      rw [hm, write_lv hl (by omega)] at h1 ⊢
      exact ⟨⟨h1, ⟨hl.dead, hl.armed, hl.fails⟩⟩, vec_write (by omega) _ _, rfl⟩
  · have e : D.does o = (D.sync.1, noughts, D.sync.2) := by unfold DM.does; rw [if_neg (by omega), if_neg (by omega), if_pos h0]
    have es : stepV D.vec o = D.vec := by unfold stepV; rw [if_neg (by omega)]
    rw [e, sync_lv hl hle.2] at h1 ⊢
    rw [es]
    exact ⟨⟨h1, settle_lv (hlv _) _⟩, vec_sync ha.ok _, settle_len _ _⟩
def lastV (l : List Opn) : List Blk := l.foldl stepV (List.replicate 6 noughts)
theorem fresh_lv (n : Nat) : (DM.fresh n).lv := ⟨rfl, rfl, rfl⟩
theorem fresh_vec (n : Nat) : (DM.fresh n).vec = List.replicate n noughts := by
  apply List.ext_getElem
  · simp [DM.vec, DM.fresh]
  · intro i h1 h2
    have hi : i < n := by simpa using h2
    simp only [DM.vec, List.getElem_map, List.getElem_range, List.getElem_replicate]
    show ((List.replicate n noughts).getD i noughts) = noughts
    simp [List.getD_eq_getElem?_getD, List.getElem?_replicate, hi]
theorem stepV_3 (v : List Blk) {o : Opn} (h : ¬ o.k < 3) : stepV v o = v := by unfold stepV; rw [if_neg (by omega)]
theorem wear_fits {D : DM} {n : Nat} : ∀ {l : List Opn}, D.fits n → n + l.length ≤ 90000 → (∀ o ∈ l, o.wf) → (D.wear l).fits (n + l.length) ∧ (D.wear l).vec = l.foldl stepV D.vec ∧ (D.wear l).safe.length = D.safe.length
  | [], h, _, _ => ⟨h, rfl, rfl⟩
  | o :: l, h, hn, hw => by
    rw [List.length_cons] at hn ⊢
    have h1 : (if o.k < 3 then (D.does o).1 else D).fits (n + 1) ∧ (if o.k < 3 then (D.does o).1 else D).vec = stepV D.vec o ∧ (if o.k < 3 then (D.does o).1 else D).safe.length = D.safe.length := by
      split
      · rename_i h3
        exact does_fits h (by omega) (hw o (by simp)) h3
      · rename_i h3
        exact ⟨⟨h.at_.mono (by omega), h.lv⟩, (stepV_3 _ h3).symm, rfl⟩
    have ih := wear_fits (l := l) h1.1 (by omega) fun x hx => hw x (by simp [hx])
    rw [show n + (l.length + 1) = n + 1 + l.length by omega]
    refine ⟨ih.1, ?_, ih.2.2.trans h1.2.2⟩
    rw [List.foldl_cons, ← h1.2.1]
    exact ih.2.1
theorem worn_fits {l : List Opn} (hl : l.length ≤ 120) (hw : ∀ o ∈ l, o.wf) : ((DM.fresh 6).wear l).fits l.length ∧ ((DM.fresh 6).wear l).vec = lastV l ∧ ((DM.fresh 6).wear l).safe.length = 6 := by
  have := wear_fits (D := DM.fresh 6) (n := 0) (l := l) ⟨fresh_atN (by decide) (by decide), fresh_lv 6⟩ (by omega) hw
  rw [Nat.zero_add, fresh_vec] at this
  exact ⟨this.1, this.2.1, this.2.2.trans rfl⟩
end Go.Proofs.Ytnnamckabjhflaa
