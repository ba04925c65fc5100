/-
  The document's disk, and that a disk does as it does (no program in sight).
-/
import Derived.Test.YtnnamckabjhflaaDK
namespace Go.Proofs.Ytnnamckabjhflaa
open Go.RowKit
set_option linter.unusedVariables false
set_option linter.unusedSimpArgs false

structure RM where
  (safe : List Blk) (pend : List Wr) (dead : Bool) (left fails ops : Int)
def RM.holds (R : RM) (i : Nat) : Blk := (lastOf R.pend i).getD (R.safe.getD i noughts)
def RM.asked (R : RM) (i : Int) : RM × Int :=
  if R.dead then (R, 9)
  else if i < 0 ∨ (R.safe.length : Int) ≤ i then (R, 2)
  else if R.fails = 0 then ({ R with fails := -1 }, 8)
  else if 0 < R.fails then ({ R with fails := R.fails - 1 }, 0)
  else (R, 0)
def RM.done (R : RM) : RM × Bool :=
  if R.left = 0 then ({ R with dead := true }, false)
  else ({ R with left := if 0 < R.left then R.left - 1 else R.left, ops := R.ops + 1 }, true)
def RM.read (R : RM) (i : Int) : RM × Blk × Int :=
  if (R.asked i).2 = 0 then ({ (R.asked i).1 with ops := (R.asked i).1.ops + 1 }, R.holds i.toNat, 0) else ((R.asked i).1, noughts, (R.asked i).2)
def RM.write (R : RM) (i : Int) (b : Blk) : RM × Int :=
  if (R.asked i).2 = 0 then
    (if (R.asked i).1.done.2 then ({ (R.asked i).1.done.1 with pend := R.pend ++ [⟨i.toNat, b⟩] }, 0) else ((R.asked i).1.done.1, 9))
  else ((R.asked i).1, (R.asked i).2)
def RM.live (R : RM) (keep : List Bool) : RM := { R with safe := lay R.safe R.pend (fun i => keep.getD i false) 0, pend := [] }
def RM.sync (R : RM) : RM × Int :=
  if (R.asked 0).2 = 0 then
    (if (R.asked 0).1.done.2 then ((R.asked 0).1.done.1.live (List.replicate R.pend.length true), 0) else ((R.asked 0).1.done.1, 9))
  else ((R.asked 0).1, (R.asked 0).2)
def RM.arm (R : RM) (n : Int) : RM × Int := if R.dead then (R, 9) else ({ R with left := if n < -1 then -1 else n }, 0)
def RM.fail (R : RM) (n : Int) : RM × Int := if R.dead then (R, 9) else ({ R with fails := if n < -1 then -1 else n }, 0)
def RM.crash (R : RM) (keep : List Bool) : RM := { R.live keep with dead := false, left := -1, fails := -1 }
def RM.want (R : RM) (o : Opn) : RM × Blk × Int :=
  if o.k = 0 then R.read o.at_
  else if o.k = 1 then ((R.write o.at_ (blkB o.fill)).1, noughts, (R.write o.at_ (blkB o.fill)).2)
  else if o.k = 2 then (R.sync.1, noughts, R.sync.2)
  else if o.k = 3 then ((R.arm o.at_).1, noughts, (R.arm o.at_).2)
  else if o.k = 5 then ((R.fail o.at_).1, noughts, (R.fail o.at_).2)
  else (R.crash o.keep, noughts, 0)
/-- what the walk asks of it -/
structure RM.ok (R : RM) : Prop where
  safe : ∀ b ∈ R.safe, Blk.ok b
  pend : ∀ x ∈ R.pend, Blk.ok x.b ∧ x.at_ < R.safe.length
  len : R.safe.length ≤ 2048 ∧ 1 ≤ R.safe.length
  plen : R.pend.length ≤ 100000
  left : -1 ≤ R.left ∧ R.left ≤ 9223372036854775807
  fails : -1 ≤ R.fails ∧ R.fails ≤ 9223372036854775807
  ops : 0 ≤ R.ops ∧ R.ops ≤ 4611686018427387904
/-- the same disk, so many operations on -/
structure Rl (n : Nat) (D : DM) (R : RM) : Prop where
  safe : R.safe = D.safe
  pend : R.pend = D.pend
  dead : R.dead = D.dead
  ops : R.ops = D.ops
  left : -1 ≤ R.left ∧ R.left ≤ 9223372036854775807
  left2 : D.dead = false → R.left = if D.armed then D.left else -1
  fails : -1 ≤ R.fails ∧ R.fails ≤ 9223372036854775807
  fails2 : D.fails = R.fails + 1 ∨ (D.fails = 0 ∧ 4611686018427387904 - (n : Int) ≤ R.fails)
theorem Rl.ok {n m : Nat} {D : DM} {R : RM} (h : Rl n D R) (hD : D.atN m) : R.ok := by
  obtain ⟨h1, h2, h3, h4, h5, h6, h7⟩ := hD.ok
  obtain ⟨a1, a2, a3, a4, a5, a6, a7, a8⟩ := h
  exact ⟨by rw [a1]; exact h1, by rw [a1, a2]; exact h2, by rw [a1]; exact h3, by rw [a2]; exact h4, a5, a7, by rw [a4]; exact h7⟩
theorem Rl.mono {n m : Nat} {D : DM} {R : RM} (h : Rl n D R) (hm : n ≤ m) : Rl m D R :=
  ⟨h.safe, h.pend, h.dead, h.ops, h.left, h.left2, h.fails, by have := h.fails2; omega⟩
theorem rl_holds {n : Nat} {D : DM} {R : RM} (h : Rl n D R) (i : Nat) : R.holds i = D.holds i := by unfold RM.holds DM.holds; rw [h.safe, h.pend]
theorem rl_asked {n : Nat} {D : DM} {R : RM} (h : Rl n D R) (hn : n ≤ 90000) (i : Int) : Rl (n + 1) (D.ready i).1 (R.asked i).1 ∧ (R.asked i).2 = (D.ready i).2 := by
  obtain ⟨sf, pd, de, ar, lf, fl, op⟩ := D
  obtain ⟨sf', pd', de', lf', fl', op'⟩ := R
  obtain ⟨rfl, rfl, rfl, rfl, a5, a6, a7, a8⟩ := h
  dsimp only at a5 a6 a7 a8
  unfold DM.ready RM.asked
  dsimp only
  cases de'
  · simp only [Bool.false_eq_true, if_false]
    by_cases hc : i < 0 ∨ (sf'.length : Int) ≤ i
    · rw [if_pos hc, if_pos hc]
      exact ⟨⟨rfl, rfl, rfl, rfl, a5, a6, a7, by first | omega | (dsimp only; omega)⟩, rfl⟩
    · rw [if_neg hc, if_neg hc]
      by_cases h1 : fl = 1
      · have h2 : fl' = 0 := by omega
        subst h1 h2
        exact ⟨⟨rfl, rfl, rfl, rfl, a5, a6, ⟨by show (-1 : Int) ≤ -1; decide, by show (-1 : Int) ≤ _; decide⟩, .inl rfl⟩, rfl⟩
      · rw [if_neg h1]
        by_cases h2 : 1 < fl
        · have h3 : ¬ fl' = 0 := by omega
          have h4 : 0 < fl' := by omega
          rw [if_pos h2, if_neg h3, if_pos h4]
          exact ⟨⟨rfl, rfl, rfl, rfl, a5, a6, by first | omega | (dsimp only; omega), by first | omega | (dsimp only; omega)⟩, rfl⟩
        · have h3 : ¬ fl' = 0 := by omega
          rw [if_neg h2, if_neg h3]
          by_cases h4 : 0 < fl'
          · rw [if_pos h4]
            exact ⟨⟨rfl, rfl, rfl, rfl, a5, a6, by first | omega | (dsimp only; omega), by first | omega | (dsimp only; omega)⟩, rfl⟩
          · rw [if_neg h4]
            exact ⟨⟨rfl, rfl, rfl, rfl, a5, a6, a7, by first | omega | (dsimp only; omega)⟩, rfl⟩
  · exact ⟨⟨rfl, rfl, rfl, rfl, a5, a6, a7, by show fl = fl' + 1 ∨ (fl = 0 ∧ 4611686018427387904 - ((n + 1 : Nat) : Int) ≤ fl'); omega⟩, rfl⟩
theorem rl_done {n : Nat} {D : DM} {R : RM} (h : Rl n D R) (hd : D.dead = false) (hD : D.ok) : Rl n D.do_.1 R.done.1 ∧ R.done.2 = D.do_.2 := by
  have hl := hD.left
  obtain ⟨sf, pd, de, ar, lf, fl, op⟩ := D
  obtain ⟨sf', pd', de', lf', fl', op'⟩ := R
  obtain ⟨rfl, rfl, rfl, rfl, a5, a6, a7, a8⟩ := h
  dsimp only at a5 a6 a7 a8 hd hl
  subst hd
  have a6 := a6 rfl
  unfold DM.do_ RM.done
  dsimp only
  cases ar
  · simp only [Bool.false_eq_true, if_false] at a6 ⊢
    subst a6
    rw [if_neg (show ¬ (-1 : Int) = 0 by decide), if_neg (show ¬ (0 : Int) < -1 by decide)]
    exact ⟨⟨rfl, rfl, rfl, rfl, a5, fun _ => rfl, a7, a8⟩, rfl⟩
  · simp only [if_true] at a6 ⊢
    subst a6
    have hl := hl.2.2 rfl
    by_cases h0 : lf' = 0
    · rw [if_pos h0, if_pos h0]
      exact ⟨⟨rfl, rfl, rfl, rfl, a5, fun e => (by cases e), a7, a8⟩, rfl⟩
    · rw [if_neg h0, if_neg h0]
      refine ⟨⟨rfl, rfl, rfl, rfl, ?_, fun _ => ?_, a7, a8⟩, rfl⟩
      · show -1 ≤ (if 0 < lf' then lf' - 1 else lf') ∧ (if 0 < lf' then lf' - 1 else lf') ≤ 9223372036854775807
        split <;> omega
      · show (if 0 < lf' then lf' - 1 else lf') = if true = true then lf' - 1 else -1
        rw [if_pos (by omega), if_pos rfl]
theorem ready_alive {D : DM} {i : Int} (h : (D.ready i).2 = 0) : (D.ready i).1.dead = false := by
  unfold DM.ready at h ⊢
  split
  · rename_i hd
    rw [if_pos hd] at h
    cases h
  · rename_i hd
    have hd2 : D.dead = false := by simpa using hd
    split
    · exact hd2
    · split
      · exact hd2
      · split <;> exact hd2
theorem rl_read {n : Nat} {D : DM} {R : RM} (h : Rl n D R) (hn : n ≤ 90000) (i : Int) : Rl (n + 1) (D.read i).1 (R.read i).1 ∧ (R.read i).2 = (D.read i).2 := by
  obtain ⟨h1, h2⟩ := rl_asked h hn i
  unfold DM.read RM.read
  rw [h2]
  by_cases he : (D.ready i).2 = 0
  · rw [if_pos he, if_pos he]
    exact ⟨⟨h1.safe, h1.pend, h1.dead, congrArg (· + 1) h1.ops, h1.left, h1.left2, h1.fails, h1.fails2⟩, by rw [rl_holds h]⟩
  · rw [if_neg he, if_neg he]
    exact ⟨h1, rfl⟩
theorem rl_write {n m : Nat} {D : DM} {R : RM} (h : Rl n D R) (hn : n ≤ 90000) (hD : D.atN m) (i : Int) (b : Blk) : Rl (n + 1) (D.write i b).1 (R.write i b).1 ∧ (R.write i b).2 = (D.write i b).2 := by
  obtain ⟨h1, h2⟩ := rl_asked h hn i
  unfold DM.write RM.write
  rw [h2]
  by_cases he : (D.ready i).2 = 0
  · rw [if_pos he, if_pos he]
    obtain ⟨h3, h4⟩ := rl_done h1 (ready_alive he) (ready_atN hD i).ok
    rw [h4]
    split
    · exact ⟨⟨h3.safe, by show R.pend ++ _ = D.pend ++ _; rw [h.pend], h3.dead, h3.ops, h3.left, h3.left2, h3.fails, h3.fails2⟩, rfl⟩
    · exact ⟨h3, rfl⟩
  · rw [if_neg he, if_neg he]
    exact ⟨h1, rfl⟩
theorem lay_live {f f' : Nat → Bool} : ∀ (l : List Wr) (s : List Blk) (k : Nat), (∀ i, k ≤ i → i < k + l.length → f i = f' i) → lay s l f k = lay s l f' k
  | [], s, k, h => rfl
  | x :: l, s, k, h => by
    unfold lay
    rw [h k (Nat.le_refl _) (by simp)]
    exact lay_live l _ (k + 1) fun i h1 h2 => h i (by omega) (by rw [List.length_cons]; omega)
theorem rl_live {n : Nat} {D : DM} {R : RM} (h : Rl n D R) (keep : List Bool) {f : Nat → Bool} (hf : ∀ i, i < D.pend.length → keep.getD i false = f i) : Rl n (D.settle f) (R.live keep) := by
  refine ⟨?_, rfl, h.dead, h.ops, h.left, h.left2, h.fails, h.fails2⟩
  show lay R.safe R.pend _ 0 = lay D.safe D.pend _ 0
  rw [h.safe, h.pend]
  exact lay_live _ _ _ fun i _ h2 => hf i (by omega)
theorem rl_sync {n m : Nat} {D : DM} {R : RM} (h : Rl n D R) (hn : n ≤ 90000) (hD : D.atN m) : Rl (n + 1) D.sync.1 R.sync.1 ∧ R.sync.2 = D.sync.2 := by
  obtain ⟨h1, h2⟩ := rl_asked h hn 0
  unfold DM.sync RM.sync
  rw [h2]
  by_cases he : (D.ready 0).2 = 0
  · rw [if_pos he, if_pos he]
    obtain ⟨h3, h4⟩ := rl_done h1 (ready_alive he) (ready_atN hD 0).ok
    have hp : (D.ready 0).1.do_.1.pend = D.pend := by rw [(do_same _).1, (ready_same D 0).2.1]
    rw [h4]
    split
    · refine ⟨rl_live h3 _ fun i hi => ?_, rfl⟩
      rw [hp, ← h.pend] at hi
      rw [List.getD_eq_getElem?_getD, List.getElem?_replicate, if_pos hi]
      rfl
    · exact ⟨h3, rfl⟩
  · rw [if_neg he, if_neg he]
    exact ⟨h1, rfl⟩
theorem rl_arm {n : Nat} {D : DM} {R : RM} (h : Rl n D R) {i : Int} (hi : -9223372036854775808 ≤ i ∧ i ≤ 9223372036854775807) : Rl n (D.arm i).1 (R.arm i).1 ∧ (R.arm i).2 = (D.arm i).2 := by
  obtain ⟨sf, pd, de, ar, lf, fl, op⟩ := D
  obtain ⟨sf', pd', de', lf', fl', op'⟩ := R
  obtain ⟨rfl, rfl, rfl, rfl, a5, a6, a7, a8⟩ := h
  dsimp only at a5 a6 a7 a8
  cases de'
  · refine ⟨⟨rfl, rfl, rfl, rfl, ?_, fun _ => ?_, a7, a8⟩, rfl⟩
    · show -1 ≤ (if i < -1 then -1 else i) ∧ (if i < -1 then -1 else i) ≤ 9223372036854775807
      split <;> omega
    · show (if i < -1 then -1 else i) = if decide (0 ≤ i) = true then i else -1
      by_cases h0 : 0 ≤ i
      · rw [decide_eq_true h0, if_pos rfl, if_neg (by omega)]
      · rw [decide_eq_false h0, if_neg (show ¬ (false = true) by decide)]; split <;> omega
  · exact ⟨⟨rfl, rfl, rfl, rfl, a5, a6, a7, a8⟩, rfl⟩
theorem rl_fail {n : Nat} {D : DM} {R : RM} (h : Rl n D R) (hn : n ≤ 90000) {i : Int} (hi : -9223372036854775808 ≤ i ∧ i ≤ 9223372036854775807) : Rl n (D.fail i).1 (R.fail i).1 ∧ (R.fail i).2 = (D.fail i).2 := by
  obtain ⟨sf, pd, de, ar, lf, fl, op⟩ := D
  obtain ⟨sf', pd', de', lf', fl', op'⟩ := R
  obtain ⟨rfl, rfl, rfl, rfl, a5, a6, a7, a8⟩ := h
  dsimp only at a5 a6 a7 a8
  cases de'
  · refine ⟨⟨rfl, rfl, rfl, rfl, a5, a6, ?_, ?_⟩, rfl⟩
    · show -1 ≤ (if i < -1 then -1 else i) ∧ (if i < -1 then -1 else i) ≤ 9223372036854775807
      split <;> omega
    · show (if 0 ≤ i ∧ i < 4611686018427387904 then i + 1 else 0) = (if i < -1 then -1 else i) + 1 ∨ ((if 0 ≤ i ∧ i < 4611686018427387904 then i + 1 else 0) = 0 ∧ 4611686018427387904 - (n : Int) ≤ (if i < -1 then -1 else i))
      by_cases h1 : 0 ≤ i ∧ i < 4611686018427387904
      · rw [if_pos h1, if_neg (by omega)]; exact .inl rfl
      · rw [if_neg h1]; split <;> omega
  · exact ⟨⟨rfl, rfl, rfl, rfl, a5, a6, a7, a8⟩, rfl⟩
theorem rl_crash {n : Nat} {D : DM} {R : RM} (h : Rl n D R) (keep : List Bool) : Rl n (D.crash keep) (R.crash keep) := by
  have := rl_live h keep (f := fun i => keep.getD i false) fun _ _ => rfl
  exact ⟨this.safe, rfl, rfl, this.ops, ⟨by show (-1 : Int) ≤ -1; decide, by show (-1 : Int) ≤ _; decide⟩, fun _ => rfl, ⟨by show (-1 : Int) ≤ -1; decide, by show (-1 : Int) ≤ _; decide⟩, .inl rfl⟩
theorem rl_does {n m : Nat} {D : DM} {R : RM} (h : Rl n D R) (hn : n ≤ 90000) (hD : D.atN m) {o : Opn} (ho : o.wf) : Rl (n + 1) (D.does o).1 (R.want o).1 ∧ (R.want o).2 = (D.does o).2 := by
  unfold DM.does RM.want
  by_cases h0 : o.k = 0
  · rw [if_pos h0, if_pos h0]; exact rl_read h hn _
  · rw [if_neg h0, if_neg h0]
    by_cases h1 : o.k = 1
    · rw [if_pos h1, if_pos h1]
      obtain ⟨a, b⟩ := rl_write h hn hD o.at_ (blkB o.fill)
      exact ⟨a, by rw [b]⟩
    · rw [if_neg h1, if_neg h1]
      by_cases h2 : o.k = 2
      · rw [if_pos h2, if_pos h2]
        obtain ⟨a, b⟩ := rl_sync h hn hD
        exact ⟨a, by rw [b]⟩
      · rw [if_neg h2, if_neg h2]
        by_cases h3 : o.k = 3
        · rw [if_pos h3, if_pos h3]
          obtain ⟨a, b⟩ := rl_arm h ho.at_
          exact ⟨a.mono (Nat.le_succ _), by rw [b]⟩
        · rw [if_neg h3, if_neg h3]
          by_cases h5 : o.k = 5
          · rw [if_pos h5, if_pos h5]
            obtain ⟨a, b⟩ := rl_fail h hn ho.at_
            exact ⟨a.mono (Nat.le_succ _), by rw [b]⟩
          · rw [if_neg h5, if_neg h5]
            exact ⟨(rl_crash h o.keep).mono (Nat.le_succ _), rfl⟩
def RM.fresh (n : Nat) : RM := ⟨List.replicate n noughts, [], false, -1, -1, 0⟩
theorem rl_fresh (n : Nat) : Rl 0 (DM.fresh n) (RM.fresh n) := ⟨rfl, rfl, rfl, rfl, ⟨by show (-1 : Int) ≤ -1; decide, by show (-1 : Int) ≤ _; decide⟩, fun _ => rfl, ⟨by show (-1 : Int) ≤ -1; decide, by show (-1 : Int) ≤ _; decide⟩, .inl rfl⟩

/-! ## Rows that are only read, shared -/
def hRs (l : List (Option Addr × List Value)) : HP where
  at_ S w := ∀ p ∈ l, (∀ ad, p.1 = some ad → p.2 ≠ [] → S ad.block) ∧ Rd w p.1 p.2
  keep := by
    intro S w w' h hk p hp
    obtain ⟨h1, h2⟩ := h p hp
    refine ⟨h1, fun hne => ?_⟩
    obtain ⟨ad, e, hc⟩ := h2 hne
    refine ⟨ad, e, fun j u hu => ?_⟩
    have hb := hk _ (h1 ad e hne)
    rw [World.cell?_of_block (w := w) (by rw [add_block]; exact hb)]
    exact hc j u hu
section
variable {w0 w : World} {H : List HP} {l l' : List (Option Addr × List Value)}
theorem St.rsRd (hS : St w0 w (hRs l :: H)) : ∀ p ∈ l, Rd w p.1 p.2 := by
  obtain ⟨S, _, h⟩ := hS.head
  exact fun p hp => (h p hp).2
theorem St.rsNil (hS : St w0 w H) : St w0 w (hRs [(none, [])] :: H) :=
  hS.new (Below.refl _ _) (fun _ => False) (fun _ h => h.elim) (by
    intro p hp
    rw [List.mem_singleton] at hp
    subst hp
    exact ⟨fun ad h => (nomatch h), Rd.nil⟩)
theorem St.rowRs {e size m c : Nat} {A : Option Addr} {cs : List Value} (hS : St w0 w (hRow e size A m c cs :: H)) : St w0 w (hRs [(A, cs)] :: H) :=
  hS.conv fun S ⟨h1, h2⟩ p hp => by
    rw [List.mem_singleton] at hp
    subst hp
    exact ⟨fun ad h _ => h1 ad h, rd_of_own h2⟩
theorem St.rsSub (hS : St w0 w (hRs l :: H)) (hl : ∀ p ∈ l', p ∈ l) : St w0 w (hRs l' :: H) :=
  hS.conv fun S h p hp => h p (hl p hp)
theorem St.rsJoin (hS : St w0 w (hRs l :: hRs l' :: H)) : St w0 w (hRs (l ++ l') :: H) := by
  obtain ⟨hb, S1, a1, b1, S2, a2, b2, r⟩ := hS
  refine ⟨hb, fun k => S1 k ∨ S2 k, fun k hk => ?_, fun p hp => ?_, Sep.mono (fun k hk => ?_) r⟩
  · rcases hk with hk | hk
    · exact a1 k hk
    · exact (a2 k hk).1
  · rcases List.mem_append.1 hp with hp | hp
    · exact ⟨fun ad h hn => .inl ((b1 p hp).1 ad h hn), (b1 p hp).2⟩
    · exact ⟨fun ad h hn => .inr ((b2 p hp).1 ad h hn), (b2 p hp).2⟩
  · exact ⟨hk.1.1, fun h => h.elim hk.1.2 hk.2⟩
end
end Go.Proofs.Ytnnamckabjhflaa
