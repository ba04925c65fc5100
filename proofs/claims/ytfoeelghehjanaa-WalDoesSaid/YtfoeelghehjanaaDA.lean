/-
  A disk: what it is, and what its operations do to it (no program in sight).
-/
import Derived.Test.YtfoeelghehjanaaK2
namespace Go.Proofs.Ytfoeelghehjanaa
open Go.RowKit
set_option linter.unusedVariables false
set_option linter.unusedSimpArgs false

/-- a block's bytes -/
abbrev Blk := List Nat
def Blk.ok (b : Blk) : Prop := b.length = 64 ∧ Bs b
def noughts : Blk := List.replicate 64 0
theorem noughts_ok : Blk.ok noughts := ⟨List.length_replicate, fun x hx => by rw [List.eq_of_mem_replicate hx]; decide⟩
/-- a write that is not safe yet -/
structure Wr where
  (at_ : Nat) (b : Blk)
def Wr.cells (x : Wr) : List Value := .int .i64 (x.at_ : Int) :: bys x.b
/-- a disk -/
structure DM where
  (safe : List Blk) (pend : List Wr) (dead armed : Bool) (left fails ops : Int)
structure DM.ok (D : DM) : Prop where
  safe : ∀ b ∈ D.safe, Blk.ok b
  pend : ∀ x ∈ D.pend, Blk.ok x.b ∧ x.at_ < D.safe.length
  len : D.safe.length ≤ 2048 ∧ 1 ≤ D.safe.length
  plen : D.pend.length ≤ 100000
  left : -9223372036854775808 ≤ D.left ∧ D.left ≤ 9223372036854775807 ∧ (D.armed = true → 0 ≤ D.left)
  fails : 0 ≤ D.fails ∧ D.fails ≤ 4611686018427387904
  ops : 0 ≤ D.ops ∧ D.ops ≤ 4611686018427387904
/-- what a sector holds, the writes gone over from the last one on -/
def lastOf : List Wr → Nat → Option Blk
  | [], _ => none
  | x :: l, i => match lastOf l i with
    | some b => some b
    | none => if x.at_ = i then some x.b else none
def DM.holds (D : DM) (i : Nat) : Blk := (lastOf D.pend i).getD (D.safe.getD i noughts)
/-- may an operation of a sector be done? what becomes of the disk; the error -/
def DM.ready (D : DM) (i : Int) : DM × Int :=
  if D.dead then (D, 9)
  else if i < 0 ∨ (D.safe.length : Int) ≤ i then (D, 2)
  else if D.fails = 1 then ({ D with fails := 0 }, 8)
  else if 1 < D.fails then ({ D with fails := D.fails - 1 }, 0)
  else (D, 0)
/-- what the power can leave: is it done? -/
def DM.do_ (D : DM) : DM × Bool :=
  if D.armed then
    if D.left = 0 then ({ D with dead := true, armed := false }, false)
    else ({ D with left := D.left - 1, ops := D.ops + 1 }, true)
  else ({ D with ops := D.ops + 1 }, true)
def DM.read (D : DM) (i : Int) : DM × Blk × Int :=
  if (D.ready i).2 = 0 then ({ (D.ready i).1 with ops := (D.ready i).1.ops + 1 }, D.holds i.toNat, 0) else ((D.ready i).1, noughts, (D.ready i).2)
def DM.write (D : DM) (i : Int) (b : Blk) : DM × Int :=
  if (D.ready i).2 = 0 then
    (if (D.ready i).1.do_.2 then ({ (D.ready i).1.do_.1 with pend := D.pend ++ [⟨i.toNat, b⟩] }, 0) else ((D.ready i).1.do_.1, 9))
  else (D.ready i).1 |> fun D' => (D', (D.ready i).2)
/-- the writes that live, laid down one by one -/
def lay : List Blk → List Wr → (Nat → Bool) → Nat → List Blk
  | s, [], _, _ => s
  | s, x :: l, live, k => lay (if live k then s.set x.at_ x.b else s) l live (k + 1)
def DM.settle (D : DM) (live : Nat → Bool) : DM := { D with safe := lay D.safe D.pend live 0, pend := [] }
def DM.sync (D : DM) : DM × Int :=
  if (D.ready 0).2 = 0 then
    (if (D.ready 0).1.do_.2 then ((D.ready 0).1.do_.1.settle fun _ => true, 0) else ((D.ready 0).1.do_.1, 9))
  else ((D.ready 0).1, (D.ready 0).2)
def DM.arm (D : DM) (n : Int) : DM × Int := if D.dead then (D, 9) else ({ D with armed := decide (0 ≤ n), left := n }, 0)
def DM.fail (D : DM) (n : Int) : DM × Int := if D.dead then (D, 9) else ({ D with fails := if 0 ≤ n ∧ n < 4611686018427387904 then n + 1 else 0 }, 0)
def DM.crash (D : DM) (keep : List Bool) : DM := { D.settle (fun i => keep.getD i false) with dead := false, armed := false, fails := 0 }

theorem lay_length : ∀ (l : List Wr) (s : List Blk) (live : Nat → Bool) (k : Nat), (lay s l live k).length = s.length
  | [], s, live, k => rfl
  | x :: l, s, live, k => by
    unfold lay
    rw [lay_length l]
    split
    · exact List.length_set
    · rfl
theorem lay_ok : ∀ (l : List Wr) (s : List Blk) (live : Nat → Bool) (k : Nat), (∀ b ∈ s, Blk.ok b) → (∀ x ∈ l, Blk.ok x.b) → ∀ b ∈ lay s l live k, Blk.ok b
  | [], s, live, k, h, _ => h
  | x :: l, s, live, k, h, hl => by
    unfold lay
    refine lay_ok l _ live (k + 1) ?_ fun y hy => hl y (List.mem_cons_of_mem _ hy)
    split
    · intro b hb
      rcases List.mem_or_eq_of_mem_set hb with h1 | h1
      · exact h b h1
      · subst h1; exact hl x (List.mem_cons_self ..)
    · exact h
theorem ready_ok {D : DM} (h : D.ok) (i : Int) : (D.ready i).1.ok := by
  obtain ⟨h1, h2, h3, h4, h5, h6, h7⟩ := h
  unfold DM.ready
  split
  · exact ⟨h1, h2, h3, h4, h5, h6, h7⟩
  · split
    · exact ⟨h1, h2, h3, h4, h5, h6, h7⟩
    · split
      · exact ⟨h1, h2, h3, h4, h5, ⟨Int.le_refl 0, by show (0 : Int) ≤ _; decide⟩, h7⟩
      · split
        · exact ⟨h1, h2, h3, h4, h5, ⟨by show 0 ≤ D.fails - 1; omega, by show D.fails - 1 ≤ _; omega⟩, h7⟩
        · exact ⟨h1, h2, h3, h4, h5, h6, h7⟩
theorem do_ok {D : DM} (h : D.ok) (ho : D.ops < 4611686018427387904) : D.do_.1.ok := by
  obtain ⟨h1, h2, h3, h4, h5, h6, h7⟩ := h
  unfold DM.do_
  split
  · rename_i ha
    have h8 := h5.2.2 ha
    split
    · exact ⟨h1, h2, h3, h4, ⟨h5.1, h5.2.1, fun e => by cases e⟩, h6, h7⟩
    · exact ⟨h1, h2, h3, h4, ⟨by show _ ≤ D.left - 1; omega, by show D.left - 1 ≤ _; omega, fun _ => by show 0 ≤ D.left - 1; omega⟩, h6, ⟨by show 0 ≤ D.ops + 1; omega, by show D.ops + 1 ≤ _; omega⟩⟩
  · exact ⟨h1, h2, h3, h4, h5, h6, ⟨by show 0 ≤ D.ops + 1; omega, by show D.ops + 1 ≤ _; omega⟩⟩
theorem settle_ok {D : DM} (h : D.ok) (live : Nat → Bool) : (D.settle live).ok := by
  obtain ⟨h1, h2, h3, h4, h5, h6, h7⟩ := h
  have hl := lay_length D.pend D.safe live 0
  exact ⟨lay_ok _ _ _ _ h1 fun x hx => (h2 x hx).1, fun x hx => (by cases hx), by show (lay D.safe D.pend live 0).length ≤ _ ∧ 1 ≤ (lay D.safe D.pend live 0).length; rw [hl]; exact h3, Nat.zero_le _, h5, h6, h7⟩
theorem ready_same (D : DM) (i : Int) : (D.ready i).1.ops = D.ops ∧ (D.ready i).1.pend = D.pend ∧ (D.ready i).1.safe = D.safe := by
  unfold DM.ready
  split
  · exact ⟨rfl, rfl, rfl⟩
  · split
    · exact ⟨rfl, rfl, rfl⟩
    · split
      · exact ⟨rfl, rfl, rfl⟩
      · split <;> exact ⟨rfl, rfl, rfl⟩
theorem do_same (D : DM) : D.do_.1.pend = D.pend ∧ D.do_.1.safe = D.safe := by
  unfold DM.do_
  split
  · split <;> exact ⟨rfl, rfl⟩
  · exact ⟨rfl, rfl⟩
theorem ready_in {D : DM} {i : Int} (h : (D.ready i).2 = 0) : 0 ≤ i ∧ i < D.safe.length := by
  unfold DM.ready at h
  split at h
  · cases h
  · split at h
    · cases h
    · omega
theorem St.keep4 {w w0 : World} {L : List HP} {a b c d : HP} (hS : St w0 w (a :: b :: c :: d :: L)) : St w0 w [a, b, c, d] := ⟨hS.below, Sep.cons_mono (L' := [b, c, d]) (fun _ => Sep.cons_mono (L' := [c, d]) (fun _ => Sep.cons_mono (L' := [d]) (fun _ => Sep.cons_mono (L' := []) Sep.none_))) hS.sep⟩
theorem wr_fill {zero : List Value} (hz : zero.length = 65) {i : Int} {x : List Value} (hx : x.length = 64) : fillL [(0, 1), (1, 64)] zero [(0, .int .i64 i), (1, .agg x.toArray)] = some (.int .i64 i :: x) := by
  cases zero with
  | nil => simp at hz
  | cons z zs =>
    have hzs : zs.length = 64 := by simpa using hz
    have e1 : splice (z :: zs) 0 [.int .i64 i] = .int .i64 i :: zs := by unfold splice; simp
    have e2 : splice (.int .i64 i :: zs) 1 x = .int .i64 i :: x := by
      unfold splice
      rw [hx]
      show [Value.int .i64 i] ++ x ++ (Value.int .i64 i :: zs).drop (1 + 64) = _
      rw [List.drop_eq_nil_of_le (by simp [hzs])]
      simp
    show (bif Nat.beq 1 1 && Nat.ble (0 + 1) (z :: zs).length then fillL [(0, 1), (1, 64)] (splice (z :: zs) 0 [.int .i64 i]) [(1, .agg x.toArray)] else none) = _
    rw [e1]
    have h1 : (Nat.beq 1 1 && Nat.ble (0 + 1) (z :: zs).length) = true := by simp [hzs]
    rw [h1, cond_true]
    show (bif Nat.beq x.length 64 && Nat.ble (1 + x.length) (Value.int .i64 i :: zs).length then fillL [(0, 1), (1, 64)] (splice (.int .i64 i :: zs) 1 x) [] else none) = _
    rw [e2]
    have h2 : (Nat.beq x.length 64 && Nat.ble (1 + x.length) (Value.int .i64 i :: zs).length) = true := by simp [hzs, hx]
    rw [h2, cond_true]
    rfl
end Go.Proofs.Ytfoeelghehjanaa
