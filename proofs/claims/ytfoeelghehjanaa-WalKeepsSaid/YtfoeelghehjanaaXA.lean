/-
  A log on a disk whose power may go: what an operation leaves behind a crash, and what is found (no program in sight).
-/
import Derived.Test.YtfoeelghehjanaaWZ
namespace Go.Proofs.Ytfoeelghehjanaa
open Go.RowKit
set_option linter.unusedVariables false
set_option linter.unusedSimpArgs false

/-! ## Disks that live -/
structure DM.alive (D : DM) : Prop where
  dead : D.dead = false
  fails : D.fails = 0
theorem DM.calm.alive {D : DM} (h : D.calm) : D.alive := ⟨h.dead, h.fails⟩
theorem ready_alive {D : DM} (h : D.alive) {i : Int} (h0 : 0 ≤ i) (h1 : i < D.safe.length) : D.ready i = (D, 0) := by
  unfold DM.ready
  rw [h.dead, h.fails, if_neg (by decide), if_neg (by omega), if_neg (by decide), if_neg (by decide)]
theorem do_alive {D : DM} (h : D.alive) : (D.do_.2 = true ∧ D.do_.1.alive ∧ D.do_.1.safe = D.safe ∧ D.do_.1.pend = D.pend) ∨ (D.do_.2 = false ∧ D.do_.1.safe = D.safe ∧ D.do_.1.pend = D.pend) := by
  unfold DM.do_
  split
  · split
    · exact .inr ⟨rfl, rfl, rfl⟩
    · exact .inl ⟨rfl, ⟨h.dead, h.fails⟩, rfl, rfl⟩
  · exact .inl ⟨rfl, ⟨h.dead, h.fails⟩, rfl, rfl⟩
abbrev wrOf (x : Int × Blk) : Wr := ⟨x.1.toNat, x.2⟩
theorem write_alive {D : DM} (h : D.alive) {i : Int} (h0 : 0 ≤ i) (h1 : i < D.safe.length) (b : Blk) :
    ((D.write i b).2 = 0 ∧ (D.write i b).1.alive ∧ (D.write i b).1.safe = D.safe ∧ (D.write i b).1.pend = D.pend ++ [wrOf (i, b)]) ∨ ((D.write i b).2 = 9 ∧ (D.write i b).1.safe = D.safe ∧ (D.write i b).1.pend = D.pend) := by
  unfold DM.write
  rw [ready_alive h h0 h1]
  dsimp only
  rw [if_pos rfl]
  rcases do_alive h with ⟨h1, h2, h3, h4⟩ | ⟨h1, h3, h4⟩
  · rw [h1, if_pos rfl]
    exact .inl ⟨rfl, ⟨h2.dead, h2.fails⟩, h3, rfl⟩
  · rw [h1, if_neg (by decide)]
    exact .inr ⟨rfl, h3, h4⟩
theorem sync_alive {D : DM} (h : D.alive) (h1 : 1 ≤ D.safe.length) :
    (D.sync.2 = 0 ∧ D.sync.1.alive ∧ D.sync.1.safe = lay D.safe D.pend (fun _ => true) 0 ∧ D.sync.1.pend = []) ∨ (D.sync.2 = 9 ∧ D.sync.1.safe = D.safe ∧ D.sync.1.pend = D.pend) := by
  unfold DM.sync
  rw [ready_alive h (by decide) (by omega)]
  dsimp only
  rw [if_pos rfl]
  rcases do_alive h with ⟨h1, h2, h3, h4⟩ | ⟨h1, h3, h4⟩
  · rw [h1, if_pos rfl]
    refine .inl ⟨rfl, ⟨h2.dead, h2.fails⟩, ?_, rfl⟩
    show lay D.do_.1.safe D.do_.1.pend _ 0 = _
    rw [h3, h4]
  · rw [h1, if_neg (by decide)]
    exact .inr ⟨rfl, h3, h4⟩
theorem wss_alive : ∀ {l : List (Int × Blk)} {D : DM}, D.alive → 1 ≤ D.safe.length → (∀ x ∈ l, 0 ≤ x.1 ∧ x.1 < D.safe.length) →
    ((D.wss l).2 = 0 ∧ (D.wss l).1.alive ∧ (D.wss l).1.safe = lay D.safe (D.pend ++ l.map wrOf) (fun _ => true) 0 ∧ (D.wss l).1.pend = []) ∨
    ((D.wss l).2 = 9 ∧ (D.wss l).1.safe = D.safe ∧ ∃ pre : List (Int × Blk), (∀ x ∈ pre, x ∈ l) ∧ (D.wss l).1.pend = D.pend ++ pre.map wrOf)
  | [], D, h, h1, _ => by
    show (D.sync.2 = 0 ∧ D.sync.1.alive ∧ D.sync.1.safe = lay D.safe (D.pend ++ []) _ 0 ∧ _) ∨ _
    rw [List.append_nil]
    rcases sync_alive h h1 with h2 | ⟨h2, h3, h4⟩
    · exact .inl h2
    · exact .inr ⟨h2, h3, [], fun x hx => (by cases hx), by rw [List.map_nil, List.append_nil]; exact h4⟩
  | x :: l, D, h, h1, hl => by
    obtain ⟨h2, h3⟩ := hl x (List.mem_cons_self ..)
    rw [wss_cons]
    rcases write_alive h h2 h3 x.2 with ⟨e, ha, hs, hp⟩ | ⟨e, hs, hp⟩
    · rw [if_pos e]
      have ih := wss_alive (l := l) (D := (D.write x.1 x.2).1) ha (by rw [hs]; exact h1) (fun y hy => by rw [hs]; exact hl y (List.mem_cons_of_mem _ hy))
      rw [hs, hp] at ih
      rcases ih with ⟨i1, i2, i3, i4⟩ | ⟨i1, i2, pre, i3, i4⟩
      · refine .inl ⟨i1, i2, ?_, i4⟩
        rw [i3, List.map_cons, List.append_assoc]
        rfl
      · refine .inr ⟨i1, i2, x :: pre, ?_, ?_⟩
        · intro y hy
          rcases List.mem_cons.1 hy with rfl | hy
          · exact List.mem_cons_self ..
          · exact List.mem_cons_of_mem _ (i3 y hy)
        · rw [i4, List.map_cons, List.append_assoc]
          rfl
    · rw [if_neg (by rw [e]; decide)]
      exact .inr ⟨e, hs, [], fun x hx => (by cases hx), by rw [List.map_nil, List.append_nil]; exact hp⟩
/-- each sector as it was, or as one of the writes -/
def Half (S : List Blk) (l : List (Int × Blk)) (S' : List Blk) : Prop := S'.length = S.length ∧ ∀ i, atB S' i = atB S i ∨ ∃ x ∈ l, x.1.toNat = i ∧ atB S' i = x.2
theorem set_at (s : List Blk) (k i : Nat) (b : Blk) : atB (s.set k b) i = atB s i ∨ (k = i ∧ atB (s.set k b) i = b) := by
  show (s.set k b).getD i noughts = s.getD i noughts ∨ _ ∧ (s.set k b).getD i noughts = b
  rw [List.getD_eq_getElem?_getD, List.getD_eq_getElem?_getD, List.getElem?_set]
  by_cases h : k = i
  · subst h
    rw [if_pos rfl]
    by_cases h2 : k < s.length
    · rw [if_pos h2]; exact .inr ⟨rfl, rfl⟩
    · rw [if_neg h2, List.getElem?_eq_none (by omega)]; exact .inl rfl
  · rw [if_neg h]; exact .inl rfl
theorem lay_at : ∀ (l : List Wr) (s : List Blk) (live : Nat → Bool) (k i : Nat), atB (lay s l live k) i = atB s i ∨ ∃ x ∈ l, x.at_ = i ∧ atB (lay s l live k) i = x.b
  | [], s, live, k, i => .inl rfl
  | x :: l, s, live, k, i => by
    unfold lay
    rcases lay_at l (if live k then s.set x.at_ x.b else s) live (k + 1) i with h | ⟨y, hy, h1, h2⟩
    · rw [h]
      split
      · rcases set_at s x.at_ i x.b with h3 | ⟨h3, h4⟩
        · exact .inl h3
        · exact .inr ⟨x, List.mem_cons_self .., h3, h4⟩
      · exact .inl rfl
    · exact .inr ⟨y, List.mem_cons_of_mem _ hy, h1, h2⟩
theorem half_lay {S : List Blk} {l pre : List (Int × Blk)} (h : ∀ x ∈ pre, x ∈ l) (live : Nat → Bool) : Half S l (lay S (pre.map wrOf) live 0) := by
  refine ⟨lay_length _ _ _ _, fun i => ?_⟩
  rcases lay_at (pre.map wrOf) S live 0 i with h1 | ⟨x, hx, h1, h2⟩
  · exact .inl h1
  · obtain ⟨y, hy, rfl⟩ := List.mem_map.1 hx
    exact .inr ⟨y, h y hy, h1, h2⟩
theorem half_refl (S : List Blk) (l : List (Int × Blk)) : Half S l S := ⟨rfl, fun i => .inl rfl⟩
theorem half_layT (S : List Blk) (l : List (Int × Blk)) : Half S l (layT S l) := by
  rw [← lay_map l S 0]
  exact half_lay (pre := l) (fun x hx => hx) _
theorem half_ok {S S' : List Blk} {l : List (Int × Blk)} (h : Half S l S') (hS : ∀ x ∈ S, Blk.ok x) (hl : ∀ x ∈ l, Blk.ok x.2) : ∀ x ∈ S', Blk.ok x := by
  intro x hx
  obtain ⟨i, hi, rfl⟩ := List.getElem_of_mem hx
  have e : atB S' i = S'[i] := by show S'.getD i noughts = _; rw [List.getD_eq_getElem?_getD, List.getElem?_eq_getElem hi]; rfl
  rw [← e]
  rcases h.2 i with h1 | ⟨y, hy, _, h1⟩
  · rw [h1]
    show Blk.ok (S.getD i noughts)
    rw [List.getD_eq_getElem?_getD, List.getElem?_eq_getElem (by rw [← h.1]; exact hi)]
    exact hS _ (List.getElem_mem _)
  · rw [h1]; exact hl y hy
/-- behind a crash the disk does what it is told -/
theorem crash_calm (D : DM) (keep : List Bool) : (D.crash keep).calm ∧ (D.crash keep).pend = [] ∧ (D.crash keep).safe = lay D.safe D.pend (fun i => keep.getD i false) 0 := ⟨⟨rfl, rfl, rfl⟩, rfl, rfl⟩
theorem crash_idle {D : DM} (h : D.pend = []) (keep : List Bool) : (D.crash keep).safe = D.safe := by rw [(crash_calm D keep).2.2, h]; rfl
/-- sectors are written and synced, on a disk that lives -/
theorem wss_crash {l : List (Int × Blk)} {D : DM} (h : D.alive) (hp : D.pend = []) (h1 : 1 ≤ D.safe.length) (hl : ∀ x ∈ l, 0 ≤ x.1 ∧ x.1 < D.safe.length) :
    ((D.wss l).2 = 0 ∧ (D.wss l).1.alive ∧ (D.wss l).1.pend = [] ∧ (D.wss l).1.safe = layT D.safe l) ∨ ((D.wss l).2 = 9 ∧ ∀ keep, Half D.safe l ((D.wss l).1.crash keep).safe) := by
  rcases wss_alive h h1 hl with ⟨e, ha, hs, hq⟩ | ⟨e, hs, pre, h2, hq⟩
  · rw [hp, List.nil_append] at hs
    exact .inl ⟨e, ha, hq, by rw [hs]; exact lay_map l D.safe 0⟩
  · refine .inr ⟨e, fun keep => ?_⟩
    rw [(crash_calm _ keep).2.2, hs, hq, hp, List.nil_append]
    exact half_lay h2 _
theorem wrs_crash {l : List Blk} {at_ : Nat} {D : DM} (h : D.alive) (hp : D.pend = []) (h1 : 1 ≤ D.safe.length) (hl : at_ + l.length ≤ D.safe.length) :
    ((D.wrs (at_ : Int) l).2 = 0 ∧ (D.wrs (at_ : Int) l).1.alive ∧ (D.wrs (at_ : Int) l).1.pend = [] ∧ (D.wrs (at_ : Int) l).1.safe = spliceB D.safe at_ l) ∨ ((D.wrs (at_ : Int) l).2 = 9 ∧ ∀ keep, Half D.safe (atW (at_ : Int) l) ((D.wrs (at_ : Int) l).1.crash keep).safe) := by
  have := wss_crash (l := atW (at_ : Int) l) h hp h1 (atW_in hl)
  rw [layT_splice l _ _ hl] at this
  exact this
theorem half_parts {S S' : List Blk} {at_ t n : Nat} {b : List Nat} (h : Half S (atW (at_ : Int) (partsB t n b)) S') :
    (∀ i, (i < at_ ∨ at_ + secN b.length ≤ i) → atB S' i = atB S i) ∧ ∀ k, k < secN b.length → atB S' (at_ + k) = atB S (at_ + k) ∨ atB S' (at_ + k) = partB t n b k := by
  have key : ∀ i, atB S' i = atB S i ∨ ∃ k, k < secN b.length ∧ at_ + k = i ∧ atB S' i = partB t n b k := by
    intro i
    rcases h.2 i with h1 | ⟨x, hx, h1, h2⟩
    · exact .inl h1
    · rw [← fullP_cv] at hx
      obtain ⟨y, hy, rfl⟩ := List.mem_map.1 hx
      obtain ⟨h3, h4⟩ := fullP_mem hy
      refine .inr ⟨y.1, h3, ?_, ?_⟩
      · dsimp only [cvP] at h1; omega
      · rw [← h4]; exact h2
  refine ⟨fun i hi => ?_, fun k hk => ?_⟩
  · rcases key i with h1 | ⟨k, hk, rfl, _⟩
    · exact h1
    · omega
  · rcases key (at_ + k) with h1 | ⟨j, hj, h2, h3⟩
    · exact .inl h1
    · obtain rfl : j = k := by omega
      exact .inr h3
theorem half_one {S S' : List Blk} {at_ : Nat} {x : Blk} (h : Half S (atW (at_ : Int) [x]) S') : (∀ i, i ≠ at_ → atB S' i = atB S i) ∧ (atB S' at_ = atB S at_ ∨ atB S' at_ = x) := by
  have key : ∀ i, atB S' i = atB S i ∨ (i = at_ ∧ atB S' i = x) := by
    intro i
    rcases h.2 i with h1 | ⟨y, hy, h1, h2⟩
    · exact .inl h1
    · rw [atW_cons] at hy
      rcases List.mem_cons.1 hy with rfl | hy
      · refine .inr ⟨?_, h2⟩
        dsimp only at h1; omega
      · cases hy
  refine ⟨fun i hi => ?_, ?_⟩
  · rcases key i with h1 | ⟨h1, _⟩
    · exact h1
    · exact absurd h1 hi
  · rcases key at_ with h1 | ⟨_, h1⟩
    · exact .inl h1
    · exact .inr h1
theorem layT_in {c : Blk} : ∀ (l : List (Int × Blk)) (S : List Blk), (∀ y ∈ l, y.2 = c) → ∀ y ∈ l, y.1.toNat < S.length → atB (layT S l) y.1.toNat = c
  | [], S, h, y, hy, _ => by cases hy
  | x :: l, S, h, y, hy, hlt => by
    have hx := h x (List.mem_cons_self ..)
    show atB (layT (S.set x.1.toNat x.2) l) _ = c
    by_cases hm : y ∈ l
    · exact layT_in l _ (fun z hz => h z (List.mem_cons_of_mem _ hz)) y hm (by rw [List.length_set]; exact hlt)
    · obtain rfl : y = x := by
        rcases List.mem_cons.1 hy with h1 | h1
        · exact h1
        · exact absurd h1 hm
      rcases (half_layT (S.set y.1.toNat y.2) l).2 y.1.toNat with h1 | ⟨z, hz, _, h1⟩
      · rw [h1]
        show (S.set y.1.toNat y.2).getD _ noughts = c
        rw [List.getD_eq_getElem?_getD, List.getElem?_set_self hlt]
        exact hx
      · rw [h1]; exact h z (List.mem_cons_of_mem _ hz)
end Go.Proofs.Ytfoeelghehjanaa
