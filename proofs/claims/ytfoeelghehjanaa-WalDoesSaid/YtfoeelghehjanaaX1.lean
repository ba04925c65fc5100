/-
  The calculus, several texts in one.
-/
import Derived.Test.YtfoeelghehjanaaWX
/-
  A log on a disk whose power may go: what is found again (no program in sight).
-/
namespace Go.Proofs.Ytfoeelghehjanaa
open Go.RowKit
set_option linter.unusedVariables false
set_option linter.unusedSimpArgs false
/-! ## Sectors, one by one -/
abbrev atB (S : List Blk) (i : Nat) : Blk := S.getD i noughts
/-- so many sectors from a place on -/
def ar (S : List Blk) (at_ n : Nat) : List Blk := (List.range n).map fun i => atB S (at_ + i)
theorem ar_len (S : List Blk) (at_ n : Nat) : (ar S at_ n).length = n := by simp [ar]
theorem ar_get {S : List Blk} {at_ n i : Nat} (h : i < n) : (ar S at_ n)[i]? = some (atB S (at_ + i)) := by
  unfold ar
  rw [List.getElem?_map, List.getElem?_range h]
  rfl
theorem ar_eq {S : List Blk} {at_ n : Nat} (h : at_ + n ≤ S.length) : (S.drop at_).take n = ar S at_ n := by
  refine List.ext_getElem? fun i => ?_
  by_cases hi : i < n
  · rw [ar_get hi, List.getElem?_take_of_lt hi, List.getElem?_drop, List.getElem?_eq_getElem (by omega)]
    show _ = some (S.getD (at_ + i) noughts)
    rw [List.getD_eq_getElem?_getD, List.getElem?_eq_getElem (by omega)]
    rfl
  · rw [List.getElem?_eq_none (by rw [List.length_take]; omega), List.getElem?_eq_none (by rw [ar_len]; omega)]
theorem ar_congr {S S' : List Blk} {at_ n : Nat} (h : ∀ i, i < n → atB S' (at_ + i) = atB S (at_ + i)) : ar S' at_ n = ar S at_ n :=
  List.map_congr_left fun i hi => h i (List.mem_range.1 hi)
theorem ar_add (S : List Blk) (at_ n m : Nat) : ar S at_ (n + m) = ar S at_ n ++ ar S (at_ + n) m := by
  unfold ar
  rw [List.range_add, List.map_append, List.map_map]
  congr 1
  refine List.map_congr_left fun i _ => ?_
  show atB S (at_ + (n + i)) = atB S (at_ + n + i)
  rw [Nat.add_assoc]
/-! ## Old sectors -/
def pT (x : Blk) : Nat := bnum 0 (x.take 4)
def pN (x : Blk) : Nat := bnum 0 ((x.drop 4).take 4)
theorem pT_part {t n : Nat} {b : List Nat} {k : Nat} (ht : t < 4294967296) : pT (partB t n b k) = t := by
  unfold pT partB stampB
  rw [List.append_assoc, List.append_assoc, List.append_assoc, List.append_assoc, List.take_left' (beb_length _ _), bnum_beb]
  exact Nat.mod_eq_of_lt ht
theorem pN_part {t n : Nat} {b : List Nat} {k : Nat} (hn : n < 4294967296) : pN (partB t n b k) = n := by
  unfold pN partB stampB
  rw [List.append_assoc, List.append_assoc, List.append_assoc, List.append_assoc, take_mid (n := 4) (m := 4) (beb_length _ _) (beb_length _ _), bnum_beb]
  exact Nat.mod_eq_of_lt hn
/-- noughts, or a sector of a frame that was laid before -/
def Old (T N : Nat) (x : Blk) : Prop := x = noughts ∨ ∃ (t n : Nat) (b : List Nat) (k : Nat), t < 4294967296 ∧ n < 4294967296 ∧ b.length ≤ 40000 ∧ x = partB t n b k ∧ (t < T ∨ (t = T ∧ n < N))
theorem Old.mono {T N T' N' : Nat} {x : Blk} (h : Old T N x) (hm : T < T' ∨ (T = T' ∧ N ≤ N')) : Old T' N' x := by
  rcases h with h | ⟨t, n, b, k, h1, h2, h3, h4, h5⟩
  · exact .inl h
  · exact .inr ⟨t, n, b, k, h1, h2, h3, h4, by omega⟩
theorem Old.ne {T N n : Nat} {x : Blk} (h : Old T N x) (hT : T < 4294967296) (hn : n < 4294967296) (hN : N ≤ n) {b : List Nat} (hb : b.length ≤ 40000) (k : Nat) : x ≠ partB T n b k := by
  rcases h with rfl | ⟨t, m, c, j, h1, h2, h3, rfl, h5⟩
  · intro e
    have h6 := congrArg stN e
    rw [stN_noughts, stN_part, secN_pos hb] at h6
    omega
  · intro e
    have h6 := congrArg pT e
    have h7 := congrArg pN e
    rw [pT_part h1, pT_part hT] at h6
    rw [pN_part h2, pN_part hn] at h7
    omega
/-- behind the frames: nothing new, or a frame of which a sector is missing -/
def Torn (t n : Nat) (S : List Blk) (at_ m : Nat) : Prop := ∃ b : List Nat, b.length ≤ 40000 ∧ (∀ i, i < m → Old t n (atB S (at_ + i)) ∨ (i < secN b.length ∧ atB S (at_ + i) = partB t n b i)) ∧ ∃ i, i < secN b.length ∧ (i < m → Old t n (atB S (at_ + i)))
theorem Torn.of_old {t n : Nat} {S : List Blk} {at_ m : Nat} (h : ∀ i, i < m → Old t n (atB S (at_ + i))) : Torn t n S at_ m :=
  ⟨[], by decide, fun i hi => .inl (h i hi), 0, by decide, fun hi => h 0 hi⟩
theorem Torn.none {t n : Nat} {S : List Blk} {at_ m : Nat} (h : Torn t n S at_ m) (ht : t < 4294967296) (hn : n < 4294967296) (hS : ∀ x ∈ S, Blk.ok x) : stM (ar S at_ m) t n = none := by
  obtain ⟨b, hb, h1, j, hj, h2⟩ := h
  cases hs : stM (ar S at_ m) t n with
  | none => rfl
  | some c =>
    exfalso
    have hok : ∀ x ∈ ar S at_ m, Blk.ok x := by
      intro x hx
      obtain ⟨i, _, rfl⟩ := List.mem_map.1 hx
      show Blk.ok (S.getD (at_ + i) noughts)
      rw [List.getD_eq_getElem?_getD]
      cases hg : S[at_ + i]? with
      | none => exact noughts_ok
      | some y => exact hS y (List.mem_of_getElem? hg)
    obtain ⟨c1, c2, c3, c4⟩ := stM_some hok hs
    rw [ar_len] at c1
    have hk : ∀ k, k < secN c.length → atB S (at_ + k) = partB t n c k := by
      intro k hk
      have h3 : (partsB t n c)[k]? = ((ar S at_ m).take (secN c.length))[k]? := by rw [c4]
      rw [List.getElem?_take_of_lt hk, ar_get (by omega)] at h3
      unfold partsB at h3
      rw [List.getElem?_map, List.getElem?_range hk] at h3
      exact (Option.some.inj h3).symm
    have h0 := hk 0 (by omega)
    rcases h1 0 (by omega) with ho | ⟨_, ho⟩
    · exact ho.ne ht hn (Nat.le_refl _) c3 0 h0
    · have h5 := congrArg stN (h0.symm.trans ho)
      rw [stN_part, stN_part] at h5
      exact (h2 (by omega)).ne ht hn (Nat.le_refl _) c3 j (hk j (by omega))
/-! ## What stands on a disk -/
structure Base (S : List Blk) (W : WM) : Prop where
  ok : W.ok
  four : 4 ≤ W.area
  len : 2 + 2 * W.area ≤ S.length
  blk : ∀ x ∈ S, Blk.ok x
  head : atB S (W.turn % 2) = headB W.turn W.area
  other : atB S ((W.turn + 1) % 2) = if W.turn = 0 then noughts else headB (W.turn - 1) W.area
  own : ar S (fromN W.turn W.area) W.fin = framesB W.turn 0 W.list
  oth : ∀ i, i < W.area → Old (W.turn + 1) 1 (atB S (fromN (W.turn + 1) W.area + i))
/-- as it may stand behind a crash -/
structure LaidT (S : List Blk) (W : WM) : Prop extends Base S W where
  rest : Torn W.turn W.list.length S (fromN W.turn W.area + W.fin) (W.area - W.fin)
/-- as it stands while nothing has gone wrong -/
structure Laid (S : List Blk) (W : WM) : Prop extends Base S W where
  rest : ∀ i, i < W.area - W.fin → Old W.turn W.list.length (atB S (fromN W.turn W.area + W.fin + i))
/-- as Open leaves it -/
structure Clean (S : List Blk) (W : WM) : Prop extends Base S W where
  rest : ∀ i, i < W.area - W.fin → atB S (fromN W.turn W.area + W.fin + i) = noughts
theorem Clean.laid {S : List Blk} {W : WM} (h : Clean S W) : Laid S W := ⟨h.toBase, fun i hi => .inl (h.rest i hi)⟩
theorem Laid.torn {S : List Blk} {W : WM} (h : Laid S W) : LaidT S W := ⟨h.toBase, Torn.of_old h.rest⟩
theorem mod2 (t : Nat) : t % 2 = 0 ∧ (t + 1) % 2 = 1 ∨ t % 2 = 1 ∧ (t + 1) % 2 = 0 := by omega
theorem from_cases (t a : Nat) : fromN t a = 2 ∧ fromN (t + 1) a = 2 + a ∧ t % 2 = 0 ∧ (t + 1) % 2 = 1 ∨ fromN t a = 2 + a ∧ fromN (t + 1) a = 2 ∧ t % 2 = 1 ∧ (t + 1) % 2 = 0 := by
  unfold fromN
  rcases mod2 t with ⟨h1, h2⟩ | ⟨h1, h2⟩
  · left; rw [h1, h2]; omega
  · right; rw [h1, h2]; omega
end Go.Proofs.Ytfoeelghehjanaa
/-
  A log on a disk whose power may go: what an operation leaves behind a crash, and what is found (no program in sight).
-/
namespace Go.Proofs.Ytfoeelghehjanaa
open Go.RowKit
set_option linter.unusedVariables false
set_option linter.unusedSimpArgs false
/-! ## Disks that live -/
structure DM.alive (D : DM) : Prop where
  dead : D.dead = false
  fails : D.fails = 0
theorem DM.calm.alive {D : DM} (h : D.calm) : D.alive := ⟨h.dead, h.fails⟩
theorem ready_alive {D : DM} (h : D.alive) {i : Int} (h0 : 0 ≤ i) (h1 : i < D.safe.length) : D.ready i = (D, 0) := by
  unfold DM.ready
  rw [h.dead, h.fails, if_neg (by decide), if_neg (by omega), if_neg (by decide), if_neg (by decide)]
theorem do_alive {D : DM} (h : D.alive) : (D.do_.2 = true ∧ D.do_.1.alive ∧ D.do_.1.safe = D.safe ∧ D.do_.1.pend = D.pend) ∨ (D.do_.2 = false ∧ D.do_.1.safe = D.safe ∧ D.do_.1.pend = D.pend) := by
  unfold DM.do_
  split
  · split
    · exact .inr ⟨rfl, rfl, rfl⟩
    · exact .inl ⟨rfl, ⟨h.dead, h.fails⟩, rfl, rfl⟩
  · exact .inl ⟨rfl, ⟨h.dead, h.fails⟩, rfl, rfl⟩
abbrev wrOf (x : Int × Blk) : Wr := ⟨x.1.toNat, x.2⟩
theorem write_alive {D : DM} (h : D.alive) {i : Int} (h0 : 0 ≤ i) (h1 : i < D.safe.length) (b : Blk) :
    ((D.write i b).2 = 0 ∧ (D.write i b).1.alive ∧ (D.write i b).1.safe = D.safe ∧ (D.write i b).1.pend = D.pend ++ [wrOf (i, b)]) ∨ ((D.write i b).2 = 9 ∧ (D.write i b).1.safe = D.safe ∧ (D.write i b).1.pend = D.pend) := by
  unfold DM.write
  rw [ready_alive h h0 h1]
  dsimp only
  rw [if_pos rfl]
  rcases do_alive h with ⟨h1, h2, h3, h4⟩ | ⟨h1, h3, h4⟩
  · rw [h1, if_pos rfl]
    exact .inl ⟨rfl, ⟨h2.dead, h2.fails⟩, h3, rfl⟩
  · rw [h1, if_neg (by decide)]
    exact .inr ⟨rfl, h3, h4⟩
theorem sync_alive {D : DM} (h : D.alive) (h1 : 1 ≤ D.safe.length) :
    (D.sync.2 = 0 ∧ D.sync.1.alive ∧ D.sync.1.safe = lay D.safe D.pend (fun _ => true) 0 ∧ D.sync.1.pend = []) ∨ (D.sync.2 = 9 ∧ D.sync.1.safe = D.safe ∧ D.sync.1.pend = D.pend) := by
  unfold DM.sync
  rw [ready_alive h (by decide) (by omega)]
  dsimp only
  rw [if_pos rfl]
  rcases do_alive h with ⟨h1, h2, h3, h4⟩ | ⟨h1, h3, h4⟩
  · rw [h1, if_pos rfl]
    refine .inl ⟨rfl, ⟨h2.dead, h2.fails⟩, ?_, rfl⟩
    show lay D.do_.1.safe D.do_.1.pend _ 0 = _
    rw [h3, h4]
  · rw [h1, if_neg (by decide)]
    exact .inr ⟨rfl, h3, h4⟩
theorem wss_alive : ∀ {l : List (Int × Blk)} {D : DM}, D.alive → 1 ≤ D.safe.length → (∀ x ∈ l, 0 ≤ x.1 ∧ x.1 < D.safe.length) →
    ((D.wss l).2 = 0 ∧ (D.wss l).1.alive ∧ (D.wss l).1.safe = lay D.safe (D.pend ++ l.map wrOf) (fun _ => true) 0 ∧ (D.wss l).1.pend = []) ∨
    ((D.wss l).2 = 9 ∧ (D.wss l).1.safe = D.safe ∧ ∃ pre : List (Int × Blk), (∀ x ∈ pre, x ∈ l) ∧ (D.wss l).1.pend = D.pend ++ pre.map wrOf)
  | [], D, h, h1, _ => by
    show (D.sync.2 = 0 ∧ D.sync.1.alive ∧ D.sync.1.safe = lay D.safe (D.pend ++ []) _ 0 ∧ _) ∨ _
    rw [List.append_nil]
    rcases sync_alive h h1 with h2 | ⟨h2, h3, h4⟩
    · exact .inl h2
    · exact .inr ⟨h2, h3, [], fun x hx => (by cases hx), by rw [List.map_nil, List.append_nil]; exact h4⟩
  | x :: l, D, h, h1, hl => by
    obtain ⟨h2, h3⟩ := hl x (List.mem_cons_self ..)
    rw [wss_cons]
    rcases write_alive h h2 h3 x.2 with ⟨e, ha, hs, hp⟩ | ⟨e, hs, hp⟩
    · rw [if_pos e]
      have ih := wss_alive (l := l) (D := (D.write x.1 x.2).1) ha (by rw [hs]; exact h1) (fun y hy => by rw [hs]; exact hl y (List.mem_cons_of_mem _ hy))
      rw [hs, hp] at ih
      rcases ih with ⟨i1, i2, i3, i4⟩ | ⟨i1, i2, pre, i3, i4⟩
      · refine .inl ⟨i1, i2, ?_, i4⟩
        rw [i3, List.map_cons, List.append_assoc]
        rfl
      · refine .inr ⟨i1, i2, x :: pre, ?_, ?_⟩
        · intro y hy
          rcases List.mem_cons.1 hy with rfl | hy
          · exact List.mem_cons_self ..
          · exact List.mem_cons_of_mem _ (i3 y hy)
        · rw [i4, List.map_cons, List.append_assoc]
          rfl
    · rw [if_neg (by rw [e]; decide)]
      exact .inr ⟨e, hs, [], fun x hx => (by cases hx), by rw [List.map_nil, List.append_nil]; exact hp⟩
/-- each sector as it was, or as one of the writes -/
def Half (S : List Blk) (l : List (Int × Blk)) (S' : List Blk) : Prop := S'.length = S.length ∧ ∀ i, atB S' i = atB S i ∨ ∃ x ∈ l, x.1.toNat = i ∧ atB S' i = x.2
theorem set_at (s : List Blk) (k i : Nat) (b : Blk) : atB (s.set k b) i = atB s i ∨ (k = i ∧ atB (s.set k b) i = b) := by
  show (s.set k b).getD i noughts = s.getD i noughts ∨ _ ∧ (s.set k b).getD i noughts = b
  rw [List.getD_eq_getElem?_getD, List.getD_eq_getElem?_getD, List.getElem?_set]
  by_cases h : k = i
  · subst h
    rw [if_pos rfl]
    by_cases h2 : k < s.length
    · rw [if_pos h2]; exact .inr ⟨rfl, rfl⟩
    · rw [if_neg h2, List.getElem?_eq_none (by omega)]; exact .inl rfl
  · rw [if_neg h]; exact .inl rfl
theorem lay_at : ∀ (l : List Wr) (s : List Blk) (live : Nat → Bool) (k i : Nat), atB (lay s l live k) i = atB s i ∨ ∃ x ∈ l, x.at_ = i ∧ atB (lay s l live k) i = x.b
  | [], s, live, k, i => .inl rfl
  | x :: l, s, live, k, i => by
    unfold lay
    rcases lay_at l (if live k then s.set x.at_ x.b else s) live (k + 1) i with h | ⟨y, hy, h1, h2⟩
    · rw [h]
      split
      · rcases set_at s x.at_ i x.b with h3 | ⟨h3, h4⟩
        · exact .inl h3
        · exact .inr ⟨x, List.mem_cons_self .., h3, h4⟩
      · exact .inl rfl
    · exact .inr ⟨y, List.mem_cons_of_mem _ hy, h1, h2⟩
theorem half_lay {S : List Blk} {l pre : List (Int × Blk)} (h : ∀ x ∈ pre, x ∈ l) (live : Nat → Bool) : Half S l (lay S (pre.map wrOf) live 0) := by
  refine ⟨lay_length _ _ _ _, fun i => ?_⟩
  rcases lay_at (pre.map wrOf) S live 0 i with h1 | ⟨x, hx, h1, h2⟩
  · exact .inl h1
  · obtain ⟨y, hy, rfl⟩ := List.mem_map.1 hx
    exact .inr ⟨y, h y hy, h1, h2⟩
theorem half_layT (S : List Blk) (l : List (Int × Blk)) : Half S l (layT S l) := by
  rw [← lay_map l S 0]
  exact half_lay (pre := l) (fun x hx => hx) _
theorem half_ok {S S' : List Blk} {l : List (Int × Blk)} (h : Half S l S') (hS : ∀ x ∈ S, Blk.ok x) (hl : ∀ x ∈ l, Blk.ok x.2) : ∀ x ∈ S', Blk.ok x := by
  intro x hx
  obtain ⟨i, hi, rfl⟩ := List.getElem_of_mem hx
  have e : atB S' i = S'[i] := by show S'.getD i noughts = _; rw [List.getD_eq_getElem?_getD, List.getElem?_eq_getElem hi]; rfl
  rw [← e]
  rcases h.2 i with h1 | ⟨y, hy, _, h1⟩
  · rw [h1]
    show Blk.ok (S.getD i noughts)
    rw [List.getD_eq_getElem?_getD, List.getElem?_eq_getElem (by rw [← h.1]; exact hi)]
    exact hS _ (List.getElem_mem _)
  · rw [h1]; exact hl y hy
/-- behind a crash the disk does what it is told -/
theorem crash_calm (D : DM) (keep : List Bool) : (D.crash keep).calm ∧ (D.crash keep).pend = [] ∧ (D.crash keep).safe = lay D.safe D.pend (fun i => keep.getD i false) 0 := ⟨⟨rfl, rfl, rfl⟩, rfl, rfl⟩
/-- sectors are written and synced, on a disk that lives -/
theorem wss_crash {l : List (Int × Blk)} {D : DM} (h : D.alive) (hp : D.pend = []) (h1 : 1 ≤ D.safe.length) (hl : ∀ x ∈ l, 0 ≤ x.1 ∧ x.1 < D.safe.length) :
    ((D.wss l).2 = 0 ∧ (D.wss l).1.alive ∧ (D.wss l).1.pend = [] ∧ (D.wss l).1.safe = layT D.safe l) ∨ ((D.wss l).2 = 9 ∧ ∀ keep, Half D.safe l ((D.wss l).1.crash keep).safe) := by
  rcases wss_alive h h1 hl with ⟨e, ha, hs, hq⟩ | ⟨e, hs, pre, h2, hq⟩
  · rw [hp, List.nil_append] at hs
    exact .inl ⟨e, ha, hq, by rw [hs]; exact lay_map l D.safe 0⟩
  · refine .inr ⟨e, fun keep => ?_⟩
    rw [(crash_calm _ keep).2.2, hs, hq, hp, List.nil_append]
    exact half_lay h2 _
theorem layT_in {c : Blk} : ∀ (l : List (Int × Blk)) (S : List Blk), (∀ y ∈ l, y.2 = c) → ∀ y ∈ l, y.1.toNat < S.length → atB (layT S l) y.1.toNat = c
  | [], S, h, y, hy, _ => by cases hy
  | x :: l, S, h, y, hy, hlt => by
    have hx := h x (List.mem_cons_self ..)
    show atB (layT (S.set x.1.toNat x.2) l) _ = c
    by_cases hm : y ∈ l
    · exact layT_in l _ (fun z hz => h z (List.mem_cons_of_mem _ hz)) y hm (by rw [List.length_set]; exact hlt)
    · obtain rfl : y = x := by
        rcases List.mem_cons.1 hy with h1 | h1
        · exact h1
        · exact absurd h1 hm
      rcases (half_layT (S.set y.1.toNat y.2) l).2 y.1.toNat with h1 | ⟨z, hz, _, h1⟩
      · rw [h1]
        show (S.set y.1.toNat y.2).getD _ noughts = c
        rw [List.getD_eq_getElem?_getD, List.getElem?_set_self hlt]
        exact hx
      · rw [h1]; exact h z (List.mem_cons_of_mem _ hz)
end Go.Proofs.Ytfoeelghehjanaa
/-
  A log on a disk whose power may go: what stands there behind an append, a checkpoint and a crash (no program in sight).
-/
namespace Go.Proofs.Ytfoeelghehjanaa
open Go.RowKit
set_option linter.unusedVariables false
set_option linter.unusedSimpArgs false
def WM.push (W : WM) (b : List Nat) : WM := { W with list := W.list ++ [b], fin := W.fin + secN b.length }
def WM.anew (W : WM) (b : List Nat) : WM := { W with turn := W.turn + 1, list := [b], fin := secN b.length }
theorem list_lt {W : WM} (h : W.ok) : W.list.length ≤ 1000 := by have := h.len; have := h.fin; have := h.area; omega
theorem Base.keep {S S' : List Blk} {W : WM} (h : Base S W) (hl : S'.length = S.length) (hb : ∀ x ∈ S', Blk.ok x) (hh : ∀ i, i < 2 → atB S' i = atB S i)
    (ho : ∀ i, i < W.fin → atB S' (fromN W.turn W.area + i) = atB S (fromN W.turn W.area + i)) (hx : ∀ i, i < W.area → Old (W.turn + 1) 1 (atB S' (fromN (W.turn + 1) W.area + i))) : Base S' W where
  ok := h.ok
  four := h.four
  len := by rw [hl]; exact h.len
  blk := hb
  head := by rw [hh _ (Nat.mod_lt _ (by decide))]; exact h.head
  other := by rw [hh _ (Nat.mod_lt _ (by decide))]; exact h.other
  own := by rw [ar_congr ho]; exact h.own
  oth := hx
theorem from_two (t a : Nat) : 2 ≤ fromN t a := by unfold fromN; omega
theorem from_in {S : List Blk} {W : WM} (h : Base S W) (t : Nat) : fromN t W.area + W.area ≤ S.length := by
  have h1 := h.len
  rcases from_cases t W.area with ⟨h2, h3, _⟩ | ⟨h2, h3, _⟩ <;> omega
/-! ## Operations -/
end Go.Proofs.Ytfoeelghehjanaa
/-
  A log on a disk whose power may go: what is found there, and found again (no program in sight).
-/
namespace Go.Proofs.Ytfoeelghehjanaa
open Go.RowKit
set_option linter.unusedVariables false
set_option linter.unusedSimpArgs false
theorem two_heads {S : List Blk} (h : 2 ≤ S.length) : (S.drop 0).take 2 = [atB S 0, atB S 1] := by
  rw [ar_eq (by omega)]
  rfl
theorem head_find {S : List Blk} {W : WM} (h : Base S W) : findP S.length ((S.drop 0).take 2) 2 = (W.turn, W.area, true) := by
  have hl := h.len
  have h4 := h.four
  have ha := h.ok.area
  have ht := h.ok.turn
  rw [two_heads (by omega)]
  have hr := headR_head (sec := S.length) ht ⟨h4, ha⟩ hl
  have e1 := hT_head (t := W.turn) (a := W.area) ht
  have e2 := hN_head (t := W.turn) (a := W.area) (by omega)
  have hh := h.head
  have ho := h.other
  have hoth : atB S ((W.turn + 1) % 2) = noughts ∨ (1 ≤ W.turn ∧ atB S ((W.turn + 1) % 2) = headB (W.turn - 1) W.area) := by
    by_cases h0 : W.turn = 0
    · rw [if_pos h0] at ho; exact .inl ho
    · rw [if_neg h0] at ho; exact .inr ⟨by omega, ho⟩
  show findStep S.length (findStep S.length (0, 0, false) 0 (atB S 0)) 1 (atB S 1) = _
  rcases mod2 W.turn with ⟨m1, m2⟩ | ⟨m1, m2⟩
  · rw [m1] at hr hh
    rw [m2] at hoth
    have s0 : findStep S.length (0, 0, false) 0 (atB S 0) = (W.turn, W.area, true) := by
      rw [hh]
      unfold findStep
      rw [if_pos ⟨hr, fun h => by cases h.1⟩, e1, e2]
    rw [s0]
    unfold findStep
    rcases hoth with ho | ⟨hp, ho⟩
    · rw [ho]; exact if_neg fun h => headR_noughts _ _ h.1
    · rw [ho, hT_head (by omega)]
      exact if_neg fun h => h.2 ⟨rfl, by show W.turn - 1 < W.turn; omega⟩
  · rw [m1] at hr hh
    rw [m2] at hoth
    have s1 : ∀ acc : Nat × Nat × Bool, (acc.2.2 = true → acc.1 ≤ W.turn) → findStep S.length acc 1 (atB S 1) = (W.turn, W.area, true) := by
      intro acc hacc
      rw [hh]
      unfold findStep
      rw [e1, e2, if_pos ⟨hr, fun h => by have := hacc h.1; omega⟩]
    refine s1 _ ?_
    rcases hoth with ho | ⟨hp, ho⟩
    · intro h2
      rw [ho] at h2
      unfold findStep at h2
      rw [if_neg fun h => headR_noughts _ _ h.1] at h2
      cases h2
    · intro h2
      rw [ho]
      unfold findStep
      split
      · dsimp only
        rw [hT_head (by omega)]; omega
      · exact Nat.zero_le _
theorem rdl_alive : ∀ {n k : Nat} {D : DM} {at_ : Nat}, D.alive → D.pend = [] → at_ + k + n ≤ D.safe.length → D.rdl (fromL (at_ : Int) k n) = ({ D with ops := D.ops + n }, (D.safe.drop (at_ + k)).take n, 0)
  | 0, k, D, at_, h, hp, hl => by
    show (D, ([] : List Blk), (0 : Int)) = _
    rw [List.take_zero]
    simp
  | n + 1, k, D, at_, h, hp, hl => by
    have hr : D.read ((at_ : Int) + (k : Int)) = ({ D with ops := D.ops + 1 }, D.safe.getD ((at_ : Int) + (k : Int)).toNat noughts, 0) := by
      unfold DM.read
      rw [ready_alive h (by omega) (by omega)]
      dsimp only
      rw [if_pos rfl, holds_calm hp]
    rw [fromL_cons]
    unfold DM.rdl
    rw [hr]
    dsimp only
    rw [if_pos rfl, rdl_alive (D := { D with ops := D.ops + 1 }) ⟨h.dead, h.fails⟩ hp (by show at_ + (k + 1) + n ≤ D.safe.length; omega)]
    dsimp only
    have e1 : ((at_ : Int) + (k : Int)).toNat = at_ + k := by omega
    rw [e1, List.drop_eq_getElem_cons (l := D.safe) (i := at_ + k) (by omega), List.take_succ_cons, List.getD_eq_getElem?_getD, List.getElem?_eq_getElem (by omega), Option.getD_some]
    refine Prod.ext ?_ rfl
    dsimp only
    congr 1
    push_cast
    omega
theorem rds_alive {D : DM} {at_ n : Nat} (h : D.alive) (hp : D.pend = []) (hl : at_ + n ≤ D.safe.length) : D.rds (at_ : Int) n = ({ D with ops := D.ops + n }, (D.safe.drop at_).take n, 0) :=
  rdl_alive (k := 0) h hp hl
theorem fin_len {S : List Blk} {W : WM} (h : Base S W) : (framesB W.turn 0 W.list).length = W.fin := by rw [← h.own, ar_len]
theorem chain_torn {S : List Blk} {W : WM} (h : LaidT S W) : chain ((S.drop (fromN W.turn W.area)).take W.area) W.turn = (W.list, W.fin) := by
  have hin := from_in h.toBase W.turn
  have hf := h.ok.fin
  rw [ar_eq hin, show W.area = W.fin + (W.area - W.fin) by omega, ar_add, show W.fin + (W.area - W.fin) = W.area by omega, h.own,
    chain_frames (fun b hb => (h.ok.bs b hb).2) (h.rest.none h.ok.turn (by have := list_lt h.ok; omega) h.blk), fin_len h.toBase]
/-- the sectors that are laid noughts over -/
theorem torn_mem {S : List Blk} {at_ a fin : Nat} (hf : fin ≤ a) {x : Int} (hx : x ∈ torn (ar S at_ a) (at_ : Int) fin (a - fin)) : ∃ i, fin ≤ i ∧ i < a ∧ x = ((at_ + i : Nat) : Int) := by
  unfold torn at hx
  obtain ⟨i, hi, rfl⟩ := List.mem_map.1 hx
  have h1 := List.mem_range'_1.1 (List.mem_filter.1 hi).1
  exact ⟨i, h1.1, by omega, by push_cast; rfl⟩
theorem mem_torn {S : List Blk} {at_ a fin i : Nat} (h1 : fin ≤ i) (h2 : i < a) (h3 : atB S (at_ + i) ≠ noughts) : ((at_ + i : Nat) : Int) ∈ torn (ar S at_ a) (at_ : Int) fin (a - fin) := by
  unfold torn
  refine List.mem_map.2 ⟨i, List.mem_filter.2 ⟨List.mem_range'_1.2 ⟨h1, by omega⟩, ?_⟩, by push_cast; rfl⟩
  rw [List.getD_eq_getElem?_getD, ar_get h2]
  simpa using h3
abbrev wipeL (S : List Blk) (W : WM) : List Int := torn (ar S (fromN W.turn W.area) W.area) ((fromN W.turn W.area : Nat) : Int) W.fin (W.area - W.fin)
theorem wiped {S S' : List Blk} {W : WM} (h : LaidT S W) (hS : Half S ((wipeL S W).map fun i => (i, noughts)) S') : LaidT S' W ∧ ∀ i, i < W.area - W.fin → atB S' (fromN W.turn W.area + W.fin + i) = atB S (fromN W.turn W.area + W.fin + i) ∨ atB S' (fromN W.turn W.area + W.fin + i) = noughts := by
  have hfi := h.ok.fin
  have key : ∀ i, atB S' i = atB S i ∨ (fromN W.turn W.area + W.fin ≤ i ∧ i < fromN W.turn W.area + W.area ∧ atB S' i = noughts) := by
    intro i
    rcases hS.2 i with h1 | ⟨x, hx, h1, h2⟩
    · exact .inl h1
    · obtain ⟨y, hy, rfl⟩ := List.mem_map.1 hx
      obtain ⟨j, j1, j2, rfl⟩ := torn_mem hfi hy
      dsimp only at h1 h2
      exact .inr ⟨by omega, by omega, h2⟩
  have hok := half_ok hS h.blk (fun x hx => by
    obtain ⟨y, _, rfl⟩ := List.mem_map.1 hx
    exact noughts_ok)
  have hf := from_two W.turn W.area
  have hsame : ∀ i, (i < fromN W.turn W.area + W.fin ∨ fromN W.turn W.area + W.area ≤ i) → atB S' i = atB S i := by
    intro i hi
    rcases key i with h1 | ⟨h1, h2, _⟩
    · exact h1
    · omega
  have hrest : ∀ i, i < W.area - W.fin → atB S' (fromN W.turn W.area + W.fin + i) = atB S (fromN W.turn W.area + W.fin + i) ∨ atB S' (fromN W.turn W.area + W.fin + i) = noughts := by
    intro i hi
    rcases key (fromN W.turn W.area + W.fin + i) with h1 | ⟨_, _, h1⟩
    · exact .inl h1
    · exact .inr h1
  refine ⟨⟨h.toBase.keep hS.1 hok (fun i hi => hsame i (.inl (by omega))) (fun i hi => hsame _ (.inl (by omega))) (fun i hi => ?_), ?_⟩, hrest⟩
  · rw [hsame _ (by rcases from_cases W.turn W.area with ⟨h3, h4, _⟩ | ⟨h3, h4, _⟩ <;> omega)]
    exact h.oth i hi
  · obtain ⟨b, hb, h1, j, hj, h2⟩ := h.rest
    refine ⟨b, hb, fun i hi => ?_, j, hj, fun hjm => ?_⟩
    · rcases hrest i hi with h3 | h3
      · rw [h3]; exact h1 i hi
      · rw [h3]; exact .inl (.inl rfl)
    · rcases hrest j hjm with h3 | h3
      · rw [h3]; exact h2 hjm
      · rw [h3]; exact .inl rfl
theorem opn_step {D : DM} {W : WM} (h : LaidT D.safe W) (ha : D.alive) (hp : D.pend = []) :
    ∃ D1 : DM, D1 = { D with ops := D1.ops } ∧ D.opn = (if wipeL D.safe W ≠ [] then (if (D1.wipe (wipeL D.safe W)).2 ≠ 0 then ((D1.wipe (wipeL D.safe W)).1, none, (D1.wipe (wipeL D.safe W)).2) else ((D1.wipe (wipeL D.safe W)).1, some ⟨W.area, W.turn, W.list, W.fin, false⟩, 0)) else (D1, some ⟨W.area, W.turn, W.list, W.fin, false⟩, 0)) := by
  have hl := h.len
  have h4 := h.four
  have hin := from_in h.toBase W.turn
  have hr1 := rds_alive (at_ := 0) (n := 2) ha hp (by omega)
  have hl2 : ((D.safe.drop 0).take 2).length = 2 := by rw [List.length_take, List.drop_zero]; omega
  unfold DM.opn
  rw [hr1]
  dsimp only
  rw [if_neg (fun h => h rfl), hl2, head_find h.toBase]
  dsimp only
  rw [if_neg (by decide)]
  unfold DM.opn2
  have hr2 := rds_alive (D := { D with ops := D.ops + (2 : Nat) }) (at_ := fromN W.turn W.area) (n := W.area) ⟨ha.dead, ha.fails⟩ hp hin
  dsimp only at hr2
  rw [hr2]
  dsimp only
  rw [if_neg (fun h => h rfl)]
  unfold DM.opn3
  rw [chain_torn h, ar_eq hin]
  dsimp only
  have hne : W.list ≠ [] := by have := h.ok.ne; intro e; rw [e] at this; exact absurd this (by decide)
  rw [if_neg hne]
  refine ⟨{ D with ops := D.ops + (2 : Nat) + (W.area : Int) }, rfl, ?_⟩
  by_cases ht : wipeL D.safe W = []
  · rw [show torn (ar D.safe (fromN W.turn W.area) W.area) ((fromN W.turn W.area : Nat) : Int) W.fin (W.area - W.fin) = [] from ht, if_neg (show ¬ (([] : List Int) ≠ [] ∨ D.pend ≠ []) from fun h => h.elim (fun h => h rfl) (fun h => h hp)), if_neg (fun h => h rfl), if_neg (fun h => h ht)]
  · rw [if_pos (show torn (ar D.safe (fromN W.turn W.area) W.area) ((fromN W.turn W.area : Nat) : Int) W.fin (W.area - W.fin) ≠ [] ∨ D.pend ≠ [] from .inl ht), if_pos (show wipeL D.safe W ≠ [] from ht)]
/-- Open, on a disk that lives -/
theorem opn_alive {D : DM} {W : WM} (h : LaidT D.safe W) (ha : D.alive) (hp : D.pend = []) (hw : W.broken = false) :
    ((D.opn).2.1 = some W ∧ D.opn.2.2 = 0 ∧ D.opn.1.alive ∧ D.opn.1.pend = [] ∧ Clean D.opn.1.safe W) ∨ (D.opn.2.1 = none ∧ D.opn.2.2 = 9 ∧ ∀ keep, LaidT (D.opn.1.crash keep).safe W) := by
  obtain ⟨D1, e1, e2⟩ := opn_step h ha hp
  have hW : (⟨W.area, W.turn, W.list, W.fin, false⟩ : WM) = W := by rw [← hw]
  rw [hW] at e2
  have hs : D1.safe = D.safe := by rw [e1]
  have hp1 : D1.pend = [] := by rw [e1]; exact hp
  have ha1 : D1.alive := by rw [e1]; exact ⟨ha.dead, ha.fails⟩
  have hin := from_in h.toBase W.turn
  have hfi := h.ok.fin
  by_cases ht : wipeL D.safe W = []
  · rw [if_neg (fun h => h ht)] at e2
    rw [e2]
    refine .inl ⟨rfl, rfl, ha1, hp1, ?_⟩
    show Clean D1.safe W
    rw [hs]
    refine ⟨h.toBase, fun i hi => ?_⟩
    apply Classical.byContradiction
    intro hne
    have := mem_torn (S := D.safe) (at_ := fromN W.turn W.area) (a := W.area) (fin := W.fin) (i := W.fin + i) (by omega) (by omega) (by rw [← Nat.add_assoc]; exact hne)
    rw [show torn (ar D.safe (fromN W.turn W.area) W.area) ((fromN W.turn W.area : Nat) : Int) W.fin (W.area - W.fin) = [] from ht] at this
    cases this
  · rw [if_pos ht] at e2
    have hrange : ∀ x ∈ (wipeL D.safe W).map fun i => (i, noughts), 0 ≤ x.1 ∧ x.1 < D1.safe.length := by
      intro x hx
      obtain ⟨y, hy, rfl⟩ := List.mem_map.1 hx
      obtain ⟨j, j1, j2, rfl⟩ := torn_mem hfi hy
      rw [hs]
      dsimp only
      omega
    have hl := h.len
    rcases wss_crash (l := (wipeL D.safe W).map fun i => (i, noughts)) ha1 hp1 (by rw [hs]; omega) hrange with ⟨f, f2, f3, f4⟩ | ⟨f, f2⟩
    · unfold DM.wipe at e2
      rw [if_neg (by rw [f]; exact fun h => h rfl)] at e2
      rw [e2]
      refine .inl ⟨rfl, rfl, f2, f3, ?_⟩
      dsimp only
      rw [f4, hs]
      have hS := half_layT D.safe ((wipeL D.safe W).map fun i => (i, noughts))
      obtain ⟨g1, g2⟩ := wiped h hS
      refine ⟨g1.toBase, fun i hi => ?_⟩
      by_cases hne : atB D.safe (fromN W.turn W.area + W.fin + i) = noughts
      · rcases g2 i hi with g3 | g3
        · rw [g3]; exact hne
        · exact g3
      · have hm := mem_torn (S := D.safe) (at_ := fromN W.turn W.area) (a := W.area) (fin := W.fin) (i := W.fin + i) (by omega) (by omega) (by rw [← Nat.add_assoc]; exact hne)
        have := layT_in (c := noughts) ((wipeL D.safe W).map fun i => (i, noughts)) D.safe (fun y hy => by
          obtain ⟨z, _, rfl⟩ := List.mem_map.1 hy
          rfl) (((fromN W.turn W.area + (W.fin + i) : Nat) : Int), noughts) (List.mem_map.2 ⟨_, hm, rfl⟩) (by dsimp only; omega)
        rw [show ((fromN W.turn W.area + (W.fin + i) : Nat) : Int).toNat = fromN W.turn W.area + W.fin + i by omega] at this
        exact this
    · unfold DM.wipe at e2
      rw [if_pos (by rw [f]; decide)] at e2
      rw [e2]
      refine .inr ⟨rfl, f, fun keep => ?_⟩
      have := f2 keep
      rw [hs] at this
      exact (wiped h this).1
/-- Open, on a disk that does what it is told -/
theorem opn_calm {D : DM} {W : WM} (h : LaidT D.safe W) (hc : D.calm) (hp : D.pend = []) (hw : W.broken = false) :
    ((D.opn).2.1 = some W ∧ D.opn.2.2 = 0 ∧ D.opn.1.pend = [] ∧ Clean D.opn.1.safe W) ∧ D.opn.1.calm := by
  obtain ⟨D1, e1, e2⟩ := opn_step h hc.alive hp
  have hs : D1.safe = D.safe := by rw [e1]
  have hp1 : D1.pend = [] := by rw [e1]; exact hp
  have hc1 : D1.calm := by rw [e1]; exact ⟨hc.dead, hc.armed, hc.fails⟩
  have hl := h.len
  have hin := from_in h.toBase W.turn
  have hfi := h.ok.fin
  have h9 : D.opn.2.2 ≠ 9 ∧ D.opn.1.calm := by
    rw [e2]
    split
    · have hw2 := wss_calm0 (l := (wipeL D.safe W).map fun i => (i, noughts)) hc1 (by rw [hs]; omega) hp1 (by
        intro x hx
        obtain ⟨y, hy, rfl⟩ := List.mem_map.1 hx
        obtain ⟨j, j1, j2, rfl⟩ := torn_mem hfi hy
        rw [hs]
        dsimp only
        omega)
      unfold DM.wipe
      rw [hw2]
      dsimp only
      rw [if_neg (fun h => h rfl)]
      exact ⟨(by decide : (0 : Int) ≠ 9), hc1.dead, hc1.armed, hc1.fails⟩
    · exact ⟨(by decide : (0 : Int) ≠ 9), hc1⟩
  rcases opn_alive h hc.alive hp hw with ⟨a1, a2, a3, a4, a5⟩ | ⟨_, a2, _⟩
  · exact ⟨⟨a1, a2, a4, a5⟩, h9.2⟩
  · exact absurd a2 h9.1
end Go.Proofs.Ytfoeelghehjanaa
/-
  Contracts: a crash; a disk is opened again and again.
-/
namespace Go.Proofs.Ytfoeelghehjanaa
open Go.RowKit
set_option linter.unusedVariables false
set_option linter.unusedSimpArgs false
attribute [local irreducible] Rd hRow hBlk hRd hRdr wrP hWl Fn FnD hMarks
section
variable {H : List HP} {w0 w : World} {gd m : Nat} {D : DM}
set_option maxHeartbeats 8000000
set_option maxRecDepth 20000
theorem kcrash (K : Option Addr) (kc : Nat) (keep : List Bool) (hD : D.ok) (hr : ∀ w' L, St w0 w' (L ++ H) → Rd w' K (keep.map .bool)) (hl : keep.length ≤ 9223372036854775806) (hS : St w0 w (hDk gd D :: H)) :
    Fn Try.prog 32 [.pointer (some ⟨gd, 0, none⟩), .slice K keep.length kc] w fun v w' => v = .int .i64 0 ∧ St w0 w' (hDk gd (D.crash keep) :: H) := by
  obtain ⟨S, c, Q, d, h⟩ := hDk_open hS
  exact Fn.mono (crash K kc keep hD hr hl h) fun v w' ⟨e, Q', d', h'⟩ => ⟨e, hDk_close h'⟩
attribute [local irreducible] hDk
theorem DM.arm_alive {D : DM} (h : D.alive) (n : Int) : (D.arm n).1.alive ∧ (D.arm n).1.pend = D.pend ∧ (D.arm n).1.safe = D.safe ∧ (n < 0 → (D.arm n).1.calm) := by
  unfold DM.arm
  rw [if_neg (by rw [h.dead]; decide)]
  exact ⟨⟨h.dead, h.fails⟩, rfl, rfl, fun hn => ⟨h.dead, decide_eq_false (by omega), h.fails⟩⟩
/-- a row of whether to keep, laid anew -/
theorem opened (A : Option Addr) (c : Nat) (l : List WOp) (W : WM) (hw : W.broken = false) (hcl : l.length ≤ c) (hll : l.length ≤ 9223372036854775807) (hr : Rd w0 A (l.flatMap WOp.cells)) (hall : ∀ o ∈ l, o.wf ∧ o.rd w0)
    (hL : LaidT D.safe W) (hcm : D.calm) (hp : D.pend = []) (hD : D.atN m) (hm : m ≤ 60000) (hsl : D.safe.length ≤ 30) (hS : St w0 w (hDk gd D :: H)) :
    Fn Try.prog 33 [.pointer (some ⟨gd, 0, none⟩), .slice A l.length c] w fun v w' => ∃ gw D', v = .pointer (some ⟨gw, 0, none⟩) ∧ D'.calm ∧ D'.pend = [] ∧ Clean D'.safe W ∧ D'.atN (m + 400) ∧ D'.safe.length = D.safe.length ∧ St w0 w' (hWl gw gd W :: hDk gd D' :: H) := by
  obtain ⟨N, hN⟩ : ∃ N, D.safe.length = N := ⟨_, rfl⟩
  rw [hN]
  rw [hN] at hsl
  have hfl : (l.flatMap WOp.cells).length = l.length * 4 := flat_len (fun o _ => rfl)
  refine enter 53 Try.func33 rfl rfl rfl ?_
  intro a hE
  repeat' (first
 | (with_reducible refine wp_seq ?_)
 | (with_reducible refine c_region ?_)
 | (with_reducible refine wpList_nil ?_)
 | (with_reducible refine then_normal ?_)
 | (with_reducible refine wp_block ?_)
 | ((with_reducible refine g_move ?_); refine s_move hE rfl rfl ?_; clear hE a; intro a hE)
 | ((with_reducible refine g_assign ?_); refine s_assign hE rfl rfl ?_; clear hE a; intro a hE)
 | ((with_reducible refine g_blt .len ?_); refine s_len hE rfl rfl ?_; clear hE a; intro a hE))
  refine wp_loop_ghost (fun q a w => ∃ (k : Nat) (D : DM), k + q = l.length ∧ k ≤ 4 ∧ LaidT D.safe W ∧ D.calm ∧ D.pend = [] ∧ D.safe.length = N ∧ D.atN (m + 40 * k) ∧ St w0 w (hDk gd D :: H) ∧
    Env 53 [(0, .pointer (some ⟨gd, 0, none⟩)), (11, .slice A l.length c), (12, .int .i64 (l.length : Int)), (13, .int .i64 (k : Int))] a) l.length
    ⟨0, D, by omega, by omega, hL, hcm, hp, hN, hD, hS, hE.sub ⟨rfl, rfl, rfl, rfl, trivial⟩⟩ ?_
  clear hE a hS hL hcm hp hN hD
  rintro q a w ⟨k, D, hkq, hk4, hL, hcm, hp, hN, hD, hS, hE⟩
  have hend : ∀ {D1 : DM}, LaidT D1.safe W → D1.calm → D1.pend = [] → D1.safe.length = N → D1.atN (m + 40 * k) → D1.opn.1.calm ∧ D1.opn.2.1 = some W ∧ D1.opn.2.2 = 0 ∧ D1.opn.1.pend = [] ∧ Clean D1.opn.1.safe W ∧ D1.opn.1.atN (m + 40 * k + N + 3) ∧ D1.opn.1.safe.length = N := by
    intro D1 h1 h2 h3 h4 h5
    obtain ⟨g1, g2, _⟩ := opn_atN h5 (by omega) (by omega)
    rw [h4] at g1 g2
    obtain ⟨h6, h7⟩ := opn_calm h1 h2 h3 hw
    exact ⟨h7, h6.1, h6.2.1, h6.2.2.1, h6.2.2.2, g1, g2⟩
  by_cases hk1 : k < l.length
  · have hseg := flat_seg (c := WOp.cells) (size := 4) (l := l) (fun o _ => rfl) hk1
    obtain ⟨how, hord⟩ := hall _ (List.getElem_mem hk1)
    generalize l[k] = o at hseg how hord
    have hvl : o.cells.length = 4 := rfl
    have hone : ∀ v ∈ o.cells, v.oneCell' = true := by
      intro v hv
      unfold WOp.cells at hv
      simp only [List.mem_cons, List.not_mem_nil, or_false] at hv
      rcases hv with rfl | rfl | rfl | rfl <;> rfl
    have hrw := hr.st hS
    have hk : (IntKind.u64.wrap o.n).tmod 12 = (((o.n % 18446744073709551616).toNat % 12 : Nat) : Int) := u64_rem o.n 12 (by decide)
    have hklt : (o.n % 18446744073709551616).toNat % 12 < 12 := Nat.mod_lt _ (by decide)
    generalize (o.n % 18446744073709551616).toNat % 12 = r at hk hklt
    have e1 : IntKind.i64.wrap ((r : Nat) : Int) = (r : Int) := wrap64_in (by omega)
    repeat' (first
 | (with_reducible refine wp_seq ?_)
 | (with_reducible refine c_region ?_)
 | (with_reducible refine wpList_nil ?_)
 | (with_reducible refine then_normal ?_)
 | (with_reducible refine wp_skip ?_)
 | (with_reducible refine wp_block ?_)
 | (with_reducible refine wp_exit ?_)
 | (with_reducible refine then_exit ?_)
 | (with_reducible refine block_same ?_)
 | ((with_reducible refine block_other ?_ ?_); rfl)
 | ((with_reducible refine g_move ?_); refine s_move hE rfl rfl ?_; clear hE a; intro a hE)
 | ((with_reducible refine g_assign ?_); refine s_assign hE rfl rfl ?_; clear hE a; intro a hE)
 | ((with_reducible refine g_bin .lss ?_); refine s_lss hE rfl rfl rfl ?_; clear hE a; intro a hE)
 | ((with_reducible refine g_bin .eql ?_); refine s_eql hE rfl rfl rfl ?_; clear hE a; intro a hE)
 | ((with_reducible refine g_bin .rem ?_); refine s_rem hE rfl rfl (by omega) rfl (by first | rfl) ?_; clear hE a; intro a hE)
 | ((with_reducible refine g_conv ?_); refine s_conv hE rfl rfl (by first | exact wrap64_in (by omega) | rfl) ?_; clear hE a; intro a hE)
 | ((with_reducible refine g_fa ?_); refine s_fieldL hE rfl rfl rfl ?_; clear hE a; intro a hE)
 | ((with_reducible refine g_cond ?_); refine c_dec hE rfl (fun hc => ?_) (fun hc => ?_) <;> try omega)
 | ((with_reducible refine g_ia ?_); refine s_idxR hE rfl rfl (by omega) (by omega) (by (first | exact Rd.st (by assumption) hS )) (by first | omega ) rfl ?_; clear hE a; intro a hE)
 | ((with_reducible refine g_load ?_); (first | (refine s_loadB (k := 0) hS hE rfl rfl rfl rfl ?_) ); clear hE a; intro a hE)
 | ((with_reducible refine g_alloc ?_); refine s_allocS hE hS rfl rfl ?_; clear hE a hS; intro g a w hE hS)
 | ((with_reducible refine g_store ?_); (first | (refine s_storeW (k := 0) hS hE rfl rfl rfl rfl rfl (by first | assumption ) ?_) ); clear hS; intro w hS; simp only [List.set_cons_zero, List.set_cons_succ, Nat.add_zero] at hS)
 | ((with_reducible refine g_load ?_); refine s_elemR hE rfl (by (first | exact Rd.st (by assumption) hS )) (by first | exact hseg ) (by first | rfl ) (by rfl) rfl ?_; clear hE a; intro a hE))
    · obtain rfl : k = 4 := by omega
      obtain ⟨e1, e2, e3, e4, e5, e6, e7⟩ := hend hL hcm hp hN hD
      refine s_call hE rfl rfl rfl (kopn (m := m + 40 * 4) hD (by omega) (hS.drop 0)) ?_
      rintro _ w (⟨W2, gw, hW, _, rfl, hS⟩ | ⟨hW, _⟩)
      rotate_left
      · rw [hW] at e2; cases e2
      obtain rfl : W2 = W := by rw [hW] at e2; exact Option.some.inj e2
      clear hE a; intro a hE
      repeat' (first
 | (with_reducible refine wp_seq ?_)
 | (with_reducible refine c_region ?_)
 | (with_reducible refine wpList_nil ?_)
 | (with_reducible refine then_normal ?_)
 | (with_reducible refine wp_skip ?_)
 | (with_reducible refine wp_ret ?_)
 | ((with_reducible refine g_move ?_); refine s_move hE rfl rfl ?_; clear hE a; intro a hE)
 | ((with_reducible refine g_assign ?_); refine s_assign hE rfl rfl ?_; clear hE a; intro a hE)
 | ((with_reducible refine g_bin .neq ?_); refine s_neq hE rfl rfl rfl ?_; clear hE a; intro a hE)
 | ((with_reducible refine g_extract ?_); refine s_extract hE rfl rfl rfl ?_; clear hE a; intro a hE)
 | ((with_reducible refine g_cond ?_); refine c_false hE rfl ?_))
      exact ret1 hE rfl rfl ⟨gw, _, rfl, e1, e4, e5, e6.mono (by omega), e7, hS⟩
    · skip
      rw [hk] at hE
      obtain ⟨q1, q2, q3, q4⟩ := DM.arm_alive hcm.alive (r : Int)
      have q5 := arm_atN hD (i := (r : Int)) (by omega)
      refine s_call hE rfl rfl rfl (karm (r : Int) (by omega) (hS.focus (k := 1) rfl)) ?_
      rintro _ w ⟨rfl, hS⟩; clear hE a; intro a hE
      simp only [List.eraseIdx_cons_succ, List.eraseIdx_cons_zero] at hS
      generalize (D.arm (r : Int)).1 = D1 at q1 q2 q3 q4 q5 hS
      rw [hp] at q2
      rw [← q3] at hL
      rw [← q3] at hN
      repeat' (first
 | (with_reducible refine wp_seq ?_)
 | (with_reducible refine c_region ?_)
 | (with_reducible refine wpList_nil ?_)
 | (with_reducible refine then_normal ?_)
 | ((with_reducible refine g_move ?_); refine s_move hE rfl rfl ?_; clear hE a; intro a hE))
      have q6 := opn_alive hL q1 q2 hw
      obtain ⟨q7, q8, _⟩ := opn_atN q5 (by omega) (by omega)
      rw [hN] at q7 q8
      refine s_call hE rfl rfl rfl (kopn (m := m + 40 * k) q5 (by omega) hS) ?_
      rintro _ w (⟨W2, gw, hW, hz, rfl, hS⟩ | ⟨hW, hz, rfl, hS⟩)
      · rcases q6 with ⟨a1, a2, a3, a4, a5⟩ | ⟨a1, _⟩
        rotate_left
        · rw [hW] at a1; cases a1
        obtain rfl : W2 = W := by rw [hW] at a1; exact Option.some.inj a1
        clear hE a; intro a hE
        repeat' (first
 | (with_reducible refine wp_seq ?_)
 | (with_reducible refine c_region ?_)
 | (with_reducible refine wpList_nil ?_)
 | (with_reducible refine then_normal ?_)
 | ((with_reducible refine g_move ?_); refine s_move hE rfl rfl ?_; clear hE a; intro a hE)
 | ((with_reducible refine g_assign ?_); refine s_assign hE rfl rfl ?_; clear hE a; intro a hE)
 | ((with_reducible refine g_bin .eql ?_); refine s_eql hE rfl rfl rfl ?_; clear hE a; intro a hE)
 | ((with_reducible refine g_extract ?_); refine s_extract hE rfl rfl rfl ?_; clear hE a; intro a hE)
 | ((with_reducible refine g_cond ?_); refine c_true hE rfl ?_))
        obtain ⟨p1, p2, p3, p4⟩ := DM.arm_alive a3 (-1)
        have p5 := arm_atN q7 (i := (-1 : Int)) (by omega)
        refine s_call hE rfl rfl rfl (karm (-1) (by omega) (hS.focus (k := 1) rfl)) ?_
        rintro _ w ⟨rfl, hS⟩; clear hE a; intro a hE
        simp only [List.eraseIdx_cons_succ, List.eraseIdx_cons_zero] at hS
        repeat' (first
 | (with_reducible refine wp_seq ?_)
 | (with_reducible refine c_region ?_)
 | (with_reducible refine wpList_nil ?_)
 | (with_reducible refine then_normal ?_)
 | (with_reducible refine wp_ret ?_)
 | (with_reducible refine then_ret ?_)
 | (with_reducible refine block_ret ?_)
 | ((with_reducible refine g_move ?_); refine s_move hE rfl rfl ?_; clear hE a; intro a hE)
 | ((with_reducible refine g_assign ?_); refine s_assign hE rfl rfl ?_; clear hE a; intro a hE))
        exact ret1 hE rfl rfl ⟨gw, _, rfl, p4 (by decide), by rw [p2]; exact a4, by rw [p3]; exact a5, p5.mono (by omega), by rw [p3]; exact q8, (St.selD [1, 0] 1 hS)⟩
      · rcases q6 with ⟨a1, _⟩ | ⟨_, a2, a3⟩
        · rw [hW] at a1; cases a1
        have a4 := a3 o.keep
        obtain ⟨p1, p2, p3⟩ := crash_calm D1.opn.1 o.keep
        have p4 := crash_atN q7 o.keep
        have p5 : (D1.opn.1.crash o.keep).safe.length = N := by rw [p3, lay_length]; exact q8
        clear hE a; intro a hE
        repeat' (first
 | (with_reducible refine wp_seq ?_)
 | (with_reducible refine c_region ?_)
 | (with_reducible refine wpList_nil ?_)
 | (with_reducible refine then_normal ?_)
 | (with_reducible refine wp_skip ?_)
 | ((with_reducible refine g_move ?_); refine s_move hE rfl rfl ?_; clear hE a; intro a hE)
 | ((with_reducible refine g_assign ?_); refine s_assign hE rfl rfl ?_; clear hE a; intro a hE)
 | ((with_reducible refine g_bin .eql ?_); refine s_eql hE rfl rfl rfl ?_; clear hE a; intro a hE)
 | ((with_reducible refine g_extract ?_); refine s_extract hE rfl rfl rfl ?_; clear hE a; intro a hE)
 | ((with_reducible refine g_fa ?_); refine s_fieldL hE rfl rfl rfl ?_; clear hE a; intro a hE)
 | ((with_reducible refine g_cond ?_); refine c_dec hE rfl (fun hc => ?_) (fun hc => ?_) <;> try omega)
 | ((with_reducible refine g_load ?_); (first | (refine s_loadB (k := 2) hS hE rfl rfl rfl rfl ?_) ); clear hE a; intro a hE)
 | ((with_reducible refine g_lit ?_); refine s_lit hE hS rfl rfl rfl rfl rfl (by first | (simp [Value.oneCell']; done)) rfl ?_; clear hE a hS; intro g a w hE hS))
        have hkl := how.kl
        unfold WOp.cells at hS
        have hkr : Rd w o.K (o.keep.map .bool) := hord.st hS
        skip
        refine s_appendAt0 (k := 0) hE hS rfl rfl rfl (hord.st hS) (by rw [List.length_map, Nat.mul_one]) (fun v hv => by obtain ⟨x, _, rfl⟩ := List.mem_map.1 hv; rfl) (by omega) rfl rfl rfl rfl ?_
        clear hS hE a; intro A8 c8 a w hE hS
        simp only [List.set_cons_zero, List.set_cons_succ] at hS
        refine s_call hE rfl rfl rfl (kcrash A8 c8 o.keep q7.ok (fun w' L h => (h.perm (List.perm_append_comm (l₁ := L))).rd) (by omega) (hS.focus (k := 1) rfl)) ?_
        rintro _ w ⟨rfl, hS⟩; clear hE a; intro a hE
        simp only [List.eraseIdx_cons_succ, List.eraseIdx_cons_zero] at hS
        repeat' (first
 | (with_reducible refine c_region ?_)
 | (with_reducible refine wpList_nil ?_)
 | (with_reducible refine then_normal ?_)
 | (with_reducible refine wp_skip ?_)
 | (with_reducible refine block_normal ?_)
 | ((with_reducible refine g_move ?_); refine s_move hE rfl rfl ?_; clear hE a; intro a hE)
 | ((with_reducible refine g_bin .neq ?_); refine s_neq hE rfl rfl rfl ?_; clear hE a; intro a hE)
 | ((with_reducible refine g_bin .add ?_); refine s_add hE rfl rfl rfl (by first  | exact wrap64_in (by omega) ) ?_; clear hE a; intro a hE)
 | ((with_reducible refine g_cond ?_); refine c_false hE rfl ?_))
        exact ⟨q - 1, by omega, k + 1, _, by omega, by omega, a4, p1, p2, p5, p4.mono (by omega), (St.selD [0] 2 hS), hE.sub ⟨rfl, rfl, rfl, rfl, trivial⟩⟩
  · obtain rfl : k = l.length := by omega
    obtain ⟨e1, e2, e3, e4, e5, e6, e7⟩ := hend hL hcm hp hN hD
    repeat' (first
 | (with_reducible refine wp_seq ?_)
 | (with_reducible refine c_region ?_)
 | (with_reducible refine wpList_nil ?_)
 | (with_reducible refine then_normal ?_)
 | (with_reducible refine wp_exit ?_)
 | (with_reducible refine then_exit ?_)
 | (with_reducible refine block_same ?_)
 | ((with_reducible refine g_move ?_); refine s_move hE rfl rfl ?_; clear hE a; intro a hE)
 | ((with_reducible refine g_bin .lss ?_); refine s_lss hE rfl rfl rfl ?_; clear hE a; intro a hE)
 | ((with_reducible refine g_cond ?_); refine c_dec hE rfl (fun hc => ?_) (fun hc => ?_) <;> try omega))
    refine s_call hE rfl rfl rfl (kopn (m := m + 40 * l.length) hD (by omega) hS) ?_
    rintro _ w (⟨W2, gw, hW, _, rfl, hS⟩ | ⟨hW, _⟩)
    rotate_left
    · rw [hW] at e2; cases e2
    obtain rfl : W2 = W := by rw [hW] at e2; exact Option.some.inj e2
    clear hE a; intro a hE
    repeat' (first
 | (with_reducible refine wp_seq ?_)
 | (with_reducible refine c_region ?_)
 | (with_reducible refine wpList_nil ?_)
 | (with_reducible refine then_normal ?_)
 | (with_reducible refine wp_skip ?_)
 | (with_reducible refine wp_ret ?_)
 | ((with_reducible refine g_move ?_); refine s_move hE rfl rfl ?_; clear hE a; intro a hE)
 | ((with_reducible refine g_assign ?_); refine s_assign hE rfl rfl ?_; clear hE a; intro a hE)
 | ((with_reducible refine g_bin .neq ?_); refine s_neq hE rfl rfl rfl ?_; clear hE a; intro a hE)
 | ((with_reducible refine g_extract ?_); refine s_extract hE rfl rfl rfl ?_; clear hE a; intro a hE)
 | ((with_reducible refine g_cond ?_); refine c_false hE rfl ?_))
    exact ret1 hE rfl rfl ⟨gw, _, rfl, e1, e4, e5, e6.mono (by omega), e7, hS⟩
end
end Go.Proofs.Ytfoeelghehjanaa
