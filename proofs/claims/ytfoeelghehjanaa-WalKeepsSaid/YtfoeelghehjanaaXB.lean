/-
  A log on a disk whose power may go: what stands there behind an append, a checkpoint and a crash (no program in sight).
-/
import Derived.Test.YtfoeelghehjanaaXA
namespace Go.Proofs.Ytfoeelghehjanaa
open Go.RowKit
set_option linter.unusedVariables false
set_option linter.unusedSimpArgs false

def WM.push (W : WM) (b : List Nat) : WM := { W with list := W.list ++ [b], fin := W.fin + secN b.length }
def WM.anew (W : WM) (b : List Nat) : WM := { W with turn := W.turn + 1, list := [b], fin := secN b.length }
theorem framesB_mem {t : Nat} {x : Blk} : ∀ {bs : List (List Nat)} {n : Nat}, x ∈ framesB t n bs → ∃ m b k, b ∈ bs ∧ x = partB t m b k ∧ n ≤ m ∧ m < n + bs.length
  | [], n, h => by cases h
  | b :: bs, n, h => by
    rcases List.mem_append.1 (show x ∈ partsB t n b ++ framesB t (n + 1) bs from h) with h | h
    · obtain ⟨k, _, rfl⟩ := List.mem_map.1 h
      exact ⟨n, b, k, List.mem_cons_self .., rfl, Nat.le_refl _, by rw [List.length_cons]; omega⟩
    · obtain ⟨m, c, k, h1, h2, h3, h4⟩ := framesB_mem h
      exact ⟨m, c, k, List.mem_cons_of_mem _ h1, h2, by omega, by rw [List.length_cons]; omega⟩
theorem list_lt {W : WM} (h : W.ok) : W.list.length ≤ 1000 := by have := h.len; have := h.fin; have := h.area; omega
theorem Base.own_old {S : List Blk} {W : WM} (h : Base S W) {i : Nat} (hi : i < W.fin) : Old (W.turn + 1 + 1) 1 (atB S (fromN W.turn W.area + i)) := by
  have h1 := ar_get (S := S) (at_ := fromN W.turn W.area) hi
  rw [h.own] at h1
  obtain ⟨m, b, k, h2, h3, h4, h5⟩ := framesB_mem (List.mem_of_getElem? h1)
  have := h.ok.turn
  have := list_lt h.ok
  rw [h3]
  exact old_part h.ok.turn (by omega) (h.ok.bs b h2).2 (.inl (by omega))
theorem Base.keep {S S' : List Blk} {W : WM} (h : Base S W) (hl : S'.length = S.length) (hb : ∀ x ∈ S', Blk.ok x) (hh : ∀ i, i < 2 → atB S' i = atB S i)
    (ho : ∀ i, i < W.fin → atB S' (fromN W.turn W.area + i) = atB S (fromN W.turn W.area + i)) (hx : ∀ i, i < W.area → Old (W.turn + 1) 1 (atB S' (fromN (W.turn + 1) W.area + i))) : Base S' W where
  ok := h.ok
  four := h.four
  len := by rw [hl]; exact h.len
  blk := hb
  head := by rw [hh _ (Nat.mod_lt _ (by decide))]; exact h.head
  other := by rw [hh _ (Nat.mod_lt _ (by decide))]; exact h.other
  own := by rw [ar_congr ho]; exact h.own
  oth := hx
theorem from_two (t a : Nat) : 2 ≤ fromN t a := by unfold fromN; omega
theorem from_in {S : List Blk} {W : WM} (h : Base S W) (t : Nat) : fromN t W.area + W.area ≤ S.length := by
  have h1 := h.len
  rcases from_cases t W.area with ⟨h2, h3, _⟩ | ⟨h2, h3, _⟩ <;> omega
theorem parts_blk {at_ t n : Nat} {b : List Nat} (hb : Bs b) (hl : b.length ≤ 40000) : ∀ x ∈ atW (at_ : Int) (partsB t n b), Blk.ok x.2 := by
  intro x hx
  rw [← fullP_cv] at hx
  obtain ⟨y, hy, rfl⟩ := List.mem_map.1 hx
  exact fullP_ok hb hl y hy
/-- the power went while a frame was laid behind the others -/
theorem push_half {S S' : List Blk} {W : WM} {b : List Nat} (h : Laid S W) (hb : Bs b) (hl : b.length ≤ 40000) (hr : W.fin + secN b.length ≤ W.area)
    (hS : Half S (atW ((fromN W.turn W.area + W.fin : Nat) : Int) (partsB W.turn W.list.length b)) S') :
    (Base S' W ∧ ∀ i, i < W.area - W.fin → Old W.turn W.list.length (atB S' (fromN W.turn W.area + W.fin + i)) ∨ (i < secN b.length ∧ atB S' (fromN W.turn W.area + W.fin + i) = partB W.turn W.list.length b i)) := by
  obtain ⟨h1, h2⟩ := half_parts hS
  have hok := half_ok hS h.blk (parts_blk hb hl)
  have hf := from_two W.turn W.area
  refine ⟨h.toBase.keep hS.1 hok (fun i hi => h1 i (.inl (by omega))) (fun i hi => h1 _ (.inl (by omega))) (fun i hi => ?_), fun i hi => ?_⟩
  · rw [h1 _ (by rcases from_cases W.turn W.area with ⟨h3, h4, _⟩ | ⟨h3, h4, _⟩ <;> omega)]
    exact h.oth i hi
  · by_cases hk : i < secN b.length
    · rcases h2 i hk with h3 | h3
      · rw [h3]; exact .inl (h.rest i hi)
      · exact .inr ⟨hk, h3⟩
    · rw [h1 _ (.inr (by omega))]
      exact .inl (h.rest i hi)
theorem push_ok {W : WM} (h : W.ok) {b : List Nat} (hb : Bs b) (hl : b.length ≤ 40000) (hr : W.fin + secN b.length ≤ W.area) : (W.push b).ok := by
  have hs := secN_pos hl
  obtain ⟨w1, w2, w3, w4, w5, w6⟩ := h
  refine ⟨w1, hr, w3, ?_, ?_, ?_⟩
  · show (W.list ++ [b]).length ≤ W.fin + secN b.length
    rw [List.length_append, List.length_singleton]; omega
  · intro x hx
    rcases List.mem_append.1 hx with hx | hx
    · exact w5 x hx
    · rw [List.mem_singleton] at hx; subst hx; exact ⟨hb, hl⟩
  · show 1 ≤ (W.list ++ [b]).length
    rw [List.length_append]; omega
theorem anew_ok {W : WM} (h : W.ok) {b : List Nat} (hb : Bs b) (hl : b.length ≤ 40000) (hr : secN b.length ≤ W.area) (ht : W.turn < 4294967295) : (W.anew b).ok := by
  have hs := secN_pos hl
  obtain ⟨w1, w2, w3, w4, w5, w6⟩ := h
  refine ⟨w1, hr, by show W.turn + 1 < _; omega, by show 1 ≤ secN b.length; omega, ?_, by show 1 ≤ 1; decide⟩
  intro x hx
  rw [show (W.anew b).list = [b] from rfl, List.mem_singleton] at hx
  subst hx; exact ⟨hb, hl⟩
/-- the whole frame stands -/
theorem push_whole {S' : List Blk} {W : WM} {b : List Nat} (hb : Bs b) (hl : b.length ≤ 40000) (hr : W.fin + secN b.length ≤ W.area) (h : Base S' W)
    (h1 : ∀ i, i < W.area - W.fin → Old W.turn W.list.length (atB S' (fromN W.turn W.area + W.fin + i)) ∨ (i < secN b.length ∧ atB S' (fromN W.turn W.area + W.fin + i) = partB W.turn W.list.length b i))
    (h2 : ∀ k, k < secN b.length → atB S' (fromN W.turn W.area + W.fin + k) = partB W.turn W.list.length b k) : Laid S' (W.push b) where
  ok := push_ok h.ok hb hl hr
  four := h.four
  len := h.len
  blk := h.blk
  head := h.head
  other := h.other
  own := by
    show ar S' (fromN W.turn W.area) (W.fin + secN b.length) = framesB W.turn 0 (W.list ++ [b])
    rw [ar_add, h.own, framesB_app, ar_parts h2, Nat.zero_add]
    show _ = _ ++ (partsB W.turn W.list.length b ++ [])
    rw [List.append_nil]
  oth := h.oth
  rest := by
    intro i hi
    show Old W.turn (W.list ++ [b]).length (atB S' (fromN W.turn W.area + (W.fin + secN b.length) + i))
    have hi' : i < W.area - (W.fin + secN b.length) := hi
    rcases h1 (secN b.length + i) (by omega) with h3 | ⟨h3, _⟩
    · rw [show fromN W.turn W.area + (W.fin + secN b.length) + i = fromN W.turn W.area + W.fin + (secN b.length + i) by omega]
      exact h3.mono (.inr ⟨rfl, by rw [List.length_append]; omega⟩)
    · omega
theorem push_crash {S S' : List Blk} {W : WM} {b : List Nat} (h : Laid S W) (hb : Bs b) (hl : b.length ≤ 40000) (hr : W.fin + secN b.length ≤ W.area)
    (hS : Half S (atW ((fromN W.turn W.area + W.fin : Nat) : Int) (partsB W.turn W.list.length b)) S') : LaidT S' W ∨ Laid S' (W.push b) := by
  obtain ⟨hB, h1⟩ := push_half h hb hl hr hS
  by_cases h2 : ∀ k, k < secN b.length → atB S' (fromN W.turn W.area + W.fin + k) = partB W.turn W.list.length b k
  · exact .inr (push_whole hb hl hr hB h1 h2)
  · obtain ⟨k, hk⟩ := Classical.not_forall.1 h2
    obtain ⟨hk, hne⟩ := Classical.not_imp.1 hk
    refine .inl ⟨hB, b, hl, h1, k, hk, fun hkm => ?_⟩
    rcases h1 k hkm with h3 | ⟨_, h3⟩
    · exact h3
    · exact absurd h3 hne
theorem push_done {S : List Blk} {W : WM} {b : List Nat} (h : Laid S W) (hb : Bs b) (hl : b.length ≤ 40000) (hr : W.fin + secN b.length ≤ W.area) :
    Laid (spliceB S (fromN W.turn W.area + W.fin) (partsB W.turn W.list.length b)) (W.push b) := by
  have hin := from_in h.toBase W.turn
  have hS := half_layT S (atW ((fromN W.turn W.area + W.fin : Nat) : Int) (partsB W.turn W.list.length b))
  rw [layT_splice _ _ _ (by rw [partsB_len]; omega)] at hS
  obtain ⟨hB, h1⟩ := push_half h hb hl hr hS
  exact push_whole hb hl hr hB h1 fun k hk => splice_parts (by omega) hk
/-- a frame of the next turn was laid, or a part of it -/
theorem anew_half {S S' : List Blk} {W : WM} {b : List Nat} (h : Laid S W) (hb : Bs b) (hl : b.length ≤ 40000) (hr : secN b.length ≤ W.area) (ht : W.turn < 4294967295)
    (hS : Half S (atW ((fromN (W.turn + 1) W.area : Nat) : Int) (partsB (W.turn + 1) 0 b)) S') : Laid S' W := by
  obtain ⟨h1, h2⟩ := half_parts hS
  have hok := half_ok hS h.blk (parts_blk hb hl)
  have hf := from_two (W.turn + 1) W.area
  have hfi := h.ok.fin
  refine ⟨h.toBase.keep hS.1 hok (fun i hi => h1 i (.inl (by omega))) (fun i hi => h1 _ (by rcases from_cases W.turn W.area with ⟨h3, h4, _⟩ | ⟨h3, h4, _⟩ <;> omega)) (fun i hi => ?_), fun i hi => ?_⟩
  · by_cases hk : i < secN b.length
    · rcases h2 i hk with h3 | h3
      · rw [h3]; exact h.oth i hi
      · rw [h3]; exact old_part (by omega) (by decide) hl (.inr ⟨rfl, by decide⟩)
    · rw [h1 _ (.inr (by omega))]
      exact h.oth i hi
  · rw [h1 _ (by rcases from_cases W.turn W.area with ⟨h3, h4, _⟩ | ⟨h3, h4, _⟩ <;> omega)]
    exact h.rest i hi
/-- the head of the next turn stands -/
theorem anew_head {S S' : List Blk} {W : WM} {b : List Nat} (h : Laid S W) (hb : Bs b) (hl : b.length ≤ 40000) (hr : secN b.length ≤ W.area) (ht : W.turn < 4294967295)
    (hp : ∀ k, k < secN b.length → atB S (fromN (W.turn + 1) W.area + k) = partB (W.turn + 1) 0 b k) (hlen : S'.length = S.length) (hok : ∀ x ∈ S', Blk.ok x)
    (h1 : ∀ i, i ≠ (W.turn + 1) % 2 → atB S' i = atB S i) (h2 : atB S' ((W.turn + 1) % 2) = headB (W.turn + 1) W.area) : Laid S' (W.anew b) where
  ok := anew_ok h.ok hb hl hr ht
  four := h.four
  len := by rw [hlen]; exact h.len
  blk := hok
  head := h2
  other := by
    show atB S' ((W.turn + 1 + 1) % 2) = if W.turn + 1 = 0 then noughts else headB (W.turn + 1 - 1) W.area
    rw [if_neg (by omega), h1 _ (by omega), show (W.turn + 1 + 1) % 2 = W.turn % 2 by omega, Nat.add_sub_cancel]
    exact h.head
  own := by
    show ar S' (fromN (W.turn + 1) W.area) (secN b.length) = partsB (W.turn + 1) 0 b ++ []
    have hf := from_two (W.turn + 1) W.area
    rw [List.append_nil, ← ar_parts hp]
    exact ar_congr fun i hi => h1 _ (by omega)
  oth := by
    intro i hi
    have hi' : i < W.area := hi
    show Old (W.turn + 1 + 1) 1 (atB S' (fromN (W.turn + 1 + 1) W.area + i))
    have hf := from_two (W.turn + 1 + 1) W.area
    rw [h1 _ (by omega), show fromN (W.turn + 1 + 1) W.area = fromN W.turn W.area by unfold fromN; rw [show (W.turn + 1 + 1) % 2 = W.turn % 2 by omega]]
    by_cases hk : i < W.fin
    · exact h.own_old hk
    · have h3 := h.rest (i - W.fin) (by omega)
      rw [show fromN W.turn W.area + W.fin + (i - W.fin) = fromN W.turn W.area + i by omega] at h3
      exact h3.mono (.inl (by omega))
  rest := by
    intro i hi
    have hi' : i < W.area - secN b.length := hi
    show Old (W.turn + 1) 1 (atB S' (fromN (W.turn + 1) W.area + secN b.length + i))
    have hf := from_two (W.turn + 1) W.area
    rw [h1 _ (by omega), Nat.add_assoc]
    exact h.oth _ (by omega)
/-! ## Operations -/
theorem app_alive {W : WM} {D : DM} {b : List Nat} (h : Laid D.safe W) (ha : D.alive) (hp : D.pend = []) (hw : W.broken = false) (hb : Bs b) (hl : b.length ≤ 40000) :
    (¬ W.fin + secN b.length ≤ W.area ∧ W.app D b = (W, D, 6)) ∨
    (W.fin + secN b.length ≤ W.area ∧ (W.app D b).2.2 = 0 ∧ (W.app D b).1 = W.push b ∧ (W.app D b).2.1.alive ∧ (W.app D b).2.1.pend = [] ∧ Laid (W.app D b).2.1.safe (W.push b)) ∨
    (W.fin + secN b.length ≤ W.area ∧ (W.app D b).2.2 = 9 ∧ ∀ keep, LaidT ((W.app D b).2.1.crash keep).safe W ∨ Laid ((W.app D b).2.1.crash keep).safe (W.push b)) := by
  have hre : ¬ W.readyE b.length ≠ 0 := by
    unfold WM.readyE
    rw [if_neg (by omega), hw]
    exact fun h => h rfl
  unfold WM.app
  rw [if_neg hre]
  by_cases hr : W.fin + secN b.length ≤ W.area
  · have hin := from_in h.toBase W.turn
    rw [if_neg (by omega)]
    have hlen : fromN W.turn W.area + W.fin + (partsB W.turn W.list.length b).length ≤ D.safe.length := by rw [partsB_len]; omega
    rcases wrs_crash (l := partsB W.turn W.list.length b) (at_ := fromN W.turn W.area + W.fin) ha hp (by have := h.len; omega) hlen with ⟨e, e2, e3, e4⟩ | ⟨e, e2⟩
    · refine .inr (.inl ?_)
      generalize D.wrs ((fromN W.turn W.area + W.fin : Nat) : Int) (partsB W.turn W.list.length b) = r at e e2 e3 e4
      dsimp only
      rw [if_pos e]
      refine ⟨hr, rfl, ?_, e2, e3, by show Laid r.1.safe _; rw [e4]; exact push_done h hb hl hr⟩
      unfold WM.push
      dsimp only
      rw [hw]
    · refine .inr (.inr ?_)
      have e5 := fun keep => push_crash h hb hl hr (e2 keep)
      generalize D.wrs ((fromN W.turn W.area + W.fin : Nat) : Int) (partsB W.turn W.list.length b) = r at e e5
      dsimp only
      rw [if_neg (by rw [e]; decide)]
      exact ⟨hr, e, e5⟩
  · rw [if_pos (by omega)]
    exact .inl ⟨hr, rfl⟩
theorem chk_alive {W : WM} {D : DM} {b : List Nat} (h : Laid D.safe W) (ha : D.alive) (hp : D.pend = []) (hw : W.broken = false) (ht : W.turn < 4294967295) (hb : Bs b) (hl : b.length ≤ 40000) :
    (¬ secN b.length ≤ W.area ∧ W.chk D b = (W, D, 6)) ∨
    (secN b.length ≤ W.area ∧ (W.chk D b).2.2 = 0 ∧ (W.chk D b).1 = W.anew b ∧ (W.chk D b).2.1.alive ∧ (W.chk D b).2.1.pend = [] ∧ Laid (W.chk D b).2.1.safe (W.anew b)) ∨
    (secN b.length ≤ W.area ∧ (W.chk D b).2.2 = 9 ∧ ∀ keep, Laid ((W.chk D b).2.1.crash keep).safe W ∨ Laid ((W.chk D b).2.1.crash keep).safe (W.anew b)) := by
  have hre : ¬ W.readyE b.length ≠ 0 := by
    unfold WM.readyE
    rw [if_neg (by omega), hw]
    exact fun h => h rfl
  unfold WM.chk
  rw [if_neg hre]
  by_cases hr : secN b.length ≤ W.area
  · have hin := from_in h.toBase (W.turn + 1)
    rw [if_neg (by omega)]
    have hlen : fromN (W.turn + 1) W.area + (partsB (W.turn + 1) 0 b).length ≤ D.safe.length := by rw [partsB_len]; omega
    have h4 := h.four
    have h5 := h.len
    rcases wrs_crash (l := partsB (W.turn + 1) 0 b) (at_ := fromN (W.turn + 1) W.area) ha hp (by omega) hlen with ⟨e, e2, e3, e4⟩ | ⟨e, e2⟩
    · have hS := half_layT D.safe (atW ((fromN (W.turn + 1) W.area : Nat) : Int) (partsB (W.turn + 1) 0 b))
      rw [layT_splice _ _ _ hlen] at hS
      have hL := anew_half h hb hl hr ht hS
      have hps : ∀ k, k < secN b.length → atB (spliceB D.safe (fromN (W.turn + 1) W.area) (partsB (W.turn + 1) 0 b)) (fromN (W.turn + 1) W.area + k) = partB (W.turn + 1) 0 b k := fun k hk => splice_parts (by rw [partsB_len] at hlen; exact hlen) hk
      rw [← e4] at hL hps
      generalize D.wrs ((fromN (W.turn + 1) W.area : Nat) : Int) (partsB (W.turn + 1) 0 b) = r at e e2 e3 e4 hL hps
      obtain ⟨D1, e1⟩ := r
      dsimp only at e e2 e3 e4 hL hps ⊢
      subst e
      rw [if_pos rfl]
      have h6 := hL.len
      have hl1 : (W.turn + 1) % 2 + [headB (W.turn + 1) W.area].length ≤ D1.safe.length := by rw [List.length_singleton]; omega
      rcases wrs_crash (l := [headB (W.turn + 1) W.area]) (at_ := (W.turn + 1) % 2) e2 e3 (by omega) hl1 with ⟨f, f2, f3, f4⟩ | ⟨f, f2⟩
      · refine .inr (.inl ?_)
        have hS2 := half_layT D1.safe (atW (((W.turn + 1) % 2 : Nat) : Int) [headB (W.turn + 1) W.area])
        rw [layT_splice _ _ _ hl1] at hS2
        have hok := half_ok hS2 hL.blk (fun x hx => by
          rw [atW_cons] at hx
          rcases List.mem_cons.1 hx with rfl | hx
          · exact headB_ok _ _
          · cases hx)
        have hh := splice_in (S := D1.safe) (at_ := (W.turn + 1) % 2) (l := [headB (W.turn + 1) W.area]) (k := 0) hl1 (by rw [List.length_singleton]; exact Nat.zero_lt_one)
        rw [Nat.add_zero] at hh
        have hnew := anew_head hL hb hl hr ht hps hS2.1 hok (half_one hS2).1 hh
        rw [← f4] at hnew
        generalize D1.wrs (((W.turn + 1) % 2 : Nat) : Int) [headB (W.turn + 1) W.area] = r2 at f f2 f3 f4 hnew ⊢
        obtain ⟨D2, e2'⟩ := r2
        dsimp only at f f2 f3 f4 hnew ⊢
        subst f
        rw [if_pos rfl]
        refine ⟨hr, rfl, ?_, f2, f3, hnew⟩
        unfold WM.anew
        dsimp only
        rw [hw]
      · refine .inr (.inr ?_)
        have hkeep : ∀ keep, Laid ((D1.wrs (((W.turn + 1) % 2 : Nat) : Int) [headB (W.turn + 1) W.area]).1.crash keep).safe W ∨ Laid ((D1.wrs (((W.turn + 1) % 2 : Nat) : Int) [headB (W.turn + 1) W.area]).1.crash keep).safe (W.anew b) := by
          intro keep
          have hS2 := f2 keep
          have hok := half_ok hS2 hL.blk (fun x hx => by
            rw [atW_cons] at hx
            rcases List.mem_cons.1 hx with rfl | hx
            · exact headB_ok _ _
            · cases hx)
          obtain ⟨g1, g2⟩ := half_one hS2
          rcases g2 with g2 | g2
          · have hall : ∀ i, atB ((D1.wrs (((W.turn + 1) % 2 : Nat) : Int) [headB (W.turn + 1) W.area]).1.crash keep).safe i = atB D1.safe i := fun i => by
              by_cases hi : i = (W.turn + 1) % 2
              · rw [hi]; exact g2
              · exact g1 i hi
            exact .inl ⟨hL.toBase.keep hS2.1 hok (fun i _ => hall i) (fun i _ => hall _) (fun i hi => by rw [hall]; exact hL.oth i hi), fun i hi => by rw [hall]; exact hL.rest i hi⟩
          · exact .inr (anew_head hL hb hl hr ht hps hS2.1 hok g1 g2)
        generalize D1.wrs (((W.turn + 1) % 2 : Nat) : Int) [headB (W.turn + 1) W.area] = r2 at f hkeep ⊢
        obtain ⟨D2, e2'⟩ := r2
        dsimp only at f hkeep ⊢
        subst f
        rw [if_neg (by decide)]
        exact ⟨hr, rfl, hkeep⟩
    · refine .inr (.inr ?_)
      have e5 := fun keep => anew_half h hb hl hr ht (e2 keep)
      generalize D.wrs ((fromN (W.turn + 1) W.area : Nat) : Int) (partsB (W.turn + 1) 0 b) = r at e e5
      obtain ⟨D1, e1⟩ := r
      dsimp only at e e5 ⊢
      subst e
      rw [if_neg (show ¬ (9 : Int) = 0 by decide)]
      dsimp only
      rw [if_neg (show ¬ (9 : Int) = 0 by decide)]
      exact ⟨hr, rfl, fun keep => .inl (e5 keep)⟩
  · rw [if_pos (.inl (by omega))]
    exact .inl ⟨hr, rfl⟩
end Go.Proofs.Ytfoeelghehjanaa
