/-
  How much a log's operations do to a disk, and that logs stay logs (no program in sight).
-/
import Derived.Test.YtfoeelghehjanaaWP
namespace Go.Proofs.Ytfoeelghehjanaa
open Go.RowKit
set_option linter.unusedVariables false
set_option linter.unusedSimpArgs false

theorem wipe_atN {D : DM} {m : Nat} (h : D.atN m) (l : List Int) (hm : m + l.length ≤ 90000) : (D.wipe l).1.atN (m + l.length + 1) := by
  have := wss_atN (l := l.map fun i => (i, noughts)) h (fun x hx => by
    obtain ⟨i, _, rfl⟩ := List.mem_map.1 hx
    exact noughts_ok) (by rw [List.length_map]; exact hm)
  rw [List.length_map] at this
  exact this
theorem wrsB_atN {D : DM} {m : Nat} (h : D.atN m) (at_ : Int) {l : List Blk} (hl : ∀ x ∈ l, Blk.ok x) (hm : m + l.length ≤ 90000) : (D.wrs at_ l).1.atN (m + l.length + 1) := by
  have := wss_atN (l := atW at_ l) h (fun x hx => by
    unfold atW at hx
    obtain ⟨⟨y, i⟩, hy, rfl⟩ := List.mem_map.1 hx
    exact hl y (List.fst_mem_of_mem_zipIdx hy)) (by rw [atW_len]; exact hm)
  rw [atW_len] at this
  exact this
theorem head1_ok {t a : Nat} : ∀ x ∈ [headB t a], Blk.ok x := fun x hx => by
  rw [List.mem_singleton] at hx; subst hx; exact headB_ok t a
theorem fmt_atN {D : DM} {m : Nat} (h : D.atN m) (a : Int) (hm : m ≤ 60000) : (D.fmt a).1.atN (m + 2100) := by
  unfold DM.fmt
  split
  · exact h.mono (by omega)
  · rename_i hc
    have h1 := wipe_atN h ((List.range (2 + 2 * a.toNat)).map fun i : Nat => (i : Int)) (by rw [List.length_map, List.length_range]; omega)
    rw [List.length_map, List.length_range] at h1
    generalize D.wipe ((List.range (2 + 2 * a.toNat)).map fun i : Nat => (i : Int)) = r1 at h1 ⊢
    dsimp only
    have h2 : (if r1.2 = 0 then r1.1.wrs 2 (partsB 0 0 []) else r1).1.atN (m + 2050) := by
      split
      · exact (wrsB_atN h1 2 (partsB_ok (fun c hc => by cases hc) (by decide)) (by rw [partsB_len, show secN ([] : List Nat).length = 1 from rfl]; omega)).mono (by rw [partsB_len, show secN ([] : List Nat).length = 1 from rfl]; omega)
      · exact h1.mono (by omega)
    generalize (if r1.2 = 0 then r1.1.wrs 2 (partsB 0 0 []) else r1) = r2 at h2 ⊢
    have h3 : (if r2.2 = 0 then r2.1.wrs 0 [headB 0 a.toNat] else r2).1.atN (m + 2100) := by
      split
      · exact (wrsB_atN h2 0 head1_ok (by show m + 2050 + 1 ≤ _; omega)).mono (by show m + 2050 + 1 + 1 ≤ _; omega)
      · exact h2.mono (by omega)
    generalize (if r2.2 = 0 then r2.1.wrs 0 [headB 0 a.toNat] else r2) = r3 at h3 ⊢
    split
    · exact h3
    · exact h3
theorem fmt_ok {D : DM} {a : Int} {W : WM} (h : (D.fmt a).2.1 = some W) : W.ok ∧ 2 + 2 * W.area ≤ D.safe.length ∧ 4 ≤ W.area := by
  unfold DM.fmt at h
  split at h
  · cases h
  · rename_i hc
    dsimp only at h
    generalize D.wipe ((List.range (2 + 2 * a.toNat)).map fun i : Nat => (i : Int)) = r1 at h
    generalize (if r1.2 = 0 then r1.1.wrs 2 (partsB 0 0 []) else r1) = r2 at h
    generalize (if r2.2 = 0 then r2.1.wrs 0 [headB 0 a.toNat] else r2) = r3 at h
    split at h
    · obtain rfl := Option.some.inj h
      refine ⟨⟨by show a.toNat ≤ 1000; omega, by show 1 ≤ a.toNat; omega, by show (0 : Nat) < _; decide, by show 1 ≤ 1; decide, fun b hb => ?_, by show 1 ≤ 1; decide⟩, by show 2 + 2 * a.toNat ≤ _; omega, by show 4 ≤ a.toNat; omega⟩
      rw [List.mem_singleton] at hb
      subst hb
      exact ⟨(fun c hc => by cases hc), by decide⟩
    · cases h
theorem app_atN {W : WM} {D : DM} {m : Nat} {b : List Nat} (h : D.atN m) (hb : Bs b) (hm : m ≤ 80000) : (W.app D b).2.1.atN (m + secN b.length + 1) := by
  unfold WM.app
  have hs := secN_le b.length
  split
  · exact h.mono (by omega)
  · rename_i h1
    have hl : b.length ≤ 40000 := by
      unfold WM.readyE at h1
      by_cases h2 : 40000 < b.length
      · rw [if_pos h2] at h1
        exact absurd (by decide : (3 : Int) ≠ 0) h1
      · omega
    split
    · exact h.mono (by omega)
    · have h3 := wrsB_atN h ((fromN W.turn W.area + W.fin : Nat) : Int) (partsB_ok (t := W.turn) (n := W.list.length) hb hl) (by rw [partsB_len]; omega)
      rw [partsB_len] at h3
      dsimp only
      split <;> exact h3
theorem app_ok {W : WM} {D : DM} {b : List Nat} (hW : W.ok) (hb : Bs b) : (W.app D b).1.ok ∧ (W.app D b).1.area = W.area := by
  obtain ⟨w1, w2, w3, w4, w5, w6⟩ := hW
  unfold WM.app
  split
  · exact ⟨⟨w1, w2, w3, w4, w5, w6⟩, rfl⟩
  · rename_i h1
    have hl : b.length ≤ 40000 := by
      unfold WM.readyE at h1
      by_cases h2 : 40000 < b.length
      · rw [if_pos h2] at h1
        exact absurd (by decide : (3 : Int) ≠ 0) h1
      · omega
    split
    · exact ⟨⟨w1, w2, w3, w4, w5, w6⟩, rfl⟩
    · rename_i h2
      have h3 := secN_pos hl
      dsimp only
      split
      · refine ⟨⟨w1, by show W.fin + secN b.length ≤ W.area; omega, w3, by show (W.list ++ [b]).length ≤ W.fin + secN b.length; rw [List.length_append, List.length_singleton]; omega, fun c hc => ?_, by show 1 ≤ (W.list ++ [b]).length; rw [List.length_append, List.length_singleton]; omega⟩, rfl⟩
        rcases List.mem_append.1 hc with h | h
        · exact w5 c h
        · rw [List.mem_singleton] at h; subst h; exact ⟨hb, hl⟩
      · exact ⟨⟨w1, w2, w3, w4, w5, w6⟩, rfl⟩
theorem chk_atN {W : WM} {D : DM} {m : Nat} {b : List Nat} (h : D.atN m) (hb : Bs b) (hm : m ≤ 80000) : (W.chk D b).2.1.atN (m + secN b.length + 3) := by
  unfold WM.chk
  have hs := secN_le b.length
  split
  · exact h.mono (by omega)
  · rename_i h1
    have hl : b.length ≤ 40000 := by
      unfold WM.readyE at h1
      by_cases h2 : 40000 < b.length
      · rw [if_pos h2] at h1
        exact absurd (by decide : (3 : Int) ≠ 0) h1
      · omega
    split
    · exact h.mono (by omega)
    · have h3 := wrsB_atN h ((fromN (W.turn + 1) W.area : Nat) : Int) (partsB_ok (t := W.turn + 1) (n := 0) hb hl) (by rw [partsB_len]; omega)
      rw [partsB_len] at h3
      dsimp only
      generalize D.wrs ((fromN (W.turn + 1) W.area : Nat) : Int) (partsB (W.turn + 1) 0 b) = r1 at h3 ⊢
      have h4 : (if r1.2 = 0 then r1.1.wrs (((W.turn + 1) % 2 : Nat) : Int) [headB (W.turn + 1) W.area] else r1).1.atN (m + secN b.length + 3) := by
        split
        · exact (wrsB_atN h3 (((W.turn + 1) % 2 : Nat) : Int) head1_ok (by show _ + 1 ≤ _; omega)).mono (by show _ + 1 + 1 ≤ _; omega)
        · exact h3.mono (by omega)
      generalize (if r1.2 = 0 then r1.1.wrs (((W.turn + 1) % 2 : Nat) : Int) [headB (W.turn + 1) W.area] else r1) = r2 at h4 ⊢
      split <;> exact h4
theorem chk_ok {W : WM} {D : DM} {b : List Nat} (hW : W.ok) (hb : Bs b) : (W.chk D b).1.ok ∧ (W.chk D b).1.area = W.area := by
  obtain ⟨w1, w2, w3, w4, w5, w6⟩ := hW
  unfold WM.chk
  split
  · exact ⟨⟨w1, w2, w3, w4, w5, w6⟩, rfl⟩
  · rename_i h1
    have hl : b.length ≤ 40000 := by
      unfold WM.readyE at h1
      by_cases h2 : 40000 < b.length
      · rw [if_pos h2] at h1
        exact absurd (by decide : (3 : Int) ≠ 0) h1
      · omega
    split
    · exact ⟨⟨w1, w2, w3, w4, w5, w6⟩, rfl⟩
    · rename_i h2
      have h3 := secN_pos hl
      dsimp only
      generalize D.wrs ((fromN (W.turn + 1) W.area : Nat) : Int) (partsB (W.turn + 1) 0 b) = r1
      generalize (if r1.2 = 0 then r1.1.wrs (((W.turn + 1) % 2 : Nat) : Int) [headB (W.turn + 1) W.area] else r1) = r2
      split
      · refine ⟨⟨w1, by show secN b.length ≤ W.area; omega, by show W.turn + 1 < _; omega, by show 1 ≤ secN b.length; omega, fun c hc => ?_, by show 1 ≤ 1; decide⟩, rfl⟩
        rw [List.mem_singleton] at hc; subst hc; exact ⟨hb, hl⟩
      · exact ⟨⟨w1, w2, w3, w4, w5, w6⟩, rfl⟩
theorem write_len (D : DM) (i : Int) (b : Blk) : (D.write i b).1.safe.length = D.safe.length := by
  obtain ⟨r1, r2, r3⟩ := ready_same D i
  obtain ⟨d1, d2⟩ := do_same (D.ready i).1
  unfold DM.write
  split
  · split
    · show (D.ready i).1.do_.1.safe.length = _; rw [d2, r3]
    · show (D.ready i).1.do_.1.safe.length = _; rw [d2, r3]
  · show (D.ready i).1.safe.length = _; rw [r3]
theorem sync_len (D : DM) : D.sync.1.safe.length = D.safe.length := by
  obtain ⟨r1, r2, r3⟩ := ready_same D 0
  obtain ⟨d1, d2⟩ := do_same (D.ready 0).1
  unfold DM.sync
  split
  · split
    · show (lay (D.ready 0).1.do_.1.safe _ _ 0).length = _; rw [lay_length, d2, r3]
    · show (D.ready 0).1.do_.1.safe.length = _; rw [d2, r3]
  · show (D.ready 0).1.safe.length = _; rw [r3]
theorem wss_len : ∀ (l : List (Int × Blk)) (D : DM), (D.wss l).1.safe.length = D.safe.length
  | [], D => sync_len D
  | x :: l, D => by
    rw [wss_cons]
    split
    · rw [wss_len l, write_len]
    · rw [write_len]
theorem wrs_len (D : DM) (at_ : Int) (l : List Blk) : (D.wrs at_ l).1.safe.length = D.safe.length := wss_len _ D
theorem wipe_len (D : DM) (l : List Int) : (D.wipe l).1.safe.length = D.safe.length := wss_len _ D
theorem read_len (D : DM) (i : Int) : (D.read i).1.safe.length = D.safe.length := by
  obtain ⟨r1, r2, r3⟩ := ready_same D i
  unfold DM.read
  split
  · show (D.ready i).1.safe.length = _; rw [r3]
  · show (D.ready i).1.safe.length = _; rw [r3]
theorem rdl_slen : ∀ (l : List Int) (D : DM), (D.rdl l).1.safe.length = D.safe.length
  | [], D => rfl
  | i :: l, D => by
    unfold DM.rdl
    split
    · show ((D.read i).1.rdl l).1.safe.length = _; rw [rdl_slen l, read_len]
    · exact read_len D i
theorem app_len (W : WM) (D : DM) (b : List Nat) : (W.app D b).2.1.safe.length = D.safe.length := by
  unfold WM.app
  split
  · rfl
  · split
    · rfl
    · dsimp only
      split <;> exact wrs_len ..
theorem chk_len (W : WM) (D : DM) (b : List Nat) : (W.chk D b).2.1.safe.length = D.safe.length := by
  unfold WM.chk
  split
  · rfl
  · split
    · rfl
    · dsimp only
      have h1 := wrs_len D ((fromN (W.turn + 1) W.area : Nat) : Int) (partsB (W.turn + 1) 0 b)
      generalize D.wrs ((fromN (W.turn + 1) W.area : Nat) : Int) (partsB (W.turn + 1) 0 b) = r1 at h1 ⊢
      have h4 : (if r1.2 = 0 then r1.1.wrs (((W.turn + 1) % 2 : Nat) : Int) [headB (W.turn + 1) W.area] else r1).1.safe.length = D.safe.length := by
        split
        · rw [wrs_len, h1]
        · exact h1
      generalize (if r1.2 = 0 then r1.1.wrs (((W.turn + 1) % 2 : Nat) : Int) [headB (W.turn + 1) W.area] else r1) = r2 at h4 ⊢
      split <;> exact h4
theorem findP_ok {sec : Nat} {l : List Blk} : ∀ k, (findP sec l k).2.2 = true → (4 ≤ (findP sec l k).2.1 ∧ (findP sec l k).2.1 ≤ 1000) ∧ 2 + 2 * (findP sec l k).2.1 ≤ sec
  | 0, h => by cases h
  | k + 1, h => by
    unfold findP findStep at h ⊢
    split
    · rename_i h1
      exact ⟨h1.1.1, h1.1.2.2.1⟩
    · rename_i h1
      rw [if_neg h1] at h
      exact findP_ok k h
theorem chainP_ok {l : List Blk} (hl : ∀ x ∈ l, Blk.ok x) {t : Nat} : ∀ {q : Nat} {bs : List (List Nat)} {fin : Nat}, fin ≤ l.length → bs.length ≤ fin → (∀ b ∈ bs, Bs b ∧ b.length ≤ 40000) →
    (chainP l t q bs fin).2 ≤ l.length ∧ (chainP l t q bs fin).1.length ≤ (chainP l t q bs fin).2 ∧ ∀ b ∈ (chainP l t q bs fin).1, Bs b ∧ b.length ≤ 40000
  | 0, bs, fin, h1, h2, h3 => ⟨h1, h2, h3⟩
  | q + 1, bs, fin, h1, h2, h3 => by
    unfold chainP
    cases hs : stM (l.drop fin) t bs.length with
    | none => exact ⟨h1, h2, h3⟩
    | some b =>
      have hd : ∀ x ∈ l.drop fin, Blk.ok x := fun x hx => hl x (List.mem_of_mem_drop hx)
      obtain ⟨a1, a2, a3, a4⟩ := stM_some hd hs
      rw [List.length_drop] at a1
      refine chainP_ok hl (by omega) (by rw [List.length_append, List.length_singleton]; omega) fun c hc => ?_
      rcases List.mem_append.1 hc with h | h
      · exact h3 c h
      · rw [List.mem_singleton] at h
        subst h
        refine ⟨?_, a3⟩
        have h5 := bodies_parts (t := t) (n := bs.length) a3
        rw [a4] at h5
        have h6 := bodies_bs (l := (l.drop fin).take (secN c.length)) fun x hx => hd x (List.mem_of_mem_take hx)
        rw [h5] at h6
        intro y hy
        rw [← allB_cut c] at hy
        exact h6 y (List.mem_of_mem_drop (List.mem_of_mem_take hy))
theorem opn_atN {D : DM} {m : Nat} (h : D.atN m) (hm : m ≤ 80000) (hl : D.safe.length ≤ 2048) : D.opn.1.atN (m + D.safe.length + 3) ∧ D.opn.1.safe.length = D.safe.length ∧ ∀ W, D.opn.2.1 = some W → W.ok ∧ 2 + 2 * W.area ≤ D.safe.length ∧ 4 ≤ W.area := by
  unfold DM.opn
  have a1 := rdl_atN (l := fromL ((0 : Nat) : Int) 0 2) h (by rw [fromL_len]; omega)
  have a2 := rdl_slen (fromL ((0 : Nat) : Int) 0 2) D
  rw [fromL_len] at a1
  have e0 : D.rds ((0 : Nat) : Int) 2 = D.rdl (fromL ((0 : Nat) : Int) 0 2) := rfl
  have a0 := rdl_ok (l := fromL ((0 : Nat) : Int) 0 2) h (by rw [fromL_len]; omega)
  have an := rdl_len (l := fromL ((0 : Nat) : Int) 0 2) (D := D)
  rw [e0]
  generalize D.rdl (fromL ((0 : Nat) : Int) 0 2) = r1 at a0 a1 a2 an ⊢
  dsimp only
  split
  · exact ⟨a1.mono (by have := h.ok.len; omega), a2, fun W hW => by cases hW⟩
  · rename_i he1
    split
    · exact ⟨a1.mono (by have := h.ok.len; omega), a2, fun W hW => by cases hW⟩
    · rename_i hf
      have hfo := findP_ok (sec := r1.1.safe.length) (l := r1.2.1) r1.2.1.length (by simpa using hf)
      have hfl := findP_lt (sec := r1.1.safe.length) a0 r1.2.1.length (Nat.le_refl _)
      rw [a2] at hfo hfl ⊢
      generalize findP D.safe.length r1.2.1 r1.2.1.length = f at hfo hfl ⊢
      obtain ⟨t, a, ok⟩ := f
      dsimp only at hfo hfl ⊢
      unfold DM.opn2
      have b1 := rdl_atN (l := fromL ((fromN t a : Nat) : Int) 0 a) a1 (by rw [fromL_len]; omega)
      have b2 := rdl_slen (fromL ((fromN t a : Nat) : Int) 0 a) r1.1
      have b0 := rdl_ok (l := fromL ((fromN t a : Nat) : Int) 0 a) a1 (by rw [fromL_len]; omega)
      have bn := rdl_len (l := fromL ((fromN t a : Nat) : Int) 0 a) (D := r1.1)
      rw [fromL_len] at b1 bn
      have e1 : r1.1.rds ((fromN t a : Nat) : Int) a = r1.1.rdl (fromL ((fromN t a : Nat) : Int) 0 a) := rfl
      rw [e1]
      generalize r1.1.rdl (fromL ((fromN t a : Nat) : Int) 0 a) = r2 at b0 b1 b2 bn ⊢
      rw [a2] at b2
      dsimp only
      split
      · exact ⟨b1.mono (by omega), b2, fun W hW => by cases hW⟩
      · rename_i he2
        have hla := bn (by simpa using he2)
        unfold DM.opn3
        split
        · exact ⟨b1.mono (by omega), b2, fun W hW => by cases hW⟩
        · rename_i hne
          have hco := chainP_ok b0 (t := t) (q := r2.2.1.length + 1) (bs := []) (fin := 0) (Nat.zero_le _) (Nat.le_refl _) (fun b hb => by cases hb)
          have htl := torn_len r2.2.1 ((fromN t a : Nat) : Int) (chain r2.2.1 t).2 (a - (chain r2.2.1 t).2)
          dsimp only
          generalize torn r2.2.1 ((fromN t a : Nat) : Int) (chain r2.2.1 t).2 (a - (chain r2.2.1 t).2) = tn at htl ⊢
          have hw := wipe_atN b1 tn (by omega)
          have hwl := wipe_len r2.1 tn
          have h4 : (if tn ≠ [] ∨ r2.1.pend ≠ [] then r2.1.wipe tn else (r2.1, 0)).1.atN (m + D.safe.length + 3) ∧ (if tn ≠ [] ∨ r2.1.pend ≠ [] then r2.1.wipe tn else (r2.1, 0)).1.safe.length = D.safe.length := by
            split
            · exact ⟨hw.mono (by omega), by rw [hwl, b2]⟩
            · exact ⟨b1.mono (by omega), b2⟩
          generalize (if tn ≠ [] ∨ r2.1.pend ≠ [] then r2.1.wipe tn else (r2.1, 0)) = r3 at h4 ⊢
          split
          · exact ⟨h4.1, h4.2, fun W hW => by cases hW⟩
          · refine ⟨h4.1, h4.2, fun W hW => ?_⟩
            obtain rfl := Option.some.inj hW
            refine ⟨⟨hfl.2, by have := hco.1; unfold chain; rw [hla] at this ⊢; exact this, hfl.1, hco.2.1, hco.2.2, ?_⟩, hfo.2, hfo.1.1⟩
            exact List.length_pos_iff.2 hne
end Go.Proofs.Ytfoeelghehjanaa
