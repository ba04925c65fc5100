/-
  A disk in memory as one piece; what its operations do, on a disk on which not too much was done.
-/
import Derived.Test.YtfoeelghehjanaaDH
namespace Go.Proofs.Ytfoeelghehjanaa
open Go.RowKit
set_option linter.unusedVariables false
set_option linter.unusedSimpArgs false
attribute [local irreducible] Rd hRow hBlk hRd hAll Fn hMarks

/-- a disk on which so many operations were done at most -/
structure DM.atN (D : DM) (n : Nat) : Prop where
  ok : D.ok
  pend : D.pend.length ≤ n
  ops : D.ops ≤ n
theorem DM.atN.mono {D : DM} {n m : Nat} (h : D.atN n) (hm : n ≤ m) : D.atN m := ⟨h.ok, Nat.le_trans h.pend hm, by have := h.ops; omega⟩
theorem ready_atN {D : DM} {n : Nat} (h : D.atN n) (i : Int) : (D.ready i).1.atN n := by
  obtain ⟨h1, h2, h3⟩ := ready_same D i
  exact ⟨ready_ok h.ok i, by rw [h2]; exact h.pend, by rw [h1]; exact h.ops⟩
theorem do_atN {D : DM} {n : Nat} (h : D.atN n) (hn : n ≤ 90000) : D.do_.1.atN (n + 1) := by
  obtain ⟨h1, h2⟩ := do_same D
  have ho := h.ops
  refine ⟨do_ok h.ok (by omega), by rw [h1]; exact Nat.le_succ_of_le h.pend, ?_⟩
  unfold DM.do_
  split
  · split <;> dsimp only <;> omega
  · dsimp only; omega
theorem read_atN {D : DM} {n : Nat} (h : D.atN n) (hn : n ≤ 90000) (i : Int) : (D.read i).1.atN (n + 1) := by
  have hr := ready_atN h i
  obtain ⟨⟨h1, h2, h3, h4, h5, h6, h7⟩, hp, ho⟩ := hr
  unfold DM.read
  split
  · exact ⟨⟨h1, h2, h3, h4, h5, h6, ⟨by dsimp only; omega, by dsimp only; omega⟩⟩, Nat.le_succ_of_le hp, by dsimp only; omega⟩
  · exact (ready_atN h i).mono (Nat.le_succ _)
theorem write_atN {D : DM} {n : Nat} (h : D.atN n) (hn : n ≤ 90000) (i : Int) {b : Blk} (hb : Blk.ok b) : (D.write i b).1.atN (n + 1) := by
  have hr := ready_atN h i
  have hd := do_atN hr hn
  obtain ⟨r1, r2, r3⟩ := ready_same D i
  obtain ⟨d1, d2⟩ := do_same (D.ready i).1
  unfold DM.write
  split
  · rename_i he
    have hin := ready_in he
    split
    · obtain ⟨⟨h1, h2, h3, h4, h5, h6, h7⟩, hp, ho⟩ := hd
      have hpl : D.pend.length ≤ n := h.pend
      refine ⟨⟨h1, ?_, h3, ?_, h5, h6, h7⟩, ?_, ho⟩
      · intro x hx
        show _ ∧ x.at_ < (D.ready i).1.do_.1.safe.length
        rw [d2, r3]
        rcases List.mem_append.1 hx with hx | hx
        · exact h.ok.pend x hx
        · rw [List.mem_singleton] at hx
          subst hx
          exact ⟨hb, by dsimp only; omega⟩
      · show (D.pend ++ [(⟨i.toNat, b⟩ : Wr)]).length ≤ _
        rw [List.length_append, List.length_singleton]; omega
      · show (D.pend ++ [(⟨i.toNat, b⟩ : Wr)]).length ≤ _
        rw [List.length_append, List.length_singleton]; omega
    · exact hd
  · exact hr.mono (Nat.le_succ _)
theorem settle_atN {D : DM} {n : Nat} (h : D.atN n) (live : Nat → Bool) : (D.settle live).atN n := ⟨settle_ok h.ok live, Nat.zero_le _, h.ops⟩
theorem sync_atN {D : DM} {n : Nat} (h : D.atN n) (hn : n ≤ 90000) : D.sync.1.atN (n + 1) := by
  have hr := ready_atN h 0
  have hd := do_atN hr hn
  unfold DM.sync
  split
  · split
    · exact settle_atN hd _
    · exact hd
  · exact hr.mono (Nat.le_succ _)
theorem arm_atN {D : DM} {n : Nat} (h : D.atN n) {i : Int} (hi : -9223372036854775808 ≤ i ∧ i ≤ 9223372036854775807) : (D.arm i).1.atN n := by
  unfold DM.arm
  split
  · exact h
  · obtain ⟨⟨h1, h2, h3, h4, h5, h6, h7⟩, hp, ho⟩ := h
    exact ⟨⟨h1, h2, h3, h4, ⟨hi.1, hi.2, fun e => of_decide_eq_true e⟩, h6, h7⟩, hp, ho⟩
theorem fail_atN {D : DM} {n : Nat} (h : D.atN n) (i : Int) : (D.fail i).1.atN n := by
  unfold DM.fail
  split
  · exact h
  · obtain ⟨⟨h1, h2, h3, h4, h5, h6, h7⟩, hp, ho⟩ := h
    refine ⟨⟨h1, h2, h3, h4, h5, ?_, h7⟩, hp, ho⟩
    dsimp only
    split <;> omega
theorem crash_atN {D : DM} {n : Nat} (h : D.atN n) (keep : List Bool) : (D.crash keep).atN n := by
  have hs := settle_atN h (fun i => keep.getD i false)
  obtain ⟨⟨h1, h2, h3, h4, h5, h6, h7⟩, hp, ho⟩ := hs
  exact ⟨⟨h1, h2, h3, h4, ⟨h5.1, h5.2.1, fun e => by cases e⟩, ⟨Int.le_refl 0, by show (0 : Int) ≤ _; decide⟩, h7⟩, hp, ho⟩
theorem fresh_atN {n : Nat} (h1 : 1 ≤ n) (h2 : n ≤ 2048) : (DM.fresh n).atN 0 := ⟨fresh_ok h1 h2, Nat.le_refl 0, Int.le_refl 0⟩
/-- a disk, wherever its rows lie -/
def hDk (g : Nat) (D : DM) : HP := hEx fun p : (Option Addr × Nat) × (Option Addr × Nat) => hAll (dk g p.1.1 p.1.2 p.2.1 p.2.2 D [])
section
variable {g : Nat} {D : DM} {H : List HP} {w0 w : World} {m : Nat}
theorem hDk_open (hS : St w0 w (hDk g D :: H)) : ∃ S c Q d, St w0 w (dk g S c Q d D H) := by
  obtain ⟨p, h⟩ := St.ex hS
  exact ⟨_, _, _, _, St.open_ h⟩
theorem hDk_close {S : Option Addr} {c : Nat} {Q : Option Addr} {d : Nat} (hS : St w0 w (dk g S c Q d D H)) : St w0 w (hDk g D :: H) :=
  St.exI ((S, c), (Q, d)) (St.close_ (M := dk g S c Q d D []) hS)
attribute [local irreducible] hDk
theorem kwrite (i : Int) (x : Blk) (hx : Blk.ok x) (hD : D.atN m) (hm : m ≤ 90000) (hS : St w0 w (hDk g D :: H)) :
    Fn Try.prog 48 [.pointer (some ⟨g, 0, none⟩), .int .i64 i, .agg (bys x).toArray] w fun v w' => v = .int .i64 (D.write i x).2 ∧ St w0 w' (hDk g (D.write i x).1 :: H) := by
  obtain ⟨S, c, Q, d, h⟩ := hDk_open hS
  have ho := hD.ops
  exact Fn.mono (write i x hx hD.ok (by omega) h) fun v w' ⟨e, Q', d', h'⟩ => ⟨e, hDk_close h'⟩
theorem kread (i : Int) (hD : D.atN m) (hm : m ≤ 90000) (hS : St w0 w (hDk g D :: H)) :
    Fn Try.prog 47 [.pointer (some ⟨g, 0, none⟩), .int .i64 i] w fun v w' => v = .tuple #[.agg (bys (D.read i).2.1).toArray, .int .i64 (D.read i).2.2] ∧ St w0 w' (hDk g (D.read i).1 :: H) := by
  obtain ⟨S, c, Q, d, h⟩ := hDk_open hS
  have ho := hD.ops
  exact Fn.mono (read_ i hD.ok (by omega) h) fun v w' ⟨e, h'⟩ => ⟨e, hDk_close h'⟩
theorem ksync (hD : D.atN m) (hm : m ≤ 90000) (hS : St w0 w (hDk g D :: H)) :
    Fn Try.prog 83 [.pointer (some ⟨g, 0, none⟩)] w fun v w' => v = .int .i64 D.sync.2 ∧ St w0 w' (hDk g D.sync.1 :: H) := by
  obtain ⟨S, c, Q, d, h⟩ := hDk_open hS
  have ho := hD.ops
  exact Fn.mono (sync hD.ok (by omega) h) fun v w' ⟨e, Q', d', h'⟩ => ⟨e, hDk_close h'⟩
theorem klen (hS : St w0 w (hDk g D :: H)) : Fn Try.prog 46 [.pointer (some ⟨g, 0, none⟩)] w fun v w' => v = .int .i64 (D.safe.length : Int) ∧ St w0 w' (hDk g D :: H) := by
  obtain ⟨S, c, Q, d, h⟩ := hDk_open hS
  exact Fn.mono (dlen h) fun v w' ⟨e, h'⟩ => ⟨e, hDk_close h'⟩
theorem kops (hS : St w0 w (hDk g D :: H)) : Fn Try.prog 72 [.pointer (some ⟨g, 0, none⟩)] w fun v w' => v = .int .i64 D.ops ∧ St w0 w' (hDk g D :: H) := by
  obtain ⟨S, c, Q, d, h⟩ := hDk_open hS
  exact Fn.mono (dops h) fun v w' ⟨e, h'⟩ => ⟨e, hDk_close h'⟩
theorem kdead (hS : St w0 w (hDk g D :: H)) : Fn Try.prog 35 [.pointer (some ⟨g, 0, none⟩)] w fun v w' => v = .bool D.dead ∧ St w0 w' (hDk g D :: H) := by
  obtain ⟨S, c, Q, d, h⟩ := hDk_open hS
  exact Fn.mono (ddead h) fun v w' ⟨e, h'⟩ => ⟨e, hDk_close h'⟩
theorem karm (n : Int) (hn : -9223372036854775808 ≤ n ∧ n ≤ 9223372036854775807) (hS : St w0 w (hDk g D :: H)) : Fn Try.prog 31 [.pointer (some ⟨g, 0, none⟩), .int .i64 n] w fun v w' => v = .int .i64 (D.arm n).2 ∧ St w0 w' (hDk g (D.arm n).1 :: H) := by
  obtain ⟨S, c, Q, d, h⟩ := hDk_open hS
  exact Fn.mono (arm n hn h) fun v w' ⟨e, h'⟩ => ⟨e, hDk_close h'⟩
theorem kfail (n : Int) (hn : -9223372036854775808 ≤ n ∧ n ≤ 9223372036854775807) (hS : St w0 w (hDk g D :: H)) : Fn Try.prog 38 [.pointer (some ⟨g, 0, none⟩), .int .i64 n] w fun v w' => v = .int .i64 (D.fail n).2 ∧ St w0 w' (hDk g (D.fail n).1 :: H) := by
  obtain ⟨S, c, Q, d, h⟩ := hDk_open hS
  exact Fn.mono (fail n hn h) fun v w' ⟨e, h'⟩ => ⟨e, hDk_close h'⟩
theorem kpending (hD : D.atN m) (hS : St w0 w (hDk g D :: H)) : Fn Try.prog 34 [.pointer (some ⟨g, 0, none⟩)] w fun v w' => ∃ A' c', v = .slice A' D.pend.length c' ∧ St w0 w' (hRow 3 1 A' D.pend.length c' (ints (D.pend.map Wr.at_)) :: hDk g D :: H) := by
  obtain ⟨S, c, Q, d, h⟩ := hDk_open hS
  exact Fn.mono (pending hD.ok h) fun v w' ⟨A', c', e, h'⟩ => ⟨A', c', e, (hDk_close (h'.focus (k := 3) rfl |>.focus (k := 3) rfl |>.focus (k := 3) rfl)).p1⟩
theorem knew (n : Nat) (h1 : 1 ≤ n) (h2 : n ≤ 2048) (w0 : World) : Fn Try.prog 36 [.int .i64 (n : Int)] w0 fun v w' => ∃ g, v = .tuple #[.pointer (some ⟨g, 0, none⟩), .int .i64 0] ∧ St w0 w' [hDk g (DM.fresh n)] :=
  Fn.mono (dnew n h1 h2 w0) fun v w' ⟨g, S, c, e, h'⟩ => ⟨g, e, hDk_close h'⟩
end
end Go.Proofs.Ytfoeelghehjanaa
