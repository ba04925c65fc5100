/-
  Contracts: a crash; a disk is opened again and again.
-/
import Derived.Test.YtfoeelghehjanaaXC
namespace Go.Proofs.Ytfoeelghehjanaa
open Go.RowKit
set_option linter.unusedVariables false
set_option linter.unusedSimpArgs false
attribute [local irreducible] Rd hRow hBlk hRd hRdr wrP hWl Fn FnD hMarks
section
variable {H : List HP} {w0 w : World} {gd m : Nat} {D : DM}
set_option maxHeartbeats 8000000
set_option maxRecDepth 20000
theorem kcrash (K : Option Addr) (kc : Nat) (keep : List Bool) (hD : D.ok) (hr : ∀ w' L, St w0 w' (L ++ H) → Rd w' K (keep.map .bool)) (hl : keep.length ≤ 9223372036854775806) (hS : St w0 w (hDk gd D :: H)) :
    Fn Try.prog 32 [.pointer (some ⟨gd, 0, none⟩), .slice K keep.length kc] w fun v w' => v = .int .i64 0 ∧ St w0 w' (hDk gd (D.crash keep) :: H) := by
  obtain ⟨S, c, Q, d, h⟩ := hDk_open hS
  exact Fn.mono (crash K kc keep hD hr hl h) fun v w' ⟨e, Q', d', h'⟩ => ⟨e, hDk_close h'⟩
attribute [local irreducible] hDk
theorem DM.arm_alive {D : DM} (h : D.alive) (n : Int) : (D.arm n).1.alive ∧ (D.arm n).1.pend = D.pend ∧ (D.arm n).1.safe = D.safe ∧ (n < 0 → (D.arm n).1.calm) := by
  unfold DM.arm
  rw [if_neg (by rw [h.dead]; decide)]
  exact ⟨⟨h.dead, h.fails⟩, rfl, rfl, fun hn => ⟨h.dead, decide_eq_false (by omega), h.fails⟩⟩
/-- a row of whether to keep, laid anew -/
theorem opened (A : Option Addr) (c : Nat) (l : List WOp) (W : WM) (hw : W.broken = false) (hcl : l.length ≤ c) (hll : l.length ≤ 9223372036854775807) (hr : Rd w0 A (l.flatMap WOp.cells)) (hall : ∀ o ∈ l, o.wf ∧ o.rd w0)
    (hL : LaidT D.safe W) (hcm : D.calm) (hp : D.pend = []) (hD : D.atN m) (hm : m ≤ 60000) (hsl : D.safe.length ≤ 30) (hS : St w0 w (hDk gd D :: H)) :
    Fn Try.prog 33 [.pointer (some ⟨gd, 0, none⟩), .slice A l.length c] w fun v w' => ∃ gw D', v = .pointer (some ⟨gw, 0, none⟩) ∧ D'.calm ∧ D'.pend = [] ∧ Clean D'.safe W ∧ D'.atN (m + 400) ∧ D'.safe.length = D.safe.length ∧ St w0 w' (hWl gw gd W :: hDk gd D' :: H) := by
  obtain ⟨N, hN⟩ : ∃ N, D.safe.length = N := ⟨_, rfl⟩
  rw [hN]
  rw [hN] at hsl
  have hfl : (l.flatMap WOp.cells).length = l.length * 4 := flat_len (fun o _ => rfl)
  refine enter 53 Try.func33 rfl rfl rfl ?_
  intro a hE
  repeat' (first

    | (with_reducible refine wp_seq ?_)
    | (with_reducible refine c_region ?_)
    | (with_reducible refine wpList_nil ?_)
    | (with_reducible refine then_normal ?_)
    | (with_reducible refine wp_block ?_)
    | ((with_reducible refine g_move ?_); refine s_move hE rfl rfl ?_; clear hE a; intro a hE)
    | ((with_reducible refine g_assign ?_); refine s_assign hE rfl rfl ?_; clear hE a; intro a hE)
    | ((with_reducible refine g_blt .len ?_); refine s_len hE rfl rfl ?_; clear hE a; intro a hE)
    )
  refine wp_loop_ghost (fun q a w => ∃ (k : Nat) (D : DM), k + q = l.length ∧ k ≤ 4 ∧ LaidT D.safe W ∧ D.calm ∧ D.pend = [] ∧ D.safe.length = N ∧ D.atN (m + 40 * k) ∧ St w0 w (hDk gd D :: H) ∧
    Env 53 [(0, .pointer (some ⟨gd, 0, none⟩)), (11, .slice A l.length c), (12, .int .i64 (l.length : Int)), (13, .int .i64 (k : Int))] a) l.length
    ⟨0, D, by omega, by omega, hL, hcm, hp, hN, hD, hS, hE.sub ⟨rfl, rfl, rfl, rfl, trivial⟩⟩ ?_
  clear hE a hS hL hcm hp hN hD
  rintro q a w ⟨k, D, hkq, hk4, hL, hcm, hp, hN, hD, hS, hE⟩
  have hend : ∀ {D1 : DM}, LaidT D1.safe W → D1.calm → D1.pend = [] → D1.safe.length = N → D1.atN (m + 40 * k) → D1.opn.1.calm ∧ D1.opn.2.1 = some W ∧ D1.opn.2.2 = 0 ∧ D1.opn.1.pend = [] ∧ Clean D1.opn.1.safe W ∧ D1.opn.1.atN (m + 40 * k + N + 3) ∧ D1.opn.1.safe.length = N := by
    intro D1 h1 h2 h3 h4 h5
    obtain ⟨g1, g2, _⟩ := opn_atN h5 (by omega) (by omega)
    rw [h4] at g1 g2
    obtain ⟨h6, h7⟩ := opn_calm h1 h2 h3 hw
    exact ⟨h7, h6.1, h6.2.1, h6.2.2.1, h6.2.2.2, g1, g2⟩
  by_cases hk1 : k < l.length
  · have hseg := flat_seg (c := WOp.cells) (size := 4) (l := l) (fun o _ => rfl) hk1
    obtain ⟨how, hord⟩ := hall _ (List.getElem_mem hk1)
    generalize l[k] = o at hseg how hord
    have hvl : o.cells.length = 4 := rfl
    have hone : ∀ v ∈ o.cells, v.oneCell' = true := by
      intro v hv
      unfold WOp.cells at hv
      simp only [List.mem_cons, List.not_mem_nil, or_false] at hv
      rcases hv with rfl | rfl | rfl | rfl <;> rfl
    have hrw := hr.st hS
    have hk : (IntKind.u64.wrap o.n).tmod 12 = (((o.n % 18446744073709551616).toNat % 12 : Nat) : Int) := u64_rem o.n 12 (by decide)
    have hklt : (o.n % 18446744073709551616).toNat % 12 < 12 := Nat.mod_lt _ (by decide)
    generalize (o.n % 18446744073709551616).toNat % 12 = r at hk hklt
    have e1 : IntKind.i64.wrap ((r : Nat) : Int) = (r : Int) := wrap64_in (by omega)
    repeat' (first

      | (with_reducible refine wp_seq ?_)
      | (with_reducible refine c_region ?_)
      | (with_reducible refine wpList_nil ?_)
      | (with_reducible refine then_normal ?_)
      | (with_reducible refine wp_skip ?_)
      | (with_reducible refine wp_block ?_)
      | (with_reducible refine wp_exit ?_)
      | (with_reducible refine then_exit ?_)
      | (with_reducible refine block_same ?_)
      | ((with_reducible refine block_other ?_ ?_); rfl)
      | ((with_reducible refine g_move ?_); refine s_move hE rfl rfl ?_; clear hE a; intro a hE)
      | ((with_reducible refine g_assign ?_); refine s_assign hE rfl rfl ?_; clear hE a; intro a hE)
      | ((with_reducible refine g_bin .lss ?_); refine s_lss hE rfl rfl rfl ?_; clear hE a; intro a hE)
      | ((with_reducible refine g_bin .eql ?_); refine s_eql hE rfl rfl rfl ?_; clear hE a; intro a hE)
      | ((with_reducible refine g_bin .rem ?_); refine s_rem hE rfl rfl (by omega) rfl (by first | rfl) ?_; clear hE a; intro a hE)
      | ((with_reducible refine g_conv ?_); refine s_conv hE rfl rfl (by first | exact wrap64_in (by omega) | rfl) ?_; clear hE a; intro a hE)
      | ((with_reducible refine g_fa ?_); refine s_fieldL hE rfl rfl rfl ?_; clear hE a; intro a hE)
      | ((with_reducible refine g_cond ?_); refine c_dec hE rfl (fun hc => ?_) (fun hc => ?_) <;> try omega)
      | ((with_reducible refine g_ia ?_); refine s_idxR hE rfl rfl (by omega) (by omega) (by (first | exact Rd.st (by assumption) hS )) (by first | omega ) rfl ?_; clear hE a; intro a hE)
      | ((with_reducible refine g_load ?_); (first | (refine s_loadB (k := 0) hS hE rfl rfl rfl rfl ?_) ); clear hE a; intro a hE)
      | ((with_reducible refine g_alloc ?_); refine s_allocS hE hS rfl rfl ?_; clear hE a hS; intro g a w hE hS)
      | ((with_reducible refine g_store ?_); (first | (refine s_storeW (k := 0) hS hE rfl rfl rfl rfl rfl (by first | assumption ) ?_) ); clear hS; intro w hS; simp only [List.set_cons_zero, List.set_cons_succ, Nat.add_zero] at hS)
      | ((with_reducible refine g_load ?_); refine s_elemR hE rfl (by (first | exact Rd.st (by assumption) hS )) (by first | exact hseg ) (by first | rfl ) (by rfl) rfl ?_; clear hE a; intro a hE))
    · obtain rfl : k = 4 := by omega
      obtain ⟨e1, e2, e3, e4, e5, e6, e7⟩ := hend hL hcm hp hN hD
      refine s_call hE rfl rfl rfl (kopn (m := m + 40 * 4) hD (by omega) (hS.drop 0)) ?_
      rintro _ w (⟨W2, gw, hW, _, rfl, hS⟩ | ⟨hW, _⟩)
      rotate_left
      · rw [hW] at e2; cases e2
      obtain rfl : W2 = W := by rw [hW] at e2; exact Option.some.inj e2
      clear hE a; intro a hE
      repeat' (first

        | (with_reducible refine wp_seq ?_)
        | (with_reducible refine c_region ?_)
        | (with_reducible refine wpList_nil ?_)
        | (with_reducible refine then_normal ?_)
        | (with_reducible refine wp_skip ?_)
        | (with_reducible refine wp_ret ?_)
        | ((with_reducible refine g_move ?_); refine s_move hE rfl rfl ?_; clear hE a; intro a hE)
        | ((with_reducible refine g_assign ?_); refine s_assign hE rfl rfl ?_; clear hE a; intro a hE)
        | ((with_reducible refine g_bin .neq ?_); refine s_neq hE rfl rfl rfl ?_; clear hE a; intro a hE)
        | ((with_reducible refine g_extract ?_); refine s_extract hE rfl rfl rfl ?_; clear hE a; intro a hE)
        | ((with_reducible refine g_cond ?_); refine c_false hE rfl ?_)
        )
      exact ret1 hE rfl rfl ⟨gw, _, rfl, e1, e4, e5, e6.mono (by omega), e7, hS⟩
    · skip
      rw [hk] at hE
      obtain ⟨q1, q2, q3, q4⟩ := DM.arm_alive hcm.alive (r : Int)
      have q5 := arm_atN hD (i := (r : Int)) (by omega)
      refine s_call hE rfl rfl rfl (karm (r : Int) (by omega) (hS.focus (k := 1) rfl)) ?_
      rintro _ w ⟨rfl, hS⟩; clear hE a; intro a hE
      simp only [List.eraseIdx_cons_succ, List.eraseIdx_cons_zero] at hS
      generalize (D.arm (r : Int)).1 = D1 at q1 q2 q3 q4 q5 hS
      rw [hp] at q2
      rw [← q3] at hL
      rw [← q3] at hN
      repeat' (first

        | (with_reducible refine wp_seq ?_)
        | (with_reducible refine c_region ?_)
        | (with_reducible refine wpList_nil ?_)
        | (with_reducible refine then_normal ?_)
        | ((with_reducible refine g_move ?_); refine s_move hE rfl rfl ?_; clear hE a; intro a hE)
        )
      have q6 := opn_alive hL q1 q2 hw
      obtain ⟨q7, q8, _⟩ := opn_atN q5 (by omega) (by omega)
      rw [hN] at q7 q8
      refine s_call hE rfl rfl rfl (kopn (m := m + 40 * k) q5 (by omega) hS) ?_
      rintro _ w (⟨W2, gw, hW, hz, rfl, hS⟩ | ⟨hW, hz, rfl, hS⟩)
      · rcases q6 with ⟨a1, a2, a3, a4, a5⟩ | ⟨a1, _⟩
        rotate_left
        · rw [hW] at a1; cases a1
        obtain rfl : W2 = W := by rw [hW] at a1; exact Option.some.inj a1
        clear hE a; intro a hE
        repeat' (first

          | (with_reducible refine wp_seq ?_)
          | (with_reducible refine c_region ?_)
          | (with_reducible refine wpList_nil ?_)
          | (with_reducible refine then_normal ?_)
          | ((with_reducible refine g_move ?_); refine s_move hE rfl rfl ?_; clear hE a; intro a hE)
          | ((with_reducible refine g_assign ?_); refine s_assign hE rfl rfl ?_; clear hE a; intro a hE)
          | ((with_reducible refine g_bin .eql ?_); refine s_eql hE rfl rfl rfl ?_; clear hE a; intro a hE)
          | ((with_reducible refine g_extract ?_); refine s_extract hE rfl rfl rfl ?_; clear hE a; intro a hE)
          | ((with_reducible refine g_cond ?_); refine c_true hE rfl ?_)
          )
        obtain ⟨p1, p2, p3, p4⟩ := DM.arm_alive a3 (-1)
        have p5 := arm_atN q7 (i := (-1 : Int)) (by omega)
        refine s_call hE rfl rfl rfl (karm (-1) (by omega) (hS.focus (k := 1) rfl)) ?_
        rintro _ w ⟨rfl, hS⟩; clear hE a; intro a hE
        simp only [List.eraseIdx_cons_succ, List.eraseIdx_cons_zero] at hS
        repeat' (first

          | (with_reducible refine wp_seq ?_)
          | (with_reducible refine c_region ?_)
          | (with_reducible refine wpList_nil ?_)
          | (with_reducible refine then_normal ?_)
          | (with_reducible refine wp_ret ?_)
          | (with_reducible refine then_ret ?_)
          | (with_reducible refine block_ret ?_)
          | ((with_reducible refine g_move ?_); refine s_move hE rfl rfl ?_; clear hE a; intro a hE)
          | ((with_reducible refine g_assign ?_); refine s_assign hE rfl rfl ?_; clear hE a; intro a hE)
          )
        exact ret1 hE rfl rfl ⟨gw, _, rfl, p4 (by decide), by rw [p2]; exact a4, by rw [p3]; exact a5, p5.mono (by omega), by rw [p3]; exact q8, (St.selD [1, 0] 1 hS)⟩
      · rcases q6 with ⟨a1, _⟩ | ⟨_, a2, a3⟩
        · rw [hW] at a1; cases a1
        have a4 := a3 o.keep
        obtain ⟨p1, p2, p3⟩ := crash_calm D1.opn.1 o.keep
        have p4 := crash_atN q7 o.keep
        have p5 : (D1.opn.1.crash o.keep).safe.length = N := by rw [p3, lay_length]; exact q8
        clear hE a; intro a hE
        repeat' (first

          | (with_reducible refine wp_seq ?_)
          | (with_reducible refine c_region ?_)
          | (with_reducible refine wpList_nil ?_)
          | (with_reducible refine then_normal ?_)
          | (with_reducible refine wp_skip ?_)
          | ((with_reducible refine g_move ?_); refine s_move hE rfl rfl ?_; clear hE a; intro a hE)
          | ((with_reducible refine g_assign ?_); refine s_assign hE rfl rfl ?_; clear hE a; intro a hE)
          | ((with_reducible refine g_bin .eql ?_); refine s_eql hE rfl rfl rfl ?_; clear hE a; intro a hE)
          | ((with_reducible refine g_extract ?_); refine s_extract hE rfl rfl rfl ?_; clear hE a; intro a hE)
          | ((with_reducible refine g_fa ?_); refine s_fieldL hE rfl rfl rfl ?_; clear hE a; intro a hE)
          | ((with_reducible refine g_cond ?_); refine c_dec hE rfl (fun hc => ?_) (fun hc => ?_) <;> try omega)
          | ((with_reducible refine g_load ?_); (first | (refine s_loadB (k := 2) hS hE rfl rfl rfl rfl ?_) ); clear hE a; intro a hE)
          | ((with_reducible refine g_lit ?_); refine s_lit hE hS rfl rfl rfl rfl rfl (by first | (simp [Value.oneCell']; done)) rfl ?_; clear hE a hS; intro g a w hE hS)
          )
        have hkl := how.kl
        unfold WOp.cells at hS
        have hkr : Rd w o.K (o.keep.map .bool) := hord.st hS
        skip
        refine s_appendAt0 (k := 0) hE hS rfl rfl rfl (hord.st hS) (by rw [List.length_map, Nat.mul_one]) (fun v hv => by obtain ⟨x, _, rfl⟩ := List.mem_map.1 hv; rfl) (by omega) rfl rfl rfl rfl ?_
        clear hS hE a; intro A8 c8 a w hE hS
        simp only [List.set_cons_zero, List.set_cons_succ] at hS
        refine s_call hE rfl rfl rfl (kcrash A8 c8 o.keep q7.ok (fun w' L h => (h.perm (List.perm_append_comm (l₁ := L))).rd) (by omega) (hS.focus (k := 1) rfl)) ?_
        rintro _ w ⟨rfl, hS⟩; clear hE a; intro a hE
        simp only [List.eraseIdx_cons_succ, List.eraseIdx_cons_zero] at hS
        repeat' (first

          | (with_reducible refine c_region ?_)
          | (with_reducible refine wpList_nil ?_)
          | (with_reducible refine then_normal ?_)
          | (with_reducible refine wp_skip ?_)
          | (with_reducible refine block_normal ?_)
          | ((with_reducible refine g_move ?_); refine s_move hE rfl rfl ?_; clear hE a; intro a hE)
          | ((with_reducible refine g_bin .neq ?_); refine s_neq hE rfl rfl rfl ?_; clear hE a; intro a hE)
          | ((with_reducible refine g_bin .add ?_); refine s_add hE rfl rfl rfl (by first  | exact wrap64_in (by omega) ) ?_; clear hE a; intro a hE)
          | ((with_reducible refine g_cond ?_); refine c_false hE rfl ?_)
          )
        exact ⟨q - 1, by omega, k + 1, _, by omega, by omega, a4, p1, p2, p5, p4.mono (by omega), (St.selD [0] 2 hS), hE.sub ⟨rfl, rfl, rfl, rfl, trivial⟩⟩
  · obtain rfl : k = l.length := by omega
    obtain ⟨e1, e2, e3, e4, e5, e6, e7⟩ := hend hL hcm hp hN hD
    repeat' (first

      | (with_reducible refine wp_seq ?_)
      | (with_reducible refine c_region ?_)
      | (with_reducible refine wpList_nil ?_)
      | (with_reducible refine then_normal ?_)
      | (with_reducible refine wp_exit ?_)
      | (with_reducible refine then_exit ?_)
      | (with_reducible refine block_same ?_)
      | ((with_reducible refine g_move ?_); refine s_move hE rfl rfl ?_; clear hE a; intro a hE)
      | ((with_reducible refine g_bin .lss ?_); refine s_lss hE rfl rfl rfl ?_; clear hE a; intro a hE)
      | ((with_reducible refine g_cond ?_); refine c_dec hE rfl (fun hc => ?_) (fun hc => ?_) <;> try omega)
      )
    refine s_call hE rfl rfl rfl (kopn (m := m + 40 * l.length) hD (by omega) hS) ?_
    rintro _ w (⟨W2, gw, hW, _, rfl, hS⟩ | ⟨hW, _⟩)
    rotate_left
    · rw [hW] at e2; cases e2
    obtain rfl : W2 = W := by rw [hW] at e2; exact Option.some.inj e2
    clear hE a; intro a hE
    repeat' (first

      | (with_reducible refine wp_seq ?_)
      | (with_reducible refine c_region ?_)
      | (with_reducible refine wpList_nil ?_)
      | (with_reducible refine then_normal ?_)
      | (with_reducible refine wp_skip ?_)
      | (with_reducible refine wp_ret ?_)
      | ((with_reducible refine g_move ?_); refine s_move hE rfl rfl ?_; clear hE a; intro a hE)
      | ((with_reducible refine g_assign ?_); refine s_assign hE rfl rfl ?_; clear hE a; intro a hE)
      | ((with_reducible refine g_bin .neq ?_); refine s_neq hE rfl rfl rfl ?_; clear hE a; intro a hE)
      | ((with_reducible refine g_extract ?_); refine s_extract hE rfl rfl rfl ?_; clear hE a; intro a hE)
      | ((with_reducible refine g_cond ?_); refine c_false hE rfl ?_)
      )
    exact ret1 hE rfl rfl ⟨gw, _, rfl, e1, e4, e5, e6.mono (by omega), e7, hS⟩
end
end Go.Proofs.Ytfoeelghehjanaa
