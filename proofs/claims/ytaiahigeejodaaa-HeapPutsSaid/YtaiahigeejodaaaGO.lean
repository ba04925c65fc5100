/-
  Contract: setting a slot; the law PageKeeps.
-/
import Derived.Test.YtaiahigeejodaaaGN
namespace Go.Proofs.Ytaiahigeejodaaa
open Go.RowKit
set_option linter.unusedVariables false
set_option linter.unusedSimpArgs false
attribute [local irreducible] Rd hRow hBlk hRd hRdr rowsP Fn hMarks

def setE (p : PM) (i : Int) (n : Nat) : Int := if p.right = false then 160 else if i < 0 ∨ 4 ≤ i then 2 else if 52 < n then 3 else 0
def PM.put (p : PM) (i : Nat) (b : List Nat) (l : Nat) : PM := ⟨p.n, l, p.s.set i b⟩
theorem put_right {p : PM} (h : p.right = true) (i : Nat) {b : List Nat} (hb : b.length ≤ 52) (l : Nat) : (p.put i b l).right = true := by
  rw [right_iff] at h ⊢
  refine ⟨h.1, fun x hx => ?_⟩
  rcases List.mem_or_eq_of_mem_set hx with hx | hx
  · exact h.2 x hx
  · subst hx; exact hb
theorem firstIx_spec (pf : List Nat → Bool) : ∀ (l : List (List Nat)) (k : Nat), 0 ≤ firstIx pf l k → ∃ j : Nat, firstIx pf l k = ((k + j : Nat) : Int) ∧ j < l.length ∧ pf (l.getD j []) = true
  | [], k, h => absurd h (by show ¬ (0 : Int) ≤ -1; decide)
  | x :: l, k, h => by
    rw [firstIx_cons] at h ⊢
    cases hp : pf x
    · rw [hp, if_neg (by decide)] at h
      rw [if_neg (by decide)]
      obtain ⟨j, h1, h2, h3⟩ := firstIx_spec pf l (k + 1) h
      exact ⟨j + 1, by rw [h1]; congr 1; omega, by rw [List.length_cons]; omega, h3⟩
    · rw [if_pos rfl]
      exact ⟨0, rfl, by rw [List.length_cons]; omega, hp⟩
section
variable {H : List HP} {w0 w : World}
set_option maxHeartbeats 8000000
theorem set_no (p : Pg) (hp : p.wf) (hr : p.rd w0) (i : Int) (A : Option Addr) (c : Nat) (b : List Nat) (n : Nat) (hn : n = b.length) (hb : b.length ≤ 1000) (l : Nat) (h : setE p.m i b.length ≠ 0) :
    Fn Try.prog 28 [.agg p.cells.toArray, .int .i64 i, .slice A n c, .int .u64 (l : Int)] w0 fun v w' => v = .tuple #[.agg Pg.zero.cells.toArray, .int .i64 (setE p.m i b.length)] ∧ St w0 w' [] := by
  subst hn
  have hcl : p.cells.length = 6 := by simp [hp.s4]
  have hcz : Pg.zero.cells.length = 6 := rfl
  have honez := Pg.cells_one Pg.zero
  refine enter 36 Try.func28 rfl rfl rfl ?_
  intro a hE
  have hS := St.start w0
  repeat' (first

    | (with_reducible refine wp_seq ?_)
    | (with_reducible refine c_region ?_)
    | (with_reducible refine wpList_nil ?_)
    | (with_reducible refine then_normal ?_)
    | ((with_reducible refine g_move ?_); refine s_move hE rfl rfl ?_; clear hE a; intro a hE)
    | ((with_reducible refine g_assign ?_); refine s_assign hE rfl rfl ?_; clear hE a; intro a hE)
    | ((with_reducible refine g_alloc ?_); refine s_allocS hE hS rfl rfl ?_; clear hE a hS; intro g a w hE hS)
    | ((with_reducible refine g_box ?_); refine s_boxS hE hS rfl rfl ?_; clear hE a hS; intro g a w hE hS)
    | ((with_reducible refine g_load ?_); (first | (refine s_loadW (k := 1) hS hE rfl rfl (by first | assumption ) rfl ?_) ); clear hE a; intro a hE)
    )
  by_cases h1 : p.m.right = false ∨ i < 0 ∨ 4 ≤ i
  · have e : setE p.m i b.length = if p.m.right then 2 else 160 := by
      unfold setE
      cases hri : p.m.right
      · rfl
      · rw [if_neg (by decide), if_pos (by rcases h1 with h1 | h1; rw [hri] at h1; cases h1; exact h1)]; rfl
    refine s_call hE rfl rfl rfl (at_no p hp i h1 w) ?_
    rintro _ w ⟨rfl, hS1⟩; clear hE a; intro a hE; replace hS := hS.frame hS1; clear hS1; try simp only [List.cons_append, List.nil_append] at hS
    rw [← e] at hE
    generalize setE p.m i b.length = x at h hE ⊢
    obtain ⟨go, rfl⟩ : ∃ x, x = g := ⟨g, rfl⟩
    repeat' (first

      | (with_reducible refine wp_seq ?_)
      | (with_reducible refine c_region ?_)
      | (with_reducible refine wpList_nil ?_)
      | (with_reducible refine then_normal ?_)
      | (with_reducible refine wp_ret ?_)
      | (with_reducible refine then_ret ?_)
      | (with_reducible refine wp_block ?_)
      | (with_reducible refine block_ret ?_)
      | ((with_reducible refine g_move ?_); refine s_move hE rfl rfl ?_; clear hE a; intro a hE)
      | ((with_reducible refine g_assign ?_); refine s_assign hE rfl rfl ?_; clear hE a; intro a hE)
      | ((with_reducible refine g_bin .neq ?_); refine s_neq hE rfl rfl rfl ?_; clear hE a; intro a hE)
      | ((with_reducible refine g_extract ?_); refine s_extract hE rfl rfl rfl ?_; clear hE a; intro a hE)
      | ((with_reducible refine g_cond ?_); refine c_dec hE rfl (fun hc => ?_) (fun hc => ?_) <;> try omega)
      | ((with_reducible refine g_alloc ?_); refine s_allocS hE hS rfl rfl ?_; clear hE a hS; intro g a w hE hS)
      | ((with_reducible refine g_load ?_); (first | (refine s_loadW (k := 0) hS hE rfl rfl rfl rfl ?_) ); clear hE a; intro a hE)
      | ((with_reducible refine g_store ?_); (first | (refine s_storeW (k := 0) hS hE rfl rfl rfl rfl rfl (by first | assumption ) ?_) | (refine s_storeW (k := 1) hS hE rfl rfl rfl rfl rfl (by first | assumption ) ?_) ); clear hS; intro w hS; simp only [List.set_cons_zero, List.set_cons_succ, Nat.add_zero] at hS)
      )
    exact retG (vs := [_, _]) hE rfl ⟨⟨_, rfl, res_W (k := 1) hS rfl rfl⟩, rfl, trivial⟩ ⟨rfl, hS.nil⟩
  · have hri : p.m.right = true := by
      cases hri : p.m.right
      · exact absurd (.inl hri) h1
      · rfl
    have h2 : ¬ (i < 0 ∨ 4 ≤ i) := fun h => h1 (.inr h)
    have h3 : 52 < b.length := by
      unfold setE at h
      rw [hri, if_neg (by decide), if_neg h2] at h
      by_cases h4 : 52 < b.length
      · exact h4
      · exact absurd (if_neg h4) h
    have e : setE p.m i b.length = 3 := by
      unfold setE
      rw [hri, if_neg (by decide), if_neg h2, if_pos h3]
    rw [e]
    refine s_call hE rfl rfl rfl (at_ok p hp (hr.st hS) i hri ⟨by omega, by omega⟩) ?_
    rintro _ w ⟨q, rfl, hqm, hqw, hS1⟩; clear hE a; intro a hE; replace hS := hS.frame hS1; clear hS1; try simp only [List.cons_append, List.nil_append] at hS
    have hcl2 : q.cells.length = 6 := by simp [hqw.s4]
    have hone := Pg.cells_one q
    obtain ⟨go, rfl⟩ : ∃ x, x = g := ⟨g, rfl⟩
    repeat' (first

      | (with_reducible refine wp_seq ?_)
      | (with_reducible refine c_region ?_)
      | (with_reducible refine wpList_nil ?_)
      | (with_reducible refine then_normal ?_)
      | (with_reducible refine wp_ret ?_)
      | (with_reducible refine then_ret ?_)
      | (with_reducible refine wp_block ?_)
      | (with_reducible refine block_ret ?_)
      | ((with_reducible refine g_move ?_); refine s_move hE rfl rfl ?_; clear hE a; intro a hE)
      | ((with_reducible refine g_assign ?_); refine s_assign hE rfl rfl ?_; clear hE a; intro a hE)
      | ((with_reducible refine g_bin .gtr ?_); refine s_gtr hE rfl rfl rfl ?_; clear hE a; intro a hE)
      | ((with_reducible refine g_bin .neq ?_); refine s_neq hE rfl rfl rfl ?_; clear hE a; intro a hE)
      | ((with_reducible refine g_blt .len ?_); refine s_len hE rfl rfl ?_; clear hE a; intro a hE)
      | ((with_reducible refine g_extract ?_); refine s_extract hE rfl rfl rfl ?_; clear hE a; intro a hE)
      | ((with_reducible refine g_cond ?_); refine c_false hE rfl ?_)
      | ((with_reducible refine g_cond ?_); refine c_dec hE rfl (fun hc => ?_) (fun hc => ?_) <;> try omega)
      | ((with_reducible refine g_alloc ?_); refine s_allocS hE hS rfl rfl ?_; clear hE a hS; intro g a w hE hS)
      | ((with_reducible refine g_build ?_); refine s_build [_, _, _, _, _, _] hE rfl rfl rfl ?_; clear hE a; intro a hE)
      | ((with_reducible refine g_store ?_); (first | (refine s_storeW (k := 2) hS hE rfl rfl rfl rfl rfl (by first | assumption ) ?_) ); clear hS; intro w hS; simp only [List.set_cons_zero, List.set_cons_succ, Nat.add_zero] at hS)
      | ((with_reducible refine g_store ?_); (first | (refine s_storeW (k := 0) hS hE rfl rfl rfl (by assumption) (by first | rfl ) (by first | assumption) ?_) ); clear hS; intro w hS; simp only [List.set_cons_zero, List.set_cons_succ, Nat.add_zero] at hS)
      )
    exact retG (vs := [_, _]) hE rfl ⟨⟨_, rfl, res_W (k := 2) hS rfl rfl⟩, rfl, trivial⟩ ⟨rfl, hS.nil⟩
theorem set_ok (p : Pg) (hp : p.wf) (hr : p.rd w0) (i : Nat) (A : Option Addr) (c : Nat) (b : List Nat) (n : Nat) (hn : n = b.length) (hrb : Rd w0 A (bys b)) (hbs : Bs b) (l : Nat) (hl : l < 18446744073709551616) (hri : p.m.right = true) (hi : i < 4) (hb : b.length ≤ 52) :
    Fn Try.prog 28 [.agg p.cells.toArray, .int .i64 (i : Int), .slice A n c, .int .u64 (l : Int)] w0 fun v w' => ∃ p' : Pg, v = .tuple #[.agg p'.cells.toArray, .int .i64 0] ∧ p'.m = p.m.put i b l ∧ p'.wf ∧ St w0 w' [rowsP p'.s] := by
  subst hn
  have hcl : p.cells.length = 6 := by simp [hp.s4]
  refine enter 36 Try.func28 rfl rfl rfl ?_
  intro a hE
  have hS := St.start w0
  repeat' (first

    | (with_reducible refine wp_seq ?_)
    | (with_reducible refine c_region ?_)
    | (with_reducible refine wpList_nil ?_)
    | (with_reducible refine then_normal ?_)
    | ((with_reducible refine g_move ?_); refine s_move hE rfl rfl ?_; clear hE a; intro a hE)
    | ((with_reducible refine g_assign ?_); refine s_assign hE rfl rfl ?_; clear hE a; intro a hE)
    | ((with_reducible refine g_alloc ?_); refine s_allocS hE hS rfl rfl ?_; clear hE a hS; intro g a w hE hS)
    | ((with_reducible refine g_box ?_); refine s_boxS hE hS rfl rfl ?_; clear hE a hS; intro g a w hE hS)
    | ((with_reducible refine g_load ?_); (first | (refine s_loadW (k := 1) hS hE rfl rfl (by first | assumption ) rfl ?_) ); clear hE a; intro a hE)
    )
  refine s_call hE rfl rfl rfl (at_ok p hp (hr.st hS) (i : Int) hri ⟨by omega, by omega⟩) ?_
  rintro _ w ⟨q, rfl, hqm, hqw, hS1⟩; clear hE a; intro a hE; replace hS := hS.frame hS1; clear hS1; try simp only [List.cons_append, List.nil_append] at hS
  have hcl2 : q.cells.length = 6 := by simp [hqw.s4]
  have hone := Pg.cells_one q
  obtain ⟨go, rfl⟩ : ∃ x, x = g := ⟨g, rfl⟩
  repeat' (first

    | (with_reducible refine wp_seq ?_)
    | (with_reducible refine c_region ?_)
    | (with_reducible refine wpList_nil ?_)
    | (with_reducible refine then_normal ?_)
    | (with_reducible refine wp_skip ?_)
    | (with_reducible refine wp_block ?_)
    | (with_reducible refine block_normal ?_)
    | ((with_reducible refine g_move ?_); refine s_move hE rfl rfl ?_; clear hE a; intro a hE)
    | ((with_reducible refine g_assign ?_); refine s_assign hE rfl rfl ?_; clear hE a; intro a hE)
    | ((with_reducible refine g_bin .gtr ?_); refine s_gtr hE rfl rfl rfl ?_; clear hE a; intro a hE)
    | ((with_reducible refine g_bin .neq ?_); refine s_neq hE rfl rfl rfl ?_; clear hE a; intro a hE)
    | ((with_reducible refine g_blt .len ?_); refine s_len hE rfl rfl ?_; clear hE a; intro a hE)
    | ((with_reducible refine g_extract ?_); refine s_extract hE rfl rfl rfl ?_; clear hE a; intro a hE)
    | ((with_reducible refine g_cond ?_); refine c_false hE rfl ?_)
    | ((with_reducible refine g_cond ?_); refine c_dec hE rfl (fun hc => ?_) (fun hc => ?_) <;> try omega)
    | ((with_reducible refine g_alloc ?_); refine s_allocS hE hS rfl rfl ?_; clear hE a hS; intro g a w hE hS)
    | ((with_reducible refine g_store ?_); (first | (refine s_storeW (k := 0) hS hE rfl rfl rfl (by assumption) (by first | rfl ) (by first | assumption) ?_) ); clear hS; intro w hS; simp only [List.set_cons_zero, List.set_cons_succ, Nat.add_zero] at hS)
    )
  refine s_call hE rfl rfl rfl (bclone A c b w (hrb.st hS) (by omega)) ?_
  rintro _ w ⟨A', c', rfl, hS1⟩; clear hE a; intro a hE; replace hS := hS.frame hS1; clear hS1; try simp only [List.cons_append, List.nil_append] at hS
  obtain ⟨_, hcap, _⟩ := hS.lenAt (k := 0) rfl
  repeat' (first

    | ((with_reducible refine g_move ?_); refine s_move hE rfl rfl ?_; clear hE a; intro a hE)
    | ((with_reducible refine g_fa ?_); refine s_fieldL hE rfl rfl rfl ?_; clear hE a; intro a hE)
    | ((with_reducible refine g_ia ?_); refine s_val hE rfl rfl rfl (r_idxP hE rfl rfl (by omega) (by omega)) ?_; clear hE a; intro a hE)
    )
  refine s_storeB (k := 1) hS hE rfl rfl rfl rfl (by rw [hcl2, Nat.blt_eq]; omega) rfl ?_
  clear hS; intro w hS
  simp only [List.set_cons_zero, List.set_cons_succ] at hS
  have hql : i < q.s.length := by rw [hqw.s4]; exact hi
  rw [show 0 + 2 + ((i : Nat) : Int).toNat * 1 = 2 + i by omega, show q.cells.set (2 + i) (Value.slice A' b.length c') = Pg.cells ⟨q.n, q.l, q.s.set i ⟨A', c', b⟩⟩ from cells_put hql ⟨A', c', b⟩] at hS
  have hcl3 : (Pg.cells ⟨q.n, l, q.s.set i ⟨A', c', b⟩⟩).length = 6 := cells_len (by rw [List.length_set]; exact hqw.s4)
  have hone3 := Pg.cells_one ⟨q.n, l, q.s.set i ⟨A', c', b⟩⟩
  repeat' (first

    | (with_reducible refine wp_seq ?_)
    | (with_reducible refine c_region ?_)
    | (with_reducible refine wpList_nil ?_)
    | (with_reducible refine then_normal ?_)
    | (with_reducible refine wp_ret ?_)
    | ((with_reducible refine g_assign ?_); refine s_assign hE rfl rfl ?_; clear hE a; intro a hE)
    | ((with_reducible refine g_fa ?_); refine s_fieldL hE rfl rfl rfl ?_; clear hE a; intro a hE)
    | ((with_reducible refine g_store ?_); (first | (refine s_storeB (k := 1) hS hE rfl rfl rfl rfl rfl rfl ?_) ); clear hS; intro w hS; simp only [List.set_cons_zero, List.set_cons_succ, Nat.add_zero] at hS)
    | ((with_reducible refine g_load ?_); (first | (refine s_loadW (k := 1) hS hE rfl rfl (by first | assumption ) rfl ?_) ); clear hE a; intro a hE)
    | ((with_reducible refine g_store ?_); (first | (refine s_storeW (k := 3) hS hE rfl rfl rfl (by assumption) (by first | rfl ) (by first | assumption) ?_) ); clear hS; intro w hS; simp only [List.set_cons_zero, List.set_cons_succ, Nat.add_zero] at hS)
    )
  have hqn : q.n = p.n := congrArg PM.n hqm
  have hqs : q.s.map Sl.b = p.s.map Sl.b := congrArg PM.s hqm
  refine retG (vs := [_, _]) hE rfl ⟨⟨_, rfl, res_W (k := 3) hS rfl hcl3⟩, rfl, trivial⟩ ⟨⟨q.n, l, q.s.set i ⟨A', c', b⟩⟩, rfl, ?_, ?_, ?_⟩
  · unfold PM.put Pg.m
    dsimp only
    rw [List.map_set, hqn, hqs]
  · refine ⟨by show (q.s.set i _).length = 4; rw [List.length_set]; exact hqw.s4, hqw.n64, hl, fun s hs => ?_⟩
    rcases List.mem_or_eq_of_mem_set hs with hs | hs
    · exact hqw.sl s hs
    · subst hs
      exact ⟨hcap, by show b.length ≤ _; omega, hbs⟩
  · exact St.only 0 (rowsP_set (s := ⟨A', c', b⟩) hql (St.p1 (St.p2 hS))) rfl
end
end Go.Proofs.Ytaiahigeejodaaa
