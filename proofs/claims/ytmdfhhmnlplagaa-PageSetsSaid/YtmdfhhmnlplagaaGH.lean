/-
  Contract: does the layer do anything?
-/
import Derived.Test.YtmdfhhmnlplagaaGG
namespace Go.Proofs.Ytmdfhhmnlplagaa
open Go.RowKit
set_option linter.unusedVariables false
set_option linter.unusedSimpArgs false
attribute [local irreducible] Rd hRow hBlk hRd hRdr rowsP Fn hMarks

def w12 : List Nat := [0, 1, 0, 0, 0, 0, 0, 0, 0, 2, 1, 7]
theorem w12_bs : Bs w12 := fun c hc => by
  have h : w12.all (fun c => decide (c < 256)) = true := by decide
  exact of_decide_eq_true (List.all_eq_true.1 h c hc)
theorem w1_take : w1.enc.take 12 = w12 := w1_enc
section
variable {H : List HP} {w0 w : World}
set_option maxHeartbeats 8000000
theorem wakes (w0 : World) : Fn Try.prog 9 [] w0 fun v w' => v = .bool true ∧ St w0 w' [] := by
  refine enter 53 Try.func9 rfl rfl rfl ?_
  intro a hE
  have hS := St.start w0
  repeat' (first

    | (with_reducible refine wp_seq ?_)
    | (with_reducible refine c_region ?_)
    | (with_reducible refine wpList_nil ?_)
    | (with_reducible refine then_normal ?_)
    | ((with_reducible refine g_assign ?_); refine s_assign hE rfl rfl ?_; clear hE a; intro a hE)
    | ((with_reducible refine g_lit ?_); (first | (refine s_litB [_] hE hS rfl rfl rfl rfl rfl rfl rfl ?_) ); clear hE a hS; intro g a w hE hS)
    | ((with_reducible refine g_build ?_); refine s_build [_, _, _, _] hE rfl rfl rfl ?_; clear hE a; intro a hE)
    | ((with_reducible refine g_build ?_); refine s_build [_, _, _, _, _, _] hE rfl rfl rfl ?_; clear hE a; intro a hE)
    )
  have hpw : Pg.wf ⟨1, 2, [⟨some ⟨g, 0, none⟩, 1, [7]⟩, nilS, nilS, nilS]⟩ := by
    refine ⟨rfl, by show -9223372036854775808 ≤ (1 : Int) ∧ (1 : Int) ≤ _; decide, by show 2 < _; decide, fun s hs => ?_⟩
    rcases List.mem_cons.1 hs with rfl | hs
    · exact ⟨by show 1 ≤ 1; decide, by show 1 ≤ _; decide, fun c hc => by rw [List.mem_singleton] at hc; subst hc; decide⟩
    · exact Pg.zero_wf.sl s (List.mem_cons_of_mem _ hs)
  have hrd : Pg.rd w ⟨1, 2, [⟨some ⟨g, 0, none⟩, 1, [7]⟩, nilS, nilS, nilS]⟩ := by
    intro s hs
    rcases List.mem_cons.1 hs with rfl | hs
    · exact hS.rd
    · have : s = nilS := by simp at hs; exact hs
      subst this
      exact Rd.nil
  have hwb : Bs w1.enc := enc_bs hpw.ok (by show ∀ x ∈ [[7], [], [], []], _; decide)
  have hwl : w1.enc.length = 256 := enc_len rfl (by decide)
  refine s_call hE rfl rfl rfl (encode_ok ⟨1, 2, [⟨some ⟨g, 0, none⟩, 1, [7]⟩, nilS, nilS, nilS]⟩ hpw hrd (by show PM.right ⟨1, 2, [[7], [], [], []]⟩ = true; decide)) ?_
  rintro _ w ⟨A1, c1, rfl, hS1⟩; clear hE a; intro a hE; replace hS := hS.frame hS1; clear hS1; try simp only [List.cons_append, List.nil_append] at hS
  have hS2 : St w0 w [hRow 5 1 A1 256 c1 (bys w1.enc), hRow 5 1 (some ⟨g, 0, none⟩) 1 1 (bys [7])] := hS
  clear hS; have hS := hS2; clear hS2
  obtain ⟨_, hc1, _⟩ := hS.lenAt (k := 0) rfl
  repeat' (first

    | (with_reducible refine wp_seq ?_)
    | (with_reducible refine c_region ?_)
    | (with_reducible refine wpList_nil ?_)
    | (with_reducible refine then_normal ?_)
    | ((with_reducible refine g_move ?_); refine s_move hE rfl rfl ?_; clear hE a; intro a hE)
    | ((with_reducible refine g_assign ?_); refine s_assign hE rfl rfl ?_; clear hE a; intro a hE)
    | ((with_reducible refine g_bin .neq ?_); refine s_neq hE rfl rfl rfl ?_; clear hE a; intro a hE)
    | ((with_reducible refine g_blt .len ?_); refine s_len hE rfl rfl ?_; clear hE a; intro a hE)
    | ((with_reducible refine g_extract ?_); refine s_extract hE rfl rfl rfl ?_; clear hE a; intro a hE)
    | ((with_reducible refine g_guard ?_); refine gd_yes hE rfl rfl rfl ?_)
    | ((with_reducible refine g_pick ?_); refine s_pickF hE rfl rfl rfl ?_; clear hE a; intro a hE)
    | ((with_reducible refine g_lit ?_); refine s_lit hE hS rfl rfl rfl rfl rfl (by first | (simp [Value.oneCell']; done)) rfl ?_; clear hE a hS; intro g a w hE hS)
    | ((with_reducible refine g_sliceH ?_); refine s_val hE rfl rfl rfl (r_cutH hE rfl rfl (by omega)) ?_; clear hE a; intro a hE)
    )
  have hr12 : Rd w A1 (bys w12) := by
    have := (hS.rdAt (k := 1) rfl).take 12
    have e : (bys w1.enc).take 12 = bys w12 := by
      rw [← w1_take]
      exact List.map_take.symm
    rw [e] at this
    exact this
  refine s_call hE rfl rfl rfl (bequal A1 (some ⟨g, 0, none⟩) c1 12 w12 w12 12 12 w hr12 (hS.rdAt (k := 0) rfl) w12_bs w12_bs rfl rfl) ?_
  rintro _ w ⟨rfl, hS1⟩; clear hE a; intro a hE; replace hS := hS.frame hS1; clear hS1; try simp only [List.cons_append, List.nil_append] at hS
  rw [decide_eq_true rfl] at hE
  repeat' (first

    | (with_reducible refine wp_seq ?_)
    | (with_reducible refine c_region ?_)
    | (with_reducible refine wpList_nil ?_)
    | (with_reducible refine then_normal ?_)
    | (with_reducible refine wp_skip ?_)
    | ((with_reducible refine g_move ?_); refine s_move hE rfl rfl ?_; clear hE a; intro a hE)
    | ((with_reducible refine g_un .not ?_); refine s_notb hE rfl rfl ?_; clear hE a; intro a hE)
    | ((with_reducible refine g_guard ?_); refine gd_yes hE rfl rfl rfl ?_)
    | ((with_reducible refine g_pick ?_); refine s_pickF hE rfl rfl rfl ?_; clear hE a; intro a hE)
    | ((with_reducible refine g_cond ?_); refine c_false hE rfl ?_)
    )
  have hd1 := fun w' h => decode 1 (by decide) A1 c1 w1.enc (w0 := w') h hwb (by omega) (by omega)
  rw [hwl, w1_dec] at hd1
  refine s_call hE rfl rfl rfl (hd1 w (hS.rdAt (k := 1) rfl)) ?_
  rintro _ w ⟨p1, rfl, hp1, hpw1, hS1⟩; clear hE a; intro a hE; replace hS := hS.frame hS1; clear hS1; try simp only [List.cons_append, List.nil_append] at hS
  have hd2 := fun w' h => decode 2 (by decide) A1 c1 w1.enc (w0 := w') h hwb (by omega) (by omega)
  rw [hwl, w1_dec2] at hd2
  dsimp only at hp1
  have hcl1 : p1.cells.length = 6 := by simp [hpw1.s4]
  have hone1 := Pg.cells_one p1
  have hl1 : p1.l = 2 := congrArg PM.l hp1
  dsimp only at hE
  repeat' (first

    | (with_reducible refine wp_seq ?_)
    | (with_reducible refine c_region ?_)
    | (with_reducible refine wpList_nil ?_)
    | (with_reducible refine then_normal ?_)
    | ((with_reducible refine g_move ?_); refine s_move hE rfl rfl ?_; clear hE a; intro a hE)
    | ((with_reducible refine g_assign ?_); refine s_assign hE rfl rfl ?_; clear hE a; intro a hE)
    | ((with_reducible refine g_extract ?_); refine s_extract hE rfl rfl rfl ?_; clear hE a; intro a hE)
    | ((with_reducible refine g_alloc ?_); refine s_allocS hE hS rfl rfl ?_; clear hE a hS; intro g a w hE hS)
    | ((with_reducible refine g_store ?_); (first | (refine s_storeW (k := 0) hS hE rfl rfl rfl (by assumption) (by first | rfl ) (by first | assumption) ?_) ); clear hS; intro w hS; simp only [List.set_cons_zero, List.set_cons_succ, Nat.add_zero] at hS)
    )
  refine s_call hE rfl rfl rfl (hd2 w (hS.rdAt (k := 3) rfl)) ?_
  rintro _ w ⟨p2, rfl, hp2, hpw2, hS1⟩; clear hE a; intro a hE; replace hS := hS.frame hS1; clear hS1; try simp only [List.cons_append, List.nil_append] at hS
  have hcl2 : p2.cells.length = 6 := by simp [hpw2.s4]
  have hone2 := Pg.cells_one p2
  dsimp only at hE
  obtain ⟨g1, rfl⟩ : ∃ x, x = g := ⟨g, rfl⟩
  repeat' (first

    | (with_reducible refine wp_seq ?_)
    | (with_reducible refine c_region ?_)
    | (with_reducible refine wpList_nil ?_)
    | (with_reducible refine then_normal ?_)
    | ((with_reducible refine g_move ?_); refine s_move hE rfl rfl ?_; clear hE a; intro a hE)
    | ((with_reducible refine g_assign ?_); refine s_assign hE rfl rfl ?_; clear hE a; intro a hE)
    | ((with_reducible refine g_bin .eql ?_); refine s_eql hE rfl rfl rfl ?_; clear hE a; intro a hE)
    | ((with_reducible refine g_extract ?_); refine s_extract hE rfl rfl rfl ?_; clear hE a; intro a hE)
    | ((with_reducible refine g_fa ?_); refine s_fieldL hE rfl rfl rfl ?_; clear hE a; intro a hE)
    | ((with_reducible refine g_guard ?_); refine gd_yes hE rfl rfl rfl ?_)
    | ((with_reducible refine g_guard ?_); refine gd_dec hE rfl rfl (fun hc hE2 => ?_) (fun hc hE2 => ?_) <;> (try omega) <;> (replace hE := hE2; clear hE2))
    | ((with_reducible refine g_pick ?_); refine s_pickT hE rfl rfl rfl ?_; clear hE a; intro a hE)
    | ((with_reducible refine g_load ?_); (first | (refine s_loadB (k := 2) hS hE rfl rfl rfl rfl ?_) ); clear hE a; intro a hE)
    | ((with_reducible refine g_alloc ?_); refine s_allocS hE hS rfl rfl ?_; clear hE a hS; intro g a w hE hS)
    | ((with_reducible refine g_load ?_); (first | (refine s_loadW (k := 2) hS hE rfl rfl (by first | assumption ) rfl ?_) ); clear hE a; intro a hE)
    | ((with_reducible refine g_store ?_); (first | (refine s_storeW (k := 0) hS hE rfl rfl rfl (by assumption) (by first | rfl ) (by first | assumption) ?_) ); clear hS; intro w hS; simp only [List.set_cons_zero, List.set_cons_succ, Nat.add_zero] at hS)
    )
  have hf := fun w' => free p1 hpw1 w'
  rw [hp1, show p1.s.map Sl.b = [[7], [], [], []] from congrArg PM.s hp1] at hf
  refine s_call hE rfl rfl rfl (hf w) ?_
  rintro _ w ⟨rfl, hS1⟩; clear hE a; intro a hE; replace hS := hS.frame hS1; clear hS1; try simp only [List.cons_append, List.nil_append] at hS
  have e1 : (if w1.right then firstIx (fun x => decide (x.length = 0)) [[7], [], [], []] 0 else -1) = 1 := by decide
  rw [e1] at hE
  repeat' (first

    | (with_reducible refine wpList_nil ?_)
    | (with_reducible refine then_normal ?_)
    | (with_reducible refine wp_ret ?_)
    | ((with_reducible refine g_move ?_); refine s_move hE rfl rfl ?_; clear hE a; intro a hE)
    | ((with_reducible refine g_assign ?_); refine s_assign hE rfl rfl ?_; clear hE a; intro a hE)
    | ((with_reducible refine g_bin .eql ?_); refine s_eql hE rfl rfl rfl ?_; clear hE a; intro a hE)
    | ((with_reducible refine g_guard ?_); refine gd_yes hE rfl rfl rfl ?_)
    | ((with_reducible refine g_pick ?_); refine s_pickT hE rfl rfl rfl ?_; clear hE a; intro a hE)
    )
  all_goals first | exact ret1 hE rfl rfl ⟨rfl, hS.nil⟩ | (exfalso; omega)
end
end Go.Proofs.Ytmdfhhmnlplagaa
