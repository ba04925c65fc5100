/-
  Contracts of record's laws: what is too large to be gone through.
-/
import Derived.Test.YtmfcffeoooegcaaRK
import Derived.Test.YtmfcffeoooegcaaRF
namespace Go.Proofs.Ytmfcffeoooegcaa
open Go.RowKit
set_option linter.unusedVariables false
set_option linter.unusedSimpArgs false
attribute [local irreducible] Rd hRow hBlk hRd hAll Fn hRdr
attribute [local simp] Rc.cells

def bigs (rs : List Rc) : Prop := ∃ r ∈ rs, 1000 < r.o.length ∨ 1000 < r.w.length
def largeM (rs : List Rc) : Prop := 200 < rs.length ∨ bigs rs
instance (rs : List Rc) : Decidable (bigs rs) := by unfold bigs; infer_instance
instance (rs : List Rc) : Decidable (largeM rs) := by unfold largeM; infer_instance
set_option maxHeartbeats 4000000 in
theorem large (A : Option Addr) (c : Nat) (rs : List Rc) (w0 : World) (hr : Rd w0 A (rs.flatMap Rc.cells)) (hl : rs.length ≤ 9223372036854775806) :
    Fn Try.prog 10 [.slice A rs.length c] w0 fun v w' => v = .bool (decide (largeM rs)) ∧ St w0 w' [] := by
  refine enter 25 Try.func10 rfl rfl rfl ?_
  intro a hE
  have hS := St.start w0
  have hfl : (rs.flatMap Rc.cells).length = rs.length * 9 := flat_len (fun _ _ => rfl)
  repeat' (first
    | (with_reducible refine wp_seq ?_)
    | (with_reducible refine c_region ?_)
    | (with_reducible refine wpList_nil ?_)
    | (with_reducible refine then_normal ?_)
    | (with_reducible refine wp_skip ?_)
    | (with_reducible refine wp_ret ?_)
    | (with_reducible refine then_ret ?_)
    | (with_reducible refine wp_block ?_)
    | ((with_reducible refine g_move ?_); refine s_move hE rfl rfl ?_; clear hE a; intro a hE)
    | ((with_reducible refine g_assign ?_); refine s_assign hE rfl rfl ?_; clear hE a; intro a hE)
    | ((with_reducible refine g_bin .gtr ?_); refine s_gtr hE rfl rfl rfl ?_; clear hE a; intro a hE)
    | ((with_reducible refine g_blt .len ?_); refine s_len hE rfl rfl ?_; clear hE a; intro a hE)
    | ((with_reducible refine g_cond ?_); refine c_dec hE rfl (fun hc => ?_) (fun hc => ?_) <;> try omega)
    )
  · exact ret1 hE rfl rfl ⟨bool_iff ⟨fun _ => rfl, fun _ => .inl (by omega)⟩, hS.nil⟩
  · refine wp_loop_ghost (fun q a w => ∃ (k : Nat), k + q = rs.length ∧ St w0 w [] ∧ ¬ bigs (rs.take k) ∧ Env 25 [(8, .slice A rs.length c), (9, .int .i64 (rs.length : Int)), (10, .int .i64 (k : Int))] a) rs.length ⟨0, by omega, hS, (by rintro ⟨r, hr, _⟩; simp at hr), hE.sub ⟨rfl, rfl, rfl, trivial⟩⟩ ?_
    clear hE a hS
    rintro q a w ⟨k, hk, hS, hB, hE⟩
    by_cases hk1 : k < rs.length
    · have hseg := flat_seg (c := Rc.cells) (size := 9) (l := rs) (fun _ _ => rfl) hk1
      repeat' (first
        | (with_reducible refine wp_seq ?_)
        | (with_reducible refine c_region ?_)
        | (with_reducible refine wpList_nil ?_)
        | (with_reducible refine then_normal ?_)
        | (with_reducible refine wp_skip ?_)
        | (with_reducible refine wp_ret ?_)
        | (with_reducible refine then_ret ?_)
        | (with_reducible refine wp_block ?_)
        | (with_reducible refine block_normal ?_)
        | (with_reducible refine block_ret ?_)
        | ((with_reducible refine g_move ?_); refine s_move hE rfl rfl ?_; clear hE a; intro a hE)
        | ((with_reducible refine g_assign ?_); refine s_assign hE rfl rfl ?_; clear hE a; intro a hE)
        | ((with_reducible refine g_bin .lss ?_); refine s_lss hE rfl rfl rfl ?_; clear hE a; intro a hE)
        | ((with_reducible refine g_bin .gtr ?_); refine s_gtr hE rfl rfl rfl ?_; clear hE a; intro a hE)
        | ((with_reducible refine g_bin .add ?_); refine s_add hE rfl rfl rfl (by first | exact wrap64_in (by omega) ) ?_; clear hE a; intro a hE)
        | ((with_reducible refine g_blt .len ?_); refine s_len hE rfl rfl ?_; clear hE a; intro a hE)
        | ((with_reducible refine g_fa ?_); refine s_fieldL hE rfl rfl rfl ?_; clear hE a; intro a hE)
        | ((with_reducible refine g_guard ?_); refine gd_yes hE rfl rfl rfl ?_)
        | ((with_reducible refine g_guard ?_); refine gd_no hE rfl rfl rfl rfl ?_; clear hE a; intro a hE)
        | ((with_reducible refine g_guard ?_); refine gd_dec hE rfl rfl (fun hc hE2 => ?_) (fun hc hE2 => ?_) <;> (try omega) <;> (replace hE := hE2; clear hE2))
        | ((with_reducible refine g_pick ?_); refine s_pickT hE rfl rfl rfl ?_; clear hE a; intro a hE)
        | ((with_reducible refine g_pick ?_); refine s_pickF hE rfl rfl rfl ?_; clear hE a; intro a hE)
        | ((with_reducible refine g_cond ?_); refine c_true hE rfl ?_)
        | ((with_reducible refine g_cond ?_); refine c_dec hE rfl (fun hc => ?_) (fun hc => ?_) <;> try omega)
        | ((with_reducible refine g_ia ?_); refine s_idxR hE rfl rfl (by omega) (by omega) (by (first | exact Rd.st (by assumption) hS )) (by first | omega ) rfl ?_; clear hE a; intro a hE)
        | ((with_reducible refine g_load ?_); (first | (refine s_loadB (k := 0) hS hE rfl rfl rfl rfl ?_) ); clear hE a; intro a hE)
        | ((with_reducible refine g_alloc ?_); refine s_allocS hE hS rfl rfl ?_; clear hE a hS; intro g a w hE hS)
        | ((with_reducible refine g_store ?_); (first | (refine s_storeW (k := 0) hS hE rfl rfl rfl rfl rfl (by simp [Value.oneCell']) ?_) ); clear hS; intro w hS; simp only [List.set_cons_zero, List.set_cons_succ, Nat.add_zero] at hS)
        | ((with_reducible refine g_load ?_); refine s_elemR hE rfl (by (first | exact Rd.st (by assumption) hS )) (by first | exact hseg ) (by rfl) (by rfl) rfl ?_; clear hE a; intro a hE))
      · exact ret1 hE rfl rfl ⟨bool_iff ⟨fun _ => rfl, fun _ => .inr ⟨_, List.getElem_mem hk1, .inl (by omega)⟩⟩, hS.nil⟩
      · exact ret1 hE rfl rfl ⟨bool_iff ⟨fun _ => rfl, fun _ => .inr ⟨_, List.getElem_mem hk1, .inr (by omega)⟩⟩, hS.nil⟩
      · refine ⟨q - 1, by omega, k + 1, by omega, hS.nil, ?_, hE.sub ⟨rfl, rfl, rfl, trivial⟩⟩
        rintro ⟨r, hr, hb⟩
        rw [List.take_succ_eq_append_getElem hk1, List.mem_append, List.mem_singleton] at hr
        rcases hr with hr | rfl
        · exact hB ⟨r, hr, hb⟩
        · rcases hb with hb | hb <;> omega
    · obtain rfl : k = rs.length := by omega
      repeat' (first
        | (with_reducible refine wp_seq ?_)
        | (with_reducible refine c_region ?_)
        | (with_reducible refine wpList_nil ?_)
        | (with_reducible refine then_normal ?_)
        | (with_reducible refine wp_ret ?_)
        | (with_reducible refine wp_exit ?_)
        | (with_reducible refine then_exit ?_)
        | (with_reducible refine block_same ?_)
        | ((with_reducible refine g_assign ?_); refine s_assign hE rfl rfl ?_; clear hE a; intro a hE)
        | ((with_reducible refine g_bin .lss ?_); refine s_lss hE rfl rfl rfl ?_; clear hE a; intro a hE)
        | ((with_reducible refine g_cond ?_); refine c_dec hE rfl (fun hc => ?_) (fun hc => ?_) <;> try omega)
        )
      rw [List.take_length] at hB
      exact ret1 hE rfl rfl ⟨bool_iff ⟨fun h => absurd (h.resolve_left (by omega)) hB, fun h => by cases h⟩, hS.nil⟩

/-! ## Is there anything? -/
def wR (A : Option Addr) (c : Nat) (B : Option Addr) (d : Nat) : Rc := ⟨1, 1, 1, 0, 2, 3, [], [7], 0, A, B, c, d⟩
def wL : List Nat := [1, 0, 0, 0, 0, 0, 0, 0, 1, 0, 0, 0, 0, 0, 0, 0, 1, 0, 0, 0, 0, 0, 0, 0, 0, 2, 3, 0, 1, 7]
theorem wR_enc (A : Option Addr) (c : Nat) (B : Option Addr) (d : Nat) : (wR A c B d).enc = wL := by
  have h : (wR none 0 none 0).enc = wL := by decide +kernel
  exact h
theorem wR_right (A : Option Addr) (c : Nat) (B : Option Addr) (d : Nat) : (wR A c B d).right := by
  have h : (wR none 0 none 0).right := by decide +kernel
  exact h
theorem wL_dec : (decM wL).1.s = 3 ∧ (decM wL).2.1 = 30 ∧ (decM wL).2.2 = 0 := by decide +kernel
theorem encode_w (A : Option Addr) (c : Nat) (B : Option Addr) (d : Nat) (w0 : World) (hr : (wR A c B d).rd w0) (hd : 1 ≤ d) : Fn Try.prog 11 [.agg (wR A c B d).cells.toArray] w0 fun v w' => ∃ A' c', v = .tuple #[.slice A' wL.length c', .int .i64 0] ∧ St w0 w' [hRow 5 1 A' wL.length c' (bys wL)] := by
  have h := encode_ok (wR A c B d) w0 hr (by
    refine ⟨?_, ?_, ?_, ?_, ?_, ?_, ?_, fun c hc => (by cases hc), fun c hc => ?_, ⟨Nat.zero_le _, Nat.zero_le _⟩, ⟨hd, ?_⟩⟩
    · show (1 : Nat) < _; decide
    · show (1 : Nat) < _; decide
    · show (0 : Nat) < _; decide
    · show (0 : Nat) < _; decide
    · show _ ≤ (1 : Int) ∧ (1 : Int) ≤ _; decide
    · show _ ≤ (2 : Int) ∧ (2 : Int) ≤ _; decide
    · show _ ≤ (3 : Int) ∧ (3 : Int) ≤ _; decide
    · have : c = 7 := by simpa [wR] using hc
      omega
    · show (1 : Nat) ≤ _; decide) (wR_right A c B d)
  rw [wR_enc] at h
  exact h
set_option maxHeartbeats 4000000 in
theorem wakes (w0 : World) : Fn Try.prog 9 [] w0 fun v w' => v = .bool true ∧ St w0 w' [] := by
  refine enter 44 Try.func9 rfl rfl rfl ?_
  intro a hE
  have hS := St.start w0
  repeat' (first
    | (with_reducible refine wp_seq ?_)
    | (with_reducible refine c_region ?_)
    | (with_reducible refine wpList_nil ?_)
    | (with_reducible refine then_normal ?_)
    | ((with_reducible refine g_assign ?_); refine s_assign hE rfl rfl ?_; clear hE a; intro a hE)
    | ((with_reducible refine g_lit ?_); (first | (refine s_litB [_] hE hS rfl rfl rfl rfl rfl rfl rfl ?_) ); clear hE a hS; intro g a w hE hS)
    | ((with_reducible refine g_build ?_); refine s_build [_, _, _, _, _, _, _, _, _] hE rfl rfl rfl ?_; clear hE a; intro a hE)
    )
  refine s_call hE rfl rfl rfl (encode_w none 0 _ _ w ⟨Rd.nil, hS.rdAt (k := 0) rfl⟩ (by decide)) ?_
  rintro _ w ⟨A1, c1, rfl, hS1⟩; clear hE a; intro a hE; replace hS := hS.frame hS1; clear hS1; try simp only [List.cons_append, List.nil_append] at hS
  repeat' (first
    | (with_reducible refine wp_seq ?_)
    | (with_reducible refine c_region ?_)
    | (with_reducible refine wpList_nil ?_)
    | (with_reducible refine then_normal ?_)
    | ((with_reducible refine g_move ?_); refine s_move hE rfl rfl ?_; clear hE a; intro a hE)
    | ((with_reducible refine g_assign ?_); refine s_assign hE rfl rfl ?_; clear hE a; intro a hE)
    | ((with_reducible refine g_extract ?_); refine s_extract hE rfl rfl rfl ?_; clear hE a; intro a hE)
    )
  obtain ⟨d1, d2, d3⟩ := wL_dec
  refine s_call hE rfl rfl rfl (decode _ _ _ w (hS.rdAt (k := 0) rfl) (by unfold Bs; decide) (by decide)) ?_
  rintro _ w ⟨A2, c2, B2, e2, rfl, hS1⟩; clear hE a; intro a hE; replace hS := hS.frame hS1; clear hS1; try simp only [List.cons_append, List.nil_append] at hS
  dsimp only [Rc.cells, Rc.at_] at hE
  rw [d1, d2, d3] at hE
  repeat' (first
    | (with_reducible refine wp_seq ?_)
    | (with_reducible refine c_region ?_)
    | (with_reducible refine wpList_nil ?_)
    | (with_reducible refine then_normal ?_)
    | ((with_reducible refine g_move ?_); refine s_move hE rfl rfl ?_; clear hE a; intro a hE)
    | ((with_reducible refine g_assign ?_); refine s_assign hE rfl rfl ?_; clear hE a; intro a hE)
    | ((with_reducible refine g_bin .eql ?_); refine s_eql hE rfl rfl rfl ?_; clear hE a; intro a hE)
    | ((with_reducible refine g_blt .len ?_); refine s_len hE rfl rfl ?_; clear hE a; intro a hE)
    | ((with_reducible refine g_extract ?_); refine s_extract hE rfl rfl rfl ?_; clear hE a; intro a hE)
    | ((with_reducible refine g_fa ?_); refine s_fieldL hE rfl rfl rfl ?_; clear hE a; intro a hE)
    | ((with_reducible refine g_guard ?_); refine gd_yes hE rfl rfl rfl ?_)
    | ((with_reducible refine g_pick ?_); refine s_pickT hE rfl rfl rfl ?_; clear hE a; intro a hE)
    | ((with_reducible refine g_load ?_); (first | (refine s_loadB (k := 0) hS hE rfl rfl rfl rfl ?_) ); clear hE a; intro a hE)
    | ((with_reducible refine g_alloc ?_); refine s_allocS hE hS rfl rfl ?_; clear hE a hS; intro g a w hE hS)
    | ((with_reducible refine g_store ?_); (first | (refine s_storeW (k := 0) hS hE rfl rfl rfl rfl rfl (by simp [Value.oneCell']) ?_) ); clear hS; intro w hS; simp only [List.set_cons_zero, List.set_cons_succ, Nat.add_zero] at hS)
    )
  refine g_ia ?_
  refine s_idxR hE rfl rfl (by decide) (by decide) (hS.rdAt (k := 3) rfl) (by decide) rfl ?_
  clear hE a; intro a hE
  refine g_guard ?_
  refine gd_yes hE rfl rfl rfl ?_
  refine g_load ?_
  refine s_loadR (v := .int .u8 7) hE rfl (hS.rdAt (k := 3) rfl) (by rfl) rfl ?_
  clear hE a; intro a hE
  repeat' (first
    | (with_reducible refine wpList_nil ?_)
    | (with_reducible refine then_normal ?_)
    | (with_reducible refine wp_ret ?_)
    | ((with_reducible refine g_assign ?_); refine s_assign hE rfl rfl ?_; clear hE a; intro a hE)
    | ((with_reducible refine g_bin .eql ?_); refine s_eql hE rfl rfl rfl ?_; clear hE a; intro a hE)
    | ((with_reducible refine g_guard ?_); refine gd_yes hE rfl rfl rfl ?_)
    | ((with_reducible refine g_pick ?_); refine s_pickT hE rfl rfl rfl ?_; clear hE a; intro a hE)
    )
  exact ret1 hE rfl rfl ⟨rfl, hS.nil⟩
end Go.Proofs.Ytmfcffeoooegcaa
