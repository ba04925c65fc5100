/-
  Contract: a transaction is put behind a log.
-/
import Derived.Test.YtfoeelghehjanaaWG
import Derived.Test.YtfoeelghehjanaaK2
namespace Go.Proofs.Ytfoeelghehjanaa
open Go.RowKit
set_option linter.unusedVariables false
set_option linter.unusedSimpArgs false
attribute [local irreducible] Rd hRow hBlk hRd hRdr wrP hDk hWl Fn FnD hMarks

structure WM.ok (W : WM) : Prop where
  area : W.area ≤ 1000
  fin : W.fin ≤ W.area
  turn : W.turn < 4294967296
  len : W.list.length ≤ W.fin
  bs : ∀ b ∈ W.list, Bs b ∧ b.length ≤ 40000
  ne : 1 ≤ W.list.length
theorem fromN_le (t a : Nat) (ha : a ≤ 1000) : fromN t a ≤ 1002 := by
  unfold fromN
  have h2 : t % 2 < 2 := Nat.mod_lt _ (by decide)
  generalize t % 2 = m at h2
  rcases (by omega : m = 0 ∨ m = 1) with rfl | rfl <;> omega
section
variable {H : List HP} {w0 w : World} {m : Nat}
set_option maxHeartbeats 8000000
theorem kready (gw : Nat) (p : Value) (ar tu fi : Int) (l : Value) (br : Bool) (A : Option Addr) (n c : Nat) (hn : n ≤ 9223372036854775807) (hS : St w0 w (hBlk gw 89 [p, .int .i64 ar, .int .u32 tu, l, .int .i64 fi, .bool br] :: H)) :
    Fn Try.prog 50 [.pointer (some ⟨gw, 0, none⟩), .slice A n c] w fun v w' => v = .int .i64 (if 40000 < n then 3 else if br then 8 else 0) ∧ St w0 w' (hBlk gw 89 [p, .int .i64 ar, .int .u32 tu, l, .int .i64 fi, .bool br] :: H) := by
  refine enter 17 Try.func50 rfl rfl rfl ?_
  intro a hE
  by_cases h : 40000 < n
  · rw [if_pos h]
    repeat' (first

      | (with_reducible refine wp_seq ?_)
      | (with_reducible refine c_region ?_)
      | (with_reducible refine wpList_nil ?_)
      | (with_reducible refine then_normal ?_)
      | (with_reducible refine wp_ret ?_)
      | (with_reducible refine then_ret ?_)
      | (with_reducible refine wp_block ?_)
      | (with_reducible refine block_ret ?_)
      | ((with_reducible refine g_move ?_); refine s_move hE rfl rfl ?_; clear hE a; intro a hE)
      | ((with_reducible refine g_assign ?_); refine s_assign hE rfl rfl ?_; clear hE a; intro a hE)
      | ((with_reducible refine g_bin .gtr ?_); refine s_gtr hE rfl rfl rfl ?_; clear hE a; intro a hE)
      | ((with_reducible refine g_blt .len ?_); refine s_len hE rfl rfl ?_; clear hE a; intro a hE)
      | ((with_reducible refine g_cond ?_); refine c_false hE rfl ?_)
      | ((with_reducible refine g_cond ?_); refine c_dec hE rfl (fun hc => ?_) (fun hc => ?_) <;> try omega)
      | ((with_reducible refine g_bin .eql ?_); refine s_val hE rfl rfl rfl (r_eqp hE rfl rfl) ?_; clear hE a; intro a hE)
      )
    exact ret1 hE rfl rfl ⟨rfl, hS⟩
  · rw [if_neg h]
    cases br
    · repeat' (first

        | (with_reducible refine wp_seq ?_)
        | (with_reducible refine c_region ?_)
        | (with_reducible refine wpList_nil ?_)
        | (with_reducible refine then_normal ?_)
        | (with_reducible refine wp_skip ?_)
        | (with_reducible refine wp_ret ?_)
        | (with_reducible refine wp_block ?_)
        | (with_reducible refine block_normal ?_)
        | ((with_reducible refine g_move ?_); refine s_move hE rfl rfl ?_; clear hE a; intro a hE)
        | ((with_reducible refine g_assign ?_); refine s_assign hE rfl rfl ?_; clear hE a; intro a hE)
        | ((with_reducible refine g_bin .gtr ?_); refine s_gtr hE rfl rfl rfl ?_; clear hE a; intro a hE)
        | ((with_reducible refine g_blt .len ?_); refine s_len hE rfl rfl ?_; clear hE a; intro a hE)
        | ((with_reducible refine g_fa ?_); refine s_fieldL hE rfl rfl rfl ?_; clear hE a; intro a hE)
        | ((with_reducible refine g_nc ?_); refine s_nilCheck hE rfl rfl ?_; clear hE a; intro a hE)
        | ((with_reducible refine g_cond ?_); refine c_false hE rfl ?_)
        | ((with_reducible refine g_cond ?_); refine c_dec hE rfl (fun hc => ?_) (fun hc => ?_) <;> try omega)
        | ((with_reducible refine g_load ?_); (first | (refine s_loadB (k := 0) hS hE rfl rfl rfl rfl ?_) ); clear hE a; intro a hE)
        | ((with_reducible refine g_bin .eql ?_); refine s_val hE rfl rfl rfl (r_eqp hE rfl rfl) ?_; clear hE a; intro a hE)
        )
      exact ret1 hE rfl rfl ⟨rfl, hS⟩
    · repeat' (first

        | (with_reducible refine wp_seq ?_)
        | (with_reducible refine c_region ?_)
        | (with_reducible refine wpList_nil ?_)
        | (with_reducible refine then_normal ?_)
        | (with_reducible refine wp_ret ?_)
        | (with_reducible refine then_ret ?_)
        | (with_reducible refine wp_block ?_)
        | (with_reducible refine block_ret ?_)
        | ((with_reducible refine g_move ?_); refine s_move hE rfl rfl ?_; clear hE a; intro a hE)
        | ((with_reducible refine g_assign ?_); refine s_assign hE rfl rfl ?_; clear hE a; intro a hE)
        | ((with_reducible refine g_bin .gtr ?_); refine s_gtr hE rfl rfl rfl ?_; clear hE a; intro a hE)
        | ((with_reducible refine g_blt .len ?_); refine s_len hE rfl rfl ?_; clear hE a; intro a hE)
        | ((with_reducible refine g_fa ?_); refine s_fieldL hE rfl rfl rfl ?_; clear hE a; intro a hE)
        | ((with_reducible refine g_nc ?_); refine s_nilCheck hE rfl rfl ?_; clear hE a; intro a hE)
        | ((with_reducible refine g_cond ?_); refine c_true hE rfl ?_)
        | ((with_reducible refine g_cond ?_); refine c_false hE rfl ?_)
        | ((with_reducible refine g_cond ?_); refine c_dec hE rfl (fun hc => ?_) (fun hc => ?_) <;> try omega)
        | ((with_reducible refine g_load ?_); (first | (refine s_loadB (k := 0) hS hE rfl rfl rfl rfl ?_) ); clear hE a; intro a hE)
        | ((with_reducible refine g_bin .eql ?_); refine s_val hE rfl rfl rfl (r_eqp hE rfl rfl) ?_; clear hE a; intro a hE)
        )
      exact ret1 hE rfl rfl ⟨rfl, hS⟩
theorem append1 (g4 g2 gw : Nat) (e : Int) (p : Value) (ar tu fi : Int) (l : Value) (br : Bool) (hS : St w0 w (hBlk g4 41 [.int .i64 e] :: hBlk g2 26 [.pointer (some ⟨gw, 0, none⟩)] :: hBlk gw 89 [p, .int .i64 ar, .int .u32 tu, l, .int .i64 fi, .bool br] :: H)) :
    FnD Try.prog 56 [.pointer (some ⟨g4, 0, none⟩), .pointer (some ⟨g2, 0, none⟩)] w fun _ w' => St w0 w' (hBlk g4 41 [.int .i64 e] :: hBlk g2 26 [.pointer (some ⟨gw, 0, none⟩)] :: hBlk gw 89 [p, .int .i64 ar, .int .u32 tu, l, .int .i64 fi, .bool (decide (e ≠ 0))] :: H) := by
  refine enterD 7 Try.func56 rfl rfl rfl ?_
  intro a hE
  repeat' (first

    | (with_reducible refine wpList_nil ?_)
    | ((with_reducible refine ig_region ?_); refine i_region rfl (fun _ _ h => h) ?_)
    | ((with_reducible refine g_bin .neq ?_); refine s_neq hE rfl rfl rfl ?_; clear hE a; intro a hE)
    | ((with_reducible refine g_fa ?_); refine s_fieldL hE rfl rfl rfl ?_; clear hE a; intro a hE)
    | ((with_reducible refine g_nc ?_); refine s_nilCheck hE rfl rfl ?_; clear hE a; intro a hE)
    | ((with_reducible refine g_load ?_); (first | (refine s_loadB (k := 0) hS hE rfl rfl rfl rfl ?_) | (refine s_loadB (k := 1) hS hE rfl rfl rfl rfl ?_) ); clear hE a; intro a hE)
    | ((with_reducible refine g_store ?_); (first | (refine s_storeB (k := 2) hS hE rfl rfl rfl rfl rfl rfl ?_) ); clear hS; intro w hS; simp only [List.set_cons_zero, List.set_cons_succ, Nat.add_zero] at hS)
    )
  exact ⟨rfl, end0 hE rfl hS⟩
theorem check1 (g4 g2 gw : Nat) (e : Int) (p : Value) (ar tu fi : Int) (l : Value) (br : Bool) (hS : St w0 w (hBlk g4 41 [.int .i64 e] :: hBlk g2 26 [.pointer (some ⟨gw, 0, none⟩)] :: hBlk gw 89 [p, .int .i64 ar, .int .u32 tu, l, .int .i64 fi, .bool br] :: H)) :
    FnD Try.prog 51 [.pointer (some ⟨g4, 0, none⟩), .pointer (some ⟨g2, 0, none⟩)] w fun _ w' => St w0 w' (hBlk g4 41 [.int .i64 e] :: hBlk g2 26 [.pointer (some ⟨gw, 0, none⟩)] :: hBlk gw 89 [p, .int .i64 ar, .int .u32 tu, l, .int .i64 fi, .bool (decide (e ≠ 0))] :: H) := by
  refine enterD 7 Try.func51 rfl rfl rfl ?_
  intro a hE
  repeat' (first

    | (with_reducible refine wpList_nil ?_)
    | ((with_reducible refine ig_region ?_); refine i_region rfl (fun _ _ h => h) ?_)
    | ((with_reducible refine g_bin .neq ?_); refine s_neq hE rfl rfl rfl ?_; clear hE a; intro a hE)
    | ((with_reducible refine g_fa ?_); refine s_fieldL hE rfl rfl rfl ?_; clear hE a; intro a hE)
    | ((with_reducible refine g_nc ?_); refine s_nilCheck hE rfl rfl ?_; clear hE a; intro a hE)
    | ((with_reducible refine g_load ?_); (first | (refine s_loadB (k := 0) hS hE rfl rfl rfl rfl ?_) | (refine s_loadB (k := 1) hS hE rfl rfl rfl rfl ?_) ); clear hE a; intro a hE)
    | ((with_reducible refine g_store ?_); (first | (refine s_storeB (k := 2) hS hE rfl rfl rfl rfl rfl rfl ?_) ); clear hS; intro w hS; simp only [List.set_cons_zero, List.set_cons_succ, Nat.add_zero] at hS)
    )
  exact ⟨rfl, end0 hE rfl hS⟩
theorem kapp (gw gd : Nat) (W : WM) (D : DM) (b : List Nat) (A : Option Addr) (c : Nat) (hW : W.ok) (hb : Bs b) (hl : b.length ≤ 140737488351232) (hr : ∀ w' L, St w0 w' (L ++ H) → Rd w' A (bys b)) (hD : D.atN m) (hm : m ≤ 80000) (hS : St w0 w (hWl gw gd W :: hDk gd D :: H)) :
    Fn Try.prog 20 [.pointer (some ⟨gw, 0, none⟩), .slice A b.length c] w fun v w' => v = .int .i64 (W.app D b).2.2 ∧ St w0 w' (hWl gw gd (W.app D b).1 :: hDk gd (W.app D b).2.1 :: H) := by
  obtain ⟨w1, w2, w3, w4, w5, w6⟩ := hW
  obtain ⟨A1, c1, sls, hsl, hS⟩ := hWl_open hS
  have hsll : sls.length = W.list.length := by rw [← hsl, List.length_map]
  have hfr := fromN_le W.turn W.area w1
  refine enterI 80 Try.func20 rfl rfl rfl ?_
  intro a hE
  refine i_seq ?_
  refine i_region rfl (fun _ _ h => h) ?_
  refine s_box1 hE hS rfl rfl rfl ?_
  clear hE a hS; intro g2 a w hE hS
  repeat' (first

    | (with_reducible refine wpList_nil ?_)
    | (with_reducible refine then_normal ?_)
    | (with_reducible refine i_seq ?_)
    | ((with_reducible refine ig_region ?_); refine i_region rfl (fun _ _ h => h) ?_)
    | ((with_reducible refine g_move ?_); refine s_move hE rfl rfl ?_; clear hE a; intro a hE)
    | ((with_reducible refine g_load ?_); (first | (refine s_loadB (k := 1) hS hE rfl rfl rfl rfl ?_) ); clear hE a; intro a hE)
    | ((with_reducible refine g_alloc ?_); refine s_alloc1 hE hS rfl rfl ?_; clear hE a hS; intro g a w hE hS)
    )
  obtain ⟨g4, rfl⟩ : ∃ x, x = g := ⟨_, rfl⟩
  have hrd : ∀ w, (∃ L, St w0 w (L ++ H)) → Rd w A (bys b) := fun w ⟨L, h⟩ => hr w L h
  refine s_call hE rfl rfl rfl (kready gw _ _ _ _ _ _ A b.length c (by omega) (hS.focus (k := 2) rfl)) ?_
  rintro _ w ⟨rfl, hS⟩; clear hE a; intro a hE
  simp only [List.eraseIdx_cons_succ, List.eraseIdx_cons_zero] at hS
  by_cases hre : W.readyE b.length ≠ 0
  · have hf : W.app D b = (W, D, W.readyE b.length) := if_pos hre
    rw [hf]
    unfold WM.readyE at hre ⊢
    generalize (if 40000 < b.length then (3 : Int) else if W.broken then 8 else 0) = e at hE hre ⊢
    repeat' (first

      | (with_reducible refine wpList_nil ?_)
      | (with_reducible refine then_normal ?_)
      | (with_reducible refine then_ret ?_)
      | (with_reducible refine i_seq ?_)
      | (with_reducible refine i_ret ?_)
      | ((with_reducible refine ig_region ?_); refine i_region rfl (fun _ _ h => h) ?_)
      | ((with_reducible refine ig_cond ?_); refine i_dec hE rfl (fun hc => ?_) (fun hc => ?_) <;> try omega)
      | ((with_reducible refine g_move ?_); refine s_move hE rfl rfl ?_; clear hE a; intro a hE)
      | ((with_reducible refine g_assign ?_); refine s_assign hE rfl rfl ?_; clear hE a; intro a hE)
      | ((with_reducible refine g_bin .neq ?_); refine s_neq hE rfl rfl rfl ?_; clear hE a; intro a hE)
      | ((with_reducible refine g_store ?_); (first | (refine s_storeB (k := 1) hS hE rfl rfl rfl rfl rfl rfl ?_) ); clear hS; intro w hS; simp only [List.set_cons_zero, List.set_cons_succ, Nat.add_zero] at hS)
      )
    refine im_retG (vs := [_]) hE [] hS.marks0 rfl fun w' hS' => ⟨⟨⟨_, rfl, res_1 (k := 1) hS' rfl⟩, trivial⟩, rfl, ?_⟩
    exact hWl_close hsl ((hS'.drop 1).drop 1)
  · have hbn : b.length ≤ 40000 ∧ W.broken = false := by
      unfold WM.readyE at hre
      by_cases h1 : 40000 < b.length
      · rw [if_pos h1] at hre
        exact absurd (by decide : (3 : Int) ≠ 0) hre
      · rw [if_neg h1] at hre
        cases hb : W.broken
        · exact ⟨by omega, rfl⟩
        · rw [hb] at hre
          exact absurd (by decide : (8 : Int) ≠ 0) hre
    have hre2 : (if 40000 < b.length then (3 : Int) else if W.broken then 8 else 0) = 0 := by
      rw [if_neg (by omega), hbn.2]
      rfl
    rw [hre2] at hE
    have hf : W.app D b = (if W.area < W.fin + secN b.length then (W, D, 6) else
        let r := D.wrs ((fromN W.turn W.area + W.fin : Nat) : Int) (partsB W.turn W.list.length b)
        if r.2 = 0 then ({ W with list := W.list ++ [b], fin := W.fin + secN b.length, broken := false }, r.1, 0) else ({ W with broken := true }, r.1, r.2)) := if_neg hre
    rw [hf, ← hsll]
    clear hf
    have hsl2 := secN_le b.length
    repeat' (first

      | (with_reducible refine wpList_nil ?_)
      | (with_reducible refine then_normal ?_)
      | (with_reducible refine i_seq ?_)
      | (with_reducible refine i_skip ?_)
      | ((with_reducible refine ig_region ?_); refine i_region rfl (fun _ _ h => h) ?_)
      | ((with_reducible refine ig_cond ?_); refine i_false hE rfl ?_)
      | ((with_reducible refine g_move ?_); refine s_move hE rfl rfl ?_; clear hE a; intro a hE)
      | ((with_reducible refine g_assign ?_); refine s_assign hE rfl rfl ?_; clear hE a; intro a hE)
      | ((with_reducible refine g_bin .neq ?_); refine s_neq hE rfl rfl rfl ?_; clear hE a; intro a hE)
      | ((with_reducible refine g_blt .len ?_); refine s_len hE rfl rfl ?_; clear hE a; intro a hE)
      )
    refine s_call hE rfl rfl rfl (sectors b.length w) ?_
    rintro _ w ⟨rfl, hS1⟩; clear hE a; intro a hE; replace hS := hS.frame hS1; clear hS1; try simp only [List.cons_append, List.nil_append] at hS
    repeat' (first

      | (with_reducible refine wpList_nil ?_)
      | (with_reducible refine then_normal ?_)
      | (with_reducible refine i_seq ?_)
      | ((with_reducible refine g_assign ?_); refine s_assign hE rfl rfl ?_; clear hE a; intro a hE)
      )
    refine i_ordS hS 11 ((.rd 0 (.rd 1 (.rd 2 (.rd 3 (.rd 4 (.rd 5 (.rd 6 (.rd 7 (.rd 8 (.rd 9 (.rd 10 .done)))))))))))) mixed (by decide +kernel) (by decide +kernel) ?_
    clear hS; intro w hS
    repeat' (first
      | (with_reducible refine o_rd rfl ?_)
      | (with_reducible refine o_done ?_)
      | ((with_reducible refine q_move ?_); refine d_val hE hS rfl (fun w hS => r_move hE rfl) ?_; clear hE a; intro a hE)
      | ((with_reducible refine q_bin .gtr ?_); refine d_val hE hS rfl (fun w hS => r_gtr hE rfl rfl) ?_; clear hE a; intro a hE)
      | ((with_reducible refine q_bin .sub ?_); refine d_val hE hS rfl (fun w hS => r_sub hE rfl rfl (by first  | exact subN (by omega) (by omega) )) ?_; clear hE a; intro a hE)
      | ((with_reducible refine q_fa ?_); refine d_val hE hS rfl (fun w hS => r_fieldL hE rfl rfl) ?_; clear hE a; intro a hE)
      | ((with_reducible refine q_nc ?_); refine d_val hE hS rfl (fun w hS => r_nilCheck hE rfl) ?_; clear hE a; intro a hE)
      | ((with_reducible refine q_load ?_); (first | (refine d_val hE hS rfl (fun w hS => r_loadB (k := 0) hS hE rfl rfl rfl) ?_) | (refine d_val hE hS rfl (fun w hS => r_loadB (k := 2) hS hE rfl rfl rfl) ?_) ); clear hE a; intro a hE)
      )
    by_cases hfull : W.area < W.fin + secN b.length
    · rw [if_pos hfull]
      repeat' (first

        | (with_reducible refine wpList_nil ?_)
        | (with_reducible refine then_normal ?_)
        | (with_reducible refine then_ret ?_)
        | (with_reducible refine i_seq ?_)
        | (with_reducible refine i_ret ?_)
        | ((with_reducible refine ig_region ?_); refine i_region rfl (fun _ _ h => h) ?_)
        | ((with_reducible refine ig_cond ?_); refine i_dec hE rfl (fun hc => ?_) (fun hc => ?_) <;> try omega)
        | ((with_reducible refine g_store ?_); (first | (refine s_storeB (k := 1) hS hE rfl rfl rfl rfl rfl rfl ?_) ); clear hS; intro w hS; simp only [List.set_cons_zero, List.set_cons_succ, Nat.add_zero] at hS)
        )
      refine im_retG (vs := [_]) hE [] hS.marks0 rfl fun w' hS' => ⟨⟨⟨_, rfl, res_1 (k := 1) hS' rfl⟩, trivial⟩, rfl, ?_⟩
      exact hWl_close hsl ((hS'.drop 1).drop 1)
    · rw [if_neg hfull]
      repeat' (first

        | (with_reducible refine then_normal ?_)
        | (with_reducible refine i_seq ?_)
        | (with_reducible refine i_skip ?_)
        | ((with_reducible refine ig_cond ?_); refine i_dec hE rfl (fun hc => ?_) (fun hc => ?_) <;> try omega)
        )
      refine i_regionD (f := 56) (cap := #[.pointer (some ⟨g4, 0, none⟩), .pointer (some ⟨g2, 0, none⟩)]) [_] rfl rfl ?_
      refine s_val hE rfl rfl rfl (r_func (first := []) hE rfl rfl) ?_
      clear hE a; intro a hE
      refine wpList_nil ⟨rfl, _, _, hE, rfl, ?_⟩
      repeat' (first

        | (with_reducible refine then_normal ?_)
        | (with_reducible refine i_seq ?_)
        )
      refine i_ordH [hBlk g2 26 [.pointer (some ⟨gw, 0, none⟩)], hBlk gw 89 [.pointer (some ⟨gd, 0, none⟩), .int .i64 (W.area : Int), .int .u32 (W.turn : Int), .slice A1 sls.length c1, .int .i64 (W.fin : Int), .bool W.broken]] hS (fun u hu => hu.only2 0 1 rfl rfl) 30 ((.rd 0 (.rd 1 (.rd 2 (.rd 3 (.rd 4 (.rd 5 (.rd 6 (.rd 7 (.rd 8 (.rd 9 (.rd 10 (.rd 11 (.rd 13 (.rd 14 (.rd 15 (.rd 16 (.rd 18 (.rd 19 (.rd 20 (.rd 21 (.rd 22 (.rd 23 (.rd 24 (.rd 25 (.rd 26 (.rd 27 (.rd 28 (.ef 12 (.rd 17 (.ef 29 (.lt 30 .done)))))))))))))))))))))))))))))))) mixed (by decide +kernel) (by decide +kernel) ?_
      clear hS; intro w hF hS
      repeat' (first
        | (with_reducible refine o_rd rfl ?_)
        | ((with_reducible refine q_move ?_); refine d_val hE hS rfl (fun w hS => r_move hE rfl) ?_; clear hE a; intro a hE)
        | ((with_reducible refine q_conv ?_); refine d_val hE hS rfl (fun w hS => r_conv hE rfl (by first  | exact wrap_u32_in (by omega) )) ?_; clear hE a; intro a hE)
        | ((with_reducible refine q_blt .len ?_); refine d_val hE hS rfl (fun w hS => r_len hE rfl) ?_; clear hE a; intro a hE)
        | ((with_reducible refine q_fa ?_); refine d_val hE hS rfl (fun w hS => r_fieldL hE rfl rfl) ?_; clear hE a; intro a hE)
        | ((with_reducible refine q_nc ?_); refine d_val hE hS rfl (fun w hS => r_nilCheck hE rfl) ?_; clear hE a; intro a hE)
        | ((with_reducible refine q_load ?_); (first | (refine d_val hE hS rfl (fun w hS => r_loadB (k := 0) hS hE rfl rfl rfl) ?_) | (refine d_val hE hS rfl (fun w hS => r_loadB (k := 1) hS hE rfl rfl rfl) ?_) ); clear hE a; intro a hE)
        | ((with_reducible refine o_ef rfl ?_))
        )
      clear hS; have hS := hF; clear hF
      refine s_call hE rfl rfl rfl (from_ W.turn W.area w3 w1 w) ?_
      rintro _ w ⟨rfl, hS1⟩; clear hE a; intro a hE; replace hS := hS.frame hS1; clear hS1; try simp only [List.cons_append, List.nil_append] at hS
      refine wpList_nil ?_
      have hF := hS; clear hS
      have hS := hF.only2 0 1 rfl rfl
      refine o_back _ (fun _ h => h) hS ?_
      repeat' (first
        | (with_reducible refine o_rd rfl ?_)
        | ((with_reducible refine q_bin .add ?_); refine d_val hE hS rfl (fun w hS => r_add hE rfl rfl (by first  | exact addN (by omega) )) ?_; clear hE a; intro a hE)
        | ((with_reducible refine o_ef rfl ?_))
        )
      clear hS; have hS := hF; clear hF
      refine s_call hE rfl rfl rfl (klay (fromN W.turn W.area + W.fin) W.turn sls.length w3 (by omega) (by omega) b A c hb hbn.1 (fun w' L h => hr w' (L ++ [_, _, _, _, _]) (by rw [List.append_assoc]; exact h)) hD hm (hS.focus (k := 5) rfl)) ?_
      rintro _ w ⟨rfl, hS⟩; clear hE a; intro a hE
      simp only [List.eraseIdx_cons_succ, List.eraseIdx_cons_zero] at hS
      dsimp only
      generalize D.wrs ((fromN W.turn W.area + W.fin : Nat) : Int) (partsB W.turn sls.length b) = r at hE hS ⊢
      obtain ⟨D1, e⟩ := r
      dsimp only at hE hS ⊢
      refine wpList_nil ?_
      have hF := hS; clear hS
      have hS := hF.only2 1 2 rfl rfl
      refine o_back _ (fun _ h => h) hS ?_
      repeat' (first
        | ((with_reducible refine o_lt rfl ?_))
        )
      clear hS; have hS := hF; clear hF
      repeat' (first

        | (with_reducible refine wpList_nil ?_)
        | ((with_reducible refine g_store ?_); (first | (refine s_storeB (k := 2) hS hE rfl rfl rfl rfl rfl rfl ?_) ); clear hS; intro w hS; simp only [List.set_cons_zero, List.set_cons_succ, Nat.add_zero] at hS)
        )
      refine o_backL ?_
      repeat' (first
        | (with_reducible refine o_done ?_)
        )
      by_cases he : e = 0
      · subst he
        rw [if_pos rfl]
        repeat' (first

          | (with_reducible refine wpList_nil ?_)
          | (with_reducible refine then_normal ?_)
          | (with_reducible refine i_seq ?_)
          | ((with_reducible refine ig_region ?_); refine i_region rfl (fun _ _ h => h) ?_)
          | ((with_reducible refine ig_cond ?_); refine i_true hE rfl ?_)
          | ((with_reducible refine g_bin .eql ?_); refine s_eql hE rfl rfl rfl ?_; clear hE a; intro a hE)
          | ((with_reducible refine g_load ?_); (first | (refine s_loadB (k := 2) hS hE rfl rfl rfl rfl ?_) ); clear hE a; intro a hE)
          )
        refine i_ordH [hBlk g2 26 [.pointer (some ⟨gw, 0, none⟩)], hBlk gw 89 [.pointer (some ⟨gd, 0, none⟩), .int .i64 (W.area : Int), .int .u32 (W.turn : Int), .slice A1 sls.length c1, .int .i64 (W.fin : Int), .bool W.broken]] hS (fun u hu => hu.only2 1 2 rfl rfl) 9 ((.rd 0 (.rd 1 (.rd 2 (.rd 3 (.rd 4 (.rd 5 (.ef 6 (.ef 7 (.ef 8 (.lt 9 (.lt 10 (.lt 11 .done))))))))))))) mixed (by decide +kernel) (by decide +kernel) ?_
        clear hS; intro w hF hS
        repeat' (first
          | (with_reducible refine o_rd rfl ?_)
          | ((with_reducible refine q_move ?_); refine d_val hE hS rfl (fun w hS => r_move hE rfl) ?_; clear hE a; intro a hE)
          | ((with_reducible refine q_fa ?_); refine d_val hE hS rfl (fun w hS => r_fieldL hE rfl rfl) ?_; clear hE a; intro a hE)
          | ((with_reducible refine q_nc ?_); refine d_val hE hS rfl (fun w hS => r_nilCheck hE rfl) ?_; clear hE a; intro a hE)
          | ((with_reducible refine q_load ?_); (first | (refine d_val hE hS rfl (fun w hS => r_loadB (k := 0) hS hE rfl rfl rfl) ?_) | (refine d_val hE hS rfl (fun w hS => r_loadB (k := 1) hS hE rfl rfl rfl) ?_) ); clear hE a; intro a hE)
          | ((with_reducible refine o_ef rfl ?_))
          )
        clear hS; have hS := hF; clear hF
        refine s_call hE rfl rfl rfl (bclone A c b w (hr w [_, _, _, _, _, _] hS) (by omega)) ?_
        rintro _ w ⟨A2, c2, rfl, hS1⟩; clear hE a; intro a hE; replace hS := hS.frame hS1; clear hS1; try simp only [List.cons_append, List.nil_append] at hS
        refine wpList_nil ?_
        have hF := hS; clear hS
        have hS := hF.only2 2 3 rfl rfl
        refine o_back _ (fun _ h => h) hS ?_
        repeat' (first
          | ((with_reducible refine o_ef rfl ?_))
          )
        clear hS; have hS := hF; clear hF
        refine s_lit (parts := [(0, _)]) (cs := [_]) hE hS rfl rfl rfl rfl rfl (fun v hv => by cases hv with | head => rfl | tail _ h => cases h) rfl ?_
        clear hS hE a; intro g7 a w hE hS
        refine wpList_nil ?_
        have hF := hS; clear hS
        have hS := hF.only2 3 4 rfl rfl
        refine o_back _ (fun _ h => h) hS ?_
        repeat' (first
          | ((with_reducible refine o_ef rfl ?_))
          )
        clear hS; have hS := hF; clear hF
        refine s_appendAt (k := 6) hE hS rfl rfl rfl hS.rd rfl (fun v hv => by cases hv with | head => rfl | tail _ h => cases h) (by omega) rfl rfl rfl rfl ?_
        clear hS hE a; intro A3 c3 a w hE hS
        simp only [List.set_cons_zero, List.set_cons_succ] at hS
        refine wpList_nil ?_
        have hF := hS; clear hS
        have hS := hF.only2 3 4 rfl rfl
        refine o_back _ (fun _ h => h) hS ?_
        repeat' (first
          | ((with_reducible refine o_lt rfl ?_))
          )
        clear hS; have hS := hF; clear hF
        repeat' (first

          | (with_reducible refine wpList_nil ?_)
          | ((with_reducible refine g_nc ?_); refine s_nilCheck hE rfl rfl ?_; clear hE a; intro a hE)
          )
        refine o_backL ?_
        repeat' (first
          | ((with_reducible refine o_lt rfl ?_))
          )
        repeat' (first

          | (with_reducible refine wpList_nil ?_)
          | ((with_reducible refine g_fa ?_); refine s_fieldL hE rfl rfl rfl ?_; clear hE a; intro a hE)
          )
        refine o_backL ?_
        repeat' (first
          | ((with_reducible refine o_lt rfl ?_))
          )
        repeat' (first

          | (with_reducible refine wpList_nil ?_)
          | ((with_reducible refine g_store ?_); (first | (refine s_storeB (k := 3) hS hE rfl rfl rfl rfl rfl rfl ?_) ); clear hS; intro w hS; simp only [List.set_cons_zero, List.set_cons_succ, Nat.add_zero] at hS)
          )
        refine o_backL ?_
        repeat' (first
          | (with_reducible refine o_done ?_)
          )
        repeat' (first

          | (with_reducible refine wpList_nil ?_)
          | (with_reducible refine then_normal ?_)
          | (with_reducible refine i_seq ?_)
          | (with_reducible refine i_ret ?_)
          | ((with_reducible refine ig_region ?_); refine i_region rfl (fun _ _ h => h) ?_)
          | ((with_reducible refine g_move ?_); refine s_move hE rfl rfl ?_; clear hE a; intro a hE)
          | ((with_reducible refine g_bin .add ?_); refine s_add hE rfl rfl rfl (by first  | exact addN (by omega) ) ?_; clear hE a; intro a hE)
          | ((with_reducible refine g_fa ?_); refine s_fieldL hE rfl rfl rfl ?_; clear hE a; intro a hE)
          | ((with_reducible refine g_nc ?_); refine s_nilCheck hE rfl rfl ?_; clear hE a; intro a hE)
          | ((with_reducible refine g_load ?_); (first | (refine s_loadB (k := 3) hS hE rfl rfl rfl rfl ?_) | (refine s_loadB (k := 4) hS hE rfl rfl rfl rfl ?_) | (refine s_loadB (k := 5) hS hE rfl rfl rfl rfl ?_) ); clear hE a; intro a hE)
          | ((with_reducible refine g_store ?_); (first | (refine s_storeB (k := 3) hS hE rfl rfl rfl rfl rfl rfl ?_) | (refine s_storeB (k := 4) hS hE rfl rfl rfl rfl rfl rfl ?_) ); clear hS; intro w hS; simp only [List.set_cons_zero, List.set_cons_succ, Nat.add_zero] at hS)
          )
        have hS2 : St w0 w (hBlk g4 41 [.int .i64 0] :: hBlk g2 26 [.pointer (some ⟨gw, 0, none⟩)] :: hBlk gw 89 [.pointer (some ⟨gd, 0, none⟩), .int .i64 (W.area : Int), .int .u32 (W.turn : Int), .slice A3 (sls.length + 1) c3, .int .i64 ((W.fin + secN b.length : Nat) : Int), .bool W.broken] :: hRow 34 1 A3 (sls.length + 1) c3 (sls.map Sl.v ++ [.slice A2 b.length c2]) :: wrP (sls ++ [⟨A2, c2, b⟩]) :: hDk gd D1 :: H) := by
          have h1 := (St.selD [1, 6, 1, 1, 1, 1, 1] 1 hS)
          exact (St.selD [3, 3, 2, 2, 0, 0] 0 (wrP_add (s := ⟨A2, c2, b⟩) h1))
        refine ret_defer (vs := [.int .i64 0]) (f := 56) (cap := [.pointer (some ⟨g4, 0, none⟩), .pointer (some ⟨g2, 0, none⟩)]) hE rfl ?_
        refine FnD.mono (append1 g4 g2 gw 0 _ _ _ _ _ _ hS2) fun v w' h => ⟨⟨⟨_, rfl, res_1 (k := 0) h rfl⟩, trivial⟩, rfl, ?_⟩
        refine hWl_close (W := { W with list := W.list ++ [b], fin := W.fin + secN b.length, broken := false }) (sls := sls ++ [⟨A2, c2, b⟩]) (A := A3) (c := c3) ?_ ?_
        · show (sls ++ [_]).map Sl.b = W.list ++ [b]
          rw [List.map_append, hsl]
          rfl
        · rw [List.length_append, List.map_append]
          exact (St.selD [2, 2, 2, 2] 2 h)
      · rw [if_neg he]
        repeat' (first

          | (with_reducible refine wpList_nil ?_)
          | (with_reducible refine then_normal ?_)
          | (with_reducible refine i_seq ?_)
          | (with_reducible refine i_skip ?_)
          | (with_reducible refine i_ret ?_)
          | ((with_reducible refine ig_region ?_); refine i_region rfl (fun _ _ h => h) ?_)
          | ((with_reducible refine ig_cond ?_); refine i_dec hE rfl (fun hc => ?_) (fun hc => ?_) <;> try omega)
          | ((with_reducible refine g_bin .eql ?_); refine s_eql hE rfl rfl rfl ?_; clear hE a; intro a hE)
          | ((with_reducible refine g_load ?_); (first | (refine s_loadB (k := 2) hS hE rfl rfl rfl rfl ?_) ); clear hE a; intro a hE)
          | ((with_reducible refine g_store ?_); (first | (refine s_storeB (k := 2) hS hE rfl rfl rfl rfl rfl rfl ?_) ); clear hS; intro w hS; simp only [List.set_cons_zero, List.set_cons_succ, Nat.add_zero] at hS)
          )
        have hS2 := (St.selD [2, 2, 1, 1, 1, 0] 0 hS)
        refine ret_defer (vs := [.int .i64 e]) (f := 56) (cap := [.pointer (some ⟨g4, 0, none⟩), .pointer (some ⟨g2, 0, none⟩)]) hE rfl ?_
        refine FnD.mono (append1 g4 g2 gw e _ _ _ _ _ _ hS2) fun v w' h => ⟨⟨⟨_, rfl, res_1 (k := 0) h rfl⟩, trivial⟩, rfl, ?_⟩
        rw [decide_eq_true he] at h
        exact hWl_close (W := { W with broken := true }) hsl (St.selD [2, 2, 2, 2] 2 h)
end
end Go.Proofs.Ytfoeelghehjanaa
