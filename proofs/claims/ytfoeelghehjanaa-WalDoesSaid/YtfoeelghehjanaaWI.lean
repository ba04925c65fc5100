/-
  Contract: a log begins anew.
-/
import Derived.Test.YtfoeelghehjanaaWH
namespace Go.Proofs.Ytfoeelghehjanaa
open Go.RowKit
set_option linter.unusedVariables false
set_option linter.unusedSimpArgs false
attribute [local irreducible] Rd hRow hBlk hRd hRdr wrP hDk hWl Fn FnD hMarks
theorem wrs_atN {D : DM} {m t n : Nat} {b : List Nat} {at_ : Int} (hb : Bs b) (hl : b.length ≤ 40000) (hD : D.atN m) (hm : m ≤ 80000) : (D.wrs at_ (partsB t n b)).1.atN (m + 900) :=
  (wss_atN (l := atW at_ (partsB t n b)) hD (fun x hx => by
    rw [← fullP_cv] at hx
    obtain ⟨y, hy, rfl⟩ := List.mem_map.1 hx
    exact fullP_ok (t := t) (n := n) (b := b) hb hl y hy) (by rw [← fullP_cv, List.length_map, fullP_len]; have := secN_le b.length; omega)).mono (by rw [← fullP_cv, List.length_map, fullP_len]; have := secN_le b.length; omega)
section
variable {H : List HP} {w0 w : World} {m : Nat}
set_option maxHeartbeats 8000000
theorem kchk (gw gd : Nat) (W : WM) (D : DM) (b : List Nat) (A : Option Addr) (c : Nat) (hW : W.ok) (hb : Bs b) (hl : b.length ≤ 140737488351232) (hr : ∀ w' L, St w0 w' (L ++ H) → Rd w' A (bys b)) (hD : D.atN m) (hm : m ≤ 70000) (hS : St w0 w (hWl gw gd W :: hDk gd D :: H)) :
    Fn Try.prog 18 [.pointer (some ⟨gw, 0, none⟩), .slice A b.length c] w fun v w' => v = .int .i64 (W.chk D b).2.2 ∧ St w0 w' (hWl gw gd (W.chk D b).1 :: hDk gd (W.chk D b).2.1 :: H) := by
  obtain ⟨w1, w2, w3, w4, w5, w6⟩ := hW
  obtain ⟨A1, c1, sls, hsl, hS⟩ := hWl_open hS
  have hsll : sls.length = W.list.length := by rw [← hsl, List.length_map]
  have hfr := fromN_le W.turn W.area w1
  refine enterI 78 Try.func18 rfl rfl rfl ?_
  intro a hE
  refine i_seq ?_
  refine i_region rfl (fun _ _ h => h) ?_
  refine s_box1 hE hS rfl rfl rfl ?_
  clear hE a hS; intro g2 a w hE hS
  repeat' (first

    | (with_reducible refine wpList_nil ?_)
    | (with_reducible refine then_normal ?_)
    | (with_reducible refine i_seq ?_)
    | ((with_reducible refine ig_region ?_); refine i_region rfl (fun _ _ h => h) ?_)
    | ((with_reducible refine g_move ?_); refine s_move hE rfl rfl ?_; clear hE a; intro a hE)
    | ((with_reducible refine g_load ?_); (first | (refine s_loadB (k := 1) hS hE rfl rfl rfl rfl ?_) ); clear hE a; intro a hE)
    | ((with_reducible refine g_alloc ?_); refine s_alloc1 hE hS rfl rfl ?_; clear hE a hS; intro g a w hE hS)
    )
  obtain ⟨g4, rfl⟩ : ∃ x, x = g := ⟨_, rfl⟩
  have hrd : ∀ w, (∃ L, St w0 w (L ++ H)) → Rd w A (bys b) := fun w ⟨L, h⟩ => hr w L h
  refine s_call hE rfl rfl rfl (kready gw _ _ _ _ _ _ A b.length c (by omega) (hS.focus (k := 2) rfl)) ?_
  rintro _ w ⟨rfl, hS⟩; clear hE a; intro a hE
  simp only [List.eraseIdx_cons_succ, List.eraseIdx_cons_zero] at hS
  by_cases hre : W.readyE b.length ≠ 0
  · have hf : W.chk D b = (W, D, W.readyE b.length) := if_pos hre
    rw [hf]
    unfold WM.readyE at hre ⊢
    generalize (if 40000 < b.length then (3 : Int) else if W.broken then 8 else 0) = e at hE hre ⊢
    repeat' (first

      | (with_reducible refine wpList_nil ?_)
      | (with_reducible refine then_normal ?_)
      | (with_reducible refine then_ret ?_)
      | (with_reducible refine i_seq ?_)
      | (with_reducible refine i_ret ?_)
      | ((with_reducible refine ig_region ?_); refine i_region rfl (fun _ _ h => h) ?_)
      | ((with_reducible refine ig_cond ?_); refine i_dec hE rfl (fun hc => ?_) (fun hc => ?_) <;> try omega)
      | ((with_reducible refine g_move ?_); refine s_move hE rfl rfl ?_; clear hE a; intro a hE)
      | ((with_reducible refine g_assign ?_); refine s_assign hE rfl rfl ?_; clear hE a; intro a hE)
      | ((with_reducible refine g_bin .neq ?_); refine s_neq hE rfl rfl rfl ?_; clear hE a; intro a hE)
      | ((with_reducible refine g_store ?_); (first | (refine s_storeB (k := 1) hS hE rfl rfl rfl rfl rfl rfl ?_) ); clear hS; intro w hS; simp only [List.set_cons_zero, List.set_cons_succ, Nat.add_zero] at hS)
      )
    refine im_retG (vs := [_]) hE [] hS.marks0 rfl fun w' hS' => ⟨⟨⟨_, rfl, res_1 (k := 1) hS' rfl⟩, trivial⟩, rfl, ?_⟩
    exact hWl_close hsl ((hS'.drop 1).drop 1)
  · have hbn : b.length ≤ 40000 ∧ W.broken = false := by
      unfold WM.readyE at hre
      by_cases h1 : 40000 < b.length
      · rw [if_pos h1] at hre
        exact absurd (by decide : (3 : Int) ≠ 0) hre
      · rw [if_neg h1] at hre
        cases hb : W.broken
        · exact ⟨by omega, rfl⟩
        · rw [hb] at hre
          exact absurd (by decide : (8 : Int) ≠ 0) hre
    have hre2 : (if 40000 < b.length then (3 : Int) else if W.broken then 8 else 0) = 0 := by
      rw [if_neg (by omega), hbn.2]
      rfl
    rw [hre2] at hE
    have hf : W.chk D b = (if W.area < secN b.length ∨ W.turn = 4294967295 then (W, D, 6) else
        let r1 := D.wrs ((fromN (W.turn + 1) W.area : Nat) : Int) (partsB (W.turn + 1) 0 b)
        let r2 := if r1.2 = 0 then r1.1.wrs (((W.turn + 1) % 2 : Nat) : Int) [headB (W.turn + 1) W.area] else r1
        if r2.2 = 0 then ({ W with turn := W.turn + 1, list := [b], fin := secN b.length, broken := false }, r2.1, 0) else ({ W with broken := true }, r2.1, r2.2)) := if_neg hre
    rw [hf]
    clear hf
    have hsl2 := secN_le b.length
    repeat' (first

      | (with_reducible refine wpList_nil ?_)
      | (with_reducible refine then_normal ?_)
      | (with_reducible refine i_seq ?_)
      | (with_reducible refine i_skip ?_)
      | ((with_reducible refine ig_region ?_); refine i_region rfl (fun _ _ h => h) ?_)
      | ((with_reducible refine ig_cond ?_); refine i_false hE rfl ?_)
      | ((with_reducible refine g_move ?_); refine s_move hE rfl rfl ?_; clear hE a; intro a hE)
      | ((with_reducible refine g_assign ?_); refine s_assign hE rfl rfl ?_; clear hE a; intro a hE)
      | ((with_reducible refine g_bin .neq ?_); refine s_neq hE rfl rfl rfl ?_; clear hE a; intro a hE)
      | ((with_reducible refine g_blt .len ?_); refine s_len hE rfl rfl ?_; clear hE a; intro a hE)
      )
    refine s_call hE rfl rfl rfl (sectors b.length w) ?_
    rintro _ w ⟨rfl, hS1⟩; clear hE a; intro a hE; replace hS := hS.frame hS1; clear hS1; try simp only [List.cons_append, List.nil_append] at hS
    repeat' (first

      | (with_reducible refine wpList_nil ?_)
      | (with_reducible refine then_normal ?_)
      | (with_reducible refine then_ret ?_)
      | (with_reducible refine i_seq ?_)
      | (with_reducible refine i_skip ?_)
      | (with_reducible refine i_ret ?_)
      | ((with_reducible refine ig_region ?_); refine i_region rfl (fun _ _ h => h) ?_)
      | ((with_reducible refine ig_cond ?_); refine i_true hE rfl ?_)
      | ((with_reducible refine ig_cond ?_); refine i_dec hE rfl (fun hc => ?_) (fun hc => ?_) <;> try omega)
      | ((with_reducible refine g_move ?_); refine s_move hE rfl rfl ?_; clear hE a; intro a hE)
      | ((with_reducible refine g_assign ?_); refine s_assign hE rfl rfl ?_; clear hE a; intro a hE)
      | ((with_reducible refine g_bin .gtr ?_); refine s_gtr hE rfl rfl rfl ?_; clear hE a; intro a hE)
      | ((with_reducible refine g_bin .eql ?_); refine s_eql hE rfl rfl rfl ?_; clear hE a; intro a hE)
      | ((with_reducible refine g_fa ?_); refine s_fieldL hE rfl rfl rfl ?_; clear hE a; intro a hE)
      | ((with_reducible refine g_nc ?_); refine s_nilCheck hE rfl rfl ?_; clear hE a; intro a hE)
      | ((with_reducible refine g_guard ?_); refine gd_yes hE rfl rfl rfl ?_)
      | ((with_reducible refine g_guard ?_); refine gd_no hE rfl rfl rfl rfl ?_; clear hE a; intro a hE)
      | ((with_reducible refine g_guard ?_); refine gd_dec hE rfl rfl (fun hc hE2 => ?_) (fun hc hE2 => ?_) <;> (try omega) <;> (replace hE := hE2; clear hE2))
      | ((with_reducible refine g_pick ?_); refine s_pickT hE rfl rfl rfl ?_; clear hE a; intro a hE)
      | ((with_reducible refine g_pick ?_); refine s_pickF hE rfl rfl rfl ?_; clear hE a; intro a hE)
      | ((with_reducible refine g_load ?_); (first | (refine s_loadB (k := 0) hS hE rfl rfl rfl rfl ?_) | (refine s_loadB (k := 2) hS hE rfl rfl rfl rfl ?_) ); clear hE a; intro a hE)
      | ((with_reducible refine g_store ?_); (first | (refine s_storeB (k := 1) hS hE rfl rfl rfl rfl rfl rfl ?_) ); clear hS; intro w hS; simp only [List.set_cons_zero, List.set_cons_succ, Nat.add_zero] at hS)
      )
    · rw [if_pos (by omega)]
      refine im_retG (vs := [_]) hE [] hS.marks0 rfl fun w' hS' => ⟨⟨⟨_, rfl, res_1 (k := 1) hS' rfl⟩, trivial⟩, rfl, ?_⟩
      exact hWl_close hsl ((hS'.drop 1).drop 1)
    · rw [if_pos (by omega)]
      refine im_retG (vs := [_]) hE [] hS.marks0 rfl fun w' hS' => ⟨⟨⟨_, rfl, res_1 (k := 1) hS' rfl⟩, trivial⟩, rfl, ?_⟩
      exact hWl_close hsl ((hS'.drop 1).drop 1)
    · rw [if_neg (by omega)]
      have e1 : IntKind.u32.wrap ((W.turn : Int) + 1) = ((W.turn + 1 : Nat) : Int) := by rw [wrap_u32_in (by omega)]; rfl
      have ht1 : W.turn + 1 < 4294967296 := by omega
      have hfr1 := fromN_le (W.turn + 1) W.area w1
      refine i_regionD (f := 51) (cap := #[.pointer (some ⟨g4, 0, none⟩), .pointer (some ⟨g2, 0, none⟩)]) [_] rfl rfl ?_
      refine s_val hE rfl rfl rfl (r_func (first := []) hE rfl rfl) ?_
      clear hE a; intro a hE
      refine wpList_nil ⟨rfl, _, _, hE, rfl, ?_⟩
      repeat' (first

        | (with_reducible refine wpList_nil ?_)
        | (with_reducible refine then_normal ?_)
        | (with_reducible refine i_seq ?_)
        | ((with_reducible refine ig_region ?_); refine i_region rfl (fun _ _ h => h) ?_)
        | ((with_reducible refine g_assign ?_); refine s_assign hE rfl rfl ?_; clear hE a; intro a hE)
        | ((with_reducible refine g_bin .add ?_); refine s_add hE rfl rfl rfl (by first | exact e1 ) ?_; clear hE a; intro a hE)
        | ((with_reducible refine g_fa ?_); refine s_fieldL hE rfl rfl rfl ?_; clear hE a; intro a hE)
        | ((with_reducible refine g_nc ?_); refine s_nilCheck hE rfl rfl ?_; clear hE a; intro a hE)
        | ((with_reducible refine g_load ?_); (first | (refine s_loadB (k := 0) hS hE rfl rfl rfl rfl ?_) | (refine s_loadB (k := 2) hS hE rfl rfl rfl rfl ?_) ); clear hE a; intro a hE)
        )
      refine i_ordH [hBlk g2 26 [.pointer (some ⟨gw, 0, none⟩)], hBlk gw 89 [.pointer (some ⟨gd, 0, none⟩), .int .i64 (W.area : Int), .int .u32 (W.turn : Int), .slice A1 sls.length c1, .int .i64 (W.fin : Int), .bool W.broken]] hS (fun u hu => hu.only2 0 1 rfl rfl) 13 ((.rd 0 (.rd 1 (.rd 2 (.rd 3 (.rd 4 (.rd 5 (.rd 6 (.rd 7 (.rd 8 (.rd 10 (.rd 11 (.ef 9 (.ef 12 (.lt 13 .done))))))))))))))) mixed (by decide +kernel) (by decide +kernel) ?_
      clear hS; intro w hF hS
      repeat' (first
        | (with_reducible refine o_rd rfl ?_)
        | ((with_reducible refine q_move ?_); refine d_val hE hS rfl (fun w hS => r_move hE rfl) ?_; clear hE a; intro a hE)
        | ((with_reducible refine q_fa ?_); refine d_val hE hS rfl (fun w hS => r_fieldL hE rfl rfl) ?_; clear hE a; intro a hE)
        | ((with_reducible refine q_nc ?_); refine d_val hE hS rfl (fun w hS => r_nilCheck hE rfl) ?_; clear hE a; intro a hE)
        | ((with_reducible refine q_load ?_); (first | (refine d_val hE hS rfl (fun w hS => r_loadB (k := 0) hS hE rfl rfl rfl) ?_) | (refine d_val hE hS rfl (fun w hS => r_loadB (k := 1) hS hE rfl rfl rfl) ?_) ); clear hE a; intro a hE)
        | ((with_reducible refine o_ef rfl ?_))
        )
      clear hS; have hS := hF; clear hF
      refine s_call hE rfl rfl rfl (from_ (W.turn + 1) W.area ht1 w1 w) ?_
      rintro _ w ⟨rfl, hS1⟩; clear hE a; intro a hE; replace hS := hS.frame hS1; clear hS1; try simp only [List.cons_append, List.nil_append] at hS
      refine wpList_nil ?_
      have hF := hS; clear hS
      have hS := hF.only2 0 1 rfl rfl
      refine o_back _ (fun _ h => h) hS ?_
      repeat' (first
        | ((with_reducible refine o_ef rfl ?_))
        )
      clear hS; have hS := hF; clear hF
      refine s_call hE rfl rfl rfl (klay (fromN (W.turn + 1) W.area) (W.turn + 1) 0 ht1 (by omega) (by omega) b A c hb hbn.1 (fun w' L h => hr w' (L ++ [_, _, _, _, _]) (by rw [List.append_assoc]; exact h)) hD (by omega) (hS.focus (k := 5) rfl)) ?_
      rintro _ w ⟨rfl, hS⟩; clear hE a; intro a hE
      simp only [List.eraseIdx_cons_succ, List.eraseIdx_cons_zero] at hS
      have hD1 := wrs_atN (t := W.turn + 1) (n := 0) (at_ := ((fromN (W.turn + 1) W.area : Nat) : Int)) hb hbn.1 hD (by omega)
      dsimp only
      generalize D.wrs ((fromN (W.turn + 1) W.area : Nat) : Int) (partsB (W.turn + 1) 0 b) = r at hE hS hD1 ⊢
      obtain ⟨D1, e⟩ := r
      dsimp only at hE hS hD1 ⊢
      refine wpList_nil ?_
      have hF := hS; clear hS
      have hS := hF.only2 1 2 rfl rfl
      refine o_back _ (fun _ h => h) hS ?_
      repeat' (first
        | ((with_reducible refine o_lt rfl ?_))
        )
      clear hS; have hS := hF; clear hF
      repeat' (first

        | (with_reducible refine wpList_nil ?_)
        | ((with_reducible refine g_store ?_); (first | (refine s_storeB (k := 2) hS hE rfl rfl rfl rfl rfl rfl ?_) ); clear hS; intro w hS; simp only [List.set_cons_zero, List.set_cons_succ, Nat.add_zero] at hS)
        )
      refine o_backL ?_
      repeat' (first
        | (with_reducible refine o_done ?_)
        )
      by_cases he : e = 0
      · subst he
        rw [if_pos rfl]
        repeat' (first

          | (with_reducible refine wpList_nil ?_)
          | (with_reducible refine then_normal ?_)
          | (with_reducible refine i_seq ?_)
          | ((with_reducible refine ig_region ?_); refine i_region rfl (fun _ _ h => h) ?_)
          | ((with_reducible refine ig_cond ?_); refine i_true hE rfl ?_)
          | ((with_reducible refine g_bin .eql ?_); refine s_eql hE rfl rfl rfl ?_; clear hE a; intro a hE)
          | ((with_reducible refine g_load ?_); (first | (refine s_loadB (k := 2) hS hE rfl rfl rfl rfl ?_) ); clear hE a; intro a hE)
          )
        refine i_ordH [hBlk g2 26 [.pointer (some ⟨gw, 0, none⟩)], hBlk gw 89 [.pointer (some ⟨gd, 0, none⟩), .int .i64 (W.area : Int), .int .u32 (W.turn : Int), .slice A1 sls.length c1, .int .i64 (W.fin : Int), .bool W.broken]] hS (fun u hu => hu.only2 1 2 rfl rfl) 10 ((.rd 0 (.rd 1 (.rd 2 (.rd 3 (.rd 4 (.rd 5 (.rd 6 (.rd 7 (.rd 8 (.ef 9 (.lt 10 .done)))))))))))) mixed (by decide +kernel) (by decide +kernel) ?_
        clear hS; intro w hF hS
        repeat' (first
          | (with_reducible refine o_rd rfl ?_)
          | ((with_reducible refine q_move ?_); refine d_val hE hS rfl (fun w hS => r_move hE rfl) ?_; clear hE a; intro a hE)
          | ((with_reducible refine q_fa ?_); refine d_val hE hS rfl (fun w hS => r_fieldL hE rfl rfl) ?_; clear hE a; intro a hE)
          | ((with_reducible refine q_nc ?_); refine d_val hE hS rfl (fun w hS => r_nilCheck hE rfl) ?_; clear hE a; intro a hE)
          | ((with_reducible refine q_load ?_); (first | (refine d_val hE hS rfl (fun w hS => r_loadB (k := 0) hS hE rfl rfl rfl) ?_) | (refine d_val hE hS rfl (fun w hS => r_loadB (k := 1) hS hE rfl rfl rfl) ?_) ); clear hE a; intro a hE)
          | ((with_reducible refine o_ef rfl ?_))
          )
        clear hS; have hS := hF; clear hF
        refine s_call hE rfl rfl rfl (kput (W.turn + 1) W.area ht1 (by omega) hD1 (by omega) hS) ?_
        rintro _ w ⟨rfl, hS⟩; clear hE a; intro a hE
        generalize D1.wrs (((W.turn + 1) % 2 : Nat) : Int) [headB (W.turn + 1) W.area] = r at hE hS ⊢
        obtain ⟨D2, e2⟩ := r
        dsimp only at hE hS ⊢
        refine wpList_nil ?_
        have hF := hS; clear hS
        have hS := hF.only2 1 2 rfl rfl
        refine o_back _ (fun _ h => h) hS ?_
        repeat' (first
          | ((with_reducible refine o_lt rfl ?_))
          )
        clear hS; have hS := hF; clear hF
        repeat' (first

          | (with_reducible refine wpList_nil ?_)
          | ((with_reducible refine g_store ?_); (first | (refine s_storeB (k := 2) hS hE rfl rfl rfl rfl rfl rfl ?_) ); clear hS; intro w hS; simp only [List.set_cons_zero, List.set_cons_succ, Nat.add_zero] at hS)
          )
        refine o_backL ?_
        repeat' (first
          | (with_reducible refine o_done ?_)
          )
        by_cases he2 : e2 = 0
        · subst he2
          rw [if_pos rfl]
          repeat' (first

            | (with_reducible refine wpList_nil ?_)
            | (with_reducible refine then_normal ?_)
            | (with_reducible refine i_seq ?_)
            | ((with_reducible refine ig_region ?_); refine i_region rfl (fun _ _ h => h) ?_)
            | ((with_reducible refine ig_cond ?_); refine i_true hE rfl ?_)
            | ((with_reducible refine g_bin .eql ?_); refine s_eql hE rfl rfl rfl ?_; clear hE a; intro a hE)
            | ((with_reducible refine g_load ?_); (first | (refine s_loadB (k := 2) hS hE rfl rfl rfl rfl ?_) ); clear hE a; intro a hE)
            )
          refine i_ordK hS 3 rfl 14 ((.rd 0 (.rd 1 (.rd 2 (.rd 3 (.rd 4 (.rd 7 (.ef 5 (.rd 8 (.rd 9 (.ef2 6 ((.ef 10 (.rd 11 (.rd 12 (.ef 13 (.lt 14 (.lt 15 (.lt 16 .done)))))))) 10 ((.ef 6 (.rd 11 (.rd 12 (.ef 13 (.lt 14 (.lt 15 (.lt 16 .done))))))))))))))))))) mixed (by decide +kernel) (by decide +kernel) ?_
          clear hS; intro w hF hS
          repeat' (first
            | (with_reducible refine o_rd rfl ?_)
            | ((with_reducible refine q_move ?_); refine d_val hE hS rfl (fun w hS => r_move hE rfl) ?_; clear hE a; intro a hE)
            | ((with_reducible refine q_load ?_); (first | (refine d_val hE hS rfl (fun w hS => r_loadB (k := 0) hS hE rfl rfl rfl) ?_) ); clear hE a; intro a hE)
            | ((with_reducible refine o_ef rfl ?_))
            )
          clear hS; have hS := hF; clear hF
          refine s_call hE rfl rfl rfl (bclone A c b w (hr w [_, _, _, _, _, _] hS) (by omega)) ?_
          rintro _ w ⟨A2, c2, rfl, hS1⟩; clear hE a; intro a hE; replace hS := hS.frame hS1; clear hS1; try simp only [List.cons_append, List.nil_append] at hS
          refine wpList_nil ?_
          have hF := hS; clear hS
          have hS := hF.only 4 rfl
          refine o_back _ (fun _ h => h) hS ?_
          repeat' (first
            | (with_reducible refine o_rd rfl ?_)
            | ((with_reducible refine q_fa ?_); refine d_val hE hS rfl (fun w hS => r_fieldL hE rfl rfl) ?_; clear hE a; intro a hE)
            | ((with_reducible refine q_nc ?_); refine d_val hE hS rfl (fun w hS => r_nilCheck hE rfl) ?_; clear hE a; intro a hE)
            )
          clear hS; have hS := hF; clear hF
          refine o_ef2 rfl rfl ?_ ?_
          · refine s_lit (parts := [(0, _)]) (cs := [_]) hE hS rfl rfl rfl rfl rfl (fun v hv => by cases hv with | head => rfl | tail _ h => cases h) rfl ?_
            clear hS hE a; intro g7 a w hE hS
            refine wpList_nil ?_
            have hF := hS; clear hS
            have hS := hF.only 5 rfl
            refine o_back _ (fun _ h => h) hS ?_
            repeat' (first
              | ((with_reducible refine o_ef rfl ?_))
              )
            clear hS; have hS := hF; clear hF
            repeat' (first

              | (with_reducible refine wpList_nil ?_)
              | ((with_reducible refine g_store ?_); (first | (refine s_storeB (k := 3) hS hE rfl rfl rfl rfl rfl rfl ?_) ); clear hS; intro w hS; simp only [List.set_cons_zero, List.set_cons_succ, Nat.add_zero] at hS)
              )
            have hF := hS; clear hS
            have hS := hF.only 5 rfl
            refine o_back _ (fun _ h => h) hS ?_
            repeat' (first
              | (with_reducible refine o_rd rfl ?_)
              | ((with_reducible refine q_fa ?_); refine d_val hE hS rfl (fun w hS => r_fieldL hE rfl rfl) ?_; clear hE a; intro a hE)
              | ((with_reducible refine q_nc ?_); refine d_val hE hS rfl (fun w hS => r_nilCheck hE rfl) ?_; clear hE a; intro a hE)
              | ((with_reducible refine o_ef rfl ?_))
              )
            clear hS; have hS := hF; clear hF
            repeat' (first

              | (with_reducible refine wpList_nil ?_)
              | ((with_reducible refine g_store ?_); (first | (refine s_storeB (k := 3) hS hE rfl rfl rfl rfl rfl rfl ?_) ); clear hS; intro w hS; simp only [List.set_cons_zero, List.set_cons_succ, Nat.add_zero] at hS)
              )
            have hF := hS; clear hS
            have hS := hF.only 5 rfl
            refine o_back _ (fun _ h => h) hS ?_
            repeat' (first
              | ((with_reducible refine o_lt rfl ?_))
              )
            clear hS; have hS := hF; clear hF
            repeat' (first

              | (with_reducible refine wpList_nil ?_)
              | ((with_reducible refine g_nc ?_); refine s_nilCheck hE rfl rfl ?_; clear hE a; intro a hE)
              )
            refine o_backL ?_
            repeat' (first
              | ((with_reducible refine o_lt rfl ?_))
              )
            repeat' (first

              | (with_reducible refine wpList_nil ?_)
              | ((with_reducible refine g_fa ?_); refine s_fieldL hE rfl rfl rfl ?_; clear hE a; intro a hE)
              )
            refine o_backL ?_
            repeat' (first
              | ((with_reducible refine o_lt rfl ?_))
              )
            repeat' (first

              | (with_reducible refine wpList_nil ?_)
              | ((with_reducible refine g_store ?_); (first | (refine s_storeB (k := 3) hS hE rfl rfl rfl rfl rfl rfl ?_) ); clear hS; intro w hS; simp only [List.set_cons_zero, List.set_cons_succ, Nat.add_zero] at hS)
              )
            refine o_backL ?_
            repeat' (first
              | (with_reducible refine o_done ?_)
              )
            repeat' (first

              | (with_reducible refine wpList_nil ?_)
              | (with_reducible refine then_normal ?_)
              | (with_reducible refine i_seq ?_)
              | (with_reducible refine i_ret ?_)
              | ((with_reducible refine ig_region ?_); refine i_region rfl (fun _ _ h => h) ?_)
              | ((with_reducible refine g_load ?_); (first | (refine s_loadB (k := 4) hS hE rfl rfl rfl rfl ?_) ); clear hE a; intro a hE)
              | ((with_reducible refine g_store ?_); (first | (refine s_storeB (k := 4) hS hE rfl rfl rfl rfl rfl rfl ?_) ); clear hS; intro w hS; simp only [List.set_cons_zero, List.set_cons_succ, Nat.add_zero] at hS)
              )
            have hS2 : St w0 w (hBlk g4 41 [.int .i64 0] :: hBlk g2 26 [.pointer (some ⟨gw, 0, none⟩)] :: hBlk gw 89 [.pointer (some ⟨gd, 0, none⟩), .int .i64 (W.area : Int), .int .u32 ((W.turn + 1 : Nat) : Int), .slice (some ⟨g7, 0, none⟩) 1 1, .int .i64 (secN b.length : Int), .bool W.broken] :: hRow 34 1 (some ⟨g7, 0, none⟩) 1 1 [.slice A2 b.length c2] :: wrP [⟨A2, c2, b⟩] :: hDk gd D2 :: H) := by
              have h1 := (St.selD [1, 0, 0, 0, 0, 0] 2 hS)
              have h2 := wrP_add (l := []) (s := ⟨A2, c2, b⟩) ((wrP_nil h1).p1)
              exact (St.selD [4, 4, 3, 1, 0, 0] 0 h2)
            refine ret_defer (vs := [.int .i64 0]) (f := 51) (cap := [.pointer (some ⟨g4, 0, none⟩), .pointer (some ⟨g2, 0, none⟩)]) hE rfl ?_
            refine FnD.mono (check1 g4 g2 gw 0 _ _ _ _ _ _ hS2) fun v w' h => ⟨⟨⟨_, rfl, res_1 (k := 0) h rfl⟩, trivial⟩, rfl, ?_⟩
            exact hWl_close (W := { W with turn := W.turn + 1, list := [b], fin := secN b.length, broken := false }) (sls := [⟨A2, c2, b⟩]) (A := some ⟨g7, 0, none⟩) (c := 1) rfl (St.selD [2, 2, 2, 2] 2 h)
          · repeat' (first

              | (with_reducible refine wpList_nil ?_)
              | ((with_reducible refine g_store ?_); (first | (refine s_storeB (k := 2) hS hE rfl rfl rfl rfl rfl rfl ?_) ); clear hS; intro w hS; simp only [List.set_cons_zero, List.set_cons_succ, Nat.add_zero] at hS)
              )
            have hF := hS; clear hS
            have hS := hF.only 4 rfl
            refine o_back _ (fun _ h => h) hS ?_
            repeat' (first
              | ((with_reducible refine o_ef rfl ?_))
              )
            clear hS; have hS := hF; clear hF
            refine s_lit (parts := [(0, _)]) (cs := [_]) hE hS rfl rfl rfl rfl rfl (fun v hv => by cases hv with | head => rfl | tail _ h => cases h) rfl ?_
            clear hS hE a; intro g7 a w hE hS
            refine wpList_nil ?_
            have hF := hS; clear hS
            have hS := hF.only 5 rfl
            refine o_back _ (fun _ h => h) hS ?_
            repeat' (first
              | (with_reducible refine o_rd rfl ?_)
              | ((with_reducible refine q_fa ?_); refine d_val hE hS rfl (fun w hS => r_fieldL hE rfl rfl) ?_; clear hE a; intro a hE)
              | ((with_reducible refine q_nc ?_); refine d_val hE hS rfl (fun w hS => r_nilCheck hE rfl) ?_; clear hE a; intro a hE)
              | ((with_reducible refine o_ef rfl ?_))
              )
            clear hS; have hS := hF; clear hF
            repeat' (first

              | (with_reducible refine wpList_nil ?_)
              | ((with_reducible refine g_store ?_); (first | (refine s_storeB (k := 3) hS hE rfl rfl rfl rfl rfl rfl ?_) ); clear hS; intro w hS; simp only [List.set_cons_zero, List.set_cons_succ, Nat.add_zero] at hS)
              )
            have hF := hS; clear hS
            have hS := hF.only 5 rfl
            refine o_back _ (fun _ h => h) hS ?_
            repeat' (first
              | ((with_reducible refine o_lt rfl ?_))
              )
            clear hS; have hS := hF; clear hF
            repeat' (first

              | (with_reducible refine wpList_nil ?_)
              | ((with_reducible refine g_nc ?_); refine s_nilCheck hE rfl rfl ?_; clear hE a; intro a hE)
              )
            refine o_backL ?_
            repeat' (first
              | ((with_reducible refine o_lt rfl ?_))
              )
            repeat' (first

              | (with_reducible refine wpList_nil ?_)
              | ((with_reducible refine g_fa ?_); refine s_fieldL hE rfl rfl rfl ?_; clear hE a; intro a hE)
              )
            refine o_backL ?_
            repeat' (first
              | ((with_reducible refine o_lt rfl ?_))
              )
            repeat' (first

              | (with_reducible refine wpList_nil ?_)
              | ((with_reducible refine g_store ?_); (first | (refine s_storeB (k := 3) hS hE rfl rfl rfl rfl rfl rfl ?_) ); clear hS; intro w hS; simp only [List.set_cons_zero, List.set_cons_succ, Nat.add_zero] at hS)
              )
            refine o_backL ?_
            repeat' (first
              | (with_reducible refine o_done ?_)
              )
            repeat' (first

              | (with_reducible refine wpList_nil ?_)
              | (with_reducible refine then_normal ?_)
              | (with_reducible refine i_seq ?_)
              | (with_reducible refine i_ret ?_)
              | ((with_reducible refine ig_region ?_); refine i_region rfl (fun _ _ h => h) ?_)
              | ((with_reducible refine g_load ?_); (first | (refine s_loadB (k := 4) hS hE rfl rfl rfl rfl ?_) ); clear hE a; intro a hE)
              | ((with_reducible refine g_store ?_); (first | (refine s_storeB (k := 4) hS hE rfl rfl rfl rfl rfl rfl ?_) ); clear hS; intro w hS; simp only [List.set_cons_zero, List.set_cons_succ, Nat.add_zero] at hS)
              )
            have hS2 : St w0 w (hBlk g4 41 [.int .i64 0] :: hBlk g2 26 [.pointer (some ⟨gw, 0, none⟩)] :: hBlk gw 89 [.pointer (some ⟨gd, 0, none⟩), .int .i64 (W.area : Int), .int .u32 ((W.turn + 1 : Nat) : Int), .slice (some ⟨g7, 0, none⟩) 1 1, .int .i64 (secN b.length : Int), .bool W.broken] :: hRow 34 1 (some ⟨g7, 0, none⟩) 1 1 [.slice A2 b.length c2] :: wrP [⟨A2, c2, b⟩] :: hDk gd D2 :: H) := by
              have h1 := (St.selD [1, 0, 0, 0, 0, 0] 2 hS)
              have h2 := wrP_add (l := []) (s := ⟨A2, c2, b⟩) ((wrP_nil h1).p1)
              exact (St.selD [4, 4, 3, 1, 0, 0] 0 h2)
            refine ret_defer (vs := [.int .i64 0]) (f := 51) (cap := [.pointer (some ⟨g4, 0, none⟩), .pointer (some ⟨g2, 0, none⟩)]) hE rfl ?_
            refine FnD.mono (check1 g4 g2 gw 0 _ _ _ _ _ _ hS2) fun v w' h => ⟨⟨⟨_, rfl, res_1 (k := 0) h rfl⟩, trivial⟩, rfl, ?_⟩
            exact hWl_close (W := { W with turn := W.turn + 1, list := [b], fin := secN b.length, broken := false }) (sls := [⟨A2, c2, b⟩]) (A := some ⟨g7, 0, none⟩) (c := 1) rfl (St.selD [2, 2, 2, 2] 2 h)
        · rw [if_neg he2]
          repeat' (first

            | (with_reducible refine wpList_nil ?_)
            | (with_reducible refine then_normal ?_)
            | (with_reducible refine i_seq ?_)
            | (with_reducible refine i_skip ?_)
            | (with_reducible refine i_ret ?_)
            | ((with_reducible refine ig_region ?_); refine i_region rfl (fun _ _ h => h) ?_)
            | ((with_reducible refine ig_cond ?_); refine i_dec hE rfl (fun hc => ?_) (fun hc => ?_) <;> try omega)
            | ((with_reducible refine g_bin .eql ?_); refine s_eql hE rfl rfl rfl ?_; clear hE a; intro a hE)
            | ((with_reducible refine g_load ?_); (first | (refine s_loadB (k := 2) hS hE rfl rfl rfl rfl ?_) ); clear hE a; intro a hE)
            | ((with_reducible refine g_store ?_); (first | (refine s_storeB (k := 2) hS hE rfl rfl rfl rfl rfl rfl ?_) ); clear hS; intro w hS; simp only [List.set_cons_zero, List.set_cons_succ, Nat.add_zero] at hS)
            )
          have hS2 := (St.selD [2, 2, 1, 1, 1, 0] 0 hS)
          refine ret_defer (vs := [.int .i64 e2]) (f := 51) (cap := [.pointer (some ⟨g4, 0, none⟩), .pointer (some ⟨g2, 0, none⟩)]) hE rfl ?_
          refine FnD.mono (check1 g4 g2 gw e2 _ _ _ _ _ _ hS2) fun v w' h => ⟨⟨⟨_, rfl, res_1 (k := 0) h rfl⟩, trivial⟩, rfl, ?_⟩
          rw [decide_eq_true he2] at h
          exact hWl_close (W := { W with broken := true }) hsl (St.selD [2, 2, 2, 2] 2 h)
      · rw [if_neg he, if_neg he]
        repeat' (first

          | (with_reducible refine wpList_nil ?_)
          | (with_reducible refine then_normal ?_)
          | (with_reducible refine i_seq ?_)
          | (with_reducible refine i_skip ?_)
          | (with_reducible refine i_ret ?_)
          | ((with_reducible refine ig_region ?_); refine i_region rfl (fun _ _ h => h) ?_)
          | ((with_reducible refine ig_cond ?_); refine i_dec hE rfl (fun hc => ?_) (fun hc => ?_) <;> try omega)
          | ((with_reducible refine g_bin .eql ?_); refine s_eql hE rfl rfl rfl ?_; clear hE a; intro a hE)
          | ((with_reducible refine g_load ?_); (first | (refine s_loadB (k := 2) hS hE rfl rfl rfl rfl ?_) ); clear hE a; intro a hE)
          | ((with_reducible refine g_store ?_); (first | (refine s_storeB (k := 2) hS hE rfl rfl rfl rfl rfl rfl ?_) ); clear hS; intro w hS; simp only [List.set_cons_zero, List.set_cons_succ, Nat.add_zero] at hS)
          )
        have hS2 := (St.selD [2, 2, 1, 1, 1, 0] 0 hS)
        refine ret_defer (vs := [.int .i64 e]) (f := 51) (cap := [.pointer (some ⟨g4, 0, none⟩), .pointer (some ⟨g2, 0, none⟩)]) hE rfl ?_
        refine FnD.mono (check1 g4 g2 gw e _ _ _ _ _ _ hS2) fun v w' h => ⟨⟨⟨_, rfl, res_1 (k := 0) h rfl⟩, trivial⟩, rfl, ?_⟩
        rw [decide_eq_true he] at h
        exact hWl_close (W := { W with broken := true }) hsl (St.selD [2, 2, 2, 2] 2 h)
end
end Go.Proofs.Ytfoeelghehjanaa
