/-
  The heap wakes.
-/
import Derived.Test.YtaiahigeejodaaaHI
namespace Go.Proofs.Ytaiahigeejodaaa
open Go.RowKit
set_option linter.unusedVariables false
set_option linter.unusedSimpArgs false
attribute [local irreducible] Rd hRow hBlk hRd hRdr rowsP Fn hMarks

def enc1 : List Nat := [0, 0, 0, 1, 0, 0, 0, 2, 0, 0, 0, 0, 0, 0, 0, 0, 0, 0, 0, 0, 0, 0, 0, 0, 0, 0, 0, 1, 255, 255, 255, 255, 255, 255, 255, 255, 0, 0, 0, 0, 0, 0, 0, 0, 0, 0, 0, 0, 0, 0, 0, 3]
theorem first_enc : TM.first.enc = enc1 := by decide +kernel
def m1 : PM := ⟨2, 0, [[], enc1, [], []]⟩
theorem m1_place : placeM [m1] = ((2, 0), 0) := by decide +kernel
theorem m1_items : itemsM [m1] = [((2, 1), TM.first)] := by decide +kernel
theorem m1_wrong : wrongM [m1] = 0 := by decide +kernel
theorem first_ok : TM.first.ok := ⟨by decide, by decide, by decide, by unfold iR; decide, by unfold iR; decide, by unfold iR; decide, by unfold iR; decide, by unfold iR; decide⟩
section
variable {H : List HP} {w0 w : World}
set_option maxHeartbeats 8000000
theorem hwakes (w0 : World) : Fn Try.prog 8 [] w0 fun v w' => v = .bool true ∧ St w0 w' [] := by
  refine enter 81 Try.func8 rfl rfl rfl ?_
  intro a hE
  have hS := St.start w0
  repeat' (first

    | (with_reducible refine wp_seq ?_)
    | (with_reducible refine c_region ?_)
    | (with_reducible refine wpList_nil ?_)
    | (with_reducible refine then_normal ?_)
    | ((with_reducible refine g_assign ?_); refine s_assign hE rfl rfl ?_; clear hE a; intro a hE)
    )
  refine s_call hE rfl rfl rfl (hfirst w0) ?_
  rintro _ w ⟨rfl, hS1⟩; clear hE a; intro a hE; replace hS := hS.frame hS1; clear hS1; try simp only [List.cons_append, List.nil_append] at hS
  skip
  refine s_call hE rfl rfl rfl (hencode_ok TM.first first_ok rfl w) ?_
  rintro _ w ⟨A, c, rfl, hS1⟩; clear hE a; intro a hE; replace hS := hS.frame hS1; clear hS1; try simp only [List.cons_append, List.nil_append] at hS
  rw [first_enc] at hS
  obtain ⟨hbl, hcap, _⟩ := hS.lenAt (k := 0) rfl
  have h3 : (bys enc1)[(3 : Int).toNat * 1]? = some (.int .u8 1) := rfl
  have h7 : (bys enc1)[(7 : Int).toNat * 1]? = some (.int .u8 2) := rfl
  have h28 : (bys enc1)[(28 : Int).toNat * 1]? = some (.int .u8 255) := rfl
  have h51 : (bys enc1)[(51 : Int).toNat * 1]? = some (.int .u8 3) := rfl
  generalize hbb : bys enc1 = bb at hS hbl h3 h7 h28 h51
  repeat' (first

    | (with_reducible refine wp_seq ?_)
    | (with_reducible refine c_region ?_)
    | (with_reducible refine wpList_nil ?_)
    | (with_reducible refine then_normal ?_)
    | (with_reducible refine wp_skip ?_)
    | ((with_reducible refine g_move ?_); refine s_move hE rfl rfl ?_; clear hE a; intro a hE)
    | ((with_reducible refine g_assign ?_); refine s_assign hE rfl rfl ?_; clear hE a; intro a hE)
    | ((with_reducible refine g_bin .neq ?_); refine s_neq hE rfl rfl rfl ?_; clear hE a; intro a hE)
    | ((with_reducible refine g_blt .len ?_); refine s_len hE rfl rfl ?_; clear hE a; intro a hE)
    | ((with_reducible refine g_extract ?_); refine s_extract hE rfl rfl rfl ?_; clear hE a; intro a hE)
    | ((with_reducible refine g_guard ?_); refine gd_yes hE rfl rfl rfl ?_)
    | ((with_reducible refine g_pick ?_); refine s_pickF hE rfl rfl rfl ?_; clear hE a; intro a hE)
    | ((with_reducible refine g_cond ?_); refine c_false hE rfl ?_)
    | ((with_reducible refine g_ia ?_); refine s_idxR hE rfl rfl (by omega) (by omega) (by (first | exact hS.rd )) (by first | omega ) rfl ?_; clear hE a; intro a hE)
    | ((with_reducible refine g_load ?_); refine s_loadR hE rfl (by (first | exact hS.rd )) (by first | exact h3 | exact h7 | exact h28 | exact h51 ) rfl ?_; clear hE a; intro a hE)
    | ((with_reducible refine g_build ?_); refine s_build [_, _, _, _] hE rfl rfl rfl ?_; clear hE a; intro a hE)
    | ((with_reducible refine g_build ?_); refine s_build [_, _, _, _, _, _] hE rfl rfl rfl ?_; clear hE a; intro a hE)
    )
  obtain ⟨p1, hp1⟩ : ∃ p1 : Pg, p1 = ⟨2, 0, [nilS, ⟨A, c, enc1⟩, nilS, nilS]⟩ := ⟨_, rfl⟩
  have hpc : p1.cells = [.int .i64 2, .int .u64 0, .slice none 0 0, .slice A 52 c, .slice none 0 0, .slice none 0 0] := by rw [hp1]; rfl
  have hpm : [p1].map Pg.m = [m1] := by rw [hp1]; rfl
  have hmem : ∀ s ∈ p1.s, s = nilS ∨ s = ⟨A, c, enc1⟩ := by
    intro s hs
    rw [hp1] at hs
    simp only [List.mem_cons, List.not_mem_nil, or_false] at hs
    rcases hs with h | h | h | h
    · exact .inl h
    · exact .inr h
    · exact .inl h
    · exact .inl h
  have hpw : ∀ p ∈ [p1], p.wf := by
    intro p hp
    rw [List.mem_singleton] at hp
    subst hp
    refine ⟨by rw [hp1]; rfl, by rw [hp1]; show -9223372036854775808 ≤ (2 : Int) ∧ (2 : Int) ≤ _; decide, by rw [hp1]; show 0 < _; decide, fun s hs => ?_⟩
    rcases hmem s hs with rfl | rfl
    · exact ⟨Nat.le_refl _, Nat.zero_le _, fun c hc => by cases hc⟩
    · exact ⟨hcap, by show 52 ≤ _; decide, by rw [← first_enc]; exact tenc_bs _⟩
  have hrd : ∀ w', Rd w' A bb → ∀ p ∈ [p1], p.rd w' := by
    intro w' h p hp s hs
    rw [List.mem_singleton] at hp
    subst hp
    rcases hmem s hs with rfl | rfl
    · exact Rd.nil
    · show Rd w' A (bys enc1)
      rw [hbb]; exact h
  have hfc : [p1].flatMap Pg.cells = p1.cells := by simp
  clear hp1 hmem
  refine s_litA (vs := p1.cells) hE hS (by rw [hpc]; rfl) (by rw [hpc]; rfl) rfl rfl rfl ?_
  clear hE a hS; intro gl a w hE hS
  repeat' (first

    | (with_reducible refine wp_seq ?_)
    | (with_reducible refine c_region ?_)
    | (with_reducible refine wpList_nil ?_)
    | (with_reducible refine then_normal ?_)
    | ((with_reducible refine g_move ?_); refine s_move hE rfl rfl ?_; clear hE a; intro a hE)
    | ((with_reducible refine g_assign ?_); refine s_assign hE rfl rfl ?_; clear hE a; intro a hE)
    )
  have hpl := place [p1] (some ⟨gl, 0, none⟩) 1 1 rfl w (by show 1 ≤ 100000; decide) hpw (by rw [hfc]; exact hS.rd) (hrd w (hS.rdAt (k := 1) rfl))
  rw [hpm, m1_place] at hpl
  refine s_call hE rfl rfl rfl hpl ?_
  clear hpl
  rintro _ w ⟨rfl, hS1⟩; clear hE a; intro a hE; replace hS := hS.frame hS1; clear hS1; try simp only [List.cons_append, List.nil_append] at hS
  repeat' (first

    | (with_reducible refine wp_seq ?_)
    | (with_reducible refine c_region ?_)
    | (with_reducible refine wpList_nil ?_)
    | (with_reducible refine then_normal ?_)
    | ((with_reducible refine g_move ?_); refine s_move hE rfl rfl ?_; clear hE a; intro a hE)
    | ((with_reducible refine g_assign ?_); refine s_assign hE rfl rfl ?_; clear hE a; intro a hE)
    | ((with_reducible refine g_extract ?_); refine s_extract hE rfl rfl rfl ?_; clear hE a; intro a hE)
    | ((with_reducible refine g_alloc ?_); refine s_allocS hE hS rfl rfl ?_; clear hE a hS; intro g a w hE hS)
    | ((with_reducible refine g_store ?_); (first | (refine s_storeW (k := 0) hS hE rfl rfl rfl rfl rfl (by first | (simp [Value.oneCell']; done)) ?_) ); clear hS; intro w hS; simp only [List.set_cons_zero, List.set_cons_succ, Nat.add_zero] at hS)
    )
  have hit := items [p1] (some ⟨gl, 0, none⟩) 1 1 rfl w (by show 1 ≤ 100000; decide) hpw (by rw [hfc]; exact hS.rdAt (k := 1) rfl) (hrd w (hS.rdAt (k := 2) rfl))
  rw [hpm, m1_items, m1_wrong] at hit
  refine s_call hE rfl rfl rfl hit ?_
  clear hit
  rintro _ w ⟨A', c', rfl, hS1⟩; clear hE a; intro a hE; replace hS := hS.frame hS1; clear hS1; try simp only [List.cons_append, List.nil_append] at hS
  rw [show [(((2 : Int), 1), TM.first)].length = 1 from rfl] at hE hS
  have hil : ([(((2 : Int), 1), TM.first)].flatMap stc).length = 10 := rfl
  have hit : (([(((2 : Int), 1), TM.first)].flatMap stc).drop ((0 : Int).toNat * 10 + 2)).take 8 = TM.first.cells := rfl
  generalize [(((2 : Int), 1), TM.first)].flatMap stc = ic at hS hil hit
  repeat' (first

    | (with_reducible refine wp_seq ?_)
    | (with_reducible refine wpList_nil ?_)
    | (with_reducible refine then_normal ?_)
    | ((with_reducible refine g_move ?_); refine s_move hE rfl rfl ?_; clear hE a; intro a hE)
    | ((with_reducible refine g_assign ?_); refine s_assign hE rfl rfl ?_; clear hE a; intro a hE)
    | ((with_reducible refine g_extract ?_); refine s_extract hE rfl rfl rfl ?_; clear hE a; intro a hE)
    )
  refine c_ordS hS 24 ((.rd 0 (.rd 1 (.rd 2 (.rd 3 (.rd 4 (.rd 5 (.rd 6 (.rd 7 (.rd 8 (.rd 9 (.rd 10 (.rd 11 (.rd 12 (.rd 13 (.rd 14 (.rd 15 (.rd 16 (.rd 17 (.rd 18 (.rd 19 (.rd 20 (.ef 21 (.rd 22 (.rd 23 (.lt 24 .done)))))))))))))))))))))))))) mixed (by decide +kernel) ?_
  clear hS; intro w hS
  repeat' (first
    | (with_reducible refine o_rd rfl ?_)
    | ((with_reducible refine q_move ?_); refine d_val hE hS rfl (fun w hS => r_move hE rfl) ?_; clear hE a; intro a hE)
    | ((with_reducible refine q_bin .eql ?_); refine d_val hE hS rfl (fun w hS => r_eql hE rfl rfl) ?_; clear hE a; intro a hE)
    | ((with_reducible refine q_guard ?_); refine d_yes hE rfl rfl rfl ?_)
    | ((with_reducible refine q_pick ?_); refine d_val hE hS rfl (fun w hS => r_pickT hE rfl rfl) ?_; clear hE a; intro a hE)
    | ((with_reducible refine q_build ?_); refine d_val hE hS rfl (fun w hS => r_build [_, _] hE rfl rfl) ?_; clear hE a; intro a hE)
    | ((with_reducible refine q_load ?_); (first | (refine d_val hE hS rfl (fun w hS => r_loadW (k := 1) hS hE rfl rfl rfl) ?_) ); clear hE a; intro a hE)
    )
  refine d_val hE hS rfl (fun w hS => r_eqT hE rfl rfl (eq_spot 9998 2 0 2 0)) ?_
  clear hE a; intro a hE
  rw [decide_eq_true (show (2 : Int) = 2 ∧ (0 : Int) = 0 from ⟨rfl, rfl⟩)] at hE
  repeat' (first
    | (with_reducible refine o_rd rfl ?_)
    | ((with_reducible refine q_move ?_); refine d_val hE hS rfl (fun w hS => r_move hE rfl) ?_; clear hE a; intro a hE)
    | ((with_reducible refine q_bin .eql ?_); refine d_val hE hS rfl (fun w hS => r_eql hE rfl rfl) ?_; clear hE a; intro a hE)
    | ((with_reducible refine q_blt .len ?_); refine d_val hE hS rfl (fun w hS => r_len hE rfl) ?_; clear hE a; intro a hE)
    | ((with_reducible refine q_fa ?_); refine d_val hE hS rfl (fun w hS => r_fieldR hE rfl rfl) ?_; clear hE a; intro a hE)
    | ((with_reducible refine q_guard ?_); refine d_yes hE rfl rfl rfl ?_)
    | ((with_reducible refine q_pick ?_); refine d_val hE hS rfl (fun w hS => r_pickT hE rfl rfl) ?_; clear hE a; intro a hE)
    | ((with_reducible refine q_ia ?_); refine d_val hE hS rfl (fun w hS => r_idxR hE rfl rfl (by omega) (by omega) (by (first | exact hS.rd )) (by first | omega )) ?_; clear hE a; intro a hE)
    | ((with_reducible refine o_ef rfl ?_))
    | ((with_reducible refine q_load ?_); refine d_val hE hS rfl (fun w hS => r_elemR hE rfl (by first | exact hS.rd ) (by first | exact hit) (by first | rfl ) rfl) ?_; clear hE a; intro a hE)
    )
  refine gd_yes hE rfl rfl rfl ?_
  refine s_call hE rfl rfl rfl (hfirst w) ?_
  rintro _ w ⟨rfl, hS1⟩; clear hE a; intro a hE; replace hS := hS.frame hS1; clear hS1; try simp only [List.cons_append, List.nil_append] at hS
  refine wpList_nil ?_
  refine o_back _ (fun _ h => h) hS ?_
  repeat' (first
    | (with_reducible refine o_rd rfl ?_)
    | ((with_reducible refine q_guard ?_); refine d_yes hE rfl rfl rfl ?_)
    )
  refine d_val hE hS rfl (fun w hS => r_eqT hE rfl rfl (eq_tuple 9997 TM.first TM.first)) ?_
  clear hE a; intro a hE
  rw [decide_eq_true rfl] at hE
  repeat' (first
    | (with_reducible refine o_rd rfl ?_)
    | ((with_reducible refine q_pick ?_); refine d_val hE hS rfl (fun w hS => r_pickT hE rfl rfl) ?_; clear hE a; intro a hE)
    | ((with_reducible refine o_lt rfl ?_))
    )
  repeat' (first

    | (with_reducible refine wpList_nil ?_)
    | ((with_reducible refine g_assign ?_); refine s_assign hE rfl rfl ?_; clear hE a; intro a hE)
    )
  refine o_backL ?_
  repeat' (first
    | (with_reducible refine o_done ?_)
    )
  repeat' (first

    | (with_reducible refine then_normal ?_)
    | (with_reducible refine wp_ret ?_)
    )
  exact ret1 hE rfl rfl ⟨rfl, hS.nil⟩
end
end Go.Proofs.Ytaiahigeejodaaa
