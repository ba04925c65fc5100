/-
  Contract: a tuple's bytes; the chapter's tuple.
-/
import Derived.Test.YtaiahigeejodaaaHC
namespace Go.Proofs.Ytaiahigeejodaaa
open Go.RowKit
set_option linter.unusedVariables false
set_option linter.unusedSimpArgs false
attribute [local irreducible] Rd hRow hBlk hRd hRdr Fn hMarks

section
variable {H : List HP} {w0 w : World}
set_option maxHeartbeats 8000000
theorem hencode_ok (t : TM) (ht : t.ok) (h : t.right = true) (w0 : World) :
    Fn Try.prog 9 [.agg t.cells.toArray] w0 fun v w' => ∃ A c, v = .tuple #[.slice A 52 c, .int .i64 0] ∧ St w0 w' [hRow 5 1 A 52 c (bys t.enc)] := by
  have h2 := of_decide_eq_true h
  have hl3 : ∀ x ∈ [t.r, t.a, t.b], x < 4294967296 := by
    have := ht.r
    intro x hx
    simp only [List.mem_cons, List.not_mem_nil, or_false] at hx
    rcases hx with rfl | rfl | rfl <;> omega
  have hl5 : ∀ x ∈ [t.x0, t.x1, t.y0, t.y1, t.v], iR x := by
    intro x hx
    simp only [List.mem_cons, List.not_mem_nil, or_false] at hx
    rcases hx with rfl | rfl | rfl | rfl | rfl
    · exact ht.x0
    · exact ht.x1
    · exact ht.y0
    · exact ht.y1
    · exact ht.v
  have hcl : t.cells.length = 8 := rfl
  have hr32 := ht.r
  refine enter 34 Try.func9 rfl rfl rfl ?_
  intro a hE
  have hS := St.start w0
  have hk : (t.cells.drop (0 + 3)).take 4 = [Value.int .i64 t.x0, Value.int .i64 t.x1, Value.int .i64 t.y0, Value.int .i64 t.y1] := rfl
  repeat' (first

    | (with_reducible refine wp_seq ?_)
    | (with_reducible refine c_region ?_)
    | (with_reducible refine wpList_nil ?_)
    | (with_reducible refine then_normal ?_)
    | ((with_reducible refine g_assign ?_); refine s_assign hE rfl rfl ?_; clear hE a; intro a hE)
    | ((with_reducible refine g_box ?_); refine s_boxS hE hS rfl rfl ?_; clear hE a hS; intro g a w hE hS)
    | ((with_reducible refine g_load ?_); (first | (refine s_loadW (k := 0) hS hE rfl rfl rfl rfl ?_) ); clear hE a; intro a hE)
    )
  refine s_call hE rfl rfl rfl (tcheck t w) ?_
  rintro _ w ⟨rfl, hS1⟩; clear hE a; intro a hE; replace hS := hS.frame hS1; clear hS1; try simp only [List.cons_append, List.nil_append] at hS
  rw [h, if_pos rfl] at hE
  repeat' (first

    | (with_reducible refine wp_seq ?_)
    | (with_reducible refine c_region ?_)
    | (with_reducible refine wpList_nil ?_)
    | (with_reducible refine then_normal ?_)
    | (with_reducible refine wp_skip ?_)
    | ((with_reducible refine g_move ?_); refine s_move hE rfl rfl ?_; clear hE a; intro a hE)
    | ((with_reducible refine g_assign ?_); refine s_assign hE rfl rfl ?_; clear hE a; intro a hE)
    | ((with_reducible refine g_bin .neq ?_); refine s_neq hE rfl rfl rfl ?_; clear hE a; intro a hE)
    | ((with_reducible refine g_fa ?_); refine s_fieldL hE rfl rfl rfl ?_; clear hE a; intro a hE)
    | ((with_reducible refine g_cond ?_); refine c_false hE rfl ?_)
    | ((with_reducible refine g_alloc ?_); refine s_allocS hE hS rfl rfl ?_; clear hE a hS; intro g a w hE hS)
    | ((with_reducible refine g_store ?_); (first | (refine s_storeW (k := 0) hS hE rfl rfl rfl rfl rfl (by first | (simp [Value.oneCell']; done)) ?_) ); clear hS; intro w hS; simp only [List.set_cons_zero, List.set_cons_succ, Nat.add_zero] at hS)
    | ((with_reducible refine g_load ?_); (first | (refine s_loadBs (k := 0) hS hE rfl rfl (by first | exact hk ) (by omega) rfl ?_) ); clear hE a; intro a hE)
    )
  refine c_ordH _ hS (fun u hu => hu) 21 ((.rd 0 (.rd 1 (.rd 2 (.rd 3 (.rd 4 (.rd 5 (.rd 6 (.rd 9 (.rd 10 (.rd 11 (.rd 12 (.rd 13 (.rd 14 (.rd 15 (.rd 16 (.rd 17 (.rd 18 (.ef2 7 (.ef2 8 ((.ef 19 (.ef 20 (.lt 21 (.lt 22 .done))))) 19 ((.ef 8 (.ef 20 (.lt 21 (.lt 22 .done)))))) 19 ((.ef 7 (.ef 8 (.ef 20 (.lt 21 (.lt 22 .done))))))))))))))))))))))))) mixed (by decide +kernel) ?_
  clear hS; intro w hF hS
  repeat' (first
    | (with_reducible refine o_rd rfl ?_)
    | ((with_reducible refine q_conv ?_); refine d_val hE hS rfl (fun w hS => r_conv hE rfl (by first  | exact wrap_u64_in (by omega) )) ?_; clear hE a; intro a hE)
    | ((with_reducible refine q_fa ?_); refine d_val hE hS rfl (fun w hS => r_fieldL hE rfl rfl) ?_; clear hE a; intro a hE)
    | ((with_reducible refine q_load ?_); (first | (refine d_val hE hS rfl (fun w hS => r_loadB (k := 0) hS hE rfl rfl rfl) ?_) | (refine d_val hE hS rfl (fun w hS => r_loadB (k := 1) hS hE rfl rfl rfl) ?_) ); clear hE a; intro a hE)
    )
  refine o_ef2 rfl rfl ?_ ?_
  · skip
    refine g_lit ?_
    refine s_lit hE hF rfl rfl rfl rfl rfl (by intro v hv; simp only [List.mem_cons, List.not_mem_nil, or_false] at hv; rcases hv with rfl | rfl | rfl <;> rfl) rfl ?_
    clear hE a hF; intro g7 a w hE hF
    refine wpList_nil ?_
    refine o_back _ (fun _ h => h) hF.tail ?_
    clear hS; have hS := hF.tail
    skip
    refine o_ef2 rfl rfl ?_ ?_
    · skip
      refine s_call hE rfl rfl rfl (hshort (some ⟨g7, 0, none⟩) 3 [t.r, t.a, t.b] 3 rfl (hF.rdAt (k := 0) rfl) hl3 (by show 3 ≤ 100; decide)) ?_
      rintro _ w ⟨A8, c8, rfl, hS1⟩; clear hE a; intro a hE; replace hF := hF.frame hS1; clear hS1; simp only [List.cons_append, List.nil_append] at hF
      refine wpList_nil ?_
      refine o_back _ (fun _ h => h) hF.tail.tail ?_
      clear hS; have hS := hF.tail.tail
      repeat' (first
        | ((with_reducible refine o_ef rfl ?_))
        )
      refine g_lit ?_
      refine s_lit hE hF rfl rfl rfl rfl rfl (by intro v hv; simp only [List.mem_cons, List.not_mem_nil, or_false] at hv; rcases hv with rfl | rfl | rfl | rfl | rfl <;> rfl) rfl ?_
      clear hE a hF; intro g19 a w hE hF
      refine wpList_nil ?_
      refine o_back _ (fun _ h => h) hF.tail.tail.tail ?_
      clear hS; have hS := hF.tail.tail.tail
      repeat' (first
        | ((with_reducible refine o_ef rfl ?_))
        )
      refine s_call hE rfl rfl rfl (hlong A8 c8 ([t.r, t.a, t.b].flatMap (beb 4)) _ rfl (hF.rdAt (k := 1) rfl) (by rw [fm_len (beb 4) 4 (beb_length 4)]; show 3 * 4 ≤ 1000; decide) (some ⟨g19, 0, none⟩) 5 [t.x0, t.x1, t.y0, t.y1, t.v] 5 rfl (hF.rdAt (k := 0) rfl) hl5 (by show 5 ≤ 100; decide) (by show 0 < 5; decide)) ?_
      rintro _ w ⟨A9, c9, rfl, hS1⟩; clear hE a; intro a hE; replace hF := hF.frame hS1; clear hS1; simp only [List.cons_append, List.nil_append] at hF
      rw [show [t.r, t.a, t.b].flatMap (beb 4) ++ longB [t.x0, t.x1, t.y0, t.y1, t.v] = t.enc from rfl, tenc_len] at hE hF
      refine wpList_nil ?_
      refine o_back _ (fun _ h => h) hF.tail.tail.tail.tail ?_
      clear hS; have hS := hF; clear hF
      repeat' (first
        | ((with_reducible refine o_lt rfl ?_))
        )
      repeat' (first

        | (with_reducible refine wpList_nil ?_)
        | ((with_reducible refine g_assign ?_); refine s_assign hE rfl rfl ?_; clear hE a; intro a hE)
        )
      refine o_backL ?_
      repeat' (first
        | ((with_reducible refine o_lt rfl ?_))
        )
      repeat' (first

        | (with_reducible refine wpList_nil ?_)
        | ((with_reducible refine g_assign ?_); refine s_assign hE rfl rfl ?_; clear hE a; intro a hE)
        )
      refine o_backL ?_
      repeat' (first
        | (with_reducible refine o_done ?_)
        )
      repeat' (first

        | (with_reducible refine then_normal ?_)
        | (with_reducible refine wp_ret ?_)
        )
      exact ret2 hE rfl rfl rfl ⟨A9, c9, rfl, hS.only 0 rfl⟩
    · skip
      refine g_lit ?_
      refine s_lit hE hF rfl rfl rfl rfl rfl (by intro v hv; simp only [List.mem_cons, List.not_mem_nil, or_false] at hv; rcases hv with rfl | rfl | rfl | rfl | rfl <;> rfl) rfl ?_
      clear hE a hF; intro g19 a w hE hF
      refine wpList_nil ?_
      refine o_back _ (fun _ h => h) hF.tail.tail ?_
      clear hS; have hS := hF.tail.tail
      repeat' (first
        | ((with_reducible refine o_ef rfl ?_))
        )
      refine s_call hE rfl rfl rfl (hshort (some ⟨g7, 0, none⟩) 3 [t.r, t.a, t.b] 3 rfl (hF.rdAt (k := 1) rfl) hl3 (by show 3 ≤ 100; decide)) ?_
      rintro _ w ⟨A8, c8, rfl, hS1⟩; clear hE a; intro a hE; replace hF := hF.frame hS1; clear hS1; simp only [List.cons_append, List.nil_append] at hF
      refine wpList_nil ?_
      refine o_back _ (fun _ h => h) hF.tail.tail.tail ?_
      clear hS; have hS := hF.tail.tail.tail
      repeat' (first
        | ((with_reducible refine o_ef rfl ?_))
        )
      refine s_call hE rfl rfl rfl (hlong A8 c8 ([t.r, t.a, t.b].flatMap (beb 4)) _ rfl (hF.rdAt (k := 0) rfl) (by rw [fm_len (beb 4) 4 (beb_length 4)]; show 3 * 4 ≤ 1000; decide) (some ⟨g19, 0, none⟩) 5 [t.x0, t.x1, t.y0, t.y1, t.v] 5 rfl (hF.rdAt (k := 1) rfl) hl5 (by show 5 ≤ 100; decide) (by show 0 < 5; decide)) ?_
      rintro _ w ⟨A9, c9, rfl, hS1⟩; clear hE a; intro a hE; replace hF := hF.frame hS1; clear hS1; simp only [List.cons_append, List.nil_append] at hF
      rw [show [t.r, t.a, t.b].flatMap (beb 4) ++ longB [t.x0, t.x1, t.y0, t.y1, t.v] = t.enc from rfl, tenc_len] at hE hF
      refine wpList_nil ?_
      refine o_back _ (fun _ h => h) hF.tail.tail.tail.tail ?_
      clear hS; have hS := hF; clear hF
      repeat' (first
        | ((with_reducible refine o_lt rfl ?_))
        )
      repeat' (first

        | (with_reducible refine wpList_nil ?_)
        | ((with_reducible refine g_assign ?_); refine s_assign hE rfl rfl ?_; clear hE a; intro a hE)
        )
      refine o_backL ?_
      repeat' (first
        | ((with_reducible refine o_lt rfl ?_))
        )
      repeat' (first

        | (with_reducible refine wpList_nil ?_)
        | ((with_reducible refine g_assign ?_); refine s_assign hE rfl rfl ?_; clear hE a; intro a hE)
        )
      refine o_backL ?_
      repeat' (first
        | (with_reducible refine o_done ?_)
        )
      repeat' (first

        | (with_reducible refine then_normal ?_)
        | (with_reducible refine wp_ret ?_)
        )
      exact ret2 hE rfl rfl rfl ⟨A9, c9, rfl, hS.only 0 rfl⟩
  · skip
    refine g_lit ?_
    refine s_lit hE hF rfl rfl rfl rfl rfl (by intro v hv; simp only [List.mem_cons, List.not_mem_nil, or_false] at hv; rcases hv with rfl | rfl | rfl | rfl | rfl <;> rfl) rfl ?_
    clear hE a hF; intro g19 a w hE hF
    refine wpList_nil ?_
    refine o_back _ (fun _ h => h) hF.tail ?_
    clear hS; have hS := hF.tail
    repeat' (first
      | ((with_reducible refine o_ef rfl ?_))
      )
    refine g_lit ?_
    refine s_lit hE hF rfl rfl rfl rfl rfl (by intro v hv; simp only [List.mem_cons, List.not_mem_nil, or_false] at hv; rcases hv with rfl | rfl | rfl <;> rfl) rfl ?_
    clear hE a hF; intro g7 a w hE hF
    refine wpList_nil ?_
    refine o_back _ (fun _ h => h) hF.tail.tail ?_
    clear hS; have hS := hF.tail.tail
    repeat' (first
      | ((with_reducible refine o_ef rfl ?_))
      )
    refine s_call hE rfl rfl rfl (hshort (some ⟨g7, 0, none⟩) 3 [t.r, t.a, t.b] 3 rfl (hF.rdAt (k := 0) rfl) hl3 (by show 3 ≤ 100; decide)) ?_
    rintro _ w ⟨A8, c8, rfl, hS1⟩; clear hE a; intro a hE; replace hF := hF.frame hS1; clear hS1; simp only [List.cons_append, List.nil_append] at hF
    refine wpList_nil ?_
    refine o_back _ (fun _ h => h) hF.tail.tail.tail ?_
    clear hS; have hS := hF.tail.tail.tail
    repeat' (first
      | ((with_reducible refine o_ef rfl ?_))
      )
    refine s_call hE rfl rfl rfl (hlong A8 c8 ([t.r, t.a, t.b].flatMap (beb 4)) _ rfl (hF.rdAt (k := 0) rfl) (by rw [fm_len (beb 4) 4 (beb_length 4)]; show 3 * 4 ≤ 1000; decide) (some ⟨g19, 0, none⟩) 5 [t.x0, t.x1, t.y0, t.y1, t.v] 5 rfl (hF.rdAt (k := 2) rfl) hl5 (by show 5 ≤ 100; decide) (by show 0 < 5; decide)) ?_
    rintro _ w ⟨A9, c9, rfl, hS1⟩; clear hE a; intro a hE; replace hF := hF.frame hS1; clear hS1; simp only [List.cons_append, List.nil_append] at hF
    rw [show [t.r, t.a, t.b].flatMap (beb 4) ++ longB [t.x0, t.x1, t.y0, t.y1, t.v] = t.enc from rfl, tenc_len] at hE hF
    refine wpList_nil ?_
    refine o_back _ (fun _ h => h) hF.tail.tail.tail.tail ?_
    clear hS; have hS := hF; clear hF
    repeat' (first
      | ((with_reducible refine o_lt rfl ?_))
      )
    repeat' (first

      | (with_reducible refine wpList_nil ?_)
      | ((with_reducible refine g_assign ?_); refine s_assign hE rfl rfl ?_; clear hE a; intro a hE)
      )
    refine o_backL ?_
    repeat' (first
      | ((with_reducible refine o_lt rfl ?_))
      )
    repeat' (first

      | (with_reducible refine wpList_nil ?_)
      | ((with_reducible refine g_assign ?_); refine s_assign hE rfl rfl ?_; clear hE a; intro a hE)
      )
    refine o_backL ?_
    repeat' (first
      | (with_reducible refine o_done ?_)
      )
    repeat' (first

      | (with_reducible refine then_normal ?_)
      | (with_reducible refine wp_ret ?_)
      )
    exact ret2 hE rfl rfl rfl ⟨A9, c9, rfl, hS.only 0 rfl⟩
theorem hencode_no (t : TM) (h : t.right = false) (w0 : World) :
    Fn Try.prog 9 [.agg t.cells.toArray] w0 fun v w' => v = .tuple #[.slice none 0 0, .int .i64 200] ∧ St w0 w' [] := by
  have hcl : t.cells.length = 8 := rfl
  refine enter 34 Try.func9 rfl rfl rfl ?_
  intro a hE
  have hS := St.start w0
  repeat' (first

    | (with_reducible refine wp_seq ?_)
    | (with_reducible refine c_region ?_)
    | (with_reducible refine wpList_nil ?_)
    | (with_reducible refine then_normal ?_)
    | ((with_reducible refine g_assign ?_); refine s_assign hE rfl rfl ?_; clear hE a; intro a hE)
    | ((with_reducible refine g_box ?_); refine s_boxS hE hS rfl rfl ?_; clear hE a hS; intro g a w hE hS)
    | ((with_reducible refine g_load ?_); (first | (refine s_loadW (k := 0) hS hE rfl rfl rfl rfl ?_) ); clear hE a; intro a hE)
    )
  refine s_call hE rfl rfl rfl (tcheck t w) ?_
  rintro _ w ⟨rfl, hS1⟩; clear hE a; intro a hE; replace hS := hS.frame hS1; clear hS1; try simp only [List.cons_append, List.nil_append] at hS
  rw [h, if_neg (by decide)] at hE
  repeat' (first

    | (with_reducible refine wp_seq ?_)
    | (with_reducible refine c_region ?_)
    | (with_reducible refine wpList_nil ?_)
    | (with_reducible refine then_normal ?_)
    | (with_reducible refine wp_ret ?_)
    | (with_reducible refine then_ret ?_)
    | ((with_reducible refine g_move ?_); refine s_move hE rfl rfl ?_; clear hE a; intro a hE)
    | ((with_reducible refine g_assign ?_); refine s_assign hE rfl rfl ?_; clear hE a; intro a hE)
    | ((with_reducible refine g_bin .neq ?_); refine s_neq hE rfl rfl rfl ?_; clear hE a; intro a hE)
    | ((with_reducible refine g_cond ?_); refine c_true hE rfl ?_)
    )
  exact ret2 hE rfl rfl rfl ⟨rfl, hS.nil⟩
def TM.first : TM := ⟨1, 2, 0, 0, 1, -1, 0, 3⟩
theorem hfirst (w0 : World) : Fn Try.prog 29 [] w0 fun v w' => v = .agg TM.first.cells.toArray ∧ St w0 w' [] := by
  refine enter 3 Try.func29 rfl rfl rfl ?_
  intro a hE
  have hS := St.start w0
  repeat' (first

    | (with_reducible refine wp_seq ?_)
    | (with_reducible refine c_region ?_)
    | (with_reducible refine wpList_nil ?_)
    | (with_reducible refine then_normal ?_)
    | (with_reducible refine wp_ret ?_)
    | ((with_reducible refine g_alloc ?_); refine s_allocS hE hS rfl rfl ?_; clear hE a hS; intro g a w hE hS)
    | ((with_reducible refine g_build ?_); refine s_build [_, _, _, _] hE rfl rfl rfl ?_; clear hE a; intro a hE)
    | ((with_reducible refine g_build ?_); refine s_build [_, _, _, _, _, _, _, _] hE rfl rfl rfl ?_; clear hE a; intro a hE)
    | ((with_reducible refine g_store ?_); (first | (refine s_storeW (k := 0) hS hE rfl rfl rfl rfl rfl (by first | (simp [Value.oneCell']; done)) ?_) ); clear hS; intro w hS; simp only [List.set_cons_zero, List.set_cons_succ, Nat.add_zero] at hS)
    )
  exact retG (vs := [_]) hE rfl ⟨⟨_, rfl, res_W (k := 0) hS rfl rfl⟩, trivial⟩ ⟨rfl, hS.nil⟩
end
end Go.Proofs.Ytaiahigeejodaaa
