/-
  Contracts of record: encoded; copied.
-/
import Derived.Test.YtmfcffeoooegcaaRB
import Derived.Test.YtmfcffeoooegcaaRC
import Derived.Test.YtmfcffeoooegcaaRD
namespace Go.Proofs.Ytmfcffeoooegcaa
open Go.RowKit
set_option linter.unusedVariables false
set_option linter.unusedSimpArgs false
attribute [local irreducible] Rd hRow hBlk hRd hAll Fn

theorem check_ok (r : Rc) (w0 : World) (hr : r.rd w0) (hw : r.wf) (hR : r.right) : Fn Try.prog 14 [.agg r.cells.toArray] w0 fun v w' => v = .int .i64 0 ∧ St w0 w' [] := by
  have h := check r w0 hr hw
  rw [if_pos hR] at h
  exact h
theorem check_no (r : Rc) (w0 : World) (hr : r.rd w0) (hw : r.wf) (hR : ¬ r.right) : Fn Try.prog 14 [.agg r.cells.toArray] w0 fun v w' => v = .int .i64 150 ∧ St w0 w' [] := by
  have h := check r w0 hr hw
  rw [if_neg hR] at h
  exact h
theorem put0 (r : Rc) (H : List HP) (w0 w : World) (hr : r.rd w0) (hw : r.wf) (hR : r.right) (hS : St w0 w H) :
    Fn Try.prog 30 [.slice none 0 0, .agg r.cells.toArray] w fun v w' => ∃ A' c', v = .slice A' r.enc.length c' ∧ St w0 w' (hRow 5 1 A' r.enc.length c' (bys r.enc) :: H) := by
  have h := put_ r none 0 [] H w0 w hr hw hR (by decide) (hS.rowNil _ _)
  simp only [List.nil_append, List.length_nil] at h
  exact h
theorem encode_ok (r : Rc) (w0 : World) (hr : r.rd w0) (hw : r.wf) (hR : r.right) : Fn Try.prog 11 [.agg r.cells.toArray] w0 fun v w' => ∃ A' c', v = .tuple #[.slice A' r.enc.length c', .int .i64 0] ∧ St w0 w' [hRow 5 1 A' r.enc.length c' (bys r.enc)] := by
  refine enter 12 Try.func11 rfl rfl rfl ?_
  intro a hE
  have hS := St.start w0
  repeat' (first
    | (with_reducible refine wp_seq ?_)
    | (with_reducible refine c_region ?_)
    | (with_reducible refine wpList_nil ?_)
    | (with_reducible refine then_normal ?_)
    | (with_reducible refine wp_skip ?_)
    | (with_reducible refine wp_ret ?_)
    | ((with_reducible refine g_move ?_); refine s_move hE rfl rfl ?_; clear hE a; intro a hE)
    | ((with_reducible refine g_assign ?_); refine s_assign hE rfl rfl ?_; clear hE a; intro a hE)
    | ((with_reducible refine g_bin .neq ?_); refine s_neq hE rfl rfl rfl ?_; clear hE a; intro a hE)
    | ((with_reducible refine g_cond ?_); refine c_false hE rfl ?_)
    | ((with_reducible refine g_box ?_); refine s_boxS hE hS rfl rfl ?_; clear hE a hS; intro g a w hE hS)
    | ((with_reducible refine g_load ?_); (first | (refine s_loadW (k := 0) hS hE rfl rfl rfl rfl ?_) ); clear hE a; intro a hE)
    | ((with_reducible refine g_call (f := 14) ?_); (first | (refine s_call hE rfl rfl rfl (check_ok _ w (Rc.rd_st (by assumption) hS) (by assumption) (by assumption)) ?_) ); rintro _ w ⟨rfl, hS1⟩; clear hE a; intro a hE; replace hS := hS.frame hS1; clear hS1; try simp only [List.cons_append, List.nil_append] at hS) | ((with_reducible refine g_call (f := 30) ?_); refine s_call hE rfl rfl rfl (put0 _ _ _ w (Rc.rd_st (by assumption) hS) (by assumption) (by assumption) (St.start w)) ?_; rintro _ w ⟨_, _, rfl, hS1⟩; clear hE a; intro a hE; replace hS := hS.frame hS1; clear hS1; try simp only [List.cons_append, List.nil_append] at hS)
    )
  exact ret2 hE rfl rfl rfl ⟨_, _, rfl, hS.drop1⟩
theorem encode_no (r : Rc) (w0 : World) (hr : r.rd w0) (hw : r.wf) (hR : ¬ r.right) : Fn Try.prog 11 [.agg r.cells.toArray] w0 fun v w' => v = .tuple #[.slice none 0 0, .int .i64 150] ∧ St w0 w' [] := by
  refine enter 12 Try.func11 rfl rfl rfl ?_
  intro a hE
  have hS := St.start w0
  repeat' (first
    | (with_reducible refine wp_seq ?_)
    | (with_reducible refine c_region ?_)
    | (with_reducible refine wpList_nil ?_)
    | (with_reducible refine then_normal ?_)
    | (with_reducible refine wp_ret ?_)
    | (with_reducible refine then_ret ?_)
    | ((with_reducible refine g_move ?_); refine s_move hE rfl rfl ?_; clear hE a; intro a hE)
    | ((with_reducible refine g_assign ?_); refine s_assign hE rfl rfl ?_; clear hE a; intro a hE)
    | ((with_reducible refine g_bin .neq ?_); refine s_neq hE rfl rfl rfl ?_; clear hE a; intro a hE)
    | ((with_reducible refine g_cond ?_); refine c_true hE rfl ?_)
    | ((with_reducible refine g_box ?_); refine s_boxS hE hS rfl rfl ?_; clear hE a hS; intro g a w hE hS)
    | ((with_reducible refine g_load ?_); (first | (refine s_loadW (k := 0) hS hE rfl rfl rfl rfl ?_) ); clear hE a; intro a hE)
    | ((with_reducible refine g_call (f := 14) ?_); (first | (refine s_call hE rfl rfl rfl (check_no _ w (Rc.rd_st (by assumption) hS) (by assumption) (by assumption)) ?_)); rintro _ w ⟨rfl, hS1⟩; clear hE a; intro a hE; replace hS := hS.frame hS1; clear hS1; try simp only [List.cons_append, List.nil_append] at hS)
    )
  exact ret2 hE rfl rfl rfl ⟨rfl, hS.nil⟩
/-- where a record's rows lie is another matter -/
def Rc.at_ (r : Rc) (A : Option Addr) (c : Nat) (B : Option Addr) (d : Nat) : Rc := { r with A := A, c := c, B := B, d := d }
set_option maxHeartbeats 4000000 in
theorem copied (r : Rc) (w0 : World) (hr : r.rd w0) (hw : r.wf) : Fn Try.prog 12 [.agg r.cells.toArray] w0 fun v w' => ∃ A c B d, v = .agg (r.at_ A c B d).cells.toArray ∧ St w0 w' [hRow 5 1 A r.o.length c (bys r.o), hRow 5 1 B r.w.length d (bys r.w)] := by
  obtain ⟨l, k, t, b, p, s, o, y, n, A0, B, c0, d⟩ := r
  obtain ⟨hrA, hrB⟩ := hr
  obtain ⟨h1, h2, h3, h4, h5, h6, h7, h8, h9, h10, h11⟩ := hw
  dsimp only at h1 h2 h3 h4 h5 h6 h7 h8 h9 h10 h11 hrA hrB
  dsimp only [Rc.cells, Rc.at_]
  refine enter 14 Try.func12 rfl rfl rfl ?_
  intro a hE
  have hS := St.start w0
  repeat' (first
    | (with_reducible refine wp_seq ?_)
    | (with_reducible refine c_region ?_)
    | (with_reducible refine wpList_nil ?_)
    | (with_reducible refine then_normal ?_)
    | ((with_reducible refine g_alloc ?_); refine s_allocS hE hS rfl rfl ?_; clear hE a hS; intro g a w hE hS)
    | ((with_reducible refine g_box ?_); refine s_boxS hE hS rfl rfl ?_; clear hE a hS; intro g a w hE hS)
    )
  refine c_ordK hS 1 rfl 9 ((.rd 1 (.rd 2 (.rd 5 (.rd 6 (.ef2 0 (.ef2 3 ((.rd 8 (.ef 4 (.ef 7 (.lt 9 (.lt 10 (.lt 11 .done))))))) 4 ((.ef 3 (.rd 8 (.ef 7 (.lt 9 (.lt 10 (.lt 11 .done)))))))) 4 ((.ef 0 (.ef 3 (.rd 8 (.ef 7 (.lt 9 (.lt 10 (.lt 11 .done)))))))))))))) mixed (by decide +kernel) ?_
  clear hS; intro w hF hS
  repeat' (first
    | (with_reducible refine o_rd rfl ?_)
    | ((with_reducible refine q_fa ?_); refine d_val hE hS rfl (fun w hS => r_fieldL hE rfl rfl) ?_; clear hE a; intro a hE)
    | ((with_reducible refine q_load ?_); (first | (refine d_val hE hS rfl (fun w hS => r_loadB (k := 0) hS hE rfl rfl rfl) ?_) ); clear hE a; intro a hE)
    )
  refine o_ef2 rfl rfl ?_ ?_
  · refine g_lit ?_
    refine s_lit hE hF rfl rfl rfl rfl rfl (by simp [Value.oneCell']) rfl ?_
    clear hE a hF; intro g5 a w hE hF
    refine wpList_nil ?_
    refine o_back _ (fun _ h => h) (hF.only 2 rfl) ?_
    clear hS
    have hS := hF.only 2 rfl
    refine o_ef2 rfl rfl ?_ ?_
    · refine g_blt .append ?_
      refine s_appendB0 (k := 0) hE hF rfl rfl rfl (by first | exact Rd.st (by assumption) hF) (by first | rfl) rfl (by first | omega ) rfl rfl rfl ?_
      clear hE a hF; intro A5 c5 a w hE hF; simp only [List.set_cons_zero, List.set_cons_succ] at hF
      refine wpList_nil ?_
      refine o_back _ (fun _ h => h) (hF.only 2 rfl) ?_
      clear hS
      have hS := hF.only 2 rfl
      repeat' (first
        | (with_reducible refine o_rd rfl ?_)
        | ((with_reducible refine q_fa ?_); refine d_val hE hS rfl (fun w hS => r_fieldL hE rfl rfl) ?_; clear hE a; intro a hE)
        | ((with_reducible refine o_ef rfl ?_))
        )
      refine g_lit ?_
      refine s_lit hE hF rfl rfl rfl rfl rfl (by simp [Value.oneCell']) rfl ?_
      clear hE a hF; intro g5 a w hE hF
      refine wpList_nil ?_
      refine o_back _ (fun _ h => h) (hF.only 3 rfl) ?_
      clear hS
      have hS := hF.only 3 rfl
      repeat' (first
        | ((with_reducible refine o_ef rfl ?_))
        )
      refine g_blt .append ?_
      refine s_appendB0 (k := 0) hE hF rfl rfl rfl (by first | exact Rd.st (by assumption) hF) (by first | rfl) rfl (by first | omega ) rfl rfl rfl ?_
      clear hE a hF; intro A5 c5 a w hE hF; simp only [List.set_cons_zero, List.set_cons_succ] at hF
      refine wpList_nil ?_
      refine o_back _ (fun _ h => h) (hF.only 3 rfl) ?_
      clear hS
      have hS := hF.only 3 rfl
      repeat' (first
        | ((with_reducible refine o_lt rfl ?_))
        )
      clear hS
      have hS := hF
      clear hF
      repeat' (first
        | (with_reducible refine wp_seq ?_)
        | (with_reducible refine c_region ?_)
        | (with_reducible refine wpList_nil ?_)
        | (with_reducible refine then_normal ?_)
        | (with_reducible refine wp_ret ?_)
        | ((with_reducible refine g_fa ?_); refine s_fieldL hE rfl rfl rfl ?_; clear hE a; intro a hE)
        | ((with_reducible refine g_store ?_); (first | (refine s_storeB (k := 3) hS hE rfl rfl rfl rfl rfl rfl ?_) ); clear hS; intro w hS; simp only [List.set_cons_zero, List.set_cons_succ, Nat.add_zero] at hS)
        | ((with_reducible refine g_load ?_); (first | (refine s_loadW (k := 3) hS hE rfl rfl rfl rfl ?_) ); clear hE a; intro a hE)
        | ((with_reducible refine g_store ?_); (first | (refine s_storeW (k := 2) hS hE rfl rfl rfl rfl rfl (by simp [Value.oneCell']) ?_) ); clear hS; intro w hS; simp only [List.set_cons_zero, List.set_cons_succ, Nat.add_zero] at hS)

        | (with_reducible refine o_done ?_)
        | ((with_reducible refine o_lt rfl ?_))
        | ((with_reducible refine o_backL ?_))
        )
      exact retG (vs := [_]) hE rfl ⟨⟨_, rfl, res_W (k := 2) hS rfl rfl⟩, trivial⟩ ⟨_, _, _, _, rfl, St.drop 2 (St.drop 2 hS.p1)⟩
    · refine g_lit ?_
      refine s_lit hE hF rfl rfl rfl rfl rfl (by simp [Value.oneCell']) rfl ?_
      clear hE a hF; intro g5 a w hE hF
      refine wpList_nil ?_
      refine o_back _ (fun _ h => h) (hF.only 3 rfl) ?_
      clear hS
      have hS := hF.only 3 rfl
      repeat' (first
        | ((with_reducible refine o_ef rfl ?_))
        )
      refine g_blt .append ?_
      refine s_appendB0 (k := 1) hE hF rfl rfl rfl (by first | exact Rd.st (by assumption) hF) (by first | rfl) rfl (by first | omega ) rfl rfl rfl ?_
      clear hE a hF; intro A5 c5 a w hE hF; simp only [List.set_cons_zero, List.set_cons_succ] at hF
      refine wpList_nil ?_
      refine o_back _ (fun _ h => h) (hF.only 3 rfl) ?_
      clear hS
      have hS := hF.only 3 rfl
      repeat' (first
        | (with_reducible refine o_rd rfl ?_)
        | ((with_reducible refine q_fa ?_); refine d_val hE hS rfl (fun w hS => r_fieldL hE rfl rfl) ?_; clear hE a; intro a hE)
        | ((with_reducible refine o_ef rfl ?_))
        )
      refine g_blt .append ?_
      refine s_appendB0 (k := 0) hE hF rfl rfl rfl (by first | exact Rd.st (by assumption) hF) (by first | rfl) rfl (by first | omega ) rfl rfl rfl ?_
      clear hE a hF; intro A5 c5 a w hE hF; simp only [List.set_cons_zero, List.set_cons_succ] at hF
      refine wpList_nil ?_
      refine o_back _ (fun _ h => h) (hF.only 3 rfl) ?_
      clear hS
      have hS := hF.only 3 rfl
      repeat' (first
        | ((with_reducible refine o_lt rfl ?_))
        )
      clear hS
      have hS := hF
      clear hF
      repeat' (first
        | (with_reducible refine wp_seq ?_)
        | (with_reducible refine c_region ?_)
        | (with_reducible refine wpList_nil ?_)
        | (with_reducible refine then_normal ?_)
        | (with_reducible refine wp_ret ?_)
        | ((with_reducible refine g_fa ?_); refine s_fieldL hE rfl rfl rfl ?_; clear hE a; intro a hE)
        | ((with_reducible refine g_store ?_); (first | (refine s_storeB (k := 3) hS hE rfl rfl rfl rfl rfl rfl ?_) ); clear hS; intro w hS; simp only [List.set_cons_zero, List.set_cons_succ, Nat.add_zero] at hS)
        | ((with_reducible refine g_load ?_); (first | (refine s_loadW (k := 3) hS hE rfl rfl rfl rfl ?_) ); clear hE a; intro a hE)
        | ((with_reducible refine g_store ?_); (first | (refine s_storeW (k := 2) hS hE rfl rfl rfl rfl rfl (by simp [Value.oneCell']) ?_) ); clear hS; intro w hS; simp only [List.set_cons_zero, List.set_cons_succ, Nat.add_zero] at hS)

        | (with_reducible refine o_done ?_)
        | ((with_reducible refine o_lt rfl ?_))
        | ((with_reducible refine o_backL ?_))
        )
      exact retG (vs := [_]) hE rfl ⟨⟨_, rfl, res_W (k := 2) hS rfl rfl⟩, trivial⟩ ⟨_, _, _, _, rfl, St.drop 2 (St.drop 2 hS.p1)⟩
  · refine g_lit ?_
    refine s_lit hE hF rfl rfl rfl rfl rfl (by simp [Value.oneCell']) rfl ?_
    clear hE a hF; intro g5 a w hE hF
    refine wpList_nil ?_
    refine o_back _ (fun _ h => h) (hF.only 2 rfl) ?_
    clear hS
    have hS := hF.only 2 rfl
    repeat' (first
      | ((with_reducible refine o_ef rfl ?_))
      )
    · refine g_lit ?_
      refine s_lit hE hF rfl rfl rfl rfl rfl (by simp [Value.oneCell']) rfl ?_
      clear hE a hF; intro g5 a w hE hF
      refine wpList_nil ?_
      refine o_back _ (fun _ h => h) (hF.only 3 rfl) ?_
      clear hS
      have hS := hF.only 3 rfl
      repeat' (first
        | ((with_reducible refine o_ef rfl ?_))
        )
      refine g_blt .append ?_
      refine s_appendB0 (k := 0) hE hF rfl rfl rfl (by first | exact Rd.st (by assumption) hF) (by first | rfl) rfl (by first | omega ) rfl rfl rfl ?_
      clear hE a hF; intro A5 c5 a w hE hF; simp only [List.set_cons_zero, List.set_cons_succ] at hF
      refine wpList_nil ?_
      refine o_back _ (fun _ h => h) (hF.only 3 rfl) ?_
      clear hS
      have hS := hF.only 3 rfl
      repeat' (first
        | (with_reducible refine o_rd rfl ?_)
        | ((with_reducible refine q_fa ?_); refine d_val hE hS rfl (fun w hS => r_fieldL hE rfl rfl) ?_; clear hE a; intro a hE)
        | ((with_reducible refine o_ef rfl ?_))
        )
      refine g_blt .append ?_
      refine s_appendB0 (k := 1) hE hF rfl rfl rfl (by first | exact Rd.st (by assumption) hF) (by first | rfl) rfl (by first | omega ) rfl rfl rfl ?_
      clear hE a hF; intro A5 c5 a w hE hF; simp only [List.set_cons_zero, List.set_cons_succ] at hF
      refine wpList_nil ?_
      refine o_back _ (fun _ h => h) (hF.only 3 rfl) ?_
      clear hS
      have hS := hF.only 3 rfl
      repeat' (first
        | ((with_reducible refine o_lt rfl ?_))
        )
      clear hS
      have hS := hF
      clear hF
      repeat' (first
        | (with_reducible refine wp_seq ?_)
        | (with_reducible refine c_region ?_)
        | (with_reducible refine wpList_nil ?_)
        | (with_reducible refine then_normal ?_)
        | (with_reducible refine wp_ret ?_)
        | ((with_reducible refine g_fa ?_); refine s_fieldL hE rfl rfl rfl ?_; clear hE a; intro a hE)
        | ((with_reducible refine g_store ?_); (first | (refine s_storeB (k := 3) hS hE rfl rfl rfl rfl rfl rfl ?_) ); clear hS; intro w hS; simp only [List.set_cons_zero, List.set_cons_succ, Nat.add_zero] at hS)
        | ((with_reducible refine g_load ?_); (first | (refine s_loadW (k := 3) hS hE rfl rfl rfl rfl ?_) ); clear hE a; intro a hE)
        | ((with_reducible refine g_store ?_); (first | (refine s_storeW (k := 2) hS hE rfl rfl rfl rfl rfl (by simp [Value.oneCell']) ?_) ); clear hS; intro w hS; simp only [List.set_cons_zero, List.set_cons_succ, Nat.add_zero] at hS)

        | (with_reducible refine o_done ?_)
        | ((with_reducible refine o_lt rfl ?_))
        | ((with_reducible refine o_backL ?_))
        )
      exact retG (vs := [_]) hE rfl ⟨⟨_, rfl, res_W (k := 2) hS rfl rfl⟩, trivial⟩ ⟨_, _, _, _, rfl, St.drop 2 (St.drop 2 hS)⟩
end Go.Proofs.Ytmfcffeoooegcaa
