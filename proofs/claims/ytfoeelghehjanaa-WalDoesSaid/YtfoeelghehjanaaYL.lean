/-
  A pair of disks and logs: begun, and opened again.
-/
import Derived.Test.YtfoeelghehjanaaYJ
import Derived.Test.YtfoeelghehjanaaYH
namespace Go.Proofs.Ytfoeelghehjanaa
open Go.RowKit
set_option linter.unusedVariables false
set_option linter.unusedSimpArgs false
section
variable {P : Program} {n d : Nat} {L : List (Nat × Value)} {a : Act} {w : World} {ty xt yt : TypeId} {ps : String} {af : Array Edge} {x y : Operand} {gd : Option (Nat × Bool)}
theorem r_eqpS {e size b : Nat} {zz : Value} {p : Addr} [TyU P xt (.pointer e)] [TyI P e size zz b] (hE : Env n L a) (hx : ev L x = some (.pointer (some p))) (hy : ev L y = some (.pointer (some p))) : (execOp a.eval ⟨some d, .binOp .eql xt x y yt, ty, ps, af, gd⟩).run P w = .ok (.value (.bool true)) w := by
  have hg : (eqGuard .eql xt x y (.pointer (some p)) (.pointer (some p))).run P w = .ok () w := rfl
  have h1 : (Op.equal xt (.pointer (some p)) (.pointer (some p))).run P w = .ok true w := by
    have e : Op.maxDepth = 9999 + 1 := rfl
    unfold Op.equal
    rw [e]
    unfold Op.equalIn
    simp only [Sem.run_bind, run_under (d := .pointer _), Result.andThen_ok, run_size (size := size) (zero := zz) (bytes := b)]
    split
    · simp [sameAddr]
    · simp
  simp only [execOp, hE.eval hx, hE.eval hy, Sem.run_bind, hg, Result.andThen_ok, binOp, h1, Sem.run_pure]
end
attribute [local irreducible] Rd hRow hBlk hRd hRdr wrP hDk hWl hMl Fn FnD hMarks
section
variable {H : List HP} {w0 w : World} {D : DM} {W : WM} {m gp gd gf gw gm : Nat}
set_option maxHeartbeats 16000000
set_option maxRecDepth 20000
theorem pbegun (ar : Nat) (har : 4 ≤ ar ∧ ar ≤ 1000) (w0 : World) : Fn Try.prog 43 [.int .i64 (ar : Int)] w0 fun v w' => ∃ gp gd gf gw gm W D, v = .tuple #[.pointer (some ⟨gp, 0, none⟩), .bool true] ∧ W.ok ∧ D.safe.length = 2 + 2 * ar ∧ D.atN 2100 ∧
    St w0 w' [hBlk gp 77 [.pointer (some ⟨gd, 0, none⟩), .pointer (some ⟨gf, 0, none⟩), .pointer (some ⟨gw, 0, none⟩), .pointer (some ⟨gm, 0, none⟩)], hWl gw gd W, hMl gm gf W, hDk gd D, hDk gf D] := by
  have hS := St.start w0
  obtain ⟨D, e1, hc, hp, hs⟩ := fmt_fresh (2 + 2 * ar) ar har (Nat.le_refl _)
  have hf0 := fresh_atN (n := 2 + 2 * ar) (by omega) (by omega)
  have hf1 := fmt_atN hf0 (ar : Int) (by decide)
  obtain ⟨hWo, _⟩ := fmt_ok (D := DM.fresh (2 + 2 * ar)) (a := (ar : Int)) (W := ⟨ar, 0, [[]], 1, false⟩) (by rw [e1])
  rw [e1] at hf1
  dsimp only at hf1
  have hsl : D.safe.length = 2 + 2 * ar := by
    rw [hs]
    have : (partsB 0 0 []).length = 1 := partsB_len ..
    simp only [List.length_cons, List.length_append, List.length_replicate, this]
    omega
  generalize (⟨ar, 0, [[]], 1, false⟩ : WM) = W0 at hWo e1
  have e2 : IntKind.i64.wrap (2 * (ar : Int)) = 2 * (ar : Int) := wrap64_in (by omega)
  have e3 : IntKind.i64.wrap (2 + 2 * (ar : Int)) = ((2 + 2 * ar : Nat) : Int) := by rw [wrap64_in (by omega)]; omega
  refine enter 109 Try.func43 rfl rfl rfl ?_
  intro a hE
  repeat' (first
 | (with_reducible refine wp_seq ?_)
 | (with_reducible refine c_region ?_)
 | (with_reducible refine wpList_nil ?_)
 | (with_reducible refine then_normal ?_)
 | ((with_reducible refine g_move ?_); refine s_move hE rfl rfl ?_; clear hE a; intro a hE)
 | ((with_reducible refine g_assign ?_); refine s_assign hE rfl rfl ?_; clear hE a; intro a hE)
 | ((with_reducible refine g_bin .add ?_); refine s_add hE rfl rfl rfl (by first | exact e3 ) ?_; clear hE a; intro a hE)
 | ((with_reducible refine g_bin .mul ?_); refine s_mul hE rfl rfl rfl (by first | exact e2 ) ?_; clear hE a; intro a hE)
 | ((with_reducible refine g_box ?_); refine s_boxS hE hS rfl rfl ?_; clear hE a hS; intro g a w hE hS)
 | ((with_reducible refine g_build ?_); refine s_build [_, _, _, _] hE rfl rfl rfl ?_; clear hE a; intro a hE))
  obtain ⟨gp, rfl⟩ : ∃ x, x = g := ⟨_, rfl⟩
  refine s_call hE rfl rfl rfl (knew (2 + 2 * ar) (by omega) (by omega) w) ?_
  rintro _ w ⟨gd, rfl, hS1⟩; clear hE a; intro a hE; replace hS := hS.frame hS1; clear hS1; try simp only [List.cons_append, List.nil_append] at hS
  repeat' (first
 | (with_reducible refine wp_seq ?_)
 | (with_reducible refine c_region ?_)
 | (with_reducible refine wpList_nil ?_)
 | (with_reducible refine then_normal ?_)
 | ((with_reducible refine g_move ?_); refine s_move hE rfl rfl ?_; clear hE a; intro a hE)
 | ((with_reducible refine g_bin .add ?_); refine s_add hE rfl rfl rfl (by first | exact e3 ) ?_; clear hE a; intro a hE)
 | ((with_reducible refine g_bin .mul ?_); refine s_mul hE rfl rfl rfl (by first | exact e2 ) ?_; clear hE a; intro a hE)
 | ((with_reducible refine g_extract ?_); refine s_extract hE rfl rfl rfl ?_; clear hE a; intro a hE)
 | ((with_reducible refine g_fa ?_); refine s_fieldL hE rfl rfl rfl ?_; clear hE a; intro a hE)
 | ((with_reducible refine g_nc ?_); refine s_nilCheck hE rfl rfl ?_; clear hE a; intro a hE)
 | ((with_reducible refine g_store ?_); (first | (refine s_storeB (k := 1) hS hE rfl rfl rfl rfl rfl rfl ?_) ); clear hS; intro w hS; simp only [List.set_cons_zero, List.set_cons_succ, Nat.add_zero] at hS))
  refine s_call hE rfl rfl rfl (knew (2 + 2 * ar) (by omega) (by omega) w) ?_
  rintro _ w ⟨gf, rfl, hS1⟩; clear hE a; intro a hE; replace hS := hS.frame hS1; clear hS1; try simp only [List.cons_append, List.nil_append] at hS
  repeat' (first
 | (with_reducible refine wp_seq ?_)
 | (with_reducible refine c_region ?_)
 | (with_reducible refine wpList_nil ?_)
 | (with_reducible refine then_normal ?_)
 | (with_reducible refine wp_skip ?_)
 | ((with_reducible refine g_move ?_); refine s_move hE rfl rfl ?_; clear hE a; intro a hE)
 | ((with_reducible refine g_extract ?_); refine s_extract hE rfl rfl rfl ?_; clear hE a; intro a hE)
 | ((with_reducible refine g_fa ?_); refine s_fieldL hE rfl rfl rfl ?_; clear hE a; intro a hE)
 | ((with_reducible refine g_nc ?_); refine s_nilCheck hE rfl rfl ?_; clear hE a; intro a hE)
 | ((with_reducible refine g_guard ?_); refine gd_yes hE rfl rfl rfl ?_)
 | ((with_reducible refine g_pick ?_); refine s_pickF hE rfl rfl rfl ?_; clear hE a; intro a hE)
 | ((with_reducible refine g_cond ?_); refine c_false hE rfl ?_)
 | ((with_reducible refine g_load ?_); (first | (refine s_loadB (k := 2) hS hE rfl rfl rfl rfl ?_) ); clear hE a; intro a hE)
 | ((with_reducible refine g_store ?_); (first | (refine s_storeB (k := 2) hS hE rfl rfl rfl rfl rfl rfl ?_) ); clear hS; intro w hS; simp only [List.set_cons_zero, List.set_cons_succ, Nat.add_zero] at hS)
 | ((with_reducible refine g_bin .eql ?_); refine s_val hE rfl rfl rfl (r_eqp hE rfl rfl) ?_; clear hE a; intro a hE))
  refine s_call hE rfl rfl rfl (kfmt (m := 0) (ar : Int) (by omega) hf0 (by decide) (hS.focus (k := 1) rfl)) ?_
  rw [e1]
  dsimp only
  rintro _ w (⟨W, gw, hW, _, rfl, hS⟩ | ⟨hW, _⟩)
  rotate_left
  · cases hW
  obtain rfl := Option.some.inj hW
  clear hE a; intro a hE
  simp only [List.eraseIdx_cons_succ, List.eraseIdx_cons_zero] at hS
  repeat' (first
 | (with_reducible refine wp_seq ?_)
 | (with_reducible refine c_region ?_)
 | (with_reducible refine wpList_nil ?_)
 | (with_reducible refine then_normal ?_)
 | ((with_reducible refine g_move ?_); refine s_move hE rfl rfl ?_; clear hE a; intro a hE)
 | ((with_reducible refine g_assign ?_); refine s_assign hE rfl rfl ?_; clear hE a; intro a hE)
 | ((with_reducible refine g_extract ?_); refine s_extract hE rfl rfl rfl ?_; clear hE a; intro a hE)
 | ((with_reducible refine g_fa ?_); refine s_fieldL hE rfl rfl rfl ?_; clear hE a; intro a hE)
 | ((with_reducible refine g_nc ?_); refine s_nilCheck hE rfl rfl ?_; clear hE a; intro a hE)
 | ((with_reducible refine g_load ?_); (first | (refine s_loadB (k := 3) hS hE rfl rfl rfl rfl ?_) ); clear hE a; intro a hE))
  refine s_call hE rfl rfl rfl (rfmt (m := 0) (ar : Int) (by omega) hf0 (by decide) (hS.focus (k := 2) rfl)) ?_
  rw [e1]
  dsimp only
  rintro _ w (⟨W, gm, hW, _, rfl, hS⟩ | ⟨hW, _⟩)
  rotate_left
  · cases hW
  obtain rfl := Option.some.inj hW
  clear hE a; intro a hE
  simp only [List.eraseIdx_cons_succ, List.eraseIdx_cons_zero] at hS
  repeat' (first
 | (with_reducible refine wp_seq ?_)
 | (with_reducible refine c_region ?_)
 | (with_reducible refine wpList_nil ?_)
 | (with_reducible refine then_normal ?_)
 | (with_reducible refine wp_skip ?_)
 | ((with_reducible refine g_move ?_); refine s_move hE rfl rfl ?_; clear hE a; intro a hE)
 | ((with_reducible refine g_assign ?_); refine s_assign hE rfl rfl ?_; clear hE a; intro a hE)
 | ((with_reducible refine g_bin .neq ?_); refine s_neq hE rfl rfl rfl ?_; clear hE a; intro a hE)
 | ((with_reducible refine g_extract ?_); refine s_extract hE rfl rfl rfl ?_; clear hE a; intro a hE)
 | ((with_reducible refine g_fa ?_); refine s_fieldL hE rfl rfl rfl ?_; clear hE a; intro a hE)
 | ((with_reducible refine g_nc ?_); refine s_nilCheck hE rfl rfl ?_; clear hE a; intro a hE)
 | ((with_reducible refine g_guard ?_); refine gd_yes hE rfl rfl rfl ?_)
 | ((with_reducible refine g_pick ?_); refine s_pickF hE rfl rfl rfl ?_; clear hE a; intro a hE)
 | ((with_reducible refine g_cond ?_); refine c_false hE rfl ?_)
 | ((with_reducible refine g_store ?_); (first | (refine s_storeB (k := 4) hS hE rfl rfl rfl rfl rfl rfl ?_) ); clear hS; intro w hS; simp only [List.set_cons_zero, List.set_cons_succ, Nat.add_zero] at hS)
 | ((with_reducible refine g_bin .eql ?_); refine s_val hE rfl rfl rfl (r_eqp hE rfl rfl) ?_; clear hE a; intro a hE))
  have hS2 : St w0 w [hBlk gp 77 [.pointer (some ⟨gd, 0, none⟩), .pointer (some ⟨gf, 0, none⟩), .pointer (some ⟨gw, 0, none⟩), .pointer (some ⟨gm, 0, none⟩)], hWl gw gd W0, hMl gm gf W0, hDk gd D, hDk gf D] := (St.selD [4, 2, 0, 1, 0] 0 hS)
  clear hS; have hS := hS2; clear hS2
  refine c_ordH [hBlk gp 77 [.pointer (some ⟨gd, 0, none⟩), .pointer (some ⟨gf, 0, none⟩), .pointer (some ⟨gw, 0, none⟩), .pointer (some ⟨gm, 0, none⟩)]] hS (fun u hu => hu.only 0 rfl) 31 ((.rd 0 (.rd 1 (.rd 2 (.rd 3 (.rd 4 (.rd 5 (.rd 6 (.rd 7 (.rd 8 (.ef 9 (.rd 10 (.rd 11 (.rd 12 (.rd 13 (.rd 14 (.rd 15 (.rd 16 (.rd 17 (.rd 18 (.ef 19 (.rd 20 (.rd 21 (.rd 22 (.rd 24 (.rd 25 (.rd 26 (.rd 27 (.ef 23 (.rd 28 (.rd 29 (.rd 30 (.lt 31 .done))))))))))))))))))))))))))))))))) mixed (by decide +kernel) ?_
  clear hS; intro w hF hS
  repeat' (first
 | (with_reducible refine o_rd rfl ?_)
 | ((with_reducible refine q_move ?_); refine d_val hE hS rfl (fun w hS => r_move hE rfl) ?_; clear hE a; intro a hE)
 | ((with_reducible refine q_fa ?_); refine d_val hE hS rfl (fun w hS => r_fieldL hE rfl rfl) ?_; clear hE a; intro a hE)
 | ((with_reducible refine q_nc ?_); refine d_val hE hS rfl (fun w hS => r_nilCheck hE rfl) ?_; clear hE a; intro a hE)
 | ((with_reducible refine q_load ?_); (first | (refine d_val hE hS rfl (fun w hS => r_loadB (k := 0) hS hE rfl rfl rfl) ?_) ); clear hE a; intro a hE)
 | ((with_reducible refine o_ef rfl ?_)))
  refine s_call hE rfl rfl rfl (ralike hf1 (by decide) (St.selD [3, 3, 0, 0, 0] 0 hF)) ?_
  rintro _ w ⟨rfl, hF⟩; clear hE a; intro a hE
  refine wpList_nil ?_
  refine o_back _ (fun _ h => h) (hF.only 2 rfl) ?_
  clear hS; have hS := hF.only 2 rfl
  repeat' (first
 | (with_reducible refine o_rd rfl ?_)
 | ((with_reducible refine q_move ?_); refine d_val hE hS rfl (fun w hS => r_move hE rfl) ?_; clear hE a; intro a hE)
 | ((with_reducible refine q_fa ?_); refine d_val hE hS rfl (fun w hS => r_fieldL hE rfl rfl) ?_; clear hE a; intro a hE)
 | ((with_reducible refine q_nc ?_); refine d_val hE hS rfl (fun w hS => r_nilCheck hE rfl) ?_; clear hE a; intro a hE)
 | ((with_reducible refine q_guard ?_); refine d_yes hE rfl rfl rfl ?_)
 | ((with_reducible refine q_load ?_); (first | (refine d_val hE hS rfl (fun w hS => r_loadB (k := 0) hS hE rfl rfl rfl) ?_) ); clear hE a; intro a hE)
 | ((with_reducible refine o_ef rfl ?_)))
  refine gd_yes hE rfl rfl (by decide) ?_
  refine s_call hE rfl rfl rfl (ragree hWo (St.selD [3, 3, 0, 0, 0] 0 hF)) ?_
  rintro _ w ⟨rfl, hF⟩; clear hE a; intro a hE
  refine wpList_nil ?_
  refine o_back _ (fun _ h => h) (hF.only 4 rfl) ?_
  clear hS; have hS := hF.only 4 rfl
  repeat' (first
 | (with_reducible refine o_rd rfl ?_)
 | ((with_reducible refine q_move ?_); refine d_val hE hS rfl (fun w hS => r_move hE rfl) ?_; clear hE a; intro a hE)
 | ((with_reducible refine q_fa ?_); refine d_val hE hS rfl (fun w hS => r_fieldL hE rfl rfl) ?_; clear hE a; intro a hE)
 | ((with_reducible refine q_nc ?_); refine d_val hE hS rfl (fun w hS => r_nilCheck hE rfl) ?_; clear hE a; intro a hE)
 | ((with_reducible refine q_guard ?_); refine d_yes hE rfl rfl rfl ?_)
 | ((with_reducible refine q_pick ?_); refine d_val hE hS rfl (fun w hS => r_pickT hE rfl rfl) ?_; clear hE a; intro a hE)
 | ((with_reducible refine q_load ?_); (first | (refine d_val hE hS rfl (fun w hS => r_loadB (k := 0) hS hE rfl rfl rfl) ?_) ); clear hE a; intro a hE)
 | ((with_reducible refine o_ef rfl ?_)))
  refine gd_yes hE rfl rfl (by decide) ?_
  refine s_call hE rfl rfl rfl (kdisk hF) ?_
  rintro _ w ⟨rfl, hF⟩; clear hE a; intro a hE
  refine wpList_nil ?_
  refine o_back _ (fun _ h => h) (hF.only 4 rfl) ?_
  clear hS; have hS := hF.only 4 rfl
  repeat' (first
 | (with_reducible refine o_rd rfl ?_)
 | ((with_reducible refine q_guard ?_); refine d_yes hE rfl rfl rfl ?_))
  refine d_val hE hS rfl (fun w hS => r_eqpS hE rfl rfl) ?_
  clear hE a; intro a hE
  repeat' (first
 | (with_reducible refine o_rd rfl ?_)
 | ((with_reducible refine q_assign ?_); refine d_val hE hS rfl (fun w hS => r_assign hE rfl) ?_; clear hE a; intro a hE)
 | ((with_reducible refine q_pick ?_); refine d_val hE hS rfl (fun w hS => r_pickT hE rfl rfl) ?_; clear hE a; intro a hE)
 | ((with_reducible refine o_lt rfl ?_)))
  clear hS; have hS := hF; clear hF
  repeat' (first
 | (with_reducible refine wpList_nil ?_)
 | ((with_reducible refine g_assign ?_); refine s_assign hE rfl rfl ?_; clear hE a; intro a hE))
  refine o_backL ?_
  repeat' (first
 | (with_reducible refine o_done ?_))
  repeat' (first
 | (with_reducible refine then_normal ?_)
 | (with_reducible refine wp_ret ?_))
  exact ret2 hE rfl rfl rfl ⟨gp, gd, gf, gw, gm, W0, D, rfl, hWo, hsl, hf1.mono (by decide), (St.selD [4, 0, 0, 0, 0] 0 hS)⟩
theorem pagain (hW : W.ok) (hD : D.atN m) (hm : m ≤ 70000) (hl : D.safe.length ≤ 2048) (hS : St w0 w (hBlk gp 77 [.pointer (some ⟨gd, 0, none⟩), .pointer (some ⟨gf, 0, none⟩), .pointer (some ⟨gw, 0, none⟩), .pointer (some ⟨gm, 0, none⟩)] :: hWl gw gd W :: hMl gm gf W :: hDk gd D :: hDk gf D :: H)) :
    Fn Try.prog 45 [.pointer (some ⟨gp, 0, none⟩)] w fun v w' => v = .bool true ∧ ∃ gw gm W D', W.ok ∧ D'.atN (m + D.safe.length + 3) ∧ D'.safe.length = D.safe.length ∧
      St w0 w' (hBlk gp 77 [.pointer (some ⟨gd, 0, none⟩), .pointer (some ⟨gf, 0, none⟩), .pointer (some ⟨gw, 0, none⟩), .pointer (some ⟨gm, 0, none⟩)] :: hWl gw gd W :: hMl gm gf W :: hDk gd D' :: hDk gf D' :: H) := by
  obtain ⟨x1, x2, x3⟩ := opn_atN hD (by omega) hl
  refine enter 55 Try.func45 rfl rfl rfl ?_
  intro a hE
  repeat' (first
 | (with_reducible refine wp_seq ?_)
 | (with_reducible refine c_region ?_)
 | (with_reducible refine wpList_nil ?_)
 | (with_reducible refine then_normal ?_)
 | ((with_reducible refine g_move ?_); refine s_move hE rfl rfl ?_; clear hE a; intro a hE)
 | ((with_reducible refine g_assign ?_); refine s_assign hE rfl rfl ?_; clear hE a; intro a hE)
 | ((with_reducible refine g_fa ?_); refine s_fieldL hE rfl rfl rfl ?_; clear hE a; intro a hE)
 | ((with_reducible refine g_nc ?_); refine s_nilCheck hE rfl rfl ?_; clear hE a; intro a hE)
 | ((with_reducible refine g_load ?_); (first | (refine s_loadB (k := 0) hS hE rfl rfl rfl rfl ?_) ); clear hE a; intro a hE))
  refine s_call hE rfl rfl rfl (kopn hD hm (hS.focus (k := 3) rfl)) ?_
  simp only [List.eraseIdx_cons_succ, List.eraseIdx_cons_zero]
  rintro _ w h
  clear hE a; intro a hE
  rcases h with ⟨W2, g2, h1, h2, rfl, hS⟩ | ⟨h1, h2, rfl, hS⟩
  · obtain ⟨hW2, _⟩ := x3 W2 h1
    repeat' (first
 | (with_reducible refine wp_seq ?_)
 | (with_reducible refine c_region ?_)
 | (with_reducible refine wpList_nil ?_)
 | (with_reducible refine then_normal ?_)
 | ((with_reducible refine g_move ?_); refine s_move hE rfl rfl ?_; clear hE a; intro a hE)
 | ((with_reducible refine g_assign ?_); refine s_assign hE rfl rfl ?_; clear hE a; intro a hE)
 | ((with_reducible refine g_extract ?_); refine s_extract hE rfl rfl rfl ?_; clear hE a; intro a hE)
 | ((with_reducible refine g_fa ?_); refine s_fieldL hE rfl rfl rfl ?_; clear hE a; intro a hE)
 | ((with_reducible refine g_nc ?_); refine s_nilCheck hE rfl rfl ?_; clear hE a; intro a hE)
 | ((with_reducible refine g_load ?_); (first | (refine s_loadB (k := 2) hS hE rfl rfl rfl rfl ?_) ); clear hE a; intro a hE))
    refine s_call hE rfl rfl rfl (ropn hD hm (hS.focus (k := 5) rfl)) ?_
    simp only [List.eraseIdx_cons_succ, List.eraseIdx_cons_zero]
    rintro _ w h
    clear hE a; intro a hE
    rcases h with ⟨W3, g3, h3, h4, rfl, hS⟩ | ⟨h3, _⟩
    rotate_left
    · rw [h1] at h3; cases h3
    obtain rfl : W2 = W3 := by rw [h1] at h3; exact Option.some.inj h3
    generalize D.opn.1 = D1 at x1 x2 hS
    repeat' (first
 | (with_reducible refine wp_seq ?_)
 | (with_reducible refine wpList_nil ?_)
 | (with_reducible refine then_normal ?_)
 | ((with_reducible refine g_move ?_); refine s_move hE rfl rfl ?_; clear hE a; intro a hE)
 | ((with_reducible refine g_assign ?_); refine s_assign hE rfl rfl ?_; clear hE a; intro a hE)
 | ((with_reducible refine g_extract ?_); refine s_extract hE rfl rfl rfl ?_; clear hE a; intro a hE))
    have hS2 : St w0 w (hBlk gp 77 [.pointer (some ⟨gd, 0, none⟩), .pointer (some ⟨gf, 0, none⟩), .pointer (some ⟨gw, 0, none⟩), .pointer (some ⟨gm, 0, none⟩)] :: hDk gd D1 :: hDk gf D1 :: hWl g2 gd W2 :: hMl g3 gf W2 :: hWl gw gd W :: hMl gm gf W :: H) := (St.selD [4, 3, 1, 1, 0, 0, 0] 0 hS)
    clear hS; have hS := hS2; clear hS2
    refine c_ordH [hBlk gp 77 [.pointer (some ⟨gd, 0, none⟩), .pointer (some ⟨gf, 0, none⟩), .pointer (some ⟨gw, 0, none⟩), .pointer (some ⟨gm, 0, none⟩)]] hS (fun u hu => hu.only 0 rfl) 22 ((.rd 0 (.rd 1 (.rd 2 (.rd 3 (.rd 4 (.rd 5 (.rd 6 (.rd 7 (.rd 8 (.rd 9 (.rd 10 (.rd 11 (.rd 12 (.rd 13 (.rd 14 (.rd 15 (.rd 16 (.rd 17 (.rd 18 (.ef 19 (.rd 20 (.rd 21 .done))))))))))))))))))))))) mixed (by decide +kernel) ?_
    clear hS; intro w hF hS
    repeat' (first
 | (with_reducible refine o_rd rfl ?_)
 | ((with_reducible refine q_move ?_); refine d_val hE hS rfl (fun w hS => r_move hE rfl) ?_; clear hE a; intro a hE)
 | ((with_reducible refine q_bin .neq ?_); refine d_val hE hS rfl (fun w hS => r_neq hE rfl rfl) ?_; clear hE a; intro a hE)
 | ((with_reducible refine q_bin .neq ?_); refine d_val hE hS rfl (fun w hS => r_neb hE rfl rfl) ?_; clear hE a; intro a hE)
 | ((with_reducible refine q_fa ?_); refine d_val hE hS rfl (fun w hS => r_fieldL hE rfl rfl) ?_; clear hE a; intro a hE)
 | ((with_reducible refine q_nc ?_); refine d_val hE hS rfl (fun w hS => r_nilCheck hE rfl) ?_; clear hE a; intro a hE)
 | ((with_reducible refine q_guard ?_); refine d_yes hE rfl rfl rfl ?_)
 | ((with_reducible refine q_pick ?_); refine d_val hE hS rfl (fun w hS => r_pickF hE rfl rfl) ?_; clear hE a; intro a hE)
 | ((with_reducible refine q_load ?_); (first | (refine d_val hE hS rfl (fun w hS => r_loadB (k := 0) hS hE rfl rfl rfl) ?_) ); clear hE a; intro a hE)
 | ((with_reducible refine q_bin .eql ?_); refine d_val hE hS rfl (fun w hS => r_eqp hE rfl rfl) ?_; clear hE a; intro a hE)
 | ((with_reducible refine o_ef rfl ?_)))
    refine gd_yes hE rfl rfl rfl ?_
    refine s_call hE rfl rfl rfl (ralike x1 (by omega) (St.selD [1, 1, 0, 0, 0, 0, 0] 0 hF)) ?_
    rintro _ w ⟨rfl, hF⟩; clear hE a; intro a hE
    refine wpList_nil ?_
    refine o_back _ (fun _ h => h) (hF.only 2 rfl) ?_
    clear hS; have hS := hF.only 2 rfl
    repeat' (first
 | (with_reducible refine o_rd rfl ?_)
 | (with_reducible refine o_done ?_)
 | ((with_reducible refine q_un .not ?_); refine d_val hE hS rfl (fun w hS => r_notb hE rfl) ?_; clear hE a; intro a hE)
 | ((with_reducible refine q_guard ?_); refine d_yes hE rfl rfl rfl ?_)
 | ((with_reducible refine q_pick ?_); refine d_val hE hS rfl (fun w hS => r_pickF hE rfl rfl) ?_; clear hE a; intro a hE))
    clear hS; have hS := hF; clear hF
    repeat' (first
 | (with_reducible refine wp_seq ?_)
 | (with_reducible refine c_region ?_)
 | (with_reducible refine wpList_nil ?_)
 | (with_reducible refine then_normal ?_)
 | (with_reducible refine wp_skip ?_)
 | (with_reducible refine wp_ret ?_)
 | ((with_reducible refine g_move ?_); refine s_move hE rfl rfl ?_; clear hE a; intro a hE)
 | ((with_reducible refine g_assign ?_); refine s_assign hE rfl rfl ?_; clear hE a; intro a hE)
 | ((with_reducible refine g_fa ?_); refine s_fieldL hE rfl rfl rfl ?_; clear hE a; intro a hE)
 | ((with_reducible refine g_nc ?_); refine s_nilCheck hE rfl rfl ?_; clear hE a; intro a hE)
 | ((with_reducible refine g_cond ?_); refine c_true hE rfl ?_)
 | ((with_reducible refine g_cond ?_); refine c_false hE rfl ?_)
 | ((with_reducible refine g_store ?_); (first | (refine s_storeB (k := 2) hS hE rfl rfl rfl rfl rfl rfl ?_) ); clear hS; intro w hS; simp only [List.set_cons_zero, List.set_cons_succ, Nat.add_zero] at hS)
 | ((with_reducible refine g_bin .neq ?_); refine s_val hE rfl rfl rfl (r_nep hE rfl rfl) ?_; clear hE a; intro a hE))
    exact ret1 hE rfl rfl ⟨rfl, g2, g3, W2, D1, hW2, x1, x2, (St.selD [2, 2, 2, 0, 0] 2 hS)⟩
  · repeat' (first
 | (with_reducible refine wp_seq ?_)
 | (with_reducible refine c_region ?_)
 | (with_reducible refine wpList_nil ?_)
 | (with_reducible refine then_normal ?_)
 | ((with_reducible refine g_move ?_); refine s_move hE rfl rfl ?_; clear hE a; intro a hE)
 | ((with_reducible refine g_assign ?_); refine s_assign hE rfl rfl ?_; clear hE a; intro a hE)
 | ((with_reducible refine g_extract ?_); refine s_extract hE rfl rfl rfl ?_; clear hE a; intro a hE)
 | ((with_reducible refine g_fa ?_); refine s_fieldL hE rfl rfl rfl ?_; clear hE a; intro a hE)
 | ((with_reducible refine g_nc ?_); refine s_nilCheck hE rfl rfl ?_; clear hE a; intro a hE)
 | ((with_reducible refine g_load ?_); (first | (refine s_loadB (k := 1) hS hE rfl rfl rfl rfl ?_) ); clear hE a; intro a hE))
    refine s_call hE rfl rfl rfl (ropn hD hm (hS.focus (k := 4) rfl)) ?_
    simp only [List.eraseIdx_cons_succ, List.eraseIdx_cons_zero]
    rintro _ w h
    clear hE a; intro a hE
    rcases h with ⟨W3, g3, h3, _⟩ | ⟨h3, h4, rfl, hS⟩
    · rw [h1] at h3; cases h3
    generalize D.opn.2.2 = e at h2 h4 hE
    generalize D.opn.1 = D1 at x1 x2 hS
    repeat' (first
 | (with_reducible refine wp_seq ?_)
 | (with_reducible refine wpList_nil ?_)
 | (with_reducible refine then_normal ?_)
 | ((with_reducible refine g_move ?_); refine s_move hE rfl rfl ?_; clear hE a; intro a hE)
 | ((with_reducible refine g_assign ?_); refine s_assign hE rfl rfl ?_; clear hE a; intro a hE)
 | ((with_reducible refine g_extract ?_); refine s_extract hE rfl rfl rfl ?_; clear hE a; intro a hE))
    have hS2 : St w0 w (hBlk gp 77 [.pointer (some ⟨gd, 0, none⟩), .pointer (some ⟨gf, 0, none⟩), .pointer (some ⟨gw, 0, none⟩), .pointer (some ⟨gm, 0, none⟩)] :: hDk gd D1 :: hDk gf D1 :: hWl gw gd W :: hMl gm gf W :: H) := (St.selD [2, 1, 0, 0, 0] 0 hS)
    clear hS; have hS := hS2; clear hS2
    refine c_ordH [hBlk gp 77 [.pointer (some ⟨gd, 0, none⟩), .pointer (some ⟨gf, 0, none⟩), .pointer (some ⟨gw, 0, none⟩), .pointer (some ⟨gm, 0, none⟩)]] hS (fun u hu => hu.only 0 rfl) 22 ((.rd 0 (.rd 1 (.rd 2 (.rd 3 (.rd 4 (.rd 5 (.rd 6 (.rd 7 (.rd 8 (.rd 9 (.rd 10 (.rd 11 (.rd 12 (.rd 13 (.rd 14 (.rd 15 (.rd 16 (.rd 17 (.rd 18 (.ef 19 (.rd 20 (.rd 21 .done))))))))))))))))))))))) mixed (by decide +kernel) ?_
    clear hS; intro w hF hS
    repeat' (first
 | (with_reducible refine o_rd rfl ?_)
 | ((with_reducible refine q_move ?_); refine d_val hE hS rfl (fun w hS => r_move hE rfl) ?_; clear hE a; intro a hE)
 | ((with_reducible refine q_bin .neq ?_); refine d_val hE hS rfl (fun w hS => r_neq hE rfl rfl) ?_; clear hE a; intro a hE)
 | ((with_reducible refine q_bin .neq ?_); refine d_val hE hS rfl (fun w hS => r_neb hE rfl rfl) ?_; clear hE a; intro a hE)
 | ((with_reducible refine q_fa ?_); refine d_val hE hS rfl (fun w hS => r_fieldL hE rfl rfl) ?_; clear hE a; intro a hE)
 | ((with_reducible refine q_nc ?_); refine d_val hE hS rfl (fun w hS => r_nilCheck hE rfl) ?_; clear hE a; intro a hE)
 | ((with_reducible refine q_guard ?_); refine d_yes hE rfl rfl rfl ?_)
 | ((with_reducible refine q_guard ?_); refine d_dec hE rfl rfl (fun hc hE2 => ?_) (fun hc hE2 => ?_) <;> (try omega) <;> (replace hE := hE2; clear hE2))
 | ((with_reducible refine q_pick ?_); refine d_val hE hS rfl (fun w hS => r_pickF hE rfl rfl) ?_; clear hE a; intro a hE)
 | ((with_reducible refine q_load ?_); (first | (refine d_val hE hS rfl (fun w hS => r_loadB (k := 0) hS hE rfl rfl rfl) ?_) ); clear hE a; intro a hE)
 | ((with_reducible refine q_bin .eql ?_); refine d_val hE hS rfl (fun w hS => r_eqp hE rfl rfl) ?_; clear hE a; intro a hE)
 | ((with_reducible refine o_ef rfl ?_)))
    refine gd_yes hE rfl rfl rfl ?_
    refine s_call hE rfl rfl rfl (ralike x1 (by omega) (St.selD [1, 1, 0, 0, 0] 0 hF)) ?_
    rintro _ w ⟨rfl, hF⟩; clear hE a; intro a hE
    refine wpList_nil ?_
    refine o_back _ (fun _ h => h) (hF.only 2 rfl) ?_
    clear hS; have hS := hF.only 2 rfl
    repeat' (first
 | (with_reducible refine o_rd rfl ?_)
 | (with_reducible refine o_done ?_)
 | ((with_reducible refine q_un .not ?_); refine d_val hE hS rfl (fun w hS => r_notb hE rfl) ?_; clear hE a; intro a hE)
 | ((with_reducible refine q_guard ?_); refine d_yes hE rfl rfl rfl ?_)
 | ((with_reducible refine q_pick ?_); refine d_val hE hS rfl (fun w hS => r_pickF hE rfl rfl) ?_; clear hE a; intro a hE))
    clear hS; have hS := hF; clear hF
    repeat' (first
 | (with_reducible refine wp_seq ?_)
 | (with_reducible refine c_region ?_)
 | (with_reducible refine wpList_nil ?_)
 | (with_reducible refine then_normal ?_)
 | (with_reducible refine wp_skip ?_)
 | (with_reducible refine wp_ret ?_)
 | ((with_reducible refine g_move ?_); refine s_move hE rfl rfl ?_; clear hE a; intro a hE)
 | ((with_reducible refine g_assign ?_); refine s_assign hE rfl rfl ?_; clear hE a; intro a hE)
 | ((with_reducible refine g_cond ?_); refine c_false hE rfl ?_)
 | ((with_reducible refine g_bin .neq ?_); refine s_val hE rfl rfl rfl (r_nep hE rfl rfl) ?_; clear hE a; intro a hE))
    exact ret1 hE rfl rfl ⟨rfl, gw, gm, W, D1, hW, x1, x2, (St.selD [2, 2, 2, 0, 0] 0 hS)⟩
end
end Go.Proofs.Ytfoeelghehjanaa
