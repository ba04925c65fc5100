/-
  A log does as the document says, write by write, whatever fails, and whenever the power goes.
-/
import Derived.Test.YtfoeelghehjanaaYM
namespace Go.Proofs.Ytfoeelghehjanaa
open Go.RowKit
set_option linter.unusedVariables false
set_option linter.unusedSimpArgs false
attribute [local irreducible] Rd hRow hBlk hRd hRdr wrP hDk hWl hMl Fn FnD hMarks
section
set_option maxHeartbeats 16000000
set_option maxRecDepth 20000
theorem law_WalDoes (i : Int) (y : LT) (w0 : World) (hi : (Lit.int .i64 i).wf = true) (h : y.ok w0) : Fn Try.prog 8 [.int .i64 i, .slice y.1 y.2.2.length y.2.1] w0 fun v w' => v = .bool true ∧ St w0 w' [] := by
  rw [← LT.len]
  have hr := LT.rd h
  have hall := LT.all h
  obtain ⟨hcap, hbig⟩ := LT.cap h
  generalize y.wops = l at hr hall hcap hbig
  generalize y.1 = A at hr
  generalize y.2.1 = c at hcap
  have hS := St.start w0
  have hk : (IntKind.u64.wrap i).tmod 20 = (((i % 18446744073709551616).toNat % 20 : Nat) : Int) := u64_rem i 20 (by decide)
  have hklt : (i % 18446744073709551616).toNat % 20 < 20 := Nat.mod_lt _ (by decide)
  generalize (i % 18446744073709551616).toNat % 20 = r at hk hklt
  have e1 : IntKind.i64.wrap ((r : Nat) : Int) = (r : Int) := wrap64_in (by omega)
  have e2 : IntKind.i64.wrap (4 + (r : Int)) = ((4 + r : Nat) : Int) := by rw [wrap64_in (by omega)]; rfl
  refine enter 60 Try.func8 rfl rfl rfl ?_
  intro a hE
  repeat' (first
 | (with_reducible refine wp_seq ?_)
 | (with_reducible refine c_region ?_)
 | (with_reducible refine wpList_nil ?_)
 | (with_reducible refine then_normal ?_)
 | ((with_reducible refine g_assign ?_); refine s_assign hE rfl rfl ?_; clear hE a; intro a hE))
  refine s_call hE rfl rfl rfl (wakes w0) ?_
  rintro _ w ⟨rfl, hS1⟩; clear hE a; intro a hE; replace hS := hS.frame hS1; clear hS1; try simp only [List.cons_append, List.nil_append] at hS
  repeat' (first
 | (with_reducible refine wp_seq ?_)
 | (with_reducible refine c_region ?_)
 | (with_reducible refine wpList_nil ?_)
 | (with_reducible refine then_normal ?_)
 | (with_reducible refine wp_skip ?_)
 | ((with_reducible refine g_move ?_); refine s_move hE rfl rfl ?_; clear hE a; intro a hE)
 | ((with_reducible refine g_bin .add ?_); refine s_add hE rfl rfl rfl (by first | exact e2 ) ?_; clear hE a; intro a hE)
 | ((with_reducible refine g_bin .rem ?_); refine s_rem hE rfl rfl (by omega) rfl (by first | exact hk ) ?_; clear hE a; intro a hE)
 | ((with_reducible refine g_un .not ?_); refine s_notb hE rfl rfl ?_; clear hE a; intro a hE)
 | ((with_reducible refine g_conv ?_); refine s_conv hE rfl rfl (by first | exact e1 | rfl) ?_; clear hE a; intro a hE)
 | ((with_reducible refine g_cond ?_); refine c_false hE rfl ?_))
  refine s_call hE rfl rfl rfl (pbegun (4 + r) (by omega) w) ?_
  rintro _ w ⟨gp, gd, gf, gw, gm, W, D, rfl, hW, hsl, hat, hS1⟩; clear hE a; intro a hE; replace hS := hS.frame hS1; clear hS1; try simp only [List.cons_append, List.nil_append] at hS
  repeat' (first
 | (with_reducible refine wp_seq ?_)
 | (with_reducible refine c_region ?_)
 | (with_reducible refine wpList_nil ?_)
 | (with_reducible refine then_normal ?_)
 | (with_reducible refine wp_skip ?_)
 | ((with_reducible refine g_move ?_); refine s_move hE rfl rfl ?_; clear hE a; intro a hE)
 | ((with_reducible refine g_assign ?_); refine s_assign hE rfl rfl ?_; clear hE a; intro a hE)
 | ((with_reducible refine g_un .not ?_); refine s_notb hE rfl rfl ?_; clear hE a; intro a hE)
 | ((with_reducible refine g_extract ?_); refine s_extract hE rfl rfl rfl ?_; clear hE a; intro a hE)
 | ((with_reducible refine g_cond ?_); refine c_false hE rfl ?_))
  refine s_call hE rfl rfl rfl (few A l.length c w hcap hbig) ?_
  rintro _ w ⟨rfl, hS1⟩; clear hE a; intro a hE; replace hS := hS.frame hS1; clear hS1; try simp only [List.cons_append, List.nil_append] at hS
  repeat' (first
 | (with_reducible refine wpList_nil ?_)
 | (with_reducible refine then_normal ?_)
 | (with_reducible refine wp_block ?_)
 | ((with_reducible refine g_move ?_); refine s_move hE rfl rfl ?_; clear hE a; intro a hE)
 | ((with_reducible refine g_blt .len ?_); refine s_len hE rfl rfl ?_; clear hE a; intro a hE))
  have hfl : (l.flatMap WOp.cells).length = l.length * 4 := flat_len (fun o _ => rfl)
  obtain ⟨mm, hmm⟩ : ∃ mm, mm = min l.length 40 := ⟨_, rfl⟩
  have hmm1 : mm ≤ l.length ∧ mm ≤ 40 := by omega
  rw [← hmm] at hE
  clear hmm
  refine wp_loop_ghost (fun q a w => ∃ (k : Nat) (W : WM) (D : DM) (gw gm : Nat), k + q = mm ∧ W.ok ∧ D.safe.length = 2 + 2 * (4 + r) ∧ D.atN (2100 + 60 * k) ∧ St w0 w [hBlk gp 77 [.pointer (some ⟨gd, 0, none⟩), .pointer (some ⟨gf, 0, none⟩), .pointer (some ⟨gw, 0, none⟩), .pointer (some ⟨gm, 0, none⟩)], hWl gw gd W, hMl gm gf W, hDk gd D, hDk gf D] ∧
    Env 60 [(5, .pointer (some ⟨gp, 0, none⟩)), (23, .slice A mm c), (24, .int .i64 (mm : Int)), (25, .int .i64 (k : Int))] a) mm
    ⟨0, W, D, gw, gm, by omega, hW, hsl, hat, hS, hE.sub ⟨rfl, rfl, rfl, rfl, trivial⟩⟩ ?_
  clear hE a hS hW hsl hat W D gw gm
  rintro q a w ⟨k, W, D, gw, gm, hkq, hW, hsl, hat, hS, hE⟩
  by_cases hk1 : k < mm
  · have hkl : k < l.length := by omega
    have hseg := flat_seg (c := WOp.cells) (size := 4) (l := l) (fun o _ => rfl) hkl
    obtain ⟨how, hord⟩ := hall _ (List.getElem_mem hkl)
    generalize l[k] = o2 at hseg how hord
    have hvl := opc_four o2
    have hone := opc_one o2
    have hrw := hr.st hS
    repeat' (first
 | (with_reducible refine wp_seq ?_)
 | (with_reducible refine c_region ?_)
 | (with_reducible refine wpList_nil ?_)
 | (with_reducible refine then_normal ?_)
 | (with_reducible refine wp_skip ?_)
 | (with_reducible refine wp_block ?_)
 | ((with_reducible refine g_bin .lss ?_); refine s_lss hE rfl rfl rfl ?_; clear hE a; intro a hE)
 | ((with_reducible refine g_cond ?_); refine c_dec hE rfl (fun hc => ?_) (fun hc => ?_) <;> try omega)
 | ((with_reducible refine g_ia ?_); refine s_idxR hE rfl rfl (by omega) (by omega) (by (first | exact Rd.st (by assumption) hS )) (by first | omega ) rfl ?_; clear hE a; intro a hE)
 | ((with_reducible refine g_alloc ?_); refine s_allocS hE hS rfl rfl ?_; clear hE a hS; intro g a w hE hS)
 | ((with_reducible refine g_store ?_); (first | (refine s_storeW (k := 0) hS hE rfl rfl rfl rfl rfl (by first | assumption ) ?_) ); clear hS; intro w hS; simp only [List.set_cons_zero, List.set_cons_succ, Nat.add_zero] at hS)
 | ((with_reducible refine g_load ?_); refine s_elemR hE rfl (by (first | exact Rd.st (by assumption) hS )) (by first | exact hseg ) (by first | rfl ) (by rfl) rfl ?_; clear hE a; intro a hE))
    obtain ⟨g8, rfl⟩ : ∃ x, x = g := ⟨_, rfl⟩
    refine c_ordH [hBlk g8 33 o2.cells] hS (fun u hu => hu.only 0 rfl) 28 ((.rd 0 (.rd 1 (.ef 2 (.rd 3 (.rd 4 (.rd 5 (.rd 6 (.rd 7 (.rd 8 (.rd 9 (.rd 10 (.rd 11 (.rd 12 (.ef 13 (.rd 14 (.rd 15 (.rd 16 (.rd 17 (.rd 18 (.rd 19 (.rd 20 (.rd 21 (.rd 22 (.rd 23 (.rd 24 (.ef 25 (.rd 26 (.rd 27 .done))))))))))))))))))))))))))))) mixed (by decide +kernel) ?_
    clear hS; intro w hF hS
    repeat' (first
 | (with_reducible refine o_rd rfl ?_)
 | ((with_reducible refine q_move ?_); refine d_val hE hS rfl (fun w hS => r_move hE rfl) ?_; clear hE a; intro a hE)
 | ((with_reducible refine q_load ?_); (first | (refine d_val hE hS rfl (fun w hS => r_loadW (k := 0) hS hE rfl rfl rfl) ?_) ); clear hE a; intro a hE)
 | ((with_reducible refine o_ef rfl ?_)))
    refine s_call hE rfl rfl rfl (pdoes o2 how hW hat (by omega) (by omega) hord (St.selD [1, 1, 1, 1, 1, 0] 0 hF)) ?_
    rintro _ w ⟨rfl, gw2, gm2, W2, D2, y1, y2, y3, hF⟩; clear hE a; intro a hE
    have hF2 : St w0 w [hBlk gp 77 [.pointer (some ⟨gd, 0, none⟩), .pointer (some ⟨gf, 0, none⟩), .pointer (some ⟨gw2, 0, none⟩), .pointer (some ⟨gm2, 0, none⟩)], hBlk g8 33 o2.cells, hWl gw2 gd W2, hMl gm2 gf W2, hDk gd D2, hDk gf D2] := (St.selD [0, 4, 0, 0, 0, 0] 0 hF)
    clear hF; have hF := hF2; clear hF2
    refine wpList_nil ?_
    refine o_back (fun u => St w0 u [hBlk gp 77 [.pointer (some ⟨gd, 0, none⟩), .pointer (some ⟨gf, 0, none⟩), .pointer (some ⟨gw2, 0, none⟩), .pointer (some ⟨gm2, 0, none⟩)], hBlk g8 33 o2.cells]) (fun u h => h.only 1 rfl) hF.keep2 ?_
    clear hS; have hS := hF.keep2
    repeat' (first
 | (with_reducible refine o_rd rfl ?_)
 | ((with_reducible refine q_move ?_); refine d_val hE hS rfl (fun w hS => r_move hE rfl) ?_; clear hE a; intro a hE)
 | ((with_reducible refine q_un .not ?_); refine d_val hE hS rfl (fun w hS => r_notb hE rfl) ?_; clear hE a; intro a hE)
 | ((with_reducible refine q_fa ?_); refine d_val hE hS rfl (fun w hS => r_fieldL hE rfl rfl) ?_; clear hE a; intro a hE)
 | ((with_reducible refine q_nc ?_); refine d_val hE hS rfl (fun w hS => r_nilCheck hE rfl) ?_; clear hE a; intro a hE)
 | ((with_reducible refine q_guard ?_); refine d_yes hE rfl rfl rfl ?_)
 | ((with_reducible refine q_load ?_); (first | (refine d_val hE hS rfl (fun w hS => r_loadB (k := 0) hS hE rfl rfl rfl) ?_) ); clear hE a; intro a hE)
 | ((with_reducible refine o_ef rfl ?_)))
    refine gd_yes hE rfl rfl rfl ?_
    refine s_call hE rfl rfl rfl (ralike y2 (by omega) (St.selD [4, 4, 0, 0, 0, 0] 0 hF)) ?_
    rintro _ w ⟨rfl, hF⟩; clear hE a; intro a hE
    have hF2 : St w0 w [hBlk gp 77 [.pointer (some ⟨gd, 0, none⟩), .pointer (some ⟨gf, 0, none⟩), .pointer (some ⟨gw2, 0, none⟩), .pointer (some ⟨gm2, 0, none⟩)], hBlk g8 33 o2.cells, hWl gw2 gd W2, hMl gm2 gf W2, hDk gd D2, hDk gf D2] := (St.selD [2, 2, 2, 2, 0, 0] 0 hF)
    clear hF; have hF := hF2; clear hF2
    refine wpList_nil ?_
    refine o_back _ (fun _ h => h) hF.keep2 ?_
    clear hS; have hS := hF.keep2
    repeat' (first
 | (with_reducible refine o_rd rfl ?_)
 | ((with_reducible refine q_move ?_); refine d_val hE hS rfl (fun w hS => r_move hE rfl) ?_; clear hE a; intro a hE)
 | ((with_reducible refine q_un .not ?_); refine d_val hE hS rfl (fun w hS => r_notb hE rfl) ?_; clear hE a; intro a hE)
 | ((with_reducible refine q_fa ?_); refine d_val hE hS rfl (fun w hS => r_fieldL hE rfl rfl) ?_; clear hE a; intro a hE)
 | ((with_reducible refine q_nc ?_); refine d_val hE hS rfl (fun w hS => r_nilCheck hE rfl) ?_; clear hE a; intro a hE)
 | ((with_reducible refine q_guard ?_); refine d_yes hE rfl rfl rfl ?_)
 | ((with_reducible refine q_pick ?_); refine d_val hE hS rfl (fun w hS => r_pickF hE rfl rfl) ?_; clear hE a; intro a hE)
 | ((with_reducible refine q_load ?_); (first | (refine d_val hE hS rfl (fun w hS => r_loadB (k := 0) hS hE rfl rfl rfl) ?_) ); clear hE a; intro a hE)
 | ((with_reducible refine o_ef rfl ?_)))
    refine gd_yes hE rfl rfl rfl ?_
    refine s_call hE rfl rfl rfl (ragree y1 (St.selD [2, 2, 0, 0, 0, 0] 0 hF)) ?_
    rintro _ w ⟨rfl, hF⟩; clear hE a; intro a hE
    have hF2 : St w0 w [hBlk gp 77 [.pointer (some ⟨gd, 0, none⟩), .pointer (some ⟨gf, 0, none⟩), .pointer (some ⟨gw2, 0, none⟩), .pointer (some ⟨gm2, 0, none⟩)], hBlk g8 33 o2.cells, hWl gw2 gd W2, hMl gm2 gf W2, hDk gd D2, hDk gf D2] := (St.selD [2, 2, 0, 0, 0, 0] 0 hF)
    clear hF; have hF := hF2; clear hF2
    refine wpList_nil ?_
    refine o_back _ (fun _ h => h) hF.keep2 ?_
    clear hS; have hS := hF.keep2
    repeat' (first
 | (with_reducible refine o_rd rfl ?_)
 | (with_reducible refine o_done ?_)
 | ((with_reducible refine q_un .not ?_); refine d_val hE hS rfl (fun w hS => r_notb hE rfl) ?_; clear hE a; intro a hE)
 | ((with_reducible refine q_guard ?_); refine d_yes hE rfl rfl rfl ?_)
 | ((with_reducible refine q_pick ?_); refine d_val hE hS rfl (fun w hS => r_pickF hE rfl rfl) ?_; clear hE a; intro a hE))
    clear hS; have hS := hF; clear hF
    repeat' (first
 | (with_reducible refine c_region ?_)
 | (with_reducible refine wpList_nil ?_)
 | (with_reducible refine then_normal ?_)
 | (with_reducible refine wp_skip ?_)
 | (with_reducible refine block_normal ?_)
 | ((with_reducible refine g_move ?_); refine s_move hE rfl rfl ?_; clear hE a; intro a hE)
 | ((with_reducible refine g_bin .add ?_); refine s_add hE rfl rfl rfl (by first  | exact wrap64_in (by omega) ) ?_; clear hE a; intro a hE)
 | ((with_reducible refine g_cond ?_); refine c_false hE rfl ?_))
    exact ⟨q - 1, by omega, k + 1, W2, D2, gw2, gm2, by omega, y1, by omega, y2.mono (by omega), (St.selD [0, 1, 1, 1, 1] 1 hS), hE.sub ⟨rfl, rfl, rfl, rfl, trivial⟩⟩
  · repeat' (first
 | (with_reducible refine wp_seq ?_)
 | (with_reducible refine c_region ?_)
 | (with_reducible refine wpList_nil ?_)
 | (with_reducible refine then_normal ?_)
 | (with_reducible refine wp_exit ?_)
 | (with_reducible refine then_exit ?_)
 | (with_reducible refine block_same ?_)
 | ((with_reducible refine g_move ?_); refine s_move hE rfl rfl ?_; clear hE a; intro a hE)
 | ((with_reducible refine g_bin .lss ?_); refine s_lss hE rfl rfl rfl ?_; clear hE a; intro a hE)
 | ((with_reducible refine g_cond ?_); refine c_dec hE rfl (fun hc => ?_) (fun hc => ?_) <;> try omega))
    refine s_call hE rfl rfl rfl (pagain hW hat (by omega) (by omega) hS) ?_
    rintro _ w ⟨rfl, gw2, gm2, W2, D2, y1, y2, y3, hS⟩; clear hE a; intro a hE
    repeat' (first
 | (with_reducible refine wpList_nil ?_)
 | (with_reducible refine then_normal ?_)
 | (with_reducible refine wp_ret ?_)
 | ((with_reducible refine g_assign ?_); refine s_assign hE rfl rfl ?_; clear hE a; intro a hE))
    exact ret1 hE rfl rfl ⟨rfl, hS.nil⟩
end
end Go.Proofs.Ytfoeelghehjanaa
