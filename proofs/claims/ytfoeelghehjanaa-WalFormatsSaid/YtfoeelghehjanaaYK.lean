/-
  Which disks can be formatted, and what stands there then, whatever fails.
-/
import Derived.Test.YtfoeelghehjanaaYJ
namespace Go.Proofs.Ytfoeelghehjanaa
open Go.RowKit
set_option linter.unusedVariables false
set_option linter.unusedSimpArgs false
attribute [local irreducible] Rd hRow hBlk hRd hRdr wrP hDk hWl hMl Fn FnD hMarks
theorem long_app {W : WM} {D : DM} {b : List Nat} (h : 40000 < b.length) : W.app D b = (W, D, 3) := by
  have : W.readyE b.length = 3 := if_pos h
  unfold WM.app
  rw [this]
  exact if_pos (by decide)
theorem long_chk {W : WM} {D : DM} {b : List Nat} (h : 40000 < b.length) : W.chk D b = (W, D, 3) := by
  have : W.readyE b.length = 3 := if_pos h
  unfold WM.chk
  rw [this]
  exact if_pos (by decide)
section
set_option maxHeartbeats 16000000
set_option maxRecDepth 20000
theorem law_WalFormats (i ar n : Int) (w0 : World) (hi : (Lit.int .i64 i).wf = true) (har : (Lit.int .i64 ar).wf = true) (hn : (Lit.int .i64 n).wf = true) :
    Fn Try.prog 7 [.int .i64 i, .int .i64 ar, .int .i64 n] w0 fun v w' => v = .bool true ∧ St w0 w' [] := by
  have hS := St.start w0
  have harr := wf_i64 har
  have hnr := wf_i64 hn
  have hk : (IntKind.u64.wrap i).tmod 2048 = (((i % 18446744073709551616).toNat % 2048 : Nat) : Int) := u64_rem i 2048 (by decide)
  have hklt : (i % 18446744073709551616).toNat % 2048 < 2048 := Nat.mod_lt _ (by decide)
  generalize (i % 18446744073709551616).toNat % 2048 = r at hk hklt
  have hk2 : (IntKind.u64.wrap n).tmod 60 = (((n % 18446744073709551616).toNat % 60 : Nat) : Int) := u64_rem n 60 (by decide)
  have hklt2 : (n % 18446744073709551616).toNat % 60 < 60 := Nat.mod_lt _ (by decide)
  generalize (n % 18446744073709551616).toNat % 60 = nn at hk2 hklt2
  have e1 : IntKind.i64.wrap ((r : Nat) : Int) = (r : Int) := wrap64_in (by omega)
  have e2 : IntKind.i64.wrap (1 + (r : Int)) = ((1 + r : Nat) : Int) := by rw [wrap64_in (by omega)]; rfl
  have e3 : IntKind.i64.wrap ((nn : Nat) : Int) = (nn : Int) := wrap64_in (by omega)
  refine enter 123 Try.func7 rfl rfl rfl ?_
  intro a hE
  repeat' (first

    | (with_reducible refine wp_seq ?_)
    | (with_reducible refine c_region ?_)
    | (with_reducible refine wpList_nil ?_)
    | (with_reducible refine then_normal ?_)
    | ((with_reducible refine g_assign ?_); refine s_assign hE rfl rfl ?_; clear hE a; intro a hE)
    )
  refine s_call hE rfl rfl rfl (wakes w0) ?_
  rintro _ w ⟨rfl, hS1⟩; clear hE a; intro a hE; replace hS := hS.frame hS1; clear hS1; try simp only [List.cons_append, List.nil_append] at hS
  repeat' (first

    | (with_reducible refine wp_seq ?_)
    | (with_reducible refine c_region ?_)
    | (with_reducible refine wpList_nil ?_)
    | (with_reducible refine then_normal ?_)
    | (with_reducible refine wp_skip ?_)
    | ((with_reducible refine g_move ?_); refine s_move hE rfl rfl ?_; clear hE a; intro a hE)
    | ((with_reducible refine g_bin .add ?_); refine s_add hE rfl rfl rfl (by first | exact e2 ) ?_; clear hE a; intro a hE)
    | ((with_reducible refine g_bin .rem ?_); refine s_rem hE rfl rfl (by omega) rfl (by first | exact hk ) ?_; clear hE a; intro a hE)
    | ((with_reducible refine g_un .not ?_); refine s_notb hE rfl rfl ?_; clear hE a; intro a hE)
    | ((with_reducible refine g_conv ?_); refine s_conv hE rfl rfl (by first | exact e1 | rfl) ?_; clear hE a; intro a hE)
    | ((with_reducible refine g_cond ?_); refine c_false hE rfl ?_)
    )
  refine s_call hE rfl rfl rfl (knew (1 + r) (by omega) (by omega) w) ?_
  rintro _ w ⟨ga, rfl, hS1⟩; clear hE a; intro a hE; replace hS := hS.frame hS1; clear hS1; try simp only [List.cons_append, List.nil_append] at hS
  repeat' (first

    | (with_reducible refine wp_seq ?_)
    | (with_reducible refine c_region ?_)
    | (with_reducible refine wpList_nil ?_)
    | (with_reducible refine then_normal ?_)
    | ((with_reducible refine g_move ?_); refine s_move hE rfl rfl ?_; clear hE a; intro a hE)
    | ((with_reducible refine g_assign ?_); refine s_assign hE rfl rfl ?_; clear hE a; intro a hE)
    | ((with_reducible refine g_bin .add ?_); refine s_add hE rfl rfl rfl (by first | exact e2 ) ?_; clear hE a; intro a hE)
    | ((with_reducible refine g_bin .rem ?_); refine s_rem hE rfl rfl (by omega) rfl (by first | exact hk ) ?_; clear hE a; intro a hE)
    | ((with_reducible refine g_conv ?_); refine s_conv hE rfl rfl (by first | exact e1 | rfl) ?_; clear hE a; intro a hE)
    | ((with_reducible refine g_extract ?_); refine s_extract hE rfl rfl rfl ?_; clear hE a; intro a hE)
    )
  refine s_call hE rfl rfl rfl (knew (1 + r) (by omega) (by omega) w) ?_
  rintro _ w ⟨gb, rfl, hS1⟩; clear hE a; intro a hE; replace hS := hS.frame hS1; clear hS1; try simp only [List.cons_append, List.nil_append] at hS
  have hf0 := fresh_atN (n := 1 + r) (by omega) (by omega)
  have hfail : ((DM.fresh (1 + r)).fail (nn : Int)).2 = 0 := rfl
  have hf1 := fail_atN hf0 (nn : Int)
  generalize DM.fresh (1 + r) = D0 at hS hf0 hfail hf1
  repeat' (first

    | (with_reducible refine wp_seq ?_)
    | (with_reducible refine c_region ?_)
    | (with_reducible refine wpList_nil ?_)
    | (with_reducible refine then_normal ?_)
    | ((with_reducible refine g_move ?_); refine s_move hE rfl rfl ?_; clear hE a; intro a hE)
    | ((with_reducible refine g_assign ?_); refine s_assign hE rfl rfl ?_; clear hE a; intro a hE)
    | ((with_reducible refine g_extract ?_); refine s_extract hE rfl rfl rfl ?_; clear hE a; intro a hE)
    | ((with_reducible refine g_guard ?_); refine gd_yes hE rfl rfl rfl ?_)
    | ((with_reducible refine g_pick ?_); refine s_pickF hE rfl rfl rfl ?_; clear hE a; intro a hE)
    | ((with_reducible refine g_bin .eql ?_); refine s_val hE rfl rfl rfl (r_eqp hE rfl rfl) ?_; clear hE a; intro a hE)
    )
  refine s_call hE rfl rfl rfl (sectorsI n hnr w) ?_
  rintro _ w ⟨rfl, hS1⟩; clear hE a; intro a hE; replace hS := hS.frame hS1; clear hS1; try simp only [List.cons_append, List.nil_append] at hS
  repeat' (first

    | ((with_reducible refine g_move ?_); refine s_move hE rfl rfl ?_; clear hE a; intro a hE)
    | ((with_reducible refine g_guard ?_); refine gd_yes hE rfl rfl rfl ?_)
    )
  refine s_call hE rfl rfl rfl (rsectorsI n hnr w) ?_
  rintro _ w ⟨rfl, hS1⟩; clear hE a; intro a hE; replace hS := hS.frame hS1; clear hS1; try simp only [List.cons_append, List.nil_append] at hS
  repeat' (first

    | (with_reducible refine wp_seq ?_)
    | (with_reducible refine c_region ?_)
    | (with_reducible refine wpList_nil ?_)
    | (with_reducible refine then_normal ?_)
    | (with_reducible refine wp_skip ?_)
    | ((with_reducible refine g_move ?_); refine s_move hE rfl rfl ?_; clear hE a; intro a hE)
    | ((with_reducible refine g_assign ?_); refine s_assign hE rfl rfl ?_; clear hE a; intro a hE)
    | ((with_reducible refine g_bin .neq ?_); refine s_neq hE rfl rfl rfl ?_; clear hE a; intro a hE)
    | ((with_reducible refine g_bin .rem ?_); refine s_rem hE rfl rfl (by omega) rfl (by first | exact hk2 ) ?_; clear hE a; intro a hE)
    | ((with_reducible refine g_conv ?_); refine s_conv hE rfl rfl (by first | exact e3 | rfl) ?_; clear hE a; intro a hE)
    | ((with_reducible refine g_guard ?_); refine gd_yes hE rfl rfl rfl ?_)
    | ((with_reducible refine g_pick ?_); refine s_pickF hE rfl rfl rfl ?_; clear hE a; intro a hE)
    | ((with_reducible refine g_cond ?_); refine c_dec hE rfl (fun hc => ?_) (fun hc => ?_) <;> try omega)
    )
  refine s_call hE rfl rfl rfl (kfail (nn : Int) (by omega) (hS.focus (k := 1) rfl)) ?_
  rintro _ w ⟨rfl, hS⟩; clear hE a; intro a hE
  simp only [List.eraseIdx_cons_succ, List.eraseIdx_cons_zero] at hS
  rw [hfail] at hE
  repeat' (first

    | ((with_reducible refine g_move ?_); refine s_move hE rfl rfl ?_; clear hE a; intro a hE)
    | ((with_reducible refine g_bin .neq ?_); refine s_neq hE rfl rfl rfl ?_; clear hE a; intro a hE)
    | ((with_reducible refine g_guard ?_); refine gd_yes hE rfl rfl rfl ?_)
    )
  refine s_call hE rfl rfl rfl (kfail (nn : Int) (by omega) (hS.focus (k := 1) rfl)) ?_
  rintro _ w ⟨rfl, hS⟩; clear hE a; intro a hE
  simp only [List.eraseIdx_cons_succ, List.eraseIdx_cons_zero] at hS
  rw [hfail] at hE
  generalize (D0.fail (nn : Int)).1 = D1 at hS hf1
  repeat' (first

    | (with_reducible refine wp_seq ?_)
    | (with_reducible refine c_region ?_)
    | (with_reducible refine wpList_nil ?_)
    | (with_reducible refine then_normal ?_)
    | (with_reducible refine wp_skip ?_)
    | ((with_reducible refine g_move ?_); refine s_move hE rfl rfl ?_; clear hE a; intro a hE)
    | ((with_reducible refine g_bin .neq ?_); refine s_neq hE rfl rfl rfl ?_; clear hE a; intro a hE)
    | ((with_reducible refine g_guard ?_); refine gd_yes hE rfl rfl rfl ?_)
    | ((with_reducible refine g_pick ?_); refine s_pickF hE rfl rfl rfl ?_; clear hE a; intro a hE)
    | ((with_reducible refine g_cond ?_); refine c_false hE rfl ?_)
    )
  have hat := fmt_atN hf1 ar (by decide)
  have hok := fun W => fmt_ok (D := D1) (a := ar) (W := W)
  refine s_call hE rfl rfl rfl (kfmt (m := 0) ar harr hf1 (by decide) (hS.focus (k := 1) rfl)) ?_
  rintro _ w h; clear hE a; intro a hE
  simp only [List.eraseIdx_cons_succ, List.eraseIdx_cons_zero] at h
  rcases h with ⟨W, gw, hW, hz, rfl, hS⟩ | ⟨hW, hz, rfl, hS⟩
  · repeat' (first

      | (with_reducible refine wp_seq ?_)
      | (with_reducible refine c_region ?_)
      | (with_reducible refine wpList_nil ?_)
      | (with_reducible refine then_normal ?_)
      | ((with_reducible refine g_move ?_); refine s_move hE rfl rfl ?_; clear hE a; intro a hE)
      | ((with_reducible refine g_assign ?_); refine s_assign hE rfl rfl ?_; clear hE a; intro a hE)
      | ((with_reducible refine g_extract ?_); refine s_extract hE rfl rfl rfl ?_; clear hE a; intro a hE)
      )
    refine s_call hE rfl rfl rfl (rfmt (m := 0) ar harr hf1 (by decide) (hS.focus (k := 2) rfl)) ?_
    rintro _ w h; clear hE a; intro a hE
    simp only [List.eraseIdx_cons_succ, List.eraseIdx_cons_zero] at h
    rcases h with ⟨W2, gm, hW2, _, rfl, hS⟩ | ⟨hW2, _⟩
    rotate_left
    · rw [hW] at hW2; cases hW2
    obtain rfl : W = W2 := by rw [hW] at hW2; exact Option.some.inj hW2
    obtain ⟨hWo, _, _⟩ := hok W hW
    generalize (D1.fmt ar).1 = D2 at hS hat
    repeat' (first

      | (with_reducible refine wp_seq ?_)
      | (with_reducible refine c_region ?_)
      | (with_reducible refine wpList_nil ?_)
      | (with_reducible refine then_normal ?_)
      | ((with_reducible refine g_move ?_); refine s_move hE rfl rfl ?_; clear hE a; intro a hE)
      | ((with_reducible refine g_assign ?_); refine s_assign hE rfl rfl ?_; clear hE a; intro a hE)
      | ((with_reducible refine g_bin .neq ?_); refine s_neq hE rfl rfl rfl ?_; clear hE a; intro a hE)
      | ((with_reducible refine g_extract ?_); refine s_extract hE rfl rfl rfl ?_; clear hE a; intro a hE)
      | ((with_reducible refine g_bin .neq ?_); refine s_neb hE rfl rfl rfl ?_; clear hE a; intro a hE)
      | ((with_reducible refine g_guard ?_); refine gd_yes hE rfl rfl rfl ?_)
      | ((with_reducible refine g_pick ?_); refine s_pickF hE rfl rfl rfl ?_; clear hE a; intro a hE)
      | ((with_reducible refine g_bin .eql ?_); refine s_val hE rfl rfl rfl (r_eqp hE rfl rfl) ?_; clear hE a; intro a hE)
      )
    refine s_call hE rfl rfl rfl (ralike hat (by decide) (St.selD [3, 1, 0, 0] 0 hS)) ?_
    rintro _ w ⟨rfl, hS⟩; clear hE a; intro a hE
    repeat' (first

      | (with_reducible refine wp_seq ?_)
      | (with_reducible refine c_region ?_)
      | (with_reducible refine wpList_nil ?_)
      | (with_reducible refine then_normal ?_)
      | (with_reducible refine wp_skip ?_)
      | ((with_reducible refine g_move ?_); refine s_move hE rfl rfl ?_; clear hE a; intro a hE)
      | ((with_reducible refine g_un .not ?_); refine s_notb hE rfl rfl ?_; clear hE a; intro a hE)
      | ((with_reducible refine g_guard ?_); refine gd_yes hE rfl rfl rfl ?_)
      | ((with_reducible refine g_pick ?_); refine s_pickF hE rfl rfl rfl ?_; clear hE a; intro a hE)
      | ((with_reducible refine g_cond ?_); refine c_false hE rfl ?_)
      | ((with_reducible refine g_bin .eql ?_); refine s_val hE rfl rfl rfl (r_eqp hE rfl rfl) ?_; clear hE a; intro a hE)
      )
    refine s_make hE hS rfl rfl (by decide) (by decide) (by decide) (by decide) rfl ?_
    clear hE a hS; intro gl a w hE hS
    obtain ⟨M, hM, hM2⟩ : ∃ M : Nat, (40001 : Int).toNat = M ∧ M = 40001 := ⟨40001, rfl, rfl⟩
    rw [hM] at hS hE
    clear hM
    have emk : (madeCells (Value.int .u8 0).cells (M * 1)).toList.take (M * 1) = bys (List.replicate M 0) := by
      have h1 := made_rep M 0 (Value.int .u8 0) (Value.int .u8 0).cells rfl
      refine h1.trans ?_
      rw [Nat.zero_add, Nat.mul_one]
      unfold bys
      rw [List.map_replicate]
      rfl
    rw [emk] at hS
    clear emk
    have hbb : Bs (List.replicate M 0) := fun x hx => by rw [List.eq_of_mem_replicate hx]; decide
    have hbl : M = (List.replicate M 0).length := List.length_replicate.symm
    generalize List.replicate M 0 = b at hS hbb hbl
    subst hbl
    have hbig : 40000 < b.length := by omega
    have hdl : (b.drop 1).length = b.length - 1 := List.length_drop
    have hdb : Bs (b.drop 1) := fun x hx => hbb x (List.mem_of_mem_drop hx)
    have hne : ¬ b.length = (1 : Int).toNat := by show ¬ b.length = 1; omega
    obtain ⟨hWo1, _⟩ := app_ok (D := D2) hWo hdb
    have hat1 := app_atN (W := W) (b := b.drop 1) hat hdb (by decide)
    have hs0 : secN (b.drop 1).length ≤ 2100 := by have := secN_le (b.drop 1).length; omega
    have e17 : b.length - (1 : Int).toNat = (b.drop 1).length := by rw [hdl]; rfl
    repeat' (first

      | (with_reducible refine wp_seq ?_)
      | (with_reducible refine wpList_nil ?_)
      | (with_reducible refine then_normal ?_)
      | ((with_reducible refine g_assign ?_); refine s_assign hE rfl rfl ?_; clear hE a; intro a hE)
      )
    refine c_ordH [] hS (fun u hu => hu.nil) 21 ((.rd 0 (.rd 1 (.ef 2 (.rd 3 (.rd 4 (.rd 5 (.rd 6 (.ef 7 (.rd 8 (.rd 9 (.rd 10 (.rd 11 (.rd 12 (.rd 13 (.rd 15 (.rd 16 (.rd 17 (.ef 14 (.ef 18 (.rd 19 (.rd 20 .done)))))))))))))))))))))) mixed (by decide +kernel) ?_
    clear hS; intro w hF hS
    repeat' (first
      | (with_reducible refine o_rd rfl ?_)
      | ((with_reducible refine q_move ?_); refine d_val hE hS rfl (fun w hS => r_move hE rfl) ?_; clear hE a; intro a hE)
      | ((with_reducible refine o_ef rfl ?_))
      )
    have hap := kapp (w0 := w0) (w := w) (H := [hRow 5 1 (some ⟨gl, 0, none⟩) b.length b.length (bys b), hDk gb D2, hMl gm gb W]) gw ga W D2 b (some ⟨gl, 0, none⟩) b.length hWo hbb (by omega) (fun w' L h => (h.perm (List.perm_append_comm (l₁ := L))).rd) hat (by decide) (St.selD [4, 1, 0, 0, 0] 0 hF)
    rw [long_app hbig] at hap
    refine s_call hE rfl rfl rfl hap ?_
    clear hap
    rintro _ w ⟨rfl, hF⟩; clear hE a; intro a hE
    try dsimp only at hF hE
    refine wpList_nil ?_
    refine o_back _ (fun _ h => h) hF.nil ?_
    clear hS; have hS := hF.nil
    repeat' (first
      | (with_reducible refine o_rd rfl ?_)
      | ((with_reducible refine q_move ?_); refine d_val hE hS rfl (fun w hS => r_move hE rfl) ?_; clear hE a; intro a hE)
      | ((with_reducible refine q_bin .neq ?_); refine d_val hE hS rfl (fun w hS => r_neq hE rfl rfl) ?_; clear hE a; intro a hE)
      | ((with_reducible refine q_guard ?_); refine d_yes hE rfl rfl rfl ?_)
      | ((with_reducible refine o_ef rfl ?_))
      )
    have hap := kchk (w0 := w0) (w := w) (H := [hRow 5 1 (some ⟨gl, 0, none⟩) b.length b.length (bys b), hDk gb D2, hMl gm gb W]) gw ga W D2 b (some ⟨gl, 0, none⟩) b.length hWo hbb (by omega) (fun w' L h => (h.perm (List.perm_append_comm (l₁ := L))).rd) hat (by decide) hF
    rw [long_chk hbig] at hap
    refine gd_yes hE rfl rfl (by decide) ?_
    refine s_call hE rfl rfl rfl hap ?_
    clear hap
    rintro _ w ⟨rfl, hF⟩; clear hE a; intro a hE
    try dsimp only at hF hE
    refine wpList_nil ?_
    refine o_back _ (fun _ h => h) hF.nil ?_
    clear hS; have hS := hF.nil
    repeat' (first
      | (with_reducible refine o_rd rfl ?_)
      | ((with_reducible refine q_move ?_); refine d_val hE hS rfl (fun w hS => r_move hE rfl) ?_; clear hE a; intro a hE)
      | ((with_reducible refine q_bin .neq ?_); refine d_val hE hS rfl (fun w hS => r_neq hE rfl rfl) ?_; clear hE a; intro a hE)
      | ((with_reducible refine q_guard ?_); refine d_yes hE rfl rfl rfl ?_)
      | ((with_reducible refine q_pick ?_); refine d_val hE hS rfl (fun w hS => r_pickF hE rfl rfl) ?_; clear hE a; intro a hE)
      | ((with_reducible refine q_sliceL ?_); refine d_val hE hS rfl (fun w hS => r_cutL hE rfl rfl (by omega)) ?_; clear hE a; intro a hE)
      | ((with_reducible refine o_ef rfl ?_))
      )
    rw [if_neg hne, e17] at hE
    have hap := kapp (w0 := w0) (w := w) (H := [hRow 5 1 (some ⟨gl, 0, none⟩) b.length b.length (bys b), hDk gb D2, hMl gm gb W]) gw ga W D2 (b.drop 1) ((some (⟨gl, 0, none⟩ : Addr)).map (·.add ((1 : Int).toNat * 1))) (b.drop 1).length hWo hdb (by omega) (fun w' L h => by rw [bys_drop]; exact (h.perm (List.perm_append_comm (l₁ := L))).rd.drop 1) hat (by decide) hF
    refine gd_yes hE rfl rfl (by decide) ?_
    refine s_call hE rfl rfl rfl hap ?_
    clear hap
    rintro _ w ⟨rfl, hF⟩; clear hE a; intro a hE
    try dsimp only at hF hE
    refine wpList_nil ?_
    refine o_back _ (fun _ h => h) hF.nil ?_
    clear hS; have hS := hF.nil
    repeat' (first
      | ((with_reducible refine o_ef rfl ?_))
      )
    have hap := rapp (w0 := w0) (w := w) (H := [hRow 5 1 (some ⟨gl, 0, none⟩) b.length b.length (bys b), hWl gw ga (W.app D2 (b.drop 1)).1, hDk ga (W.app D2 (b.drop 1)).2.1]) gm gb W D2 (b.drop 1) ((some (⟨gl, 0, none⟩ : Addr)).map (·.add ((1 : Int).toNat * 1))) (b.drop 1).length hWo hdb (by omega) (fun w' L h => by rw [bys_drop]; exact (h.perm (List.perm_append_comm (l₁ := L))).rd.drop 1) hat (by decide) (St.selD [4, 3, 2, 0, 0] 0 hF)
    refine gd_yes hE rfl rfl (by decide) ?_
    refine s_call hE rfl rfl rfl hap ?_
    clear hap
    rintro _ w ⟨rfl, hF⟩; clear hE a; intro a hE
    try dsimp only at hF hE
    refine wpList_nil ?_
    refine o_back _ (fun _ h => h) hF.nil ?_
    clear hS; have hS := hF.nil
    repeat' (first
      | (with_reducible refine o_rd rfl ?_)
      | (with_reducible refine o_done ?_)
      | ((with_reducible refine q_bin .neq ?_); refine d_val hE hS rfl (fun w hS => r_neq hE rfl rfl) ?_; clear hE a; intro a hE)
      | ((with_reducible refine q_guard ?_); refine d_yes hE rfl rfl rfl ?_)
      | ((with_reducible refine q_pick ?_); refine d_val hE hS rfl (fun w hS => r_pickF hE rfl rfl) ?_; clear hE a; intro a hE)
      )
    generalize W.app D2 (b.drop 1) = R at hWo1 hat1 hF hE
    rw [show decide (R.2.2 ≠ R.2.2) = false by simp] at hE
    clear hS; have hS := hF; clear hF
    repeat' (first

      | (with_reducible refine wp_seq ?_)
      | (with_reducible refine c_region ?_)
      | (with_reducible refine then_normal ?_)
      | (with_reducible refine wp_skip ?_)
      | ((with_reducible refine g_move ?_); refine s_move hE rfl rfl ?_; clear hE a; intro a hE)
      | ((with_reducible refine g_cond ?_); refine c_false hE rfl ?_)
      )
    refine s_call hE rfl rfl rfl (ragree hWo1 (St.selD [3, 0, 0, 0, 0] 0 hS)) ?_
    rintro _ w ⟨rfl, hS⟩; clear hE a; intro a hE
    repeat' (first

      | ((with_reducible refine g_move ?_); refine s_move hE rfl rfl ?_; clear hE a; intro a hE)
      | ((with_reducible refine g_guard ?_); refine gd_yes hE rfl rfl rfl ?_)
      )
    refine s_call hE rfl rfl rfl (ralike hat1 (by omega) (St.selD [4, 2, 0, 0, 0] 0 hS)) ?_
    rintro _ w ⟨rfl, hS⟩; clear hE a; intro a hE
    repeat' (first

      | (with_reducible refine wpList_nil ?_)
      | (with_reducible refine then_normal ?_)
      | (with_reducible refine wp_ret ?_)
      | ((with_reducible refine g_assign ?_); refine s_assign hE rfl rfl ?_; clear hE a; intro a hE)
      | ((with_reducible refine g_pick ?_); refine s_pickT hE rfl rfl rfl ?_; clear hE a; intro a hE)
      )
    exact ret1 hE rfl rfl ⟨rfl, hS.nil⟩
  · repeat' (first

      | (with_reducible refine wp_seq ?_)
      | (with_reducible refine c_region ?_)
      | (with_reducible refine wpList_nil ?_)
      | (with_reducible refine then_normal ?_)
      | ((with_reducible refine g_move ?_); refine s_move hE rfl rfl ?_; clear hE a; intro a hE)
      | ((with_reducible refine g_assign ?_); refine s_assign hE rfl rfl ?_; clear hE a; intro a hE)
      | ((with_reducible refine g_extract ?_); refine s_extract hE rfl rfl rfl ?_; clear hE a; intro a hE)
      )
    refine s_call hE rfl rfl rfl (rfmt (m := 0) ar harr hf1 (by decide) (hS.focus (k := 1) rfl)) ?_
    rintro _ w h; clear hE a; intro a hE
    simp only [List.eraseIdx_cons_succ, List.eraseIdx_cons_zero] at h
    rcases h with ⟨W2, gm, hW2, _⟩ | ⟨_, _, rfl, hS⟩
    · rw [hW] at hW2; cases hW2
    generalize (D1.fmt ar).1 = D2 at hS hat
    repeat' (first

      | (with_reducible refine wp_seq ?_)
      | (with_reducible refine c_region ?_)
      | (with_reducible refine wpList_nil ?_)
      | (with_reducible refine then_normal ?_)
      | ((with_reducible refine g_move ?_); refine s_move hE rfl rfl ?_; clear hE a; intro a hE)
      | ((with_reducible refine g_assign ?_); refine s_assign hE rfl rfl ?_; clear hE a; intro a hE)
      | ((with_reducible refine g_bin .neq ?_); refine s_neq hE rfl rfl rfl ?_; clear hE a; intro a hE)
      | ((with_reducible refine g_extract ?_); refine s_extract hE rfl rfl rfl ?_; clear hE a; intro a hE)
      | ((with_reducible refine g_bin .neq ?_); refine s_neb hE rfl rfl rfl ?_; clear hE a; intro a hE)
      | ((with_reducible refine g_guard ?_); refine gd_yes hE rfl rfl rfl ?_)
      | ((with_reducible refine g_guard ?_); refine gd_dec hE rfl rfl (fun hc hE2 => ?_) (fun hc hE2 => ?_) <;> (try omega) <;> (replace hE := hE2; clear hE2))
      | ((with_reducible refine g_pick ?_); refine s_pickF hE rfl rfl rfl ?_; clear hE a; intro a hE)
      | ((with_reducible refine g_bin .eql ?_); refine s_val hE rfl rfl rfl (r_eqp hE rfl rfl) ?_; clear hE a; intro a hE)
      )
    refine s_call hE rfl rfl rfl (ralike hat (by decide) (St.selD [1, 0] 0 hS)) ?_
    rintro _ w ⟨rfl, hS⟩; clear hE a; intro a hE
    repeat' (first

      | (with_reducible refine wp_seq ?_)
      | (with_reducible refine c_region ?_)
      | (with_reducible refine wpList_nil ?_)
      | (with_reducible refine then_normal ?_)
      | (with_reducible refine wp_skip ?_)
      | (with_reducible refine wp_ret ?_)
      | (with_reducible refine then_ret ?_)
      | ((with_reducible refine g_move ?_); refine s_move hE rfl rfl ?_; clear hE a; intro a hE)
      | ((with_reducible refine g_assign ?_); refine s_assign hE rfl rfl ?_; clear hE a; intro a hE)
      | ((with_reducible refine g_un .not ?_); refine s_notb hE rfl rfl ?_; clear hE a; intro a hE)
      | ((with_reducible refine g_guard ?_); refine gd_yes hE rfl rfl rfl ?_)
      | ((with_reducible refine g_pick ?_); refine s_pickF hE rfl rfl rfl ?_; clear hE a; intro a hE)
      | ((with_reducible refine g_cond ?_); refine c_true hE rfl ?_)
      | ((with_reducible refine g_cond ?_); refine c_false hE rfl ?_)
      | ((with_reducible refine g_bin .eql ?_); refine s_val hE rfl rfl rfl (r_eqp hE rfl rfl) ?_; clear hE a; intro a hE)
      )
    exact ret1 hE rfl rfl ⟨rfl, hS.nil⟩
end
end Go.Proofs.Ytfoeelghehjanaa
