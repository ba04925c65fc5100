/-
  The law of a reader's answers.
-/
import Derived.Test.YtjkeelceijjpoabOF
namespace Go.Proofs.Ytjkeelceijjpoab
open Go.RowKit
set_option linter.unusedVariables false
set_option linter.unusedSimpArgs false
attribute [local irreducible] Rd hRow hBlk hRd hAll Fn

def askC (p : Int × Int × Unit) : List Value := [.int .i64 p.1, .int .i64 p.2.1]
theorem kind5 (k : Int) (h : -9223372036854775808 ≤ k ∧ k ≤ 9223372036854775807) : ∃ m : Int, (m = 0 ∨ m = 1 ∨ m = 2 ∨ m = 3 ∨ m = 4) ∧ (k.tmod 5 + 5).tmod 5 = m ∧ -5 < k.tmod 5 ∧ k.tmod 5 < 5 := by
  have h1 := Int.tmod_lt_of_pos k (b := 5) (by omega)
  have h2 : -5 < k.tmod 5 := by
    have := Int.lt_tmod_of_pos k (b := 5) (by omega)
    omega
  have h3 := Int.tmod_lt_of_pos (k.tmod 5 + 5) (b := 5) (by omega)
  have h4 := Int.tmod_nonneg 5 (a := k.tmod 5 + 5) (by omega)
  exact ⟨_, by omega, rfl, h2, h1⟩
set_option maxHeartbeats 4000000 in
theorem law_OctetReads (A : Option Addr) (c : Nat) (xs : List Nat) (q : Option Addr × Nat × List (Int × Int × Unit)) (w0 : World) (hr : Rd w0 A (bys xs)) (hx : Bs xs) (hcp : xs.length ≤ c) (hz : xs.length ≤ 140737488351232)
    (hq : Rd w0 q.1 (q.2.2.flatMap askC) ∧ q.2.2.length ≤ q.2.1 ∧ q.2.1 ≤ maxLen ∧ q.2.2.length * 16 ≤ 140737488351232 ∧ ∀ y ∈ q.2.2, ((Lit.int .i64 y.1).wf = true ∧ (Lit.int .i64 y.2.1).wf = true ∧ True) ∧ (askC y).length = 2) :
    Fn Try.prog 4 [.slice A xs.length c, .slice q.1 q.2.2.length q.2.1] w0 fun v w' => v = .bool true ∧ St w0 w' [] := by
  obtain ⟨Q, qc, l⟩ := q
  obtain ⟨hQ, _, _, hl16, hok⟩ := hq
  simp only at hQ hl16 hok ⊢
  have hsz : ∀ y ∈ l, (askC y).length = 2 := fun y hy => (hok y hy).2
  refine enter 113 Try.func4 rfl rfl rfl ?_
  intro a hE
  repeat' (first
    | (with_reducible refine wp_seq ?_)
    | (with_reducible refine c_region ?_)
    | (with_reducible refine wpList_nil ?_)
    | (with_reducible refine then_normal ?_)
    | ((with_reducible refine g_assign ?_); refine s_assign hE rfl rfl ?_; clear hE a; intro a hE)
    )
  refine s_call hE rfl rfl rfl (wakes w0) ?_
  rintro _ w ⟨rfl, hS⟩; clear hE a; intro a hE
  repeat' (first
    | (with_reducible refine wp_seq ?_)
    | (with_reducible refine c_region ?_)
    | (with_reducible refine wpList_nil ?_)
    | (with_reducible refine then_normal ?_)
    | (with_reducible refine wp_skip ?_)
    | ((with_reducible refine g_move ?_); refine s_move hE rfl rfl ?_; clear hE a; intro a hE)
    | ((with_reducible refine g_un .not ?_); refine s_notb hE rfl rfl ?_; clear hE a; intro a hE)
    | ((with_reducible refine g_cond ?_); refine c_false hE rfl ?_)
    )
  refine s_call hE rfl rfl rfl (read A c xs w (hr.st hS) (by omega)) ?_
  rintro _ w ⟨g1, A1, c1, rfl, hS1⟩; clear hE a; intro a hE; replace hS := hS.frame hS1; clear hS1; simp only [List.cons_append, List.nil_append] at hS
  repeat' (first
    | ((with_reducible refine g_move ?_); refine s_move hE rfl rfl ?_; clear hE a; intro a hE)
    )
  refine s_call hE rfl rfl rfl (read A c xs w (hr.st hS) (by omega)) ?_
  rintro _ w ⟨g2, A2, c2, rfl, hS1⟩; clear hE a; intro a hE; replace hS := hS.frame hS1; clear hS1; simp only [List.cons_append, List.nil_append] at hS
  repeat' (first
    | (with_reducible refine wp_seq ?_)
    | (with_reducible refine c_region ?_)
    | (with_reducible refine wpList_nil ?_)
    | (with_reducible refine then_normal ?_)
    | ((with_reducible refine g_move ?_); refine s_move hE rfl rfl ?_; clear hE a; intro a hE)
    | ((with_reducible refine g_assign ?_); refine s_assign hE rfl rfl ?_; clear hE a; intro a hE)
    )
  refine s_call hE rfl rfl rfl (rboth0 A c xs w (hr.st hS) (by omega)) ?_
  rintro _ w ⟨B, cb, rfl, hS1⟩; clear hE a; intro a hE; replace hS := hS.frame hS1; clear hS1; simp only [List.cons_append, List.nil_append] at hS
  have hcb := (hS.lenAt (k := 0) rfl).2.1
  refine s_build [.slice B xs.length cb, .int .i64 0, .int .i64 0] hE rfl rfl rfl ?_
  clear hE a; intro a hE
  refine s_allocS hE hS rfl rfl ?_
  clear hE a hS; intro g7 a w hE hS
  repeat' (first
    | (with_reducible refine wp_seq ?_)
    | (with_reducible refine c_region ?_)
    | (with_reducible refine wpList_nil ?_)
    | (with_reducible refine then_normal ?_)
    | (with_reducible refine wp_block ?_)
    | ((with_reducible refine g_move ?_); refine s_move hE rfl rfl ?_; clear hE a; intro a hE)
    | ((with_reducible refine g_blt .len ?_); refine s_len hE rfl rfl ?_; clear hE a; intro a hE)
    | ((with_reducible refine g_store ?_); (first | (refine s_storeW (k := 0) hS hE rfl rfl rfl rfl rfl (by simp [Value.oneCell']) ?_) ); clear hS; intro w hS; simp only [List.set_cons_zero, List.set_cons_succ, Nat.add_zero] at hS)
    )
  have hfl := flat_len hsz
  refine wp_loop_ghost (fun r a w => ∃ (k p : Nat) (e : Int), k + r = l.length ∧ p ≤ xs.length ∧ St w0 w [hBlk g7 32 [.slice B xs.length cb, .int .i64 (p : Int), .int .i64 e], hRow 5 1 B xs.length cb (bys xs), hRdr g2 A2 c2 xs 0 0, hRdr g1 A1 c1 xs p e] ∧
    Env 113 [(0, .slice A xs.length c), (5, .pointer (some ⟨g1, 0, none⟩)), (6, .pointer (some ⟨g2, 0, none⟩)), (7, .pointer (some ⟨g7, 0, none⟩)), (22, .slice Q l.length qc), (23, .int .i64 (l.length : Int)), (24, .int .i64 (k : Int))] a) l.length ⟨0, 0, 0, by omega, by omega, hS, hE.sub ⟨rfl, rfl, rfl, rfl, rfl, rfl, rfl, trivial⟩⟩ ?_
  clear hE a hS
  rintro r a w ⟨k, p, e, hk, hp, hS, hE⟩
  by_cases hk1 : k < l.length
  · have hoki := (hok _ (List.getElem_mem hk1)).1
    have hv := flat_seg hsz hk1
    generalize l[k] = y at hoki hv
    obtain ⟨κ, N, u⟩ := y
    obtain ⟨hκ, hN, _⟩ := hoki
    replace hv : ((l.flatMap askC).drop (k * 2)).take 2 = [.int .i64 κ, .int .i64 N] := hv
    have hκ : -9223372036854775808 ≤ κ ∧ κ ≤ 9223372036854775807 := by simpa [Lit.wf, IntKind.min, IntKind.max, IntKind.signed, IntKind.bits] using hκ
    have hN : -9223372036854775808 ≤ N ∧ N ≤ 9223372036854775807 := by simpa [Lit.wf, IntKind.min, IntKind.max, IntKind.signed, IntKind.bits] using hN
    obtain ⟨m, hm5, hm, hm1, hm2⟩ := kind5 κ hκ
    repeat' (first
      | (with_reducible refine wp_seq ?_)
      | (with_reducible refine c_region ?_)
      | (with_reducible refine wpList_nil ?_)
      | (with_reducible refine then_normal ?_)
      | (with_reducible refine wp_skip ?_)
      | (with_reducible refine wp_block ?_)
      | ((with_reducible refine g_bin .lss ?_); refine s_lss hE rfl rfl rfl ?_; clear hE a; intro a hE)
      | ((with_reducible refine g_bin .add ?_); refine s_add hE rfl rfl rfl (by first | exact wrap64_in (by omega) ) ?_; clear hE a; intro a hE)
      | ((with_reducible refine g_bin .rem ?_); refine s_rem hE rfl rfl (by omega) rfl (by first | with_reducible exact hm | rfl) ?_; clear hE a; intro a hE)
      | ((with_reducible refine g_fa ?_); refine s_fieldL hE rfl rfl rfl ?_; clear hE a; intro a hE)
      | ((with_reducible refine g_cond ?_); refine c_dec hE rfl (fun hc => ?_) (fun hc => ?_) <;> try omega)
      | ((with_reducible refine g_ia ?_); refine s_idxR hE rfl rfl (by omega) (by omega) (by (first | exact Rd.st (by assumption) hS )) (by first | omega ) rfl ?_; clear hE a; intro a hE)
      | ((with_reducible refine g_load ?_); (first | (refine s_loadB (k := 0) hS hE rfl rfl rfl rfl ?_) ); clear hE a; intro a hE)
      | ((with_reducible refine g_store ?_); (first | (refine s_storeB (k := 0) hS hE rfl rfl rfl rfl rfl rfl ?_) ); clear hS; intro w hS; simp only [List.set_cons_zero, List.set_cons_succ, Nat.add_zero] at hS)
      | ((with_reducible refine g_alloc ?_); refine s_allocS hE hS rfl rfl ?_; clear hE a hS; intro g a w hE hS)
      | ((with_reducible refine g_load ?_); (first | (refine s_loadW (k := 0) hS hE rfl rfl rfl rfl ?_) | (refine s_loadW (k := 1) hS hE rfl rfl rfl rfl ?_) ); clear hE a; intro a hE)
      | ((with_reducible refine g_store ?_); (first | (refine s_storeW (k := 0) hS hE rfl rfl rfl rfl rfl (by simp [Value.oneCell']) ?_) ); clear hS; intro w hS; simp only [List.set_cons_zero, List.set_cons_succ, Nat.add_zero] at hS)
      | ((with_reducible refine g_load ?_); refine s_elemR hE rfl (by (first | exact Rd.st (by assumption) hS )) (by first | exact hv ) (by rfl) (by rfl) rfl ?_; clear hE a; intro a hE)
      )
    have hbs := takeM_bs (p := p) (e := e) (n := N) hx
    rcases hm5 with rfl | rfl | rfl | rfl | rfl
    · refine s_call hE rfl rfl rfl (rdo 0 N 1 (Or.inl ⟨rfl, rfl⟩) B cb xs p e w (hS.rdAt (k := 2) rfl) hx hp hcb (by omega) (by omega)) ?_
      rintro _ w ⟨T, ct, rfl, hT, hct, hS1⟩; clear hE a; intro a hE; replace hS := hS.frame hS1; clear hS1; simp only [List.cons_append, List.nil_append] at hS
      have hb64 : bnum 0 (takeM xs p e 1).1 < 18446744073709551616 := bnum_lt64 (takeM_bs (p := p) (e := e) (n := ((1 : Nat) : Int)) hx) (Nat.le_trans (takeM_n (xs := xs) (p := p) (e := e) (n := 1)) (by decide))
      have hp2 : (takeM xs p e 1).2.1 ≤ xs.length := takeM_le (e := e) (n := ((1 : Nat) : Int)) hp
      repeat' (first
        | (with_reducible refine wp_seq ?_)
        | (with_reducible refine c_region ?_)
        | (with_reducible refine wpList_nil ?_)
        | (with_reducible refine then_normal ?_)
        | (with_reducible refine wp_block ?_)
        | (with_reducible refine block_normal ?_)
        | ((with_reducible refine g_move ?_); refine s_move hE rfl rfl ?_; clear hE a; intro a hE)
        | ((with_reducible refine g_assign ?_); refine s_assign hE rfl rfl ?_; clear hE a; intro a hE)
        | ((with_reducible refine g_bin .eql ?_); refine s_eql hE rfl rfl rfl ?_; clear hE a; intro a hE)
        | ((with_reducible refine g_conv ?_); refine s_conv hE rfl rfl (by first  | exact wrap_u64_in (by omega) ) ?_; clear hE a; intro a hE)
        | ((with_reducible refine g_extract ?_); refine s_extract hE rfl rfl rfl ?_; clear hE a; intro a hE)
        | ((with_reducible refine g_fa ?_); refine s_fieldL hE rfl rfl rfl ?_; clear hE a; intro a hE)
        | ((with_reducible refine g_cond ?_); refine c_true hE rfl ?_)
        | ((with_reducible refine g_load ?_); (first | (refine s_loadB (k := 3) hS hE rfl rfl rfl rfl ?_) ); clear hE a; intro a hE)
        | ((with_reducible refine g_store ?_); (first | (refine s_storeB (k := 0) hS hE rfl rfl rfl rfl rfl rfl ?_) ); clear hS; intro w hS; simp only [List.set_cons_zero, List.set_cons_succ, Nat.add_zero] at hS)
        | ((with_reducible refine g_alloc ?_); refine s_allocS hE hS rfl rfl ?_; clear hE a hS; intro g a w hE hS)
        | ((with_reducible refine g_build ?_); refine s_build [_, _] hE rfl rfl rfl ?_; clear hE a; intro a hE)
        | ((with_reducible refine g_store ?_); (first | (refine s_storeW (k := 0) hS hE rfl rfl rfl rfl rfl (by simp [Value.oneCell']) ?_) | (refine s_storeW (k := 1) hS hE rfl rfl rfl rfl rfl (by simp [Value.oneCell']) ?_) ); clear hS; intro w hS; simp only [List.set_cons_zero, List.set_cons_succ, Nat.add_zero] at hS)
        | ((with_reducible refine g_call (f := 16) ?_); (first | (refine s_call hE rfl rfl rfl (u8 _ _ _ _ _ _ _ _ _ (hS.focus (k := 7) rfl) (by assumption) (by first | omega ) (by first | omega )) ?_; rintro _ w ⟨rfl, hS1⟩; clear hE a; intro a hE; have hS2 := St.unfocus (k := 7) rfl hS1; clear hS hS1; have hS := hS2; clear hS2; simp only [List.set_cons_zero, List.set_cons_succ] at hS) )))
      refine c_ordS hS 30 (.rd 0 (.rd 1 (.rd 2 (.rd 3 (.rd 4 (.rd 5 (.rd 6 (.rd 7 (.rd 8 (.rd 9 (.ef 10 (.rd 11 (.rd 12 (.rd 13 (.rd 14 (.rd 16 (.rd 17 (.rd 18 (.rd 19 (.rd 20 (.ef 15 (.rd 21 (.rd 22 (.rd 23 (.rd 24 (.rd 26 (.rd 27 (.ef 25 (.rd 28 (.rd 29 .done)))))))))))))))))))))))))))))) mixed (by decide +kernel) ?_; clear hS; intro w hS
      repeat' (first
        | (with_reducible refine wp_seq ?_)
        | (with_reducible refine c_region ?_)
        | (with_reducible refine wpList_nil ?_)
        | (with_reducible refine then_normal ?_)
        | (with_reducible refine wp_skip ?_)
        | (with_reducible refine wp_ret ?_)
        | (with_reducible refine then_ret ?_)
        | (with_reducible refine block_normal ?_)
        | (with_reducible refine block_ret ?_)
        | ((with_reducible refine g_move ?_); refine s_move hE rfl rfl ?_; clear hE a; intro a hE)
        | ((with_reducible refine g_assign ?_); refine s_assign hE rfl rfl ?_; clear hE a; intro a hE)
        | ((with_reducible refine g_bin .add ?_); refine s_add hE rfl rfl rfl (by first  | exact wrap64_in (by omega) ) ?_; clear hE a; intro a hE)
        | ((with_reducible refine g_guard ?_); refine gd_yes hE rfl rfl rfl ?_)
        | ((with_reducible refine g_guard ?_); refine gd_no hE rfl rfl rfl rfl ?_; clear hE a; intro a hE)
        | ((with_reducible refine g_cond ?_); refine c_true hE rfl ?_)
        | ((with_reducible refine g_cond ?_); refine c_dec hE rfl (fun hc => ?_) (fun hc => ?_) <;> try omega)
        | ((with_reducible refine g_load ?_); (first | (refine s_loadW (k := 2) hS hE rfl rfl rfl rfl ?_) ); clear hE a; intro a hE)
        | ((with_reducible refine g_store ?_); (first | (refine s_storeW (k := 4) hS hE rfl rfl rfl rfl rfl (by simp [Value.oneCell']) ?_) ); clear hS; intro w hS; simp only [List.set_cons_zero, List.set_cons_succ, Nat.add_zero] at hS)
        | (with_reducible refine o_rd rfl ?_)
        | (with_reducible refine o_done ?_)
        | ((with_reducible refine q_move ?_); refine d_val hE hS rfl (fun w hS => r_move hE rfl) ?_; clear hE a; intro a hE)
        | ((with_reducible refine q_bin .neq ?_); refine d_val hE hS rfl (fun w hS => r_neq hE rfl rfl) ?_; clear hE a; intro a hE)
        | ((with_reducible refine q_bin .sub ?_); refine d_val hE hS rfl (fun w hS => r_sub hE rfl rfl (by first  | exact subN (by omega) (by omega) )) ?_; clear hE a; intro a hE)
        | ((with_reducible refine q_un .not ?_); refine d_val hE hS rfl (fun w hS => r_notb hE rfl) ?_; clear hE a; intro a hE)
        | ((with_reducible refine q_blt .len ?_); refine d_val hE hS rfl (fun w hS => r_len hE rfl) ?_; clear hE a; intro a hE)
        | ((with_reducible refine q_fa ?_); refine d_val hE hS rfl (fun w hS => r_fieldL hE rfl rfl) ?_; clear hE a; intro a hE)
        | ((with_reducible refine q_guard ?_); refine d_yes hE rfl rfl rfl ?_)
        | ((with_reducible refine q_guard ?_); refine d_no hE hS rfl rfl rfl rfl ?_; clear hE a; intro a hE)
        | ((with_reducible refine q_guard ?_); refine d_dec hE rfl rfl (fun hc hE2 => ?_) (fun hc hE2 => ?_) <;> (try omega) <;> (replace hE := hE2; clear hE2))
        | ((with_reducible refine q_pick ?_); refine d_val hE hS rfl (fun w hS => r_pickT hE rfl rfl) ?_; clear hE a; intro a hE)
        | ((with_reducible refine q_pick ?_); refine d_val hE hS rfl (fun w hS => r_pickF hE rfl rfl) ?_; clear hE a; intro a hE)
        | ((with_reducible refine q_load ?_); (first | (refine d_val hE hS rfl (fun w hS => r_loadB (k := 0) hS hE rfl rfl rfl) ?_) | (refine d_val hE hS rfl (fun w hS => r_loadB (k := 1) hS hE rfl rfl rfl) ?_) | (refine d_val hE hS rfl (fun w hS => r_loadB (k := 2) hS hE rfl rfl rfl) ?_) ); clear hE a; intro a hE)
        | ((with_reducible refine o_ef rfl ?_))
        | ((with_reducible refine o_same ?_ ?_); exact hS)
        | ((with_reducible refine g_call (f := 11) ?_); refine s_call hE rfl rfl rfl (rsame0 _ _ _ _ _) ?_; rintro _ w ⟨rfl, hS1⟩; clear hE a; intro a hE; replace hS := hS.frame hS1; clear hS1; try simp only [List.cons_append, List.nil_append] at hS) | ((with_reducible refine g_call (f := 21) ?_); (first | (refine s_call hE rfl rfl rfl (left _ _ _ _ _ _ _ _ _ (hS.focus (k := 7) rfl) (by first | omega ) (by first | omega )) ?_; rintro _ w ⟨rfl, hS1⟩; clear hE a; intro a hE; have hS2 := St.unfocus (k := 7) rfl hS1; clear hS hS1; have hS := hS2; clear hS2; simp only [List.set_cons_zero, List.set_cons_succ] at hS) )) | ((with_reducible refine g_call (f := 22) ?_); (first | (refine s_call hE rfl rfl rfl (rerr _ _ _ _ _ _ _ _ _ (hS.focus (k := 7) rfl)) ?_; rintro _ w ⟨rfl, hS1⟩; clear hE a; intro a hE; have hS2 := St.unfocus (k := 7) rfl hS1; clear hS hS1; have hS := hS2; clear hS2; simp only [List.set_cons_zero, List.set_cons_succ] at hS) )))
      · exact absurd rfl hc
      · exact ⟨r - 1, by omega, k + 1, _, _, by omega, hp2, hS.tail.tail.tail.tail, hE.sub ⟨rfl, rfl, rfl, rfl, rfl, rfl, rfl, trivial⟩⟩
    · refine s_call hE rfl rfl rfl (rdo 1 N 2 (Or.inr (Or.inl ⟨rfl, rfl⟩)) B cb xs p e w (hS.rdAt (k := 2) rfl) hx hp hcb (by omega) (by omega)) ?_
      rintro _ w ⟨T, ct, rfl, hT, hct, hS1⟩; clear hE a; intro a hE; replace hS := hS.frame hS1; clear hS1; simp only [List.cons_append, List.nil_append] at hS
      have hb64 : bnum 0 (takeM xs p e 2).1 < 18446744073709551616 := bnum_lt64 (takeM_bs (p := p) (e := e) (n := ((2 : Nat) : Int)) hx) (Nat.le_trans (takeM_n (xs := xs) (p := p) (e := e) (n := 2)) (by decide))
      have hp2 : (takeM xs p e 2).2.1 ≤ xs.length := takeM_le (e := e) (n := ((2 : Nat) : Int)) hp
      repeat' (first
        | (with_reducible refine wp_seq ?_)
        | (with_reducible refine c_region ?_)
        | (with_reducible refine wpList_nil ?_)
        | (with_reducible refine then_normal ?_)
        | (with_reducible refine wp_block ?_)
        | (with_reducible refine block_normal ?_)
        | ((with_reducible refine g_move ?_); refine s_move hE rfl rfl ?_; clear hE a; intro a hE)
        | ((with_reducible refine g_assign ?_); refine s_assign hE rfl rfl ?_; clear hE a; intro a hE)
        | ((with_reducible refine g_bin .eql ?_); refine s_eql hE rfl rfl rfl ?_; clear hE a; intro a hE)
        | ((with_reducible refine g_conv ?_); refine s_conv hE rfl rfl (by first  | exact wrap_u64_in (by omega) ) ?_; clear hE a; intro a hE)
        | ((with_reducible refine g_extract ?_); refine s_extract hE rfl rfl rfl ?_; clear hE a; intro a hE)
        | ((with_reducible refine g_fa ?_); refine s_fieldL hE rfl rfl rfl ?_; clear hE a; intro a hE)
        | ((with_reducible refine g_cond ?_); refine c_true hE rfl ?_)
        | ((with_reducible refine g_cond ?_); refine c_false hE rfl ?_)
        | ((with_reducible refine g_load ?_); (first | (refine s_loadB (k := 3) hS hE rfl rfl rfl rfl ?_) ); clear hE a; intro a hE)
        | ((with_reducible refine g_store ?_); (first | (refine s_storeB (k := 0) hS hE rfl rfl rfl rfl rfl rfl ?_) ); clear hS; intro w hS; simp only [List.set_cons_zero, List.set_cons_succ, Nat.add_zero] at hS)
        | ((with_reducible refine g_alloc ?_); refine s_allocS hE hS rfl rfl ?_; clear hE a hS; intro g a w hE hS)
        | ((with_reducible refine g_build ?_); refine s_build [_, _] hE rfl rfl rfl ?_; clear hE a; intro a hE)
        | ((with_reducible refine g_store ?_); (first | (refine s_storeW (k := 0) hS hE rfl rfl rfl rfl rfl (by simp [Value.oneCell']) ?_) | (refine s_storeW (k := 1) hS hE rfl rfl rfl rfl rfl (by simp [Value.oneCell']) ?_) ); clear hS; intro w hS; simp only [List.set_cons_zero, List.set_cons_succ, Nat.add_zero] at hS)
        | ((with_reducible refine g_call (f := 17) ?_); (first | (refine s_call hE rfl rfl rfl (u16 _ _ _ _ _ _ _ _ _ (hS.focus (k := 7) rfl) (by assumption) (by first | omega ) (by first | omega )) ?_; rintro _ w ⟨rfl, hS1⟩; clear hE a; intro a hE; have hS2 := St.unfocus (k := 7) rfl hS1; clear hS hS1; have hS := hS2; clear hS2; simp only [List.set_cons_zero, List.set_cons_succ] at hS) )))
      refine c_ordS hS 30 (.rd 0 (.rd 1 (.rd 2 (.rd 3 (.rd 4 (.rd 5 (.rd 6 (.rd 7 (.rd 8 (.rd 9 (.ef 10 (.rd 11 (.rd 12 (.rd 13 (.rd 14 (.rd 16 (.rd 17 (.rd 18 (.rd 19 (.rd 20 (.ef 15 (.rd 21 (.rd 22 (.rd 23 (.rd 24 (.rd 26 (.rd 27 (.ef 25 (.rd 28 (.rd 29 .done)))))))))))))))))))))))))))))) mixed (by decide +kernel) ?_; clear hS; intro w hS
      repeat' (first
        | (with_reducible refine wp_seq ?_)
        | (with_reducible refine c_region ?_)
        | (with_reducible refine wpList_nil ?_)
        | (with_reducible refine then_normal ?_)
        | (with_reducible refine wp_skip ?_)
        | (with_reducible refine wp_ret ?_)
        | (with_reducible refine then_ret ?_)
        | (with_reducible refine block_normal ?_)
        | (with_reducible refine block_ret ?_)
        | ((with_reducible refine g_move ?_); refine s_move hE rfl rfl ?_; clear hE a; intro a hE)
        | ((with_reducible refine g_assign ?_); refine s_assign hE rfl rfl ?_; clear hE a; intro a hE)
        | ((with_reducible refine g_bin .add ?_); refine s_add hE rfl rfl rfl (by first  | exact wrap64_in (by omega) ) ?_; clear hE a; intro a hE)
        | ((with_reducible refine g_guard ?_); refine gd_yes hE rfl rfl rfl ?_)
        | ((with_reducible refine g_guard ?_); refine gd_no hE rfl rfl rfl rfl ?_; clear hE a; intro a hE)
        | ((with_reducible refine g_cond ?_); refine c_true hE rfl ?_)
        | ((with_reducible refine g_cond ?_); refine c_dec hE rfl (fun hc => ?_) (fun hc => ?_) <;> try omega)
        | ((with_reducible refine g_load ?_); (first | (refine s_loadW (k := 2) hS hE rfl rfl rfl rfl ?_) ); clear hE a; intro a hE)
        | ((with_reducible refine g_store ?_); (first | (refine s_storeW (k := 4) hS hE rfl rfl rfl rfl rfl (by simp [Value.oneCell']) ?_) ); clear hS; intro w hS; simp only [List.set_cons_zero, List.set_cons_succ, Nat.add_zero] at hS)
        | (with_reducible refine o_rd rfl ?_)
        | (with_reducible refine o_done ?_)
        | ((with_reducible refine q_move ?_); refine d_val hE hS rfl (fun w hS => r_move hE rfl) ?_; clear hE a; intro a hE)
        | ((with_reducible refine q_bin .neq ?_); refine d_val hE hS rfl (fun w hS => r_neq hE rfl rfl) ?_; clear hE a; intro a hE)
        | ((with_reducible refine q_bin .sub ?_); refine d_val hE hS rfl (fun w hS => r_sub hE rfl rfl (by first  | exact subN (by omega) (by omega) )) ?_; clear hE a; intro a hE)
        | ((with_reducible refine q_un .not ?_); refine d_val hE hS rfl (fun w hS => r_notb hE rfl) ?_; clear hE a; intro a hE)
        | ((with_reducible refine q_blt .len ?_); refine d_val hE hS rfl (fun w hS => r_len hE rfl) ?_; clear hE a; intro a hE)
        | ((with_reducible refine q_fa ?_); refine d_val hE hS rfl (fun w hS => r_fieldL hE rfl rfl) ?_; clear hE a; intro a hE)
        | ((with_reducible refine q_guard ?_); refine d_yes hE rfl rfl rfl ?_)
        | ((with_reducible refine q_guard ?_); refine d_no hE hS rfl rfl rfl rfl ?_; clear hE a; intro a hE)
        | ((with_reducible refine q_guard ?_); refine d_dec hE rfl rfl (fun hc hE2 => ?_) (fun hc hE2 => ?_) <;> (try omega) <;> (replace hE := hE2; clear hE2))
        | ((with_reducible refine q_pick ?_); refine d_val hE hS rfl (fun w hS => r_pickT hE rfl rfl) ?_; clear hE a; intro a hE)
        | ((with_reducible refine q_pick ?_); refine d_val hE hS rfl (fun w hS => r_pickF hE rfl rfl) ?_; clear hE a; intro a hE)
        | ((with_reducible refine q_load ?_); (first | (refine d_val hE hS rfl (fun w hS => r_loadB (k := 0) hS hE rfl rfl rfl) ?_) | (refine d_val hE hS rfl (fun w hS => r_loadB (k := 1) hS hE rfl rfl rfl) ?_) | (refine d_val hE hS rfl (fun w hS => r_loadB (k := 2) hS hE rfl rfl rfl) ?_) ); clear hE a; intro a hE)
        | ((with_reducible refine o_ef rfl ?_))
        | ((with_reducible refine o_same ?_ ?_); exact hS)
        | ((with_reducible refine g_call (f := 11) ?_); refine s_call hE rfl rfl rfl (rsame0 _ _ _ _ _) ?_; rintro _ w ⟨rfl, hS1⟩; clear hE a; intro a hE; replace hS := hS.frame hS1; clear hS1; try simp only [List.cons_append, List.nil_append] at hS) | ((with_reducible refine g_call (f := 21) ?_); (first | (refine s_call hE rfl rfl rfl (left _ _ _ _ _ _ _ _ _ (hS.focus (k := 7) rfl) (by first | omega ) (by first | omega )) ?_; rintro _ w ⟨rfl, hS1⟩; clear hE a; intro a hE; have hS2 := St.unfocus (k := 7) rfl hS1; clear hS hS1; have hS := hS2; clear hS2; simp only [List.set_cons_zero, List.set_cons_succ] at hS) )) | ((with_reducible refine g_call (f := 22) ?_); (first | (refine s_call hE rfl rfl rfl (rerr _ _ _ _ _ _ _ _ _ (hS.focus (k := 7) rfl)) ?_; rintro _ w ⟨rfl, hS1⟩; clear hE a; intro a hE; have hS2 := St.unfocus (k := 7) rfl hS1; clear hS hS1; have hS := hS2; clear hS2; simp only [List.set_cons_zero, List.set_cons_succ] at hS) )))
      · exact absurd rfl hc
      · exact ⟨r - 1, by omega, k + 1, _, _, by omega, hp2, hS.tail.tail.tail.tail, hE.sub ⟨rfl, rfl, rfl, rfl, rfl, rfl, rfl, trivial⟩⟩
    · refine s_call hE rfl rfl rfl (rdo 2 N 4 (Or.inr (Or.inr (Or.inl ⟨rfl, rfl⟩))) B cb xs p e w (hS.rdAt (k := 2) rfl) hx hp hcb (by omega) (by omega)) ?_
      rintro _ w ⟨T, ct, rfl, hT, hct, hS1⟩; clear hE a; intro a hE; replace hS := hS.frame hS1; clear hS1; simp only [List.cons_append, List.nil_append] at hS
      have hb64 : bnum 0 (takeM xs p e 4).1 < 18446744073709551616 := bnum_lt64 (takeM_bs (p := p) (e := e) (n := ((4 : Nat) : Int)) hx) (Nat.le_trans (takeM_n (xs := xs) (p := p) (e := e) (n := 4)) (by decide))
      have hp2 : (takeM xs p e 4).2.1 ≤ xs.length := takeM_le (e := e) (n := ((4 : Nat) : Int)) hp
      repeat' (first
        | (with_reducible refine wp_seq ?_)
        | (with_reducible refine c_region ?_)
        | (with_reducible refine wpList_nil ?_)
        | (with_reducible refine then_normal ?_)
        | (with_reducible refine wp_block ?_)
        | (with_reducible refine block_normal ?_)
        | ((with_reducible refine g_move ?_); refine s_move hE rfl rfl ?_; clear hE a; intro a hE)
        | ((with_reducible refine g_assign ?_); refine s_assign hE rfl rfl ?_; clear hE a; intro a hE)
        | ((with_reducible refine g_bin .eql ?_); refine s_eql hE rfl rfl rfl ?_; clear hE a; intro a hE)
        | ((with_reducible refine g_conv ?_); refine s_conv hE rfl rfl (by first  | exact wrap_u64_in (by omega) ) ?_; clear hE a; intro a hE)
        | ((with_reducible refine g_extract ?_); refine s_extract hE rfl rfl rfl ?_; clear hE a; intro a hE)
        | ((with_reducible refine g_fa ?_); refine s_fieldL hE rfl rfl rfl ?_; clear hE a; intro a hE)
        | ((with_reducible refine g_cond ?_); refine c_true hE rfl ?_)
        | ((with_reducible refine g_cond ?_); refine c_false hE rfl ?_)
        | ((with_reducible refine g_load ?_); (first | (refine s_loadB (k := 3) hS hE rfl rfl rfl rfl ?_) ); clear hE a; intro a hE)
        | ((with_reducible refine g_store ?_); (first | (refine s_storeB (k := 0) hS hE rfl rfl rfl rfl rfl rfl ?_) ); clear hS; intro w hS; simp only [List.set_cons_zero, List.set_cons_succ, Nat.add_zero] at hS)
        | ((with_reducible refine g_alloc ?_); refine s_allocS hE hS rfl rfl ?_; clear hE a hS; intro g a w hE hS)
        | ((with_reducible refine g_build ?_); refine s_build [_, _] hE rfl rfl rfl ?_; clear hE a; intro a hE)
        | ((with_reducible refine g_store ?_); (first | (refine s_storeW (k := 0) hS hE rfl rfl rfl rfl rfl (by simp [Value.oneCell']) ?_) | (refine s_storeW (k := 1) hS hE rfl rfl rfl rfl rfl (by simp [Value.oneCell']) ?_) ); clear hS; intro w hS; simp only [List.set_cons_zero, List.set_cons_succ, Nat.add_zero] at hS)
        | ((with_reducible refine g_call (f := 18) ?_); (first | (refine s_call hE rfl rfl rfl (u32 _ _ _ _ _ _ _ _ _ (hS.focus (k := 7) rfl) (by assumption) (by first | omega ) (by first | omega )) ?_; rintro _ w ⟨rfl, hS1⟩; clear hE a; intro a hE; have hS2 := St.unfocus (k := 7) rfl hS1; clear hS hS1; have hS := hS2; clear hS2; simp only [List.set_cons_zero, List.set_cons_succ] at hS) )))
      refine c_ordS hS 30 (.rd 0 (.rd 1 (.rd 2 (.rd 3 (.rd 4 (.rd 5 (.rd 6 (.rd 7 (.rd 8 (.rd 9 (.ef 10 (.rd 11 (.rd 12 (.rd 13 (.rd 14 (.rd 16 (.rd 17 (.rd 18 (.rd 19 (.rd 20 (.ef 15 (.rd 21 (.rd 22 (.rd 23 (.rd 24 (.rd 26 (.rd 27 (.ef 25 (.rd 28 (.rd 29 .done)))))))))))))))))))))))))))))) mixed (by decide +kernel) ?_; clear hS; intro w hS
      repeat' (first
        | (with_reducible refine wp_seq ?_)
        | (with_reducible refine c_region ?_)
        | (with_reducible refine wpList_nil ?_)
        | (with_reducible refine then_normal ?_)
        | (with_reducible refine wp_skip ?_)
        | (with_reducible refine wp_ret ?_)
        | (with_reducible refine then_ret ?_)
        | (with_reducible refine block_normal ?_)
        | (with_reducible refine block_ret ?_)
        | ((with_reducible refine g_move ?_); refine s_move hE rfl rfl ?_; clear hE a; intro a hE)
        | ((with_reducible refine g_assign ?_); refine s_assign hE rfl rfl ?_; clear hE a; intro a hE)
        | ((with_reducible refine g_bin .add ?_); refine s_add hE rfl rfl rfl (by first  | exact wrap64_in (by omega) ) ?_; clear hE a; intro a hE)
        | ((with_reducible refine g_guard ?_); refine gd_yes hE rfl rfl rfl ?_)
        | ((with_reducible refine g_guard ?_); refine gd_no hE rfl rfl rfl rfl ?_; clear hE a; intro a hE)
        | ((with_reducible refine g_cond ?_); refine c_true hE rfl ?_)
        | ((with_reducible refine g_cond ?_); refine c_dec hE rfl (fun hc => ?_) (fun hc => ?_) <;> try omega)
        | ((with_reducible refine g_load ?_); (first | (refine s_loadW (k := 2) hS hE rfl rfl rfl rfl ?_) ); clear hE a; intro a hE)
        | ((with_reducible refine g_store ?_); (first | (refine s_storeW (k := 4) hS hE rfl rfl rfl rfl rfl (by simp [Value.oneCell']) ?_) ); clear hS; intro w hS; simp only [List.set_cons_zero, List.set_cons_succ, Nat.add_zero] at hS)
        | (with_reducible refine o_rd rfl ?_)
        | (with_reducible refine o_done ?_)
        | ((with_reducible refine q_move ?_); refine d_val hE hS rfl (fun w hS => r_move hE rfl) ?_; clear hE a; intro a hE)
        | ((with_reducible refine q_bin .neq ?_); refine d_val hE hS rfl (fun w hS => r_neq hE rfl rfl) ?_; clear hE a; intro a hE)
        | ((with_reducible refine q_bin .sub ?_); refine d_val hE hS rfl (fun w hS => r_sub hE rfl rfl (by first  | exact subN (by omega) (by omega) )) ?_; clear hE a; intro a hE)
        | ((with_reducible refine q_un .not ?_); refine d_val hE hS rfl (fun w hS => r_notb hE rfl) ?_; clear hE a; intro a hE)
        | ((with_reducible refine q_blt .len ?_); refine d_val hE hS rfl (fun w hS => r_len hE rfl) ?_; clear hE a; intro a hE)
        | ((with_reducible refine q_fa ?_); refine d_val hE hS rfl (fun w hS => r_fieldL hE rfl rfl) ?_; clear hE a; intro a hE)
        | ((with_reducible refine q_guard ?_); refine d_yes hE rfl rfl rfl ?_)
        | ((with_reducible refine q_guard ?_); refine d_no hE hS rfl rfl rfl rfl ?_; clear hE a; intro a hE)
        | ((with_reducible refine q_guard ?_); refine d_dec hE rfl rfl (fun hc hE2 => ?_) (fun hc hE2 => ?_) <;> (try omega) <;> (replace hE := hE2; clear hE2))
        | ((with_reducible refine q_pick ?_); refine d_val hE hS rfl (fun w hS => r_pickT hE rfl rfl) ?_; clear hE a; intro a hE)
        | ((with_reducible refine q_pick ?_); refine d_val hE hS rfl (fun w hS => r_pickF hE rfl rfl) ?_; clear hE a; intro a hE)
        | ((with_reducible refine q_load ?_); (first | (refine d_val hE hS rfl (fun w hS => r_loadB (k := 0) hS hE rfl rfl rfl) ?_) | (refine d_val hE hS rfl (fun w hS => r_loadB (k := 1) hS hE rfl rfl rfl) ?_) | (refine d_val hE hS rfl (fun w hS => r_loadB (k := 2) hS hE rfl rfl rfl) ?_) ); clear hE a; intro a hE)
        | ((with_reducible refine o_ef rfl ?_))
        | ((with_reducible refine o_same ?_ ?_); exact hS)
        | ((with_reducible refine g_call (f := 11) ?_); refine s_call hE rfl rfl rfl (rsame0 _ _ _ _ _) ?_; rintro _ w ⟨rfl, hS1⟩; clear hE a; intro a hE; replace hS := hS.frame hS1; clear hS1; try simp only [List.cons_append, List.nil_append] at hS) | ((with_reducible refine g_call (f := 21) ?_); (first | (refine s_call hE rfl rfl rfl (left _ _ _ _ _ _ _ _ _ (hS.focus (k := 7) rfl) (by first | omega ) (by first | omega )) ?_; rintro _ w ⟨rfl, hS1⟩; clear hE a; intro a hE; have hS2 := St.unfocus (k := 7) rfl hS1; clear hS hS1; have hS := hS2; clear hS2; simp only [List.set_cons_zero, List.set_cons_succ] at hS) )) | ((with_reducible refine g_call (f := 22) ?_); (first | (refine s_call hE rfl rfl rfl (rerr _ _ _ _ _ _ _ _ _ (hS.focus (k := 7) rfl)) ?_; rintro _ w ⟨rfl, hS1⟩; clear hE a; intro a hE; have hS2 := St.unfocus (k := 7) rfl hS1; clear hS hS1; have hS := hS2; clear hS2; simp only [List.set_cons_zero, List.set_cons_succ] at hS) )))
      · exact absurd rfl hc
      · exact ⟨r - 1, by omega, k + 1, _, _, by omega, hp2, hS.tail.tail.tail.tail, hE.sub ⟨rfl, rfl, rfl, rfl, rfl, rfl, rfl, trivial⟩⟩
    · refine s_call hE rfl rfl rfl (rdo 3 N 8 (Or.inr (Or.inr (Or.inr (Or.inl ⟨rfl, rfl⟩)))) B cb xs p e w (hS.rdAt (k := 2) rfl) hx hp hcb (by omega) (by omega)) ?_
      rintro _ w ⟨T, ct, rfl, hT, hct, hS1⟩; clear hE a; intro a hE; replace hS := hS.frame hS1; clear hS1; simp only [List.cons_append, List.nil_append] at hS
      have hb64 : bnum 0 (takeM xs p e 8).1 < 18446744073709551616 := bnum_lt64 (takeM_bs (p := p) (e := e) (n := ((8 : Nat) : Int)) hx) (Nat.le_trans (takeM_n (xs := xs) (p := p) (e := e) (n := 8)) (by decide))
      have hp2 : (takeM xs p e 8).2.1 ≤ xs.length := takeM_le (e := e) (n := ((8 : Nat) : Int)) hp
      repeat' (first
        | (with_reducible refine wp_seq ?_)
        | (with_reducible refine c_region ?_)
        | (with_reducible refine wpList_nil ?_)
        | (with_reducible refine then_normal ?_)
        | (with_reducible refine wp_block ?_)
        | (with_reducible refine block_normal ?_)
        | ((with_reducible refine g_move ?_); refine s_move hE rfl rfl ?_; clear hE a; intro a hE)
        | ((with_reducible refine g_assign ?_); refine s_assign hE rfl rfl ?_; clear hE a; intro a hE)
        | ((with_reducible refine g_bin .eql ?_); refine s_eql hE rfl rfl rfl ?_; clear hE a; intro a hE)
        | ((with_reducible refine g_extract ?_); refine s_extract hE rfl rfl rfl ?_; clear hE a; intro a hE)
        | ((with_reducible refine g_fa ?_); refine s_fieldL hE rfl rfl rfl ?_; clear hE a; intro a hE)
        | ((with_reducible refine g_cond ?_); refine c_true hE rfl ?_)
        | ((with_reducible refine g_cond ?_); refine c_false hE rfl ?_)
        | ((with_reducible refine g_load ?_); (first | (refine s_loadB (k := 3) hS hE rfl rfl rfl rfl ?_) ); clear hE a; intro a hE)
        | ((with_reducible refine g_store ?_); (first | (refine s_storeB (k := 0) hS hE rfl rfl rfl rfl rfl rfl ?_) ); clear hS; intro w hS; simp only [List.set_cons_zero, List.set_cons_succ, Nat.add_zero] at hS)
        | ((with_reducible refine g_alloc ?_); refine s_allocS hE hS rfl rfl ?_; clear hE a hS; intro g a w hE hS)
        | ((with_reducible refine g_build ?_); refine s_build [_, _] hE rfl rfl rfl ?_; clear hE a; intro a hE)
        | ((with_reducible refine g_store ?_); (first | (refine s_storeW (k := 0) hS hE rfl rfl rfl rfl rfl (by simp [Value.oneCell']) ?_) | (refine s_storeW (k := 1) hS hE rfl rfl rfl rfl rfl (by simp [Value.oneCell']) ?_) ); clear hS; intro w hS; simp only [List.set_cons_zero, List.set_cons_succ, Nat.add_zero] at hS)
        | ((with_reducible refine g_call (f := 19) ?_); (first | (refine s_call hE rfl rfl rfl (u64 _ _ _ _ _ _ _ _ _ (hS.focus (k := 7) rfl) (by assumption) (by first | omega ) (by first | omega )) ?_; rintro _ w ⟨rfl, hS1⟩; clear hE a; intro a hE; have hS2 := St.unfocus (k := 7) rfl hS1; clear hS hS1; have hS := hS2; clear hS2; simp only [List.set_cons_zero, List.set_cons_succ] at hS) )))
      refine c_ordS hS 30 (.rd 0 (.rd 1 (.rd 2 (.rd 3 (.rd 4 (.rd 5 (.rd 6 (.rd 7 (.rd 8 (.rd 9 (.ef 10 (.rd 11 (.rd 12 (.rd 13 (.rd 14 (.rd 16 (.rd 17 (.rd 18 (.rd 19 (.rd 20 (.ef 15 (.rd 21 (.rd 22 (.rd 23 (.rd 24 (.rd 26 (.rd 27 (.ef 25 (.rd 28 (.rd 29 .done)))))))))))))))))))))))))))))) mixed (by decide +kernel) ?_; clear hS; intro w hS
      repeat' (first
        | (with_reducible refine wp_seq ?_)
        | (with_reducible refine c_region ?_)
        | (with_reducible refine wpList_nil ?_)
        | (with_reducible refine then_normal ?_)
        | (with_reducible refine wp_skip ?_)
        | (with_reducible refine wp_ret ?_)
        | (with_reducible refine then_ret ?_)
        | (with_reducible refine block_normal ?_)
        | (with_reducible refine block_ret ?_)
        | ((with_reducible refine g_move ?_); refine s_move hE rfl rfl ?_; clear hE a; intro a hE)
        | ((with_reducible refine g_assign ?_); refine s_assign hE rfl rfl ?_; clear hE a; intro a hE)
        | ((with_reducible refine g_bin .add ?_); refine s_add hE rfl rfl rfl (by first  | exact wrap64_in (by omega) ) ?_; clear hE a; intro a hE)
        | ((with_reducible refine g_guard ?_); refine gd_yes hE rfl rfl rfl ?_)
        | ((with_reducible refine g_guard ?_); refine gd_no hE rfl rfl rfl rfl ?_; clear hE a; intro a hE)
        | ((with_reducible refine g_cond ?_); refine c_true hE rfl ?_)
        | ((with_reducible refine g_cond ?_); refine c_dec hE rfl (fun hc => ?_) (fun hc => ?_) <;> try omega)
        | ((with_reducible refine g_load ?_); (first | (refine s_loadW (k := 2) hS hE rfl rfl rfl rfl ?_) ); clear hE a; intro a hE)
        | ((with_reducible refine g_store ?_); (first | (refine s_storeW (k := 4) hS hE rfl rfl rfl rfl rfl (by simp [Value.oneCell']) ?_) ); clear hS; intro w hS; simp only [List.set_cons_zero, List.set_cons_succ, Nat.add_zero] at hS)
        | (with_reducible refine o_rd rfl ?_)
        | (with_reducible refine o_done ?_)
        | ((with_reducible refine q_move ?_); refine d_val hE hS rfl (fun w hS => r_move hE rfl) ?_; clear hE a; intro a hE)
        | ((with_reducible refine q_bin .neq ?_); refine d_val hE hS rfl (fun w hS => r_neq hE rfl rfl) ?_; clear hE a; intro a hE)
        | ((with_reducible refine q_bin .sub ?_); refine d_val hE hS rfl (fun w hS => r_sub hE rfl rfl (by first  | exact subN (by omega) (by omega) )) ?_; clear hE a; intro a hE)
        | ((with_reducible refine q_un .not ?_); refine d_val hE hS rfl (fun w hS => r_notb hE rfl) ?_; clear hE a; intro a hE)
        | ((with_reducible refine q_blt .len ?_); refine d_val hE hS rfl (fun w hS => r_len hE rfl) ?_; clear hE a; intro a hE)
        | ((with_reducible refine q_fa ?_); refine d_val hE hS rfl (fun w hS => r_fieldL hE rfl rfl) ?_; clear hE a; intro a hE)
        | ((with_reducible refine q_guard ?_); refine d_yes hE rfl rfl rfl ?_)
        | ((with_reducible refine q_guard ?_); refine d_no hE hS rfl rfl rfl rfl ?_; clear hE a; intro a hE)
        | ((with_reducible refine q_guard ?_); refine d_dec hE rfl rfl (fun hc hE2 => ?_) (fun hc hE2 => ?_) <;> (try omega) <;> (replace hE := hE2; clear hE2))
        | ((with_reducible refine q_pick ?_); refine d_val hE hS rfl (fun w hS => r_pickT hE rfl rfl) ?_; clear hE a; intro a hE)
        | ((with_reducible refine q_pick ?_); refine d_val hE hS rfl (fun w hS => r_pickF hE rfl rfl) ?_; clear hE a; intro a hE)
        | ((with_reducible refine q_load ?_); (first | (refine d_val hE hS rfl (fun w hS => r_loadB (k := 0) hS hE rfl rfl rfl) ?_) | (refine d_val hE hS rfl (fun w hS => r_loadB (k := 1) hS hE rfl rfl rfl) ?_) | (refine d_val hE hS rfl (fun w hS => r_loadB (k := 2) hS hE rfl rfl rfl) ?_) ); clear hE a; intro a hE)
        | ((with_reducible refine o_ef rfl ?_))
        | ((with_reducible refine o_same ?_ ?_); exact hS)
        | ((with_reducible refine g_call (f := 11) ?_); refine s_call hE rfl rfl rfl (rsame0 _ _ _ _ _) ?_; rintro _ w ⟨rfl, hS1⟩; clear hE a; intro a hE; replace hS := hS.frame hS1; clear hS1; try simp only [List.cons_append, List.nil_append] at hS) | ((with_reducible refine g_call (f := 21) ?_); (first | (refine s_call hE rfl rfl rfl (left _ _ _ _ _ _ _ _ _ (hS.focus (k := 7) rfl) (by first | omega ) (by first | omega )) ?_; rintro _ w ⟨rfl, hS1⟩; clear hE a; intro a hE; have hS2 := St.unfocus (k := 7) rfl hS1; clear hS hS1; have hS := hS2; clear hS2; simp only [List.set_cons_zero, List.set_cons_succ] at hS) )) | ((with_reducible refine g_call (f := 22) ?_); (first | (refine s_call hE rfl rfl rfl (rerr _ _ _ _ _ _ _ _ _ (hS.focus (k := 7) rfl)) ?_; rintro _ w ⟨rfl, hS1⟩; clear hE a; intro a hE; have hS2 := St.unfocus (k := 7) rfl hS1; clear hS hS1; have hS := hS2; clear hS2; simp only [List.set_cons_zero, List.set_cons_succ] at hS) )))
      · exact absurd rfl hc
      · exact ⟨r - 1, by omega, k + 1, _, _, by omega, hp2, hS.tail.tail.tail.tail, hE.sub ⟨rfl, rfl, rfl, rfl, rfl, rfl, rfl, trivial⟩⟩
    · refine s_call hE rfl rfl rfl (rdo 4 N N (Or.inr (Or.inr (Or.inr (Or.inr ⟨rfl, rfl⟩)))) B cb xs p e w (hS.rdAt (k := 2) rfl) hx hp hcb (by omega) (by omega)) ?_
      rintro _ w ⟨T, ct, rfl, hT, hct, hS1⟩; clear hE a; intro a hE; replace hS := hS.frame hS1; clear hS1; simp only [List.cons_append, List.nil_append] at hS
      have hp2 : (takeM xs p e N).2.1 ≤ xs.length := takeM_le hp
      have hl2 : (takeM xs p e N).1.length ≤ xs.length := takeM_len hp
      replace hT : ∀ w1, Rd w1 B (bys xs) → Rd w1 T (bys (takeM xs p e N).1) := hT
      have htb : toldB 4 (takeM xs p e N).1 = (takeM xs p e N).1 := rfl
      have htn : toldN 4 (takeM xs p e N).1 = 0 := rfl
      rw [htb, htn] at hE
      clear htb htn
      repeat' (first
        | (with_reducible refine wp_seq ?_)
        | (with_reducible refine c_region ?_)
        | (with_reducible refine wpList_nil ?_)
        | (with_reducible refine then_normal ?_)
        | (with_reducible refine wp_block ?_)
        | (with_reducible refine block_normal ?_)
        | ((with_reducible refine g_move ?_); refine s_move hE rfl rfl ?_; clear hE a; intro a hE)
        | ((with_reducible refine g_assign ?_); refine s_assign hE rfl rfl ?_; clear hE a; intro a hE)
        | ((with_reducible refine g_bin .eql ?_); refine s_eql hE rfl rfl rfl ?_; clear hE a; intro a hE)
        | ((with_reducible refine g_extract ?_); refine s_extract hE rfl rfl rfl ?_; clear hE a; intro a hE)
        | ((with_reducible refine g_fa ?_); refine s_fieldL hE rfl rfl rfl ?_; clear hE a; intro a hE)
        | ((with_reducible refine g_cond ?_); refine c_false hE rfl ?_)
        | ((with_reducible refine g_load ?_); (first | (refine s_loadB (k := 3) hS hE rfl rfl rfl rfl ?_) ); clear hE a; intro a hE)
        | ((with_reducible refine g_store ?_); (first | (refine s_storeB (k := 1) hS hE rfl rfl rfl rfl rfl rfl ?_) ); clear hS; intro w hS; simp only [List.set_cons_zero, List.set_cons_succ, Nat.add_zero] at hS)
        | ((with_reducible refine g_alloc ?_); refine s_allocS hE hS rfl rfl ?_; clear hE a hS; intro g a w hE hS)
        | ((with_reducible refine g_build ?_); refine s_build [_, _] hE rfl rfl rfl ?_; clear hE a; intro a hE)
        | ((with_reducible refine g_store ?_); (first | (refine s_storeW (k := 0) hS hE rfl rfl rfl rfl rfl (by simp [Value.oneCell']) ?_) | (refine s_storeW (k := 1) hS hE rfl rfl rfl rfl rfl (by simp [Value.oneCell']) ?_) ); clear hS; intro w hS; simp only [List.set_cons_zero, List.set_cons_succ, Nat.add_zero] at hS)
        | ((with_reducible refine g_call (f := 20) ?_); (first | (refine s_call hE rfl rfl rfl (raw _ _ _ _ _ _ _ _ _ _ (hS.focus (k := 7) rfl) (by first | omega ) (by first | omega ) (by first | omega )) ?_; rintro _ w ⟨_, _, rfl, hS1⟩; clear hE a; intro a hE; have hS2 := St.unfocus2 (k := 7) rfl hS1; clear hS hS1; have hS := hS2; clear hS2; simp only [List.set_cons_zero, List.set_cons_succ] at hS) )))
      refine c_ordS hS 30 (.rd 0 (.rd 1 (.rd 2 (.rd 3 (.rd 4 (.rd 5 (.rd 6 (.rd 7 (.rd 8 (.rd 9 (.ef 10 (.rd 11 (.rd 12 (.rd 13 (.rd 14 (.rd 16 (.rd 17 (.rd 18 (.rd 19 (.rd 20 (.ef 15 (.rd 21 (.rd 22 (.rd 23 (.rd 24 (.rd 26 (.rd 27 (.ef 25 (.rd 28 (.rd 29 .done)))))))))))))))))))))))))))))) mixed (by decide +kernel) ?_; clear hS; intro w hS
      repeat' (first
        | ((with_reducible refine g_guard ?_); refine gd_yes hE rfl rfl rfl ?_)
        | (with_reducible refine o_rd rfl ?_)
        | ((with_reducible refine q_move ?_); refine d_val hE hS rfl (fun w hS => r_move hE rfl) ?_; clear hE a; intro a hE)
        | ((with_reducible refine q_bin .neq ?_); refine d_val hE hS rfl (fun w hS => r_neq hE rfl rfl) ?_; clear hE a; intro a hE)
        | ((with_reducible refine q_fa ?_); refine d_val hE hS rfl (fun w hS => r_fieldL hE rfl rfl) ?_; clear hE a; intro a hE)
        | ((with_reducible refine q_guard ?_); refine d_yes hE rfl rfl rfl ?_)
        | ((with_reducible refine q_load ?_); (first | (refine d_val hE hS rfl (fun w hS => r_loadB (k := 1) hS hE rfl rfl rfl) ?_) | (refine d_val hE hS rfl (fun w hS => r_loadB (k := 2) hS hE rfl rfl rfl) ?_) ); clear hE a; intro a hE)
        | ((with_reducible refine o_ef rfl ?_))
        )
      refine s_call hE rfl rfl rfl (rsame _ _ _ _ (takeM xs p e N).1 (takeM xs p e N).1 w hS.rd (hT _ (hS.rdAt (k := 6) rfl)) (by omega) (by omega)) ?_
      rintro _ w ⟨rfl, hS1⟩; clear hE a; intro a hE; replace hS := hS.frame hS1; clear hS1; simp only [List.nil_append] at hS
      rw [decide_eq_true rfl] at hE
      repeat' (first
        | (with_reducible refine c_region ?_)
        | (with_reducible refine wpList_nil ?_)
        | (with_reducible refine then_normal ?_)
        | (with_reducible refine wp_skip ?_)
        | (with_reducible refine block_normal ?_)
        | ((with_reducible refine g_move ?_); refine s_move hE rfl rfl ?_; clear hE a; intro a hE)
        | ((with_reducible refine g_bin .add ?_); refine s_add hE rfl rfl rfl (by first  | exact wrap64_in (by omega) ) ?_; clear hE a; intro a hE)
        | ((with_reducible refine g_guard ?_); refine gd_yes hE rfl rfl rfl ?_)
        | ((with_reducible refine g_cond ?_); refine c_dec hE rfl (fun hc => ?_) (fun hc => ?_) <;> try omega)
        | ((with_reducible refine g_load ?_); (first | (refine s_loadW (k := 3) hS hE rfl rfl rfl rfl ?_) ); clear hE a; intro a hE)
        | ((with_reducible refine g_store ?_); (first | (refine s_storeW (k := 5) hS hE rfl rfl rfl rfl rfl (by simp [Value.oneCell']) ?_) ); clear hS; intro w hS; simp only [List.set_cons_zero, List.set_cons_succ, Nat.add_zero] at hS)
        | (with_reducible refine o_rd rfl ?_)
        | (with_reducible refine o_done ?_)
        | ((with_reducible refine q_move ?_); refine d_val hE hS rfl (fun w hS => r_move hE rfl) ?_; clear hE a; intro a hE)
        | ((with_reducible refine q_bin .neq ?_); refine d_val hE hS rfl (fun w hS => r_neq hE rfl rfl) ?_; clear hE a; intro a hE)
        | ((with_reducible refine q_bin .sub ?_); refine d_val hE hS rfl (fun w hS => r_sub hE rfl rfl (by first  | exact subN (by omega) (by omega) )) ?_; clear hE a; intro a hE)
        | ((with_reducible refine q_un .not ?_); refine d_val hE hS rfl (fun w hS => r_notb hE rfl) ?_; clear hE a; intro a hE)
        | ((with_reducible refine q_blt .len ?_); refine d_val hE hS rfl (fun w hS => r_len hE rfl) ?_; clear hE a; intro a hE)
        | ((with_reducible refine q_fa ?_); refine d_val hE hS rfl (fun w hS => r_fieldL hE rfl rfl) ?_; clear hE a; intro a hE)
        | ((with_reducible refine q_guard ?_); refine d_yes hE rfl rfl rfl ?_)
        | ((with_reducible refine q_guard ?_); refine d_dec hE rfl rfl (fun hc hE2 => ?_) (fun hc hE2 => ?_) <;> (try omega) <;> (replace hE := hE2; clear hE2))
        | ((with_reducible refine q_pick ?_); refine d_val hE hS rfl (fun w hS => r_pickF hE rfl rfl) ?_; clear hE a; intro a hE)
        | ((with_reducible refine q_load ?_); (first | (refine d_val hE hS rfl (fun w hS => r_loadB (k := 3) hS hE rfl rfl rfl) ?_) ); clear hE a; intro a hE)
        | ((with_reducible refine o_ef rfl ?_))
        | ((with_reducible refine o_same ?_ ?_); exact hS)
        | ((with_reducible refine g_call (f := 21) ?_); (first | (refine s_call hE rfl rfl rfl (left _ _ _ _ _ _ _ _ _ (hS.focus (k := 8) rfl) (by first | omega ) (by first | omega )) ?_; rintro _ w ⟨rfl, hS1⟩; clear hE a; intro a hE; have hS2 := St.unfocus (k := 8) rfl hS1; clear hS hS1; have hS := hS2; clear hS2; simp only [List.set_cons_zero, List.set_cons_succ] at hS) )) | ((with_reducible refine g_call (f := 22) ?_); (first | (refine s_call hE rfl rfl rfl (rerr _ _ _ _ _ _ _ _ _ (hS.focus (k := 8) rfl)) ?_; rintro _ w ⟨rfl, hS1⟩; clear hE a; intro a hE; have hS2 := St.unfocus (k := 8) rfl hS1; clear hS hS1; have hS := hS2; clear hS2; simp only [List.set_cons_zero, List.set_cons_succ] at hS) )))
      exact ⟨r - 1, by omega, k + 1, _, _, by omega, hp2, hS.tail.tail.tail.tail.tail, hE.sub ⟨rfl, rfl, rfl, rfl, rfl, rfl, rfl, trivial⟩⟩
  · obtain rfl : k = l.length := by omega
    repeat' (first
      | (with_reducible refine wp_seq ?_)
      | (with_reducible refine c_region ?_)
      | (with_reducible refine wpList_nil ?_)
      | (with_reducible refine then_normal ?_)
      | (with_reducible refine wp_ret ?_)
      | (with_reducible refine wp_exit ?_)
      | (with_reducible refine then_exit ?_)
      | (with_reducible refine block_same ?_)
      | ((with_reducible refine g_move ?_); refine s_move hE rfl rfl ?_; clear hE a; intro a hE)
      | ((with_reducible refine g_assign ?_); refine s_assign hE rfl rfl ?_; clear hE a; intro a hE)
      | ((with_reducible refine g_bin .lss ?_); refine s_lss hE rfl rfl rfl ?_; clear hE a; intro a hE)
      | ((with_reducible refine g_bin .eql ?_); refine s_eql hE rfl rfl rfl ?_; clear hE a; intro a hE)
      | ((with_reducible refine g_blt .len ?_); refine s_len hE rfl rfl ?_; clear hE a; intro a hE)
      | ((with_reducible refine g_guard ?_); refine gd_yes hE rfl rfl rfl ?_)
      | ((with_reducible refine g_guard ?_); refine gd_dec hE rfl rfl (fun hc hE2 => ?_) (fun hc hE2 => ?_) <;> (try omega) <;> (replace hE := hE2; clear hE2))
      | ((with_reducible refine g_pick ?_); refine s_pickT hE rfl rfl rfl ?_; clear hE a; intro a hE)
      | ((with_reducible refine g_cond ?_); refine c_dec hE rfl (fun hc => ?_) (fun hc => ?_) <;> try omega)
      | ((with_reducible refine g_call (f := 21) ?_); (first | (refine s_call hE rfl rfl rfl (left _ _ _ _ _ _ _ _ _ (hS.focus (k := 2) rfl) (by first | omega ) (by first | omega )) ?_; rintro _ w ⟨rfl, hS1⟩; clear hE a; intro a hE; have hS2 := St.unfocus (k := 2) rfl hS1; clear hS hS1; have hS := hS2; clear hS2; simp only [List.set_cons_zero, List.set_cons_succ] at hS) )) | ((with_reducible refine g_call (f := 22) ?_); (first | (refine s_call hE rfl rfl rfl (rerr _ _ _ _ _ _ _ _ _ (hS.focus (k := 2) rfl)) ?_; rintro _ w ⟨rfl, hS1⟩; clear hE a; intro a hE; have hS2 := St.unfocus (k := 2) rfl hS1; clear hS hS1; have hS := hS2; clear hS2; simp only [List.set_cons_zero, List.set_cons_succ] at hS) )))
    · exact ret1 hE rfl rfl ⟨by simp, hS.nil⟩
end Go.Proofs.Ytjkeelceijjpoab
