/-
  Contracts of record: a record's bytes.
-/
import Derived.Test.YtmfcffeoooegcaaRA
namespace Go.Proofs.Ytmfcffeoooegcaa
open Go.RowKit
set_option linter.unusedVariables false
set_option linter.unusedSimpArgs false
attribute [local irreducible] Rd hRow hBlk hRd hAll Fn

/-- the bytes of a record -/
def Rc.enc (r : Rc) : List Nat :=
  [r.k.toNat] ++ beb 8 r.l ++ beb 8 r.t ++ beb 8 r.b ++
  (if r.k = 1 then [r.p.toNat, r.s.toNat] ++ [r.o.length] ++ r.o ++ [r.w.length] ++ r.w else if r.k = 2 then [r.p.toNat, r.s.toNat] ++ [r.w.length] ++ r.w ++ beb 8 r.n else [])
theorem Rc.enc_length {r : Rc} (h : r.right) : r.enc.length ≤ 140 := by
  unfold Rc.enc
  obtain ⟨_, _, _, _, _, _, _, ho, hw, _⟩ := h
  split
  · simp only [List.length_append, List.length_cons, List.length_nil, beb_length]; omega
  · split
    · simp only [List.length_append, List.length_cons, List.length_nil, beb_length]; omega
    · simp only [List.length_append, List.length_cons, List.length_nil, beb_length]; omega
def tri (xs : List Nat) (l t b : Nat) : Nat → List Nat
  | 0 => xs
  | 1 => xs ++ beb 8 l
  | 2 => xs ++ beb 8 l ++ beb 8 t
  | _ => xs ++ beb 8 l ++ beb 8 t ++ beb 8 b
set_option maxHeartbeats 4000000 in
theorem put_ (r : Rc) (A : Option Addr) (c : Nat) (xs : List Nat) (H : List HP) (w0 w : World) (hr : r.rd w0) (hw : r.wf) (hR : r.right) (hl : xs.length ≤ 140737488354000) (hS : St w0 w (hRow 5 1 A xs.length c (bys xs) :: H)) :
    Fn Try.prog 30 [.slice A xs.length c, .agg r.cells.toArray] w fun v w' => ∃ A' c', v = .slice A' (xs ++ r.enc).length c' ∧ St w0 w' (hRow 5 1 A' (xs ++ r.enc).length c' (bys (xs ++ r.enc)) :: H) := by
  obtain ⟨l, k, t, b, p, s, o, y, n, A0, B, c0, d⟩ := r
  obtain ⟨hrA, hrB⟩ := hr
  obtain ⟨h1, h2, h3, h4, h5, h6, h7, h8, h9, h10, h11⟩ := hw
  unfold Rc.right at hR
  dsimp only at h1 h2 h3 h4 h5 h6 h7 h8 h9 h10 h11 hrA hrB hR
  obtain ⟨q1, q2, q3, q4, q5, q6, q7, q8, q9, q10, q11, q12⟩ := hR
  dsimp only [Rc.cells, Rc.enc]
  refine enter 77 Try.func30 rfl rfl rfl ?_
  intro a hE
  have hk : k = 1 ∨ k = 2 ∨ k = 3 ∨ k = 4 := by omega
  have hlen : ∀ j, (tri xs l t b j).length ≤ xs.length + 24 := by
    intro j; unfold tri; split <;> (try simp only [List.length_append, beb_length]) <;> omega
  rcases hk with rfl | rfl | rfl | rfl
  · repeat' (first
      | (with_reducible refine wp_seq ?_)
      | (with_reducible refine c_region ?_)
      | (with_reducible refine wpList_nil ?_)
      | (with_reducible refine then_normal ?_)
      | (with_reducible refine wp_block ?_)
      | ((with_reducible refine g_move ?_); refine s_move hE rfl rfl ?_; clear hE a; intro a hE)
      | ((with_reducible refine g_assign ?_); refine s_assign hE rfl rfl ?_; clear hE a; intro a hE)
      | ((with_reducible refine g_conv ?_); refine s_conv hE rfl rfl (by first | exact wrap8_nat (by omega) ) ?_; clear hE a; intro a hE)
      | ((with_reducible refine g_extract ?_); refine s_extract hE rfl rfl rfl ?_; clear hE a; intro a hE)
      | ((with_reducible refine g_fa ?_); refine s_fieldL hE rfl rfl rfl ?_; clear hE a; intro a hE)
      | ((with_reducible refine g_load ?_); (first | (refine s_loadB (k := 0) hS hE rfl rfl rfl rfl ?_) | (refine s_loadB (k := 1) hS hE rfl rfl rfl rfl ?_) ); clear hE a; intro a hE)
      | ((with_reducible refine g_lit ?_); refine s_lit hE hS rfl rfl rfl rfl rfl (by simp [Value.oneCell']) rfl ?_; clear hE a hS; intro g a w hE hS)
      | ((with_reducible refine g_box ?_); refine s_boxS hE hS rfl rfl ?_; clear hE a hS; intro g a w hE hS)
      | ((with_reducible refine g_build ?_); refine s_build [_, _, _] hE rfl rfl rfl ?_; clear hE a; intro a hE)
      | ((with_reducible refine g_call (f := 31) ?_); (first | (refine s_call hE rfl rfl rfl (fields1 _) ?_) ); rintro _ w ⟨rfl, rfl⟩; clear hE a; intro a hE) | ((with_reducible refine g_blt .append ?_); (first | (refine s_appendB (k := 2) hE hS rfl rfl rfl (by first | exact hS.rd ) (by first | exact bys1 _ ) rfl (by first | (simp only [List.length_append, List.length_nil, List.length_cons, beb_length]; omega)) rfl rfl rfl ?_) ); clear hE a hS; intro A c a w hE hS; simp only [List.set_cons_zero, List.set_cons_succ] at hS) )
    have hS2 := hS.tail.p1
    clear hS
    refine wp_loop_ghost (fun q a w => ∃ (j : Nat) (A : Option Addr) (c g' : Nat), j + q = 3 ∧ St w0 w (hRow 5 1 A (tri (xs ++ [Int.toNat 1]) l t b j).length c (bys (tri (xs ++ [Int.toNat 1]) l t b j)) :: hBlk g' 25 [.int .u64 (l : Int), .int .i64 1, .int .u64 (t : Int), .int .u64 (b : Int), .int .i64 p, .int .i64 s, .slice A0 o.length c0, .slice B y.length d, .int .u64 (n : Int)] :: H) ∧ Env 77 [(3, .pointer (some ⟨g', 0, none⟩)), (0, .slice A (tri (xs ++ [Int.toNat 1]) l t b j).length c), (5, .int .i64 7), (27, .agg #[.int .u64 (l : Int), .int .u64 (t : Int), .int .u64 (b : Int)]), (28, .int .i64 (j : Int))] a) 3 ⟨0, _, _, _, rfl, hS2, hE.sub ⟨rfl, rfl, rfl, rfl, rfl, trivial⟩⟩ ?_
    clear hE a hS2
    rintro q a w ⟨j, A, c, g', hj, hS, hE⟩
    have hj4 : j = 0 ∨ j = 1 ∨ j = 2 ∨ j = 3 := by omega
    rcases hj4 with rfl | rfl | rfl | rfl
    · dsimp only [tri] at hS hE
      repeat' (first
        | (with_reducible refine wp_seq ?_)
        | (with_reducible refine c_region ?_)
        | (with_reducible refine wpList_nil ?_)
        | (with_reducible refine then_normal ?_)
        | (with_reducible refine wp_skip ?_)
        | (with_reducible refine wp_block ?_)
        | (with_reducible refine block_normal ?_)
        | ((with_reducible refine g_move ?_); refine s_move hE rfl rfl ?_; clear hE a; intro a hE)
        | ((with_reducible refine g_assign ?_); refine s_assign hE rfl rfl ?_; clear hE a; intro a hE)
        | ((with_reducible refine g_bin .lss ?_); refine s_lss hE rfl rfl rfl ?_; clear hE a; intro a hE)
        | ((with_reducible refine g_bin .add ?_); refine s_add hE rfl rfl rfl (by first  | exact wrap64_in (by omega) ) ?_; clear hE a; intro a hE)
        | ((with_reducible refine g_cond ?_); refine c_true hE rfl ?_)
        | ((with_reducible refine g_call (f := 48) ?_); refine s_call hE rfl rfl rfl (put64 _ _ _ _ (by first | omega ) _ (by first | exact hS.rd ) (by first | (simp only [List.length_append, List.length_nil, List.length_cons, beb_length]; omega))) ?_; rintro _ w ⟨_, _, rfl, hS1⟩; clear hE a; intro a hE; replace hS := hS.frame hS1; clear hS1; try simp only [List.cons_append, List.nil_append] at hS) | ((with_reducible refine g_index ?_); refine s_val hE rfl rfl rfl (r_index1 hE rfl rfl (by omega) (by omega) rfl) ?_; clear hE a; intro a hE)
        )
      exact ⟨q - 1, by omega, 1, _, _, _, by omega, hS.drop1, hE.sub ⟨rfl, rfl, rfl, rfl, rfl, trivial⟩⟩
    · dsimp only [tri] at hS hE
      repeat' (first
        | (with_reducible refine wp_seq ?_)
        | (with_reducible refine c_region ?_)
        | (with_reducible refine wpList_nil ?_)
        | (with_reducible refine then_normal ?_)
        | (with_reducible refine wp_skip ?_)
        | (with_reducible refine wp_block ?_)
        | (with_reducible refine block_normal ?_)
        | ((with_reducible refine g_move ?_); refine s_move hE rfl rfl ?_; clear hE a; intro a hE)
        | ((with_reducible refine g_assign ?_); refine s_assign hE rfl rfl ?_; clear hE a; intro a hE)
        | ((with_reducible refine g_bin .lss ?_); refine s_lss hE rfl rfl rfl ?_; clear hE a; intro a hE)
        | ((with_reducible refine g_bin .add ?_); refine s_add hE rfl rfl rfl (by first  | exact wrap64_in (by omega) ) ?_; clear hE a; intro a hE)
        | ((with_reducible refine g_cond ?_); refine c_true hE rfl ?_)
        | ((with_reducible refine g_call (f := 48) ?_); refine s_call hE rfl rfl rfl (put64 _ _ _ _ (by first | omega ) _ (by first | exact hS.rd ) (by first | (simp only [List.length_append, List.length_nil, List.length_cons, beb_length]; omega))) ?_; rintro _ w ⟨_, _, rfl, hS1⟩; clear hE a; intro a hE; replace hS := hS.frame hS1; clear hS1; try simp only [List.cons_append, List.nil_append] at hS) | ((with_reducible refine g_index ?_); refine s_val hE rfl rfl rfl (r_index1 hE rfl rfl (by omega) (by omega) rfl) ?_; clear hE a; intro a hE)
        )
      exact ⟨q - 1, by omega, 2, _, _, _, by omega, hS.drop1, hE.sub ⟨rfl, rfl, rfl, rfl, rfl, trivial⟩⟩
    · dsimp only [tri] at hS hE
      repeat' (first
        | (with_reducible refine wp_seq ?_)
        | (with_reducible refine c_region ?_)
        | (with_reducible refine wpList_nil ?_)
        | (with_reducible refine then_normal ?_)
        | (with_reducible refine wp_skip ?_)
        | (with_reducible refine wp_block ?_)
        | (with_reducible refine block_normal ?_)
        | ((with_reducible refine g_move ?_); refine s_move hE rfl rfl ?_; clear hE a; intro a hE)
        | ((with_reducible refine g_assign ?_); refine s_assign hE rfl rfl ?_; clear hE a; intro a hE)
        | ((with_reducible refine g_bin .lss ?_); refine s_lss hE rfl rfl rfl ?_; clear hE a; intro a hE)
        | ((with_reducible refine g_bin .add ?_); refine s_add hE rfl rfl rfl (by first  | exact wrap64_in (by omega) ) ?_; clear hE a; intro a hE)
        | ((with_reducible refine g_cond ?_); refine c_true hE rfl ?_)
        | ((with_reducible refine g_call (f := 48) ?_); refine s_call hE rfl rfl rfl (put64 _ _ _ _ (by first | omega ) _ (by first | exact hS.rd ) (by first | (simp only [List.length_append, List.length_nil, List.length_cons, beb_length]; omega))) ?_; rintro _ w ⟨_, _, rfl, hS1⟩; clear hE a; intro a hE; replace hS := hS.frame hS1; clear hS1; try simp only [List.cons_append, List.nil_append] at hS) | ((with_reducible refine g_index ?_); refine s_val hE rfl rfl rfl (r_index1 hE rfl rfl (by omega) (by omega) rfl) ?_; clear hE a; intro a hE)
        )
      exact ⟨q - 1, by omega, 3, _, _, _, by omega, hS.drop1, hE.sub ⟨rfl, rfl, rfl, rfl, rfl, trivial⟩⟩
    · dsimp only [tri] at hS hE
      repeat' (first
        | (with_reducible refine wp_seq ?_)
        | (with_reducible refine c_region ?_)
        | (with_reducible refine wpList_nil ?_)
        | (with_reducible refine then_normal ?_)
        | (with_reducible refine wp_exit ?_)
        | (with_reducible refine then_exit ?_)
        | (with_reducible refine block_same ?_)
        | ((with_reducible refine g_move ?_); refine s_move hE rfl rfl ?_; clear hE a; intro a hE)
        | ((with_reducible refine g_assign ?_); refine s_assign hE rfl rfl ?_; clear hE a; intro a hE)
        | ((with_reducible refine g_bin .lss ?_); refine s_lss hE rfl rfl rfl ?_; clear hE a; intro a hE)
        | ((with_reducible refine g_conv ?_); refine s_conv hE rfl rfl (by first | exact wrap8_nat (by omega) ) ?_; clear hE a; intro a hE)
        | ((with_reducible refine g_fa ?_); refine s_fieldL hE rfl rfl rfl ?_; clear hE a; intro a hE)
        | ((with_reducible refine g_cond ?_); refine c_true hE rfl ?_)
        | ((with_reducible refine g_cond ?_); refine c_false hE rfl ?_)
        | ((with_reducible refine g_load ?_); (first | (refine s_loadB (k := 1) hS hE rfl rfl rfl rfl ?_) ); clear hE a; intro a hE)
        | ((with_reducible refine g_lit ?_); refine s_lit hE hS rfl rfl rfl rfl rfl (by simp [Value.oneCell']) rfl ?_; clear hE a hS; intro g a w hE hS)
        | ((with_reducible refine g_call (f := 32) ?_); (first | (refine s_call hE rfl rfl rfl (has _ _ true _ (by decide +kernel)) ?_) ); rintro _ w ⟨rfl, rfl⟩; clear hE a; intro a hE) | ((with_reducible refine g_blt .append ?_); (first | (refine s_appendB (k := 1) hE hS rfl rfl rfl (by first | exact hS.rd ) (by first | exact bys2 _ _ ) rfl (by first | (simp only [List.length_append, List.length_nil, List.length_cons, beb_length]; omega)) rfl rfl rfl ?_) ); clear hE a hS; intro A c a w hE hS; simp only [List.set_cons_zero, List.set_cons_succ] at hS) )
      refine c_ordK hS 2 rfl 11 ((.rd 0 (.rd 1 (.rd 2 (.rd 3 (.rd 4 (.rd 7 (.rd 8 (.ef 5 (.ef 6 (.ef 9 (.rd 10 .done)))))))))))) mixed (by decide +kernel) ?_
      clear hS; intro w hF hS
      repeat' (first
        | (with_reducible refine o_rd rfl ?_)
        | ((with_reducible refine q_move ?_); refine d_val hE hS rfl (fun w hS => r_move hE rfl) ?_; clear hE a; intro a hE)
        | ((with_reducible refine q_conv ?_); refine d_val hE hS rfl (fun w hS => r_conv hE rfl (by first | with_reducible exact wrap8_len (by omega) )) ?_; clear hE a; intro a hE)
        | ((with_reducible refine q_blt .len ?_); refine d_val hE hS rfl (fun w hS => r_len hE rfl) ?_; clear hE a; intro a hE)
        | ((with_reducible refine q_fa ?_); refine d_val hE hS rfl (fun w hS => r_fieldL hE rfl rfl) ?_; clear hE a; intro a hE)
        | ((with_reducible refine q_load ?_); (first | (refine d_val hE hS rfl (fun w hS => r_loadB (k := 0) hS hE rfl rfl rfl) ?_) ); clear hE a; intro a hE)
        | ((with_reducible refine o_ef rfl ?_))
        )
      refine g_lit ?_
      refine s_lit hE hF rfl rfl rfl rfl rfl (by simp [Value.oneCell']) rfl ?_
      clear hE a hF; intro g5 a w hE hF
      refine wpList_nil ?_
      refine o_back _ (fun _ h => h) (hF.only 3 rfl) ?_
      clear hS
      have hS := hF.only 3 rfl
      repeat' (first
        | ((with_reducible refine o_ef rfl ?_))
        )
      refine g_blt .append ?_
      refine s_appendB (k := 2) hE hF rfl rfl rfl (by first | exact hF.rdAt (k := 0) rfl ) (by first | exact bys1 _ ) rfl (by simp only [List.length_append, List.length_cons, List.length_nil, beb_length]; omega) rfl rfl rfl ?_
      clear hE a hF; intro A5 c5 a w hE hF; simp only [List.set_cons_zero, List.set_cons_succ] at hF
      refine wpList_nil ?_
      refine o_back _ (fun _ h => h) (hF.only 3 rfl) ?_
      clear hS
      have hS := hF.only 3 rfl
      repeat' (first
        | ((with_reducible refine o_ef rfl ?_))
        )
      refine g_blt .append ?_
      refine s_appendB (k := 2) hE hF rfl rfl rfl (by first | exact Rd.st (by assumption) hF) (by first | rfl) rfl (by simp only [List.length_append, List.length_cons, List.length_nil, beb_length]; omega) rfl rfl rfl ?_
      clear hE a hF; intro A5 c5 a w hE hF; simp only [List.set_cons_zero, List.set_cons_succ] at hF
      refine wpList_nil ?_
      refine o_back _ (fun _ h => h) (hF.only 3 rfl) ?_
      clear hS
      have hS := hF.only 3 rfl
      repeat' (first
        | (with_reducible refine o_rd rfl ?_)
        | (with_reducible refine o_done ?_)
        | ((with_reducible refine q_assign ?_); refine d_val hE hS rfl (fun w hS => r_assign hE rfl) ?_; clear hE a; intro a hE)
        )
      clear hS
      have hS := hF
      clear hF
      repeat' (first
        | (with_reducible refine wp_seq ?_)
        | (with_reducible refine c_region ?_)
        | (with_reducible refine wpList_nil ?_)
        | (with_reducible refine then_normal ?_)
        | ((with_reducible refine g_move ?_); refine s_move hE rfl rfl ?_; clear hE a; intro a hE)
        | ((with_reducible refine g_cond ?_); refine c_true hE rfl ?_)
        | ((with_reducible refine g_call (f := 32) ?_); (first | (refine s_call hE rfl rfl rfl (has _ _ true _ (by decide +kernel)) ?_) ); rintro _ w ⟨rfl, rfl⟩; clear hE a; intro a hE) )
      refine c_ordK hS 3 rfl 11 ((.rd 0 (.rd 1 (.rd 2 (.rd 3 (.rd 4 (.rd 7 (.rd 8 (.ef 5 (.ef 6 (.ef 9 (.rd 10 .done)))))))))))) mixed (by decide +kernel) ?_
      clear hS; intro w hF hS
      repeat' (first
        | (with_reducible refine o_rd rfl ?_)
        | ((with_reducible refine q_move ?_); refine d_val hE hS rfl (fun w hS => r_move hE rfl) ?_; clear hE a; intro a hE)
        | ((with_reducible refine q_conv ?_); refine d_val hE hS rfl (fun w hS => r_conv hE rfl (by first | with_reducible exact wrap8_len (by omega) )) ?_; clear hE a; intro a hE)
        | ((with_reducible refine q_blt .len ?_); refine d_val hE hS rfl (fun w hS => r_len hE rfl) ?_; clear hE a; intro a hE)
        | ((with_reducible refine q_fa ?_); refine d_val hE hS rfl (fun w hS => r_fieldL hE rfl rfl) ?_; clear hE a; intro a hE)
        | ((with_reducible refine q_load ?_); (first | (refine d_val hE hS rfl (fun w hS => r_loadB (k := 0) hS hE rfl rfl rfl) ?_) ); clear hE a; intro a hE)
        | ((with_reducible refine o_ef rfl ?_))
        )
      refine g_lit ?_
      refine s_lit hE hF rfl rfl rfl rfl rfl (by simp [Value.oneCell']) rfl ?_
      clear hE a hF; intro g5 a w hE hF
      refine wpList_nil ?_
      refine o_back _ (fun _ h => h) (hF.only 4 rfl) ?_
      clear hS
      have hS := hF.only 4 rfl
      repeat' (first
        | ((with_reducible refine o_ef rfl ?_))
        )
      refine g_blt .append ?_
      refine s_appendB (k := 3) hE hF rfl rfl rfl (by first | exact hF.rdAt (k := 0) rfl ) (by first | exact bys1 _ ) rfl (by simp only [List.length_append, List.length_cons, List.length_nil, beb_length]; omega) rfl rfl rfl ?_
      clear hE a hF; intro A5 c5 a w hE hF; simp only [List.set_cons_zero, List.set_cons_succ] at hF
      refine wpList_nil ?_
      refine o_back _ (fun _ h => h) (hF.only 4 rfl) ?_
      clear hS
      have hS := hF.only 4 rfl
      repeat' (first
        | ((with_reducible refine o_ef rfl ?_))
        )
      refine g_blt .append ?_
      refine s_appendB (k := 3) hE hF rfl rfl rfl (by first | exact Rd.st (by assumption) hF) (by first | rfl) rfl (by simp only [List.length_append, List.length_cons, List.length_nil, beb_length]; omega) rfl rfl rfl ?_
      clear hE a hF; intro A5 c5 a w hE hF; simp only [List.set_cons_zero, List.set_cons_succ] at hF
      refine wpList_nil ?_
      refine o_back _ (fun _ h => h) (hF.only 4 rfl) ?_
      clear hS
      have hS := hF.only 4 rfl
      repeat' (first
        | (with_reducible refine o_rd rfl ?_)
        | (with_reducible refine o_done ?_)
        | ((with_reducible refine q_assign ?_); refine d_val hE hS rfl (fun w hS => r_assign hE rfl) ?_; clear hE a; intro a hE)
        )
      clear hS
      have hS := hF
      clear hF
      repeat' (first
        | (with_reducible refine wp_seq ?_)
        | (with_reducible refine c_region ?_)
        | (with_reducible refine wpList_nil ?_)
        | (with_reducible refine then_normal ?_)
        | (with_reducible refine wp_skip ?_)
        | (with_reducible refine wp_ret ?_)
        | ((with_reducible refine g_move ?_); refine s_move hE rfl rfl ?_; clear hE a; intro a hE)
        | ((with_reducible refine g_assign ?_); refine s_assign hE rfl rfl ?_; clear hE a; intro a hE)
        | ((with_reducible refine g_cond ?_); refine c_false hE rfl ?_)
        | ((with_reducible refine g_call (f := 32) ?_); (first | (refine s_call hE rfl rfl rfl (has _ _ false _ (by decide +kernel)) ?_)); rintro _ w ⟨rfl, rfl⟩; clear hE a; intro a hE) )
      have hS2 := hS.tail.tail.tail.drop1
      clear hS
      refine ret1 hE rfl rfl ?_
      rw [if_pos rfl]
      simp only [List.append_assoc] at hS2 ⊢
      exact ⟨_, _, rfl, hS2⟩
  · repeat' (first
      | (with_reducible refine wp_seq ?_)
      | (with_reducible refine c_region ?_)
      | (with_reducible refine wpList_nil ?_)
      | (with_reducible refine then_normal ?_)
      | (with_reducible refine wp_block ?_)
      | ((with_reducible refine g_move ?_); refine s_move hE rfl rfl ?_; clear hE a; intro a hE)
      | ((with_reducible refine g_assign ?_); refine s_assign hE rfl rfl ?_; clear hE a; intro a hE)
      | ((with_reducible refine g_conv ?_); refine s_conv hE rfl rfl (by first | exact wrap8_nat (by omega) ) ?_; clear hE a; intro a hE)
      | ((with_reducible refine g_extract ?_); refine s_extract hE rfl rfl rfl ?_; clear hE a; intro a hE)
      | ((with_reducible refine g_fa ?_); refine s_fieldL hE rfl rfl rfl ?_; clear hE a; intro a hE)
      | ((with_reducible refine g_load ?_); (first | (refine s_loadB (k := 0) hS hE rfl rfl rfl rfl ?_) | (refine s_loadB (k := 1) hS hE rfl rfl rfl rfl ?_) ); clear hE a; intro a hE)
      | ((with_reducible refine g_lit ?_); refine s_lit hE hS rfl rfl rfl rfl rfl (by simp [Value.oneCell']) rfl ?_; clear hE a hS; intro g a w hE hS)
      | ((with_reducible refine g_box ?_); refine s_boxS hE hS rfl rfl ?_; clear hE a hS; intro g a w hE hS)
      | ((with_reducible refine g_build ?_); refine s_build [_, _, _] hE rfl rfl rfl ?_; clear hE a; intro a hE)
      | ((with_reducible refine g_call (f := 31) ?_); (first | (refine s_call hE rfl rfl rfl (fields2 _) ?_) ); rintro _ w ⟨rfl, rfl⟩; clear hE a; intro a hE) | ((with_reducible refine g_blt .append ?_); (first | (refine s_appendB (k := 2) hE hS rfl rfl rfl (by first | exact hS.rd ) (by first | exact bys1 _ ) rfl (by first | (simp only [List.length_append, List.length_nil, List.length_cons, beb_length]; omega)) rfl rfl rfl ?_) ); clear hE a hS; intro A c a w hE hS; simp only [List.set_cons_zero, List.set_cons_succ] at hS) )
    have hS2 := hS.tail.p1
    clear hS
    refine wp_loop_ghost (fun q a w => ∃ (j : Nat) (A : Option Addr) (c g' : Nat), j + q = 3 ∧ St w0 w (hRow 5 1 A (tri (xs ++ [Int.toNat 2]) l t b j).length c (bys (tri (xs ++ [Int.toNat 2]) l t b j)) :: hBlk g' 25 [.int .u64 (l : Int), .int .i64 2, .int .u64 (t : Int), .int .u64 (b : Int), .int .i64 p, .int .i64 s, .slice A0 o.length c0, .slice B y.length d, .int .u64 (n : Int)] :: H) ∧ Env 77 [(3, .pointer (some ⟨g', 0, none⟩)), (0, .slice A (tri (xs ++ [Int.toNat 2]) l t b j).length c), (5, .int .i64 13), (27, .agg #[.int .u64 (l : Int), .int .u64 (t : Int), .int .u64 (b : Int)]), (28, .int .i64 (j : Int))] a) 3 ⟨0, _, _, _, rfl, hS2, hE.sub ⟨rfl, rfl, rfl, rfl, rfl, trivial⟩⟩ ?_
    clear hE a hS2
    rintro q a w ⟨j, A, c, g', hj, hS, hE⟩
    have hj4 : j = 0 ∨ j = 1 ∨ j = 2 ∨ j = 3 := by omega
    rcases hj4 with rfl | rfl | rfl | rfl
    · dsimp only [tri] at hS hE
      repeat' (first
        | (with_reducible refine wp_seq ?_)
        | (with_reducible refine c_region ?_)
        | (with_reducible refine wpList_nil ?_)
        | (with_reducible refine then_normal ?_)
        | (with_reducible refine wp_skip ?_)
        | (with_reducible refine wp_block ?_)
        | (with_reducible refine block_normal ?_)
        | ((with_reducible refine g_move ?_); refine s_move hE rfl rfl ?_; clear hE a; intro a hE)
        | ((with_reducible refine g_assign ?_); refine s_assign hE rfl rfl ?_; clear hE a; intro a hE)
        | ((with_reducible refine g_bin .lss ?_); refine s_lss hE rfl rfl rfl ?_; clear hE a; intro a hE)
        | ((with_reducible refine g_bin .add ?_); refine s_add hE rfl rfl rfl (by first  | exact wrap64_in (by omega) ) ?_; clear hE a; intro a hE)
        | ((with_reducible refine g_cond ?_); refine c_true hE rfl ?_)
        | ((with_reducible refine g_call (f := 48) ?_); refine s_call hE rfl rfl rfl (put64 _ _ _ _ (by first | omega ) _ (by first | exact hS.rd ) (by first | (simp only [List.length_append, List.length_nil, List.length_cons, beb_length]; omega))) ?_; rintro _ w ⟨_, _, rfl, hS1⟩; clear hE a; intro a hE; replace hS := hS.frame hS1; clear hS1; try simp only [List.cons_append, List.nil_append] at hS) | ((with_reducible refine g_index ?_); refine s_val hE rfl rfl rfl (r_index1 hE rfl rfl (by omega) (by omega) rfl) ?_; clear hE a; intro a hE)
        )
      exact ⟨q - 1, by omega, 1, _, _, _, by omega, hS.drop1, hE.sub ⟨rfl, rfl, rfl, rfl, rfl, trivial⟩⟩
    · dsimp only [tri] at hS hE
      repeat' (first
        | (with_reducible refine wp_seq ?_)
        | (with_reducible refine c_region ?_)
        | (with_reducible refine wpList_nil ?_)
        | (with_reducible refine then_normal ?_)
        | (with_reducible refine wp_skip ?_)
        | (with_reducible refine wp_block ?_)
        | (with_reducible refine block_normal ?_)
        | ((with_reducible refine g_move ?_); refine s_move hE rfl rfl ?_; clear hE a; intro a hE)
        | ((with_reducible refine g_assign ?_); refine s_assign hE rfl rfl ?_; clear hE a; intro a hE)
        | ((with_reducible refine g_bin .lss ?_); refine s_lss hE rfl rfl rfl ?_; clear hE a; intro a hE)
        | ((with_reducible refine g_bin .add ?_); refine s_add hE rfl rfl rfl (by first  | exact wrap64_in (by omega) ) ?_; clear hE a; intro a hE)
        | ((with_reducible refine g_cond ?_); refine c_true hE rfl ?_)
        | ((with_reducible refine g_call (f := 48) ?_); refine s_call hE rfl rfl rfl (put64 _ _ _ _ (by first | omega ) _ (by first | exact hS.rd ) (by first | (simp only [List.length_append, List.length_nil, List.length_cons, beb_length]; omega))) ?_; rintro _ w ⟨_, _, rfl, hS1⟩; clear hE a; intro a hE; replace hS := hS.frame hS1; clear hS1; try simp only [List.cons_append, List.nil_append] at hS) | ((with_reducible refine g_index ?_); refine s_val hE rfl rfl rfl (r_index1 hE rfl rfl (by omega) (by omega) rfl) ?_; clear hE a; intro a hE)
        )
      exact ⟨q - 1, by omega, 2, _, _, _, by omega, hS.drop1, hE.sub ⟨rfl, rfl, rfl, rfl, rfl, trivial⟩⟩
    · dsimp only [tri] at hS hE
      repeat' (first
        | (with_reducible refine wp_seq ?_)
        | (with_reducible refine c_region ?_)
        | (with_reducible refine wpList_nil ?_)
        | (with_reducible refine then_normal ?_)
        | (with_reducible refine wp_skip ?_)
        | (with_reducible refine wp_block ?_)
        | (with_reducible refine block_normal ?_)
        | ((with_reducible refine g_move ?_); refine s_move hE rfl rfl ?_; clear hE a; intro a hE)
        | ((with_reducible refine g_assign ?_); refine s_assign hE rfl rfl ?_; clear hE a; intro a hE)
        | ((with_reducible refine g_bin .lss ?_); refine s_lss hE rfl rfl rfl ?_; clear hE a; intro a hE)
        | ((with_reducible refine g_bin .add ?_); refine s_add hE rfl rfl rfl (by first  | exact wrap64_in (by omega) ) ?_; clear hE a; intro a hE)
        | ((with_reducible refine g_cond ?_); refine c_true hE rfl ?_)
        | ((with_reducible refine g_call (f := 48) ?_); refine s_call hE rfl rfl rfl (put64 _ _ _ _ (by first | omega ) _ (by first | exact hS.rd ) (by first | (simp only [List.length_append, List.length_nil, List.length_cons, beb_length]; omega))) ?_; rintro _ w ⟨_, _, rfl, hS1⟩; clear hE a; intro a hE; replace hS := hS.frame hS1; clear hS1; try simp only [List.cons_append, List.nil_append] at hS) | ((with_reducible refine g_index ?_); refine s_val hE rfl rfl rfl (r_index1 hE rfl rfl (by omega) (by omega) rfl) ?_; clear hE a; intro a hE)
        )
      exact ⟨q - 1, by omega, 3, _, _, _, by omega, hS.drop1, hE.sub ⟨rfl, rfl, rfl, rfl, rfl, trivial⟩⟩
    · dsimp only [tri] at hS hE
      repeat' (first
        | (with_reducible refine wp_seq ?_)
        | (with_reducible refine c_region ?_)
        | (with_reducible refine wpList_nil ?_)
        | (with_reducible refine then_normal ?_)
        | (with_reducible refine wp_skip ?_)
        | (with_reducible refine wp_exit ?_)
        | (with_reducible refine then_exit ?_)
        | (with_reducible refine block_same ?_)
        | ((with_reducible refine g_move ?_); refine s_move hE rfl rfl ?_; clear hE a; intro a hE)
        | ((with_reducible refine g_assign ?_); refine s_assign hE rfl rfl ?_; clear hE a; intro a hE)
        | ((with_reducible refine g_bin .lss ?_); refine s_lss hE rfl rfl rfl ?_; clear hE a; intro a hE)
        | ((with_reducible refine g_conv ?_); refine s_conv hE rfl rfl (by first | exact wrap8_nat (by omega) ) ?_; clear hE a; intro a hE)
        | ((with_reducible refine g_fa ?_); refine s_fieldL hE rfl rfl rfl ?_; clear hE a; intro a hE)
        | ((with_reducible refine g_cond ?_); refine c_true hE rfl ?_)
        | ((with_reducible refine g_cond ?_); refine c_false hE rfl ?_)
        | ((with_reducible refine g_load ?_); (first | (refine s_loadB (k := 1) hS hE rfl rfl rfl rfl ?_) ); clear hE a; intro a hE)
        | ((with_reducible refine g_lit ?_); refine s_lit hE hS rfl rfl rfl rfl rfl (by simp [Value.oneCell']) rfl ?_; clear hE a hS; intro g a w hE hS)
        | ((with_reducible refine g_call (f := 32) ?_); (first | (refine s_call hE rfl rfl rfl (has _ _ true _ (by decide +kernel)) ?_) | (refine s_call hE rfl rfl rfl (has _ _ false _ (by decide +kernel)) ?_)); rintro _ w ⟨rfl, rfl⟩; clear hE a; intro a hE) | ((with_reducible refine g_blt .append ?_); (first | (refine s_appendB (k := 1) hE hS rfl rfl rfl (by first | exact hS.rd ) (by first | exact bys2 _ _ ) rfl (by first | (simp only [List.length_append, List.length_nil, List.length_cons, beb_length]; omega)) rfl rfl rfl ?_) ); clear hE a hS; intro A c a w hE hS; simp only [List.set_cons_zero, List.set_cons_succ] at hS) )
      refine c_ordK hS 2 rfl 11 ((.rd 0 (.rd 1 (.rd 2 (.rd 3 (.rd 4 (.rd 7 (.rd 8 (.ef 5 (.ef 6 (.ef 9 (.rd 10 .done)))))))))))) mixed (by decide +kernel) ?_
      clear hS; intro w hF hS
      repeat' (first
        | (with_reducible refine o_rd rfl ?_)
        | ((with_reducible refine q_move ?_); refine d_val hE hS rfl (fun w hS => r_move hE rfl) ?_; clear hE a; intro a hE)
        | ((with_reducible refine q_conv ?_); refine d_val hE hS rfl (fun w hS => r_conv hE rfl (by first | with_reducible exact wrap8_len (by omega) )) ?_; clear hE a; intro a hE)
        | ((with_reducible refine q_blt .len ?_); refine d_val hE hS rfl (fun w hS => r_len hE rfl) ?_; clear hE a; intro a hE)
        | ((with_reducible refine q_fa ?_); refine d_val hE hS rfl (fun w hS => r_fieldL hE rfl rfl) ?_; clear hE a; intro a hE)
        | ((with_reducible refine q_load ?_); (first | (refine d_val hE hS rfl (fun w hS => r_loadB (k := 0) hS hE rfl rfl rfl) ?_) ); clear hE a; intro a hE)
        | ((with_reducible refine o_ef rfl ?_))
        )
      refine g_lit ?_
      refine s_lit hE hF rfl rfl rfl rfl rfl (by simp [Value.oneCell']) rfl ?_
      clear hE a hF; intro g5 a w hE hF
      refine wpList_nil ?_
      refine o_back _ (fun _ h => h) (hF.only 3 rfl) ?_
      clear hS
      have hS := hF.only 3 rfl
      repeat' (first
        | ((with_reducible refine o_ef rfl ?_))
        )
      refine g_blt .append ?_
      refine s_appendB (k := 2) hE hF rfl rfl rfl (by first | exact hF.rdAt (k := 0) rfl ) (by first | exact bys1 _ ) rfl (by simp only [List.length_append, List.length_cons, List.length_nil, beb_length]; omega) rfl rfl rfl ?_
      clear hE a hF; intro A5 c5 a w hE hF; simp only [List.set_cons_zero, List.set_cons_succ] at hF
      refine wpList_nil ?_
      refine o_back _ (fun _ h => h) (hF.only 3 rfl) ?_
      clear hS
      have hS := hF.only 3 rfl
      repeat' (first
        | ((with_reducible refine o_ef rfl ?_))
        )
      refine g_blt .append ?_
      refine s_appendB (k := 2) hE hF rfl rfl rfl (by first | exact Rd.st (by assumption) hF) (by first | rfl) rfl (by simp only [List.length_append, List.length_cons, List.length_nil, beb_length]; omega) rfl rfl rfl ?_
      clear hE a hF; intro A5 c5 a w hE hF; simp only [List.set_cons_zero, List.set_cons_succ] at hF
      refine wpList_nil ?_
      refine o_back _ (fun _ h => h) (hF.only 3 rfl) ?_
      clear hS
      have hS := hF.only 3 rfl
      repeat' (first
        | (with_reducible refine o_rd rfl ?_)
        | (with_reducible refine o_done ?_)
        | ((with_reducible refine q_assign ?_); refine d_val hE hS rfl (fun w hS => r_assign hE rfl) ?_; clear hE a; intro a hE)
        )
      clear hS
      have hS := hF
      clear hF
      repeat' (first
        | (with_reducible refine wp_seq ?_)
        | (with_reducible refine c_region ?_)
        | (with_reducible refine wpList_nil ?_)
        | (with_reducible refine then_normal ?_)
        | (with_reducible refine wp_ret ?_)
        | ((with_reducible refine g_move ?_); refine s_move hE rfl rfl ?_; clear hE a; intro a hE)
        | ((with_reducible refine g_assign ?_); refine s_assign hE rfl rfl ?_; clear hE a; intro a hE)
        | ((with_reducible refine g_fa ?_); refine s_fieldL hE rfl rfl rfl ?_; clear hE a; intro a hE)
        | ((with_reducible refine g_cond ?_); refine c_true hE rfl ?_)
        | ((with_reducible refine g_load ?_); (first | (refine s_loadB (k := 3) hS hE rfl rfl rfl rfl ?_) ); clear hE a; intro a hE)
        | ((with_reducible refine g_call (f := 32) ?_); (first | (refine s_call hE rfl rfl rfl (has _ _ true _ (by decide +kernel)) ?_) ); rintro _ w ⟨rfl, rfl⟩; clear hE a; intro a hE) | ((with_reducible refine g_call (f := 48) ?_); refine s_call hE rfl rfl rfl (put64 _ _ _ _ (by first | omega ) _ (by first | exact hS.rdAt (k := 2) rfl ) (by first | (simp only [List.length_append, List.length_nil, List.length_cons, beb_length]; omega))) ?_; rintro _ w ⟨_, _, rfl, hS1⟩; clear hE a; intro a hE; replace hS := hS.frame hS1; clear hS1; try simp only [List.cons_append, List.nil_append] at hS) )
      have hS2 := (hS.drop 4).drop 3 |>.drop 2 |>.drop 1
      clear hS
      refine ret1 hE rfl rfl ?_
      rw [if_neg (by decide), if_pos rfl]
      simp only [List.append_assoc] at hS2 ⊢
      exact ⟨_, _, rfl, hS2⟩
  · repeat' (first
      | (with_reducible refine wp_seq ?_)
      | (with_reducible refine c_region ?_)
      | (with_reducible refine wpList_nil ?_)
      | (with_reducible refine then_normal ?_)
      | (with_reducible refine wp_block ?_)
      | ((with_reducible refine g_move ?_); refine s_move hE rfl rfl ?_; clear hE a; intro a hE)
      | ((with_reducible refine g_assign ?_); refine s_assign hE rfl rfl ?_; clear hE a; intro a hE)
      | ((with_reducible refine g_conv ?_); refine s_conv hE rfl rfl (by first | exact wrap8_nat (by omega) ) ?_; clear hE a; intro a hE)
      | ((with_reducible refine g_extract ?_); refine s_extract hE rfl rfl rfl ?_; clear hE a; intro a hE)
      | ((with_reducible refine g_fa ?_); refine s_fieldL hE rfl rfl rfl ?_; clear hE a; intro a hE)
      | ((with_reducible refine g_load ?_); (first | (refine s_loadB (k := 0) hS hE rfl rfl rfl rfl ?_) | (refine s_loadB (k := 1) hS hE rfl rfl rfl rfl ?_) ); clear hE a; intro a hE)
      | ((with_reducible refine g_lit ?_); refine s_lit hE hS rfl rfl rfl rfl rfl (by simp [Value.oneCell']) rfl ?_; clear hE a hS; intro g a w hE hS)
      | ((with_reducible refine g_box ?_); refine s_boxS hE hS rfl rfl ?_; clear hE a hS; intro g a w hE hS)
      | ((with_reducible refine g_build ?_); refine s_build [_, _, _] hE rfl rfl rfl ?_; clear hE a; intro a hE)
      | ((with_reducible refine g_call (f := 31) ?_); (first | (refine s_call hE rfl rfl rfl (fields3 _) ?_) ); rintro _ w ⟨rfl, rfl⟩; clear hE a; intro a hE) | ((with_reducible refine g_blt .append ?_); (first | (refine s_appendB (k := 2) hE hS rfl rfl rfl (by first | exact hS.rd ) (by first | exact bys1 _ ) rfl (by first | (simp only [List.length_append, List.length_nil, List.length_cons, beb_length]; omega)) rfl rfl rfl ?_) ); clear hE a hS; intro A c a w hE hS; simp only [List.set_cons_zero, List.set_cons_succ] at hS) )
    have hS2 := hS.tail.p1
    clear hS
    refine wp_loop_ghost (fun q a w => ∃ (j : Nat) (A : Option Addr) (c g' : Nat), j + q = 3 ∧ St w0 w (hRow 5 1 A (tri (xs ++ [Int.toNat 3]) l t b j).length c (bys (tri (xs ++ [Int.toNat 3]) l t b j)) :: hBlk g' 25 [.int .u64 (l : Int), .int .i64 3, .int .u64 (t : Int), .int .u64 (b : Int), .int .i64 p, .int .i64 s, .slice A0 o.length c0, .slice B y.length d, .int .u64 (n : Int)] :: H) ∧ Env 77 [(3, .pointer (some ⟨g', 0, none⟩)), (0, .slice A (tri (xs ++ [Int.toNat 3]) l t b j).length c), (5, .int .i64 0), (27, .agg #[.int .u64 (l : Int), .int .u64 (t : Int), .int .u64 (b : Int)]), (28, .int .i64 (j : Int))] a) 3 ⟨0, _, _, _, rfl, hS2, hE.sub ⟨rfl, rfl, rfl, rfl, rfl, trivial⟩⟩ ?_
    clear hE a hS2
    rintro q a w ⟨j, A, c, g', hj, hS, hE⟩
    have hj4 : j = 0 ∨ j = 1 ∨ j = 2 ∨ j = 3 := by omega
    rcases hj4 with rfl | rfl | rfl | rfl
    · dsimp only [tri] at hS hE
      repeat' (first
        | (with_reducible refine wp_seq ?_)
        | (with_reducible refine c_region ?_)
        | (with_reducible refine wpList_nil ?_)
        | (with_reducible refine then_normal ?_)
        | (with_reducible refine wp_skip ?_)
        | (with_reducible refine wp_block ?_)
        | (with_reducible refine block_normal ?_)
        | ((with_reducible refine g_move ?_); refine s_move hE rfl rfl ?_; clear hE a; intro a hE)
        | ((with_reducible refine g_assign ?_); refine s_assign hE rfl rfl ?_; clear hE a; intro a hE)
        | ((with_reducible refine g_bin .lss ?_); refine s_lss hE rfl rfl rfl ?_; clear hE a; intro a hE)
        | ((with_reducible refine g_bin .add ?_); refine s_add hE rfl rfl rfl (by first  | exact wrap64_in (by omega) ) ?_; clear hE a; intro a hE)
        | ((with_reducible refine g_cond ?_); refine c_true hE rfl ?_)
        | ((with_reducible refine g_call (f := 48) ?_); refine s_call hE rfl rfl rfl (put64 _ _ _ _ (by first | omega ) _ (by first | exact hS.rd ) (by first | (simp only [List.length_append, List.length_nil, List.length_cons, beb_length]; omega))) ?_; rintro _ w ⟨_, _, rfl, hS1⟩; clear hE a; intro a hE; replace hS := hS.frame hS1; clear hS1; try simp only [List.cons_append, List.nil_append] at hS) | ((with_reducible refine g_index ?_); refine s_val hE rfl rfl rfl (r_index1 hE rfl rfl (by omega) (by omega) rfl) ?_; clear hE a; intro a hE)
        )
      exact ⟨q - 1, by omega, 1, _, _, _, by omega, hS.drop1, hE.sub ⟨rfl, rfl, rfl, rfl, rfl, trivial⟩⟩
    · dsimp only [tri] at hS hE
      repeat' (first
        | (with_reducible refine wp_seq ?_)
        | (with_reducible refine c_region ?_)
        | (with_reducible refine wpList_nil ?_)
        | (with_reducible refine then_normal ?_)
        | (with_reducible refine wp_skip ?_)
        | (with_reducible refine wp_block ?_)
        | (with_reducible refine block_normal ?_)
        | ((with_reducible refine g_move ?_); refine s_move hE rfl rfl ?_; clear hE a; intro a hE)
        | ((with_reducible refine g_assign ?_); refine s_assign hE rfl rfl ?_; clear hE a; intro a hE)
        | ((with_reducible refine g_bin .lss ?_); refine s_lss hE rfl rfl rfl ?_; clear hE a; intro a hE)
        | ((with_reducible refine g_bin .add ?_); refine s_add hE rfl rfl rfl (by first  | exact wrap64_in (by omega) ) ?_; clear hE a; intro a hE)
        | ((with_reducible refine g_cond ?_); refine c_true hE rfl ?_)
        | ((with_reducible refine g_call (f := 48) ?_); refine s_call hE rfl rfl rfl (put64 _ _ _ _ (by first | omega ) _ (by first | exact hS.rd ) (by first | (simp only [List.length_append, List.length_nil, List.length_cons, beb_length]; omega))) ?_; rintro _ w ⟨_, _, rfl, hS1⟩; clear hE a; intro a hE; replace hS := hS.frame hS1; clear hS1; try simp only [List.cons_append, List.nil_append] at hS) | ((with_reducible refine g_index ?_); refine s_val hE rfl rfl rfl (r_index1 hE rfl rfl (by omega) (by omega) rfl) ?_; clear hE a; intro a hE)
        )
      exact ⟨q - 1, by omega, 2, _, _, _, by omega, hS.drop1, hE.sub ⟨rfl, rfl, rfl, rfl, rfl, trivial⟩⟩
    · dsimp only [tri] at hS hE
      repeat' (first
        | (with_reducible refine wp_seq ?_)
        | (with_reducible refine c_region ?_)
        | (with_reducible refine wpList_nil ?_)
        | (with_reducible refine then_normal ?_)
        | (with_reducible refine wp_skip ?_)
        | (with_reducible refine wp_block ?_)
        | (with_reducible refine block_normal ?_)
        | ((with_reducible refine g_move ?_); refine s_move hE rfl rfl ?_; clear hE a; intro a hE)
        | ((with_reducible refine g_assign ?_); refine s_assign hE rfl rfl ?_; clear hE a; intro a hE)
        | ((with_reducible refine g_bin .lss ?_); refine s_lss hE rfl rfl rfl ?_; clear hE a; intro a hE)
        | ((with_reducible refine g_bin .add ?_); refine s_add hE rfl rfl rfl (by first  | exact wrap64_in (by omega) ) ?_; clear hE a; intro a hE)
        | ((with_reducible refine g_cond ?_); refine c_true hE rfl ?_)
        | ((with_reducible refine g_call (f := 48) ?_); refine s_call hE rfl rfl rfl (put64 _ _ _ _ (by first | omega ) _ (by first | exact hS.rd ) (by first | (simp only [List.length_append, List.length_nil, List.length_cons, beb_length]; omega))) ?_; rintro _ w ⟨_, _, rfl, hS1⟩; clear hE a; intro a hE; replace hS := hS.frame hS1; clear hS1; try simp only [List.cons_append, List.nil_append] at hS) | ((with_reducible refine g_index ?_); refine s_val hE rfl rfl rfl (r_index1 hE rfl rfl (by omega) (by omega) rfl) ?_; clear hE a; intro a hE)
        )
      exact ⟨q - 1, by omega, 3, _, _, _, by omega, hS.drop1, hE.sub ⟨rfl, rfl, rfl, rfl, rfl, trivial⟩⟩
    · dsimp only [tri] at hS hE
      repeat' (first
        | (with_reducible refine wp_seq ?_)
        | (with_reducible refine c_region ?_)
        | (with_reducible refine wpList_nil ?_)
        | (with_reducible refine then_normal ?_)
        | (with_reducible refine wp_skip ?_)
        | (with_reducible refine wp_ret ?_)
        | (with_reducible refine wp_exit ?_)
        | (with_reducible refine then_exit ?_)
        | (with_reducible refine block_same ?_)
        | ((with_reducible refine g_move ?_); refine s_move hE rfl rfl ?_; clear hE a; intro a hE)
        | ((with_reducible refine g_assign ?_); refine s_assign hE rfl rfl ?_; clear hE a; intro a hE)
        | ((with_reducible refine g_bin .lss ?_); refine s_lss hE rfl rfl rfl ?_; clear hE a; intro a hE)
        | ((with_reducible refine g_cond ?_); refine c_false hE rfl ?_)
        | ((with_reducible refine g_call (f := 32) ?_); (first | (refine s_call hE rfl rfl rfl (has _ _ false _ (by decide +kernel)) ?_)); rintro _ w ⟨rfl, rfl⟩; clear hE a; intro a hE) )
      have hS2 := hS.drop1
      clear hS
      refine ret1 hE rfl rfl ?_
      rw [if_neg (by decide), if_neg (by decide)]
      simp only [List.append_assoc, List.append_nil] at hS2 ⊢
      exact ⟨_, _, rfl, hS2⟩
  · repeat' (first
      | (with_reducible refine wp_seq ?_)
      | (with_reducible refine c_region ?_)
      | (with_reducible refine wpList_nil ?_)
      | (with_reducible refine then_normal ?_)
      | (with_reducible refine wp_block ?_)
      | ((with_reducible refine g_move ?_); refine s_move hE rfl rfl ?_; clear hE a; intro a hE)
      | ((with_reducible refine g_assign ?_); refine s_assign hE rfl rfl ?_; clear hE a; intro a hE)
      | ((with_reducible refine g_conv ?_); refine s_conv hE rfl rfl (by first | exact wrap8_nat (by omega) ) ?_; clear hE a; intro a hE)
      | ((with_reducible refine g_extract ?_); refine s_extract hE rfl rfl rfl ?_; clear hE a; intro a hE)
      | ((with_reducible refine g_fa ?_); refine s_fieldL hE rfl rfl rfl ?_; clear hE a; intro a hE)
      | ((with_reducible refine g_load ?_); (first | (refine s_loadB (k := 0) hS hE rfl rfl rfl rfl ?_) | (refine s_loadB (k := 1) hS hE rfl rfl rfl rfl ?_) ); clear hE a; intro a hE)
      | ((with_reducible refine g_lit ?_); refine s_lit hE hS rfl rfl rfl rfl rfl (by simp [Value.oneCell']) rfl ?_; clear hE a hS; intro g a w hE hS)
      | ((with_reducible refine g_box ?_); refine s_boxS hE hS rfl rfl ?_; clear hE a hS; intro g a w hE hS)
      | ((with_reducible refine g_build ?_); refine s_build [_, _, _] hE rfl rfl rfl ?_; clear hE a; intro a hE)
      | ((with_reducible refine g_call (f := 31) ?_); (first | (refine s_call hE rfl rfl rfl (fields4 _) ?_) ); rintro _ w ⟨rfl, rfl⟩; clear hE a; intro a hE) | ((with_reducible refine g_blt .append ?_); (first | (refine s_appendB (k := 2) hE hS rfl rfl rfl (by first | exact hS.rd ) (by first | exact bys1 _ ) rfl (by first | (simp only [List.length_append, List.length_nil, List.length_cons, beb_length]; omega)) rfl rfl rfl ?_) ); clear hE a hS; intro A c a w hE hS; simp only [List.set_cons_zero, List.set_cons_succ] at hS) )
    have hS2 := hS.tail.p1
    clear hS
    refine wp_loop_ghost (fun q a w => ∃ (j : Nat) (A : Option Addr) (c g' : Nat), j + q = 3 ∧ St w0 w (hRow 5 1 A (tri (xs ++ [Int.toNat 4]) l t b j).length c (bys (tri (xs ++ [Int.toNat 4]) l t b j)) :: hBlk g' 25 [.int .u64 (l : Int), .int .i64 4, .int .u64 (t : Int), .int .u64 (b : Int), .int .i64 p, .int .i64 s, .slice A0 o.length c0, .slice B y.length d, .int .u64 (n : Int)] :: H) ∧ Env 77 [(3, .pointer (some ⟨g', 0, none⟩)), (0, .slice A (tri (xs ++ [Int.toNat 4]) l t b j).length c), (5, .int .i64 0), (27, .agg #[.int .u64 (l : Int), .int .u64 (t : Int), .int .u64 (b : Int)]), (28, .int .i64 (j : Int))] a) 3 ⟨0, _, _, _, rfl, hS2, hE.sub ⟨rfl, rfl, rfl, rfl, rfl, trivial⟩⟩ ?_
    clear hE a hS2
    rintro q a w ⟨j, A, c, g', hj, hS, hE⟩
    have hj4 : j = 0 ∨ j = 1 ∨ j = 2 ∨ j = 3 := by omega
    rcases hj4 with rfl | rfl | rfl | rfl
    · dsimp only [tri] at hS hE
      repeat' (first
        | (with_reducible refine wp_seq ?_)
        | (with_reducible refine c_region ?_)
        | (with_reducible refine wpList_nil ?_)
        | (with_reducible refine then_normal ?_)
        | (with_reducible refine wp_skip ?_)
        | (with_reducible refine wp_block ?_)
        | (with_reducible refine block_normal ?_)
        | ((with_reducible refine g_move ?_); refine s_move hE rfl rfl ?_; clear hE a; intro a hE)
        | ((with_reducible refine g_assign ?_); refine s_assign hE rfl rfl ?_; clear hE a; intro a hE)
        | ((with_reducible refine g_bin .lss ?_); refine s_lss hE rfl rfl rfl ?_; clear hE a; intro a hE)
        | ((with_reducible refine g_bin .add ?_); refine s_add hE rfl rfl rfl (by first  | exact wrap64_in (by omega) ) ?_; clear hE a; intro a hE)
        | ((with_reducible refine g_cond ?_); refine c_true hE rfl ?_)
        | ((with_reducible refine g_call (f := 48) ?_); refine s_call hE rfl rfl rfl (put64 _ _ _ _ (by first | omega ) _ (by first | exact hS.rd ) (by first | (simp only [List.length_append, List.length_nil, List.length_cons, beb_length]; omega))) ?_; rintro _ w ⟨_, _, rfl, hS1⟩; clear hE a; intro a hE; replace hS := hS.frame hS1; clear hS1; try simp only [List.cons_append, List.nil_append] at hS) | ((with_reducible refine g_index ?_); refine s_val hE rfl rfl rfl (r_index1 hE rfl rfl (by omega) (by omega) rfl) ?_; clear hE a; intro a hE)
        )
      exact ⟨q - 1, by omega, 1, _, _, _, by omega, hS.drop1, hE.sub ⟨rfl, rfl, rfl, rfl, rfl, trivial⟩⟩
    · dsimp only [tri] at hS hE
      repeat' (first
        | (with_reducible refine wp_seq ?_)
        | (with_reducible refine c_region ?_)
        | (with_reducible refine wpList_nil ?_)
        | (with_reducible refine then_normal ?_)
        | (with_reducible refine wp_skip ?_)
        | (with_reducible refine wp_block ?_)
        | (with_reducible refine block_normal ?_)
        | ((with_reducible refine g_move ?_); refine s_move hE rfl rfl ?_; clear hE a; intro a hE)
        | ((with_reducible refine g_assign ?_); refine s_assign hE rfl rfl ?_; clear hE a; intro a hE)
        | ((with_reducible refine g_bin .lss ?_); refine s_lss hE rfl rfl rfl ?_; clear hE a; intro a hE)
        | ((with_reducible refine g_bin .add ?_); refine s_add hE rfl rfl rfl (by first  | exact wrap64_in (by omega) ) ?_; clear hE a; intro a hE)
        | ((with_reducible refine g_cond ?_); refine c_true hE rfl ?_)
        | ((with_reducible refine g_call (f := 48) ?_); refine s_call hE rfl rfl rfl (put64 _ _ _ _ (by first | omega ) _ (by first | exact hS.rd ) (by first | (simp only [List.length_append, List.length_nil, List.length_cons, beb_length]; omega))) ?_; rintro _ w ⟨_, _, rfl, hS1⟩; clear hE a; intro a hE; replace hS := hS.frame hS1; clear hS1; try simp only [List.cons_append, List.nil_append] at hS) | ((with_reducible refine g_index ?_); refine s_val hE rfl rfl rfl (r_index1 hE rfl rfl (by omega) (by omega) rfl) ?_; clear hE a; intro a hE)
        )
      exact ⟨q - 1, by omega, 2, _, _, _, by omega, hS.drop1, hE.sub ⟨rfl, rfl, rfl, rfl, rfl, trivial⟩⟩
    · dsimp only [tri] at hS hE
      repeat' (first
        | (with_reducible refine wp_seq ?_)
        | (with_reducible refine c_region ?_)
        | (with_reducible refine wpList_nil ?_)
        | (with_reducible refine then_normal ?_)
        | (with_reducible refine wp_skip ?_)
        | (with_reducible refine wp_block ?_)
        | (with_reducible refine block_normal ?_)
        | ((with_reducible refine g_move ?_); refine s_move hE rfl rfl ?_; clear hE a; intro a hE)
        | ((with_reducible refine g_assign ?_); refine s_assign hE rfl rfl ?_; clear hE a; intro a hE)
        | ((with_reducible refine g_bin .lss ?_); refine s_lss hE rfl rfl rfl ?_; clear hE a; intro a hE)
        | ((with_reducible refine g_bin .add ?_); refine s_add hE rfl rfl rfl (by first  | exact wrap64_in (by omega) ) ?_; clear hE a; intro a hE)
        | ((with_reducible refine g_cond ?_); refine c_true hE rfl ?_)
        | ((with_reducible refine g_call (f := 48) ?_); refine s_call hE rfl rfl rfl (put64 _ _ _ _ (by first | omega ) _ (by first | exact hS.rd ) (by first | (simp only [List.length_append, List.length_nil, List.length_cons, beb_length]; omega))) ?_; rintro _ w ⟨_, _, rfl, hS1⟩; clear hE a; intro a hE; replace hS := hS.frame hS1; clear hS1; try simp only [List.cons_append, List.nil_append] at hS) | ((with_reducible refine g_index ?_); refine s_val hE rfl rfl rfl (r_index1 hE rfl rfl (by omega) (by omega) rfl) ?_; clear hE a; intro a hE)
        )
      exact ⟨q - 1, by omega, 3, _, _, _, by omega, hS.drop1, hE.sub ⟨rfl, rfl, rfl, rfl, rfl, trivial⟩⟩
    · dsimp only [tri] at hS hE
      repeat' (first
        | (with_reducible refine wp_seq ?_)
        | (with_reducible refine c_region ?_)
        | (with_reducible refine wpList_nil ?_)
        | (with_reducible refine then_normal ?_)
        | (with_reducible refine wp_skip ?_)
        | (with_reducible refine wp_ret ?_)
        | (with_reducible refine wp_exit ?_)
        | (with_reducible refine then_exit ?_)
        | (with_reducible refine block_same ?_)
        | ((with_reducible refine g_move ?_); refine s_move hE rfl rfl ?_; clear hE a; intro a hE)
        | ((with_reducible refine g_assign ?_); refine s_assign hE rfl rfl ?_; clear hE a; intro a hE)
        | ((with_reducible refine g_bin .lss ?_); refine s_lss hE rfl rfl rfl ?_; clear hE a; intro a hE)
        | ((with_reducible refine g_cond ?_); refine c_false hE rfl ?_)
        | ((with_reducible refine g_call (f := 32) ?_); (first | (refine s_call hE rfl rfl rfl (has _ _ false _ (by decide +kernel)) ?_)); rintro _ w ⟨rfl, rfl⟩; clear hE a; intro a hE) )
      have hS2 := hS.drop1
      clear hS
      refine ret1 hE rfl rfl ?_
      rw [if_neg (by decide), if_neg (by decide)]
      simp only [List.append_assoc, List.append_nil] at hS2 ⊢
      exact ⟨_, _, rfl, hS2⟩
end Go.Proofs.Ytmfcffeoooegcaa
