/-
  Contracts of record: items read.
-/
import Derived.Test.YtmfcffeoooegcaaRE
import Derived.Test.YtmfcffeoooegcaaRG
namespace Go.Proofs.Ytmfcffeoooegcaa
open Go.RowKit
set_option linter.unusedVariables false
set_option linter.unusedSimpArgs false
attribute [local irreducible] Rd hRow hBlk hRd hAll Fn hRdr

/-- a byte of many, as a number -/
def oct (xs : List Nat) (i : Nat) : Nat := bnum 0 ((xs.drop i).take 1)
theorem oct_lt {xs : List Nat} (hx : Bs xs) (i : Nat) : oct xs i < 256 := by
  have h := bnum_lt ((xs.drop i).take 1) (fun c hc => hx c (List.mem_of_mem_drop (List.mem_of_mem_take hc)))
  have h2 : ((xs.drop i).take 1).length ≤ 1 := by rw [List.length_take]; omega
  have h3 : 256 ^ ((xs.drop i).take 1).length ≤ 256 ^ 1 := Nat.pow_le_pow_right (by decide) h2
  unfold oct
  omega
theorem oct_eq {xs : List Nat} {i : Nat} (h : i < xs.length) : oct xs i = xs[i] := by
  unfold oct
  rw [List.drop_eq_getElem_cons h, List.take_succ_cons, List.take_zero]
  simp only [bnum]
  omega
theorem item_ok (g : Nat) (A : Option Addr) (c : Nat) (xs : List Nat) (p : Nat) (H : List HP) (w0 w : World) (hS : St w0 w (hRdr g A c xs p 0 :: H)) (hx : Bs xs) (hp : p ≤ xs.length) (hl : xs.length ≤ 140737488355328) (h : p + 1 + oct xs p ≤ xs.length) :
    Fn Try.prog 38 [.agg #[.pointer (some ⟨g, 0, none⟩)]] w fun v w' => ∃ A' c', v = .slice A' ((xs.drop (p + 1)).take (oct xs p)).length c' ∧ St w0 w' (hRow 5 1 A' ((xs.drop (p + 1)).take (oct xs p)).length c' (bys ((xs.drop (p + 1)).take (oct xs p))) :: hRdr g A c xs (p + 1 + oct xs p) 0 :: H) := by
  have ho : bnum 0 ((xs.drop p).take 1) < 256 := oct_lt hx p
  unfold oct at h ⊢
  refine enter 10 Try.func38 rfl rfl rfl ?_
  intro a hE
  repeat' (first
    | (with_reducible refine wp_seq ?_)
    | (with_reducible refine c_region ?_)
    | (with_reducible refine wpList_nil ?_)
    | (with_reducible refine then_normal ?_)
    | ((with_reducible refine g_assign ?_); refine s_assign hE rfl rfl ?_; clear hE a; intro a hE)
    | ((with_reducible refine g_box ?_); refine s_boxS hE hS rfl rfl ?_; clear hE a hS; intro g a w hE hS)
    )
  refine c_ordK hS 0 rfl 7 ((.rd 0 (.rd 1 (.rd 2 (.rd 3 (.ef 4 (.rd 5 (.ef 6 (.lt 7 .done))))))))) mixed (by decide +kernel) ?_
  clear hS; intro w hF hS
  repeat' (first
    | (with_reducible refine o_rd rfl ?_)
    | ((with_reducible refine q_fa ?_); refine d_val hE hS rfl (fun w hS => r_fieldL hE rfl rfl) ?_; clear hE a; intro a hE)
    | ((with_reducible refine q_load ?_); (first | (refine d_val hE hS rfl (fun w hS => r_loadB (k := 0) hS hE rfl rfl rfl) ?_) ); clear hE a; intro a hE)
    | ((with_reducible refine o_ef rfl ?_))
    )
  refine s_call hE rfl rfl rfl (u8_ok _ _ _ _ _ _ _ _ (hF.focus (k := 1) rfl) hx hp hl (by omega)) ?_
  rintro _ w ⟨rfl, hS1⟩; clear hE a; intro a hE
  have hF2 := St.unfocus (k := 1) rfl hS1; clear hF hS1; have hF := hF2; clear hF2; simp only [List.set_cons_zero, List.set_cons_succ] at hF
  refine wpList_nil ?_
  refine o_back _ (fun _ h => h) (hF.only 0 rfl) ?_
  clear hS
  have hS := hF.only 0 rfl
  repeat' (first
    | (with_reducible refine o_rd rfl ?_)
    | ((with_reducible refine q_conv ?_); refine d_val hE hS rfl (fun w hS => r_conv hE rfl (by first | exact wrap64_in (by omega) )) ?_; clear hE a; intro a hE)
    | ((with_reducible refine o_ef rfl ?_))
    )
  refine s_call hE rfl rfl rfl (raw_ok _ _ _ _ _ _ _ _ _ (hF.focus (k := 1) rfl) (by omega) hl h) ?_
  rintro _ w ⟨A1, c1, rfl, hS1⟩; clear hE a; intro a hE
  have hF2 := St.unfocus2 (k := 1) rfl hS1; clear hF hS1; have hF := hF2; clear hF2; simp only [List.set_cons_zero, List.set_cons_succ] at hF
  refine wpList_nil ?_
  refine o_back _ (fun _ h => h) (hF.only 1 rfl) ?_
  clear hS
  have hS := hF.only 1 rfl
  repeat' (first
    | ((with_reducible refine o_lt rfl ?_))
    )
  clear hS
  have hS := hF
  clear hF
  repeat' (first
    | (with_reducible refine wpList_nil ?_)
    | (with_reducible refine then_normal ?_)
    | (with_reducible refine wp_ret ?_)
    | ((with_reducible refine g_assign ?_); refine s_assign hE rfl rfl ?_; clear hE a; intro a hE)
    | (with_reducible refine o_done ?_)
    | ((with_reducible refine o_backL ?_))
    )
  exact ret1 hE rfl rfl ⟨_, _, rfl, hS.drop 1⟩
theorem item_short1 (g : Nat) (A : Option Addr) (c : Nat) (xs : List Nat) (p : Nat) (H : List HP) (w0 w : World) (hS : St w0 w (hRdr g A c xs p 0 :: H)) (hx : Bs xs) (hp : p ≤ xs.length) (hl : xs.length ≤ 140737488355328) (h : xs.length < p + 1) :
    Fn Try.prog 38 [.agg #[.pointer (some ⟨g, 0, none⟩)]] w fun v w' => ∃ A' c', v = .slice A' 0 c' ∧ St w0 w' (hRow 5 1 A' 0 c' [] :: hRdr g A c xs p 7 :: H) := by
  refine enter 10 Try.func38 rfl rfl rfl ?_
  intro a hE
  repeat' (first
    | (with_reducible refine wp_seq ?_)
    | (with_reducible refine c_region ?_)
    | (with_reducible refine wpList_nil ?_)
    | (with_reducible refine then_normal ?_)
    | ((with_reducible refine g_assign ?_); refine s_assign hE rfl rfl ?_; clear hE a; intro a hE)
    | ((with_reducible refine g_box ?_); refine s_boxS hE hS rfl rfl ?_; clear hE a hS; intro g a w hE hS)
    )
  refine c_ordK hS 0 rfl 7 ((.rd 0 (.rd 1 (.rd 2 (.rd 3 (.ef 4 (.rd 5 (.ef 6 (.lt 7 .done))))))))) mixed (by decide +kernel) ?_
  clear hS; intro w hF hS
  repeat' (first
    | (with_reducible refine o_rd rfl ?_)
    | ((with_reducible refine q_fa ?_); refine d_val hE hS rfl (fun w hS => r_fieldL hE rfl rfl) ?_; clear hE a; intro a hE)
    | ((with_reducible refine q_load ?_); (first | (refine d_val hE hS rfl (fun w hS => r_loadB (k := 0) hS hE rfl rfl rfl) ?_) ); clear hE a; intro a hE)
    | ((with_reducible refine o_ef rfl ?_))
    )
  refine s_call hE rfl rfl rfl (u8_short _ _ _ _ _ _ _ _ (hF.focus (k := 1) rfl) hx hp hl h) ?_
  rintro _ w ⟨rfl, hS1⟩; clear hE a; intro a hE
  have hF2 := St.unfocus (k := 1) rfl hS1; clear hF hS1; have hF := hF2; clear hF2; simp only [List.set_cons_zero, List.set_cons_succ] at hF
  refine wpList_nil ?_
  refine o_back _ (fun _ h => h) (hF.only 0 rfl) ?_
  clear hS
  have hS := hF.only 0 rfl
  repeat' (first
    | (with_reducible refine o_rd rfl ?_)
    | ((with_reducible refine q_conv ?_); refine d_val hE hS rfl (fun w hS => r_conv hE rfl (by first | exact wrap64_in (by omega) )) ?_; clear hE a; intro a hE)
    | ((with_reducible refine o_ef rfl ?_))
    )
  refine s_call hE rfl rfl rfl (raw_err _ _ _ _ _ _ _ _ _ (hF.focus (k := 1) rfl) hp hl (by omega)) ?_
  rintro _ w ⟨A1, c1, rfl, hS1⟩; clear hE a; intro a hE
  have hF2 := St.unfocus2 (k := 1) rfl hS1; clear hF hS1; have hF := hF2; clear hF2; simp only [List.set_cons_zero, List.set_cons_succ] at hF
  refine wpList_nil ?_
  refine o_back _ (fun _ h => h) (hF.only 1 rfl) ?_
  clear hS
  have hS := hF.only 1 rfl
  repeat' (first
    | ((with_reducible refine o_lt rfl ?_))
    )
  clear hS
  have hS := hF
  clear hF
  repeat' (first
    | (with_reducible refine wpList_nil ?_)
    | (with_reducible refine then_normal ?_)
    | (with_reducible refine wp_ret ?_)
    | ((with_reducible refine g_assign ?_); refine s_assign hE rfl rfl ?_; clear hE a; intro a hE)
    | (with_reducible refine o_done ?_)
    | ((with_reducible refine o_backL ?_))
    )
  exact ret1 hE rfl rfl ⟨_, _, rfl, hS.drop 1⟩
theorem item_short2 (g : Nat) (A : Option Addr) (c : Nat) (xs : List Nat) (p : Nat) (H : List HP) (w0 w : World) (hS : St w0 w (hRdr g A c xs p 0 :: H)) (hx : Bs xs) (hp : p ≤ xs.length) (hl : xs.length ≤ 140737488355328) (h0 : p + 1 ≤ xs.length) (h : xs.length < p + 1 + oct xs p) :
    Fn Try.prog 38 [.agg #[.pointer (some ⟨g, 0, none⟩)]] w fun v w' => ∃ A' c', v = .slice A' 0 c' ∧ St w0 w' (hRow 5 1 A' 0 c' [] :: hRdr g A c xs (p + 1) 7 :: H) := by
  have ho : bnum 0 ((xs.drop p).take 1) < 256 := oct_lt hx p
  unfold oct at h
  refine enter 10 Try.func38 rfl rfl rfl ?_
  intro a hE
  repeat' (first
    | (with_reducible refine wp_seq ?_)
    | (with_reducible refine c_region ?_)
    | (with_reducible refine wpList_nil ?_)
    | (with_reducible refine then_normal ?_)
    | ((with_reducible refine g_assign ?_); refine s_assign hE rfl rfl ?_; clear hE a; intro a hE)
    | ((with_reducible refine g_box ?_); refine s_boxS hE hS rfl rfl ?_; clear hE a hS; intro g a w hE hS)
    )
  refine c_ordK hS 0 rfl 7 ((.rd 0 (.rd 1 (.rd 2 (.rd 3 (.ef 4 (.rd 5 (.ef 6 (.lt 7 .done))))))))) mixed (by decide +kernel) ?_
  clear hS; intro w hF hS
  repeat' (first
    | (with_reducible refine o_rd rfl ?_)
    | ((with_reducible refine q_fa ?_); refine d_val hE hS rfl (fun w hS => r_fieldL hE rfl rfl) ?_; clear hE a; intro a hE)
    | ((with_reducible refine q_load ?_); (first | (refine d_val hE hS rfl (fun w hS => r_loadB (k := 0) hS hE rfl rfl rfl) ?_) ); clear hE a; intro a hE)
    | ((with_reducible refine o_ef rfl ?_))
    )
  refine s_call hE rfl rfl rfl (u8_ok _ _ _ _ _ _ _ _ (hF.focus (k := 1) rfl) hx hp hl (by omega)) ?_
  rintro _ w ⟨rfl, hS1⟩; clear hE a; intro a hE
  have hF2 := St.unfocus (k := 1) rfl hS1; clear hF hS1; have hF := hF2; clear hF2; simp only [List.set_cons_zero, List.set_cons_succ] at hF
  refine wpList_nil ?_
  refine o_back _ (fun _ h => h) (hF.only 0 rfl) ?_
  clear hS
  have hS := hF.only 0 rfl
  repeat' (first
    | (with_reducible refine o_rd rfl ?_)
    | ((with_reducible refine q_conv ?_); refine d_val hE hS rfl (fun w hS => r_conv hE rfl (by first | exact wrap64_in (by omega) )) ?_; clear hE a; intro a hE)
    | ((with_reducible refine o_ef rfl ?_))
    )
  refine s_call hE rfl rfl rfl (raw_short _ _ _ _ _ _ _ _ _ (hF.focus (k := 1) rfl) (by omega) hl h (by omega)) ?_
  rintro _ w ⟨A1, c1, rfl, hS1⟩; clear hE a; intro a hE
  have hF2 := St.unfocus2 (k := 1) rfl hS1; clear hF hS1; have hF := hF2; clear hF2; simp only [List.set_cons_zero, List.set_cons_succ] at hF
  refine wpList_nil ?_
  refine o_back _ (fun _ h => h) (hF.only 1 rfl) ?_
  clear hS
  have hS := hF.only 1 rfl
  repeat' (first
    | ((with_reducible refine o_lt rfl ?_))
    )
  clear hS
  have hS := hF
  clear hF
  repeat' (first
    | (with_reducible refine wpList_nil ?_)
    | (with_reducible refine then_normal ?_)
    | (with_reducible refine wp_ret ?_)
    | ((with_reducible refine g_assign ?_); refine s_assign hE rfl rfl ?_; clear hE a; intro a hE)
    | (with_reducible refine o_done ?_)
    | ((with_reducible refine o_backL ?_))
    )
  exact ret1 hE rfl rfl ⟨_, _, rfl, hS.drop 1⟩
theorem item_err (g : Nat) (A : Option Addr) (c : Nat) (xs : List Nat) (p : Nat) (H : List HP) (w0 w : World) (hS : St w0 w (hRdr g A c xs p 7 :: H)) (hx : Bs xs) (hp : p ≤ xs.length) (hl : xs.length ≤ 140737488355328) :
    Fn Try.prog 38 [.agg #[.pointer (some ⟨g, 0, none⟩)]] w fun v w' => ∃ A' c', v = .slice A' 0 c' ∧ St w0 w' (hRow 5 1 A' 0 c' [] :: hRdr g A c xs p 7 :: H) := by
  refine enter 10 Try.func38 rfl rfl rfl ?_
  intro a hE
  repeat' (first
    | (with_reducible refine wp_seq ?_)
    | (with_reducible refine c_region ?_)
    | (with_reducible refine wpList_nil ?_)
    | (with_reducible refine then_normal ?_)
    | ((with_reducible refine g_assign ?_); refine s_assign hE rfl rfl ?_; clear hE a; intro a hE)
    | ((with_reducible refine g_box ?_); refine s_boxS hE hS rfl rfl ?_; clear hE a hS; intro g a w hE hS)
    )
  refine c_ordK hS 0 rfl 7 ((.rd 0 (.rd 1 (.rd 2 (.rd 3 (.ef 4 (.rd 5 (.ef 6 (.lt 7 .done))))))))) mixed (by decide +kernel) ?_
  clear hS; intro w hF hS
  repeat' (first
    | (with_reducible refine o_rd rfl ?_)
    | ((with_reducible refine q_fa ?_); refine d_val hE hS rfl (fun w hS => r_fieldL hE rfl rfl) ?_; clear hE a; intro a hE)
    | ((with_reducible refine q_load ?_); (first | (refine d_val hE hS rfl (fun w hS => r_loadB (k := 0) hS hE rfl rfl rfl) ?_) ); clear hE a; intro a hE)
    | ((with_reducible refine o_ef rfl ?_))
    )
  refine s_call hE rfl rfl rfl (u8_err _ _ _ _ _ _ _ _ (hF.focus (k := 1) rfl) hx hp hl ) ?_
  rintro _ w ⟨rfl, hS1⟩; clear hE a; intro a hE
  have hF2 := St.unfocus (k := 1) rfl hS1; clear hF hS1; have hF := hF2; clear hF2; simp only [List.set_cons_zero, List.set_cons_succ] at hF
  refine wpList_nil ?_
  refine o_back _ (fun _ h => h) (hF.only 0 rfl) ?_
  clear hS
  have hS := hF.only 0 rfl
  repeat' (first
    | (with_reducible refine o_rd rfl ?_)
    | ((with_reducible refine q_conv ?_); refine d_val hE hS rfl (fun w hS => r_conv hE rfl (by first | exact wrap64_in (by omega) )) ?_; clear hE a; intro a hE)
    | ((with_reducible refine o_ef rfl ?_))
    )
  refine s_call hE rfl rfl rfl (raw_err _ _ _ _ _ _ _ _ _ (hF.focus (k := 1) rfl) hp hl (by omega)) ?_
  rintro _ w ⟨A1, c1, rfl, hS1⟩; clear hE a; intro a hE
  have hF2 := St.unfocus2 (k := 1) rfl hS1; clear hF hS1; have hF := hF2; clear hF2; simp only [List.set_cons_zero, List.set_cons_succ] at hF
  refine wpList_nil ?_
  refine o_back _ (fun _ h => h) (hF.only 1 rfl) ?_
  clear hS
  have hS := hF.only 1 rfl
  repeat' (first
    | ((with_reducible refine o_lt rfl ?_))
    )
  clear hS
  have hS := hF
  clear hF
  repeat' (first
    | (with_reducible refine wpList_nil ?_)
    | (with_reducible refine then_normal ?_)
    | (with_reducible refine wp_ret ?_)
    | ((with_reducible refine g_assign ?_); refine s_assign hE rfl rfl ?_; clear hE a; intro a hE)
    | (with_reducible refine o_done ?_)
    | ((with_reducible refine o_backL ?_))
    )
  exact ret1 hE rfl rfl ⟨_, _, rfl, hS.drop 1⟩
end Go.Proofs.Ytmfcffeoooegcaa
