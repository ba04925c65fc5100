/-
  The calculus, several texts in one.
-/
import Derived.Test.YtfoeelghehjanaaWX
/-
  Contracts of the document's log: numbers, how many sectors, the head of a turn.
-/
namespace Go.Proofs.Ytfoeelghehjanaa
open Go.RowKit
set_option linter.unusedVariables false
set_option linter.unusedSimpArgs false
section
variable {P : Program} {ops : Array Oper} {Q : Exit → Act → World → Prop} {rest : List Oper} {n d : Nat} {L : List (Nat × Value)} {a : Act} {w w0 : World} {H : List HP}
variable {ty : TypeId} {ps : String} {af : Array Edge} {x y : Operand}
/-- bytes behind bytes that are only read, where there is no room: a new row -/
theorem s_appendGrow {t e bytes m c m2 c2 : Nat} {z : Value} {ad : Addr} {A2 : Option Addr} {cs news : List Value} [TyU P t (.slice e)] [TyI P e 1 z bytes] (hE : Env n L a) (hS : St w0 w H)
    (hx : ev L x = some (.slice (some ad) m c)) (hy : ev L y = some (.slice A2 m2 c2)) (hA : Rd w (some ad) cs) (hcl : cs.length = m) (hr : Rd w A2 news) (hl : news.length = m2) (h0 : 0 < m2) (hcap : c < m + m2)
    (hb : (m + m2) * bytes ≤ 140737488355328) (hzs : z.cells.size = 1) (hby : Nat.blt 0 bytes = true) (hd : Nat.blt d n = true)
    (K : ∀ A' c' a' w', Env n ((d, .slice A' (m + m2) c') :: L) a' → St w0 w' (hRow e 1 A' (m + m2) c' (cs ++ news) :: H) → wpList P ops Q rest a' w') :
    wpList P ops Q (⟨some d, .call ⟨.builtin .append, #[x, y], #[t, t]⟩, ty, ps, af, none⟩ :: rest) a w := by
  obtain ⟨i, hi, hi1, hi2, hi3⟩ := TyI.info (P := P) (t := e) (size := 1) (zero := z) (bytes := bytes)
  have ht : P.underlying t = some (.slice e) := TyU.out
  have hby' : 0 < bytes := by simpa [Nat.blt_eq] using hby
  have h63 : m + m2 ≤ maxLen := by
    have h1 : m + m2 ≤ (m + m2) * bytes := Nat.le_mul_of_pos_right _ hby'
    exact Nat.le_trans (Nat.le_trans h1 hb) (by decide)
  obtain ⟨ad2, rfl, hc2⟩ := hr (by rintro rfl; rw [List.length_nil] at hl; omega)
  have hc1 : ∀ j u, cs[j]? = some u → w.cell? (ad.add j) = some u := by
    intro j u hu
    obtain ⟨ad', e', hc⟩ := hA (by rintro rfl; simp at hu)
    cases e'
    exact hc j u hu
  have hrun := run_append_grow (P := P) w t ty e i z ht hi hi2 ad m c cs (by rw [hi1]; omega) hc1 ad2 m2 c2 news (by rw [hi1]; omega) hc2 hcap (by simp only [maxLen] at h63; omega) (by rw [hi3]; exact growslice_fits hcap hb)
  have hge := grownCap_ge w (m + m2) c e
  have hle := grownCap_le_maxLen w (m + m2) c e h63
  generalize hN : grownCap w (m + m2) c e = N at hrun hge hle
  refine s_val (v := .slice (some ⟨w.heap.size, 0, none⟩) (m + m2) N) (w' := w.drew.alloc (.cells (cs.toArray ++ news.toArray ++ Builtin.zeroCells z.cells (N - (m + m2))) e)) hE rfl rfl hd (by simp [execOp, resolve, invoke, builtin, hE.eval hx, hE.eval hy, hrun]) fun a' hE' => K _ _ _ _ hE' ?_
  have h1 := hS.drew.alloc ((cs.toArray ++ news.toArray ++ Builtin.zeroCells z.cells (N - (m + m2))).toList) e
  rw [Array.toArray_toList] at h1
  have hlen : ((cs.toArray ++ news.toArray ++ Builtin.zeroCells z.cells (N - (m + m2))).toList).length = N := by
    simp only [Array.length_toList, Array.size_append, List.size_toArray, size_zeroCells, hzs, hcl, hl]
    omega
  have h2 := (h1.blkRow 1 N (by rw [hlen, Nat.mul_one]) hle).rowPre (m + m2) hge
  rw [Nat.mul_one] at h2
  have h3 : ((cs.toArray ++ news.toArray ++ Builtin.zeroCells z.cells (N - (m + m2))).toList).take (m + m2) = cs ++ news := by
    rw [Array.toList_append, Array.toList_append]
    exact List.take_left' (show (cs ++ news).length = m + m2 by rw [List.length_append]; omega)
  rw [h3] at h2
  exact h2
end
attribute [local irreducible] Rd hRow hBlk hRd hRdr Fn hMarks
/-- how many sectors a frame of so many bytes fills, of whatever number -/
def secI (n : Int) : Int := if n < 0 ∨ 40000 < n then 0 else (n + 51) / 48
theorem secI_nat (n : Nat) : secI (n : Int) = (secN n : Int) := by
  unfold secI secN
  split
  · rw [if_pos (by omega)]; rfl
  · rw [if_neg (by omega)]; omega
section
variable {H : List HP} {w0 w : World}
set_option maxHeartbeats 8000000
theorem rsectorsI (n : Int) (hn : -9223372036854775808 ≤ n ∧ n ≤ 9223372036854775807) (w0 : World) : Fn Try.prog 37 [.int .i64 n] w0 fun v w' => v = .int .i64 (secI n) ∧ St w0 w' [] := by
  refine enter 13 Try.func37 rfl rfl rfl ?_
  intro a hE
  have hS := St.start w0
  by_cases h : n < 0 ∨ 40000 < n
  · have e : secI n = 0 := if_pos h
    rw [e]
    repeat' (first
 | (with_reducible refine wp_seq ?_)
 | (with_reducible refine c_region ?_)
 | (with_reducible refine wpList_nil ?_)
 | (with_reducible refine then_normal ?_)
 | (with_reducible refine wp_ret ?_)
 | (with_reducible refine then_ret ?_)
 | ((with_reducible refine g_move ?_); refine s_move hE rfl rfl ?_; clear hE a; intro a hE)
 | ((with_reducible refine g_assign ?_); refine s_assign hE rfl rfl ?_; clear hE a; intro a hE)
 | ((with_reducible refine g_bin .lss ?_); refine s_lss hE rfl rfl rfl ?_; clear hE a; intro a hE)
 | ((with_reducible refine g_bin .gtr ?_); refine s_gtr hE rfl rfl rfl ?_; clear hE a; intro a hE)
 | ((with_reducible refine g_guard ?_); refine gd_yes hE rfl rfl rfl ?_)
 | ((with_reducible refine g_guard ?_); refine gd_no hE rfl rfl rfl rfl ?_; clear hE a; intro a hE)
 | ((with_reducible refine g_guard ?_); refine gd_dec hE rfl rfl (fun hc hE2 => ?_) (fun hc hE2 => ?_) <;> (try omega) <;> (replace hE := hE2; clear hE2))
 | ((with_reducible refine g_pick ?_); refine s_pickT hE rfl rfl rfl ?_; clear hE a; intro a hE)
 | ((with_reducible refine g_pick ?_); refine s_pickF hE rfl rfl rfl ?_; clear hE a; intro a hE)
 | ((with_reducible refine g_cond ?_); refine c_true hE rfl ?_)
 | ((with_reducible refine g_cond ?_); refine c_dec hE rfl (fun hc => ?_) (fun hc => ?_) <;> try omega))
    all_goals exact ret1 hE rfl rfl ⟨rfl, hS⟩
  · have e : secI n = (n + 51) / 48 := if_neg h
    rw [e]
    obtain ⟨m, rfl⟩ := Int.eq_ofNat_of_zero_le (by omega : 0 ≤ n)
    have e1 : IntKind.i64.wrap (4 + (m : Int)) = ((4 + m : Nat) : Int) := by rw [wrap64_in (by omega)]; rfl
    have e3 : IntKind.i64.wrap (((4 + m : Nat) : Int) + 47) = ((m + 51 : Nat) : Int) := by rw [wrap64_in (by omega)]; omega
    have e4 : IntKind.i64.wrap (((m + 51 : Nat) : Int).tdiv ((48 : Nat) : Int)) = (((m + 51) / 48 : Nat) : Int) := quoN (by omega)
    have e5 : (((m + 51) / 48 : Nat) : Int) = ((m : Int) + 51) / 48 := by omega
    repeat' (first
 | (with_reducible refine wp_seq ?_)
 | (with_reducible refine c_region ?_)
 | (with_reducible refine wpList_nil ?_)
 | (with_reducible refine then_normal ?_)
 | (with_reducible refine wp_skip ?_)
 | (with_reducible refine wp_ret ?_)
 | ((with_reducible refine g_move ?_); refine s_move hE rfl rfl ?_; clear hE a; intro a hE)
 | ((with_reducible refine g_assign ?_); refine s_assign hE rfl rfl ?_; clear hE a; intro a hE)
 | ((with_reducible refine g_bin .lss ?_); refine s_lss hE rfl rfl rfl ?_; clear hE a; intro a hE)
 | ((with_reducible refine g_bin .gtr ?_); refine s_gtr hE rfl rfl rfl ?_; clear hE a; intro a hE)
 | ((with_reducible refine g_bin .add ?_); refine s_add hE rfl rfl rfl (by first | exact e1 | exact e3 ) ?_; clear hE a; intro a hE)
 | ((with_reducible refine g_bin .quo ?_); refine s_quo hE rfl rfl (by omega) rfl (by first | exact e4 ) ?_; clear hE a; intro a hE)
 | ((with_reducible refine g_guard ?_); refine gd_yes hE rfl rfl rfl ?_)
 | ((with_reducible refine g_pick ?_); refine s_pickF hE rfl rfl rfl ?_; clear hE a; intro a hE)
 | ((with_reducible refine g_cond ?_); refine c_dec hE rfl (fun hc => ?_) (fun hc => ?_) <;> try omega))
    rw [e5] at hE
    exact ret1 hE rfl rfl ⟨rfl, hS⟩
theorem rsectors (n : Nat) (hn : n ≤ 140737488351232) (w0 : World) : Fn Try.prog 37 [.int .i64 (n : Int)] w0 fun v w' => v = .int .i64 (secN n : Int) ∧ St w0 w' [] := by
  have h := rsectorsI (n : Int) (by omega) w0
  rw [secI_nat] at h
  exact h
theorem rarea (n : Int) (w0 : World) : Fn Try.prog 67 [.int .i64 n] w0 fun v w' => v = .bool (decide (4 ≤ n ∧ n ≤ 1000)) ∧ St w0 w' [] := by
  refine enter 9 Try.func67 rfl rfl rfl ?_
  intro a hE
  have hS := St.start w0
  repeat' (first
 | (with_reducible refine wp_seq ?_)
 | (with_reducible refine c_region ?_)
 | (with_reducible refine wpList_nil ?_)
 | (with_reducible refine then_normal ?_)
 | (with_reducible refine wp_ret ?_)
 | ((with_reducible refine g_move ?_); refine s_move hE rfl rfl ?_; clear hE a; intro a hE)
 | ((with_reducible refine g_assign ?_); refine s_assign hE rfl rfl ?_; clear hE a; intro a hE)
 | ((with_reducible refine g_bin .leq ?_); refine s_leq hE rfl rfl rfl ?_; clear hE a; intro a hE)
 | ((with_reducible refine g_bin .geq ?_); refine s_geq hE rfl rfl rfl ?_; clear hE a; intro a hE)
 | ((with_reducible refine g_guard ?_); refine gd_yes hE rfl rfl rfl ?_)
 | ((with_reducible refine g_guard ?_); refine gd_no hE rfl rfl rfl rfl ?_; clear hE a; intro a hE)
 | ((with_reducible refine g_guard ?_); refine gd_dec hE rfl rfl (fun hc hE2 => ?_) (fun hc hE2 => ?_) <;> (try omega) <;> (replace hE := hE2; clear hE2))
 | ((with_reducible refine g_pick ?_); refine s_pickT hE rfl rfl rfl ?_; clear hE a; intro a hE)
 | ((with_reducible refine g_pick ?_); refine s_pickF hE rfl rfl rfl ?_; clear hE a; intro a hE))
  · exact ret1 hE rfl rfl ⟨congrArg Value.bool (decide_eq_decide.2 (by omega)), hS⟩
  · exact ret1 hE rfl rfl ⟨by rw [decide_eq_false (by omega)], hS⟩
theorem rhigh (x n : Nat) (hx : x < 18446744073709551616) (hn : n ≤ 8) (w0 : World) :
    Fn Try.prog 88 [.int .u64 (x : Int), .int .i64 (n : Int)] w0 fun v w' => ∃ A' c', v = .slice A' (beb n x).length c' ∧ St w0 w' [hRow 5 1 A' (beb n x).length c' (bys (beb n x))] := by
  refine enter 22 Try.func88 rfl rfl rfl ?_
  intro a hE
  have hS := St.start w0
  repeat' (first
 | (with_reducible refine wp_seq ?_)
 | (with_reducible refine c_region ?_)
 | (with_reducible refine wpList_nil ?_)
 | (with_reducible refine then_normal ?_)
 | (with_reducible refine wp_block ?_)
 | ((with_reducible refine g_move ?_); refine s_move hE rfl rfl ?_; clear hE a; intro a hE)
 | ((with_reducible refine g_assign ?_); refine s_assign hE rfl rfl ?_; clear hE a; intro a hE)
 | ((with_reducible refine g_bin .sub ?_); refine s_sub hE rfl rfl rfl (by first  | exact wrap64_in (by omega) ) ?_; clear hE a; intro a hE))
  refine wp_loop_ghost (fun q a w => ∃ (ys : List Nat) (A1 : Option Addr) (c1 : Nat), ys ++ beb q x = beb n x ∧ q ≤ n ∧ St w0 w [hRow 5 1 A1 ys.length c1 (bys ys)] ∧ Env 22 [(5, .slice A1 ys.length c1), (0, .int .u64 (x : Int)), (6, .int .i64 ((q : Int) - 1))] a) n ⟨[], none, 0, rfl, Nat.le_refl _, hS.rowNil _ _, hE.sub ⟨rfl, rfl, rfl, trivial⟩⟩ ?_
  clear hE a hS
  rintro q a w ⟨ys, A2, c2, hy, hq, hS, hE⟩
  have hly := congrArg List.length hy
  simp only [List.length_append, beb_length] at hly
  by_cases hq0 : q = 0
  · subst hq0
    simp only [beb, List.append_nil] at hy
    subst hy
    repeat' (first
 | (with_reducible refine wp_seq ?_)
 | (with_reducible refine c_region ?_)
 | (with_reducible refine wpList_nil ?_)
 | (with_reducible refine then_normal ?_)
 | (with_reducible refine wp_ret ?_)
 | (with_reducible refine wp_exit ?_)
 | (with_reducible refine then_exit ?_)
 | (with_reducible refine block_same ?_)
 | ((with_reducible refine g_move ?_); refine s_move hE rfl rfl ?_; clear hE a; intro a hE)
 | ((with_reducible refine g_assign ?_); refine s_assign hE rfl rfl ?_; clear hE a; intro a hE)
 | ((with_reducible refine g_bin .geq ?_); refine s_geq hE rfl rfl rfl ?_; clear hE a; intro a hE)
 | ((with_reducible refine g_cond ?_); refine c_false hE rfl ?_))
    exact ret1 hE rfl rfl ⟨A2, c2, rfl, hS⟩
  · obtain ⟨m, rfl⟩ : ∃ m, q = m + 1 := ⟨q - 1, by omega⟩
    replace hE := hE.as (d := 6) rfl (u := .int .i64 (m : Int)) (by simp)
    repeat' (first
 | (with_reducible refine wp_seq ?_)
 | (with_reducible refine c_region ?_)
 | (with_reducible refine wpList_nil ?_)
 | (with_reducible refine then_normal ?_)
 | (with_reducible refine wp_skip ?_)
 | (with_reducible refine wp_block ?_)
 | ((with_reducible refine g_move ?_); refine s_move hE rfl rfl ?_; clear hE a; intro a hE)
 | ((with_reducible refine g_bin .geq ?_); refine s_geq hE rfl rfl rfl ?_; clear hE a; intro a hE)
 | ((with_reducible refine g_bin .mul ?_); refine s_mul hE rfl rfl rfl (by first | exact mulN (a := 8) (by omega) ) ?_; clear hE a; intro a hE)
 | ((with_reducible refine g_bin .shr ?_); refine s_shr hE rfl rfl (by omega) rfl (by first | exact shr_nat x (8 * m) 64 (by omega) ) ?_; clear hE a; intro a hE)
 | ((with_reducible refine g_conv ?_); refine s_conv hE rfl rfl (by first | exact wrap_u8_nat (x / 2 ^ (8 * m))) ?_; clear hE a; intro a hE)
 | ((with_reducible refine g_cond ?_); refine c_true hE rfl ?_))
    have e : ys.length + 1 = (ys ++ [x / 2 ^ (8 * m) % 256]).length := by simp
    refine s_append1 (s := .tmp 13) hE hS rfl rfl (by intro t h; cases h; rfl) rfl (by omega) rfl rfl rfl rfl ?_
    clear hE a hS; intro A3 c3 u a w hE hS
    rw [e] at hE hS
    repeat' (first
 | (with_reducible refine c_region ?_)
 | (with_reducible refine wpList_nil ?_)
 | (with_reducible refine then_normal ?_)
 | (with_reducible refine block_normal ?_)
 | ((with_reducible refine g_move ?_); refine s_move hE rfl rfl ?_; clear hE a; intro a hE)
 | ((with_reducible refine g_assign ?_); refine s_assign hE rfl rfl ?_; clear hE a; intro a hE)
 | ((with_reducible refine g_bin .sub ?_); refine s_sub hE rfl rfl rfl (by first | exact wrap64_in (by omega) ) ?_; clear hE a; intro a hE))
    refine ⟨m, by omega, ys ++ [x / 2 ^ (8 * m) % 256], A3, c3, ?_, by omega, by rw [bys_append]; exact hS, hE.sub ⟨rfl, rfl, rfl, trivial⟩⟩
    rw [List.append_assoc]
    simp only [beb] at hy
    exact hy
theorem rnum (A : Option Addr) (c : Nat) (ys : List Nat) (n : Nat) (w0 : World) (hr : Rd w0 A (bys ys)) (hb : Bs ys) (hl : ys.length ≤ 8) (hn : n = ys.length) :
    Fn Try.prog 92 [.slice A n c] w0 fun v w' => v = .int .u64 ((bnum 0 ys : Nat) : Int) ∧ St w0 w' [] := by
  subst hn
  refine enter 19 Try.func92 rfl rfl rfl ?_
  intro a hE
  have hS := St.start w0
  repeat' (first
 | (with_reducible refine wp_seq ?_)
 | (with_reducible refine c_region ?_)
 | (with_reducible refine wpList_nil ?_)
 | (with_reducible refine then_normal ?_)
 | (with_reducible refine wp_block ?_)
 | ((with_reducible refine g_move ?_); refine s_move hE rfl rfl ?_; clear hE a; intro a hE)
 | ((with_reducible refine g_assign ?_); refine s_assign hE rfl rfl ?_; clear hE a; intro a hE)
 | ((with_reducible refine g_blt .len ?_); refine s_len hE rfl rfl ?_; clear hE a; intro a hE))
  refine wp_loop_ghost (fun q a w => ∃ (k : Nat), k + q = ys.length ∧ St w0 w [] ∧ Env 19 [(6, .slice A ys.length c), (7, .int .i64 (ys.length : Int)), (3, .int .u64 ((bnum 0 (ys.take k) : Nat) : Int)), (8, .int .i64 (k : Int))] a) ys.length ⟨0, by omega, hS, hE.sub ⟨rfl, rfl, rfl, rfl, trivial⟩⟩ ?_
  clear hE a hS
  rintro q a w ⟨k, hk, hS, hE⟩
  by_cases hk1 : k < ys.length
  · have hst := bnum_step hb hk1 (by omega)
    have hbk : ys[k] < 256 := hb _ (List.getElem_mem hk1)
    repeat' (first
 | (with_reducible refine wp_seq ?_)
 | (with_reducible refine c_region ?_)
 | (with_reducible refine wpList_nil ?_)
 | (with_reducible refine then_normal ?_)
 | (with_reducible refine wp_skip ?_)
 | (with_reducible refine wp_block ?_)
 | (with_reducible refine block_normal ?_)
 | ((with_reducible refine g_move ?_); refine s_move hE rfl rfl ?_; clear hE a; intro a hE)
 | ((with_reducible refine g_assign ?_); refine s_assign hE rfl rfl ?_; clear hE a; intro a hE)
 | ((with_reducible refine g_bin .lss ?_); refine s_lss hE rfl rfl rfl ?_; clear hE a; intro a hE)
 | ((with_reducible refine g_bin .add ?_); refine s_add hE rfl rfl rfl (by first | exact wrap64_in (by omega) | exact wrap_u64_in (by omega) ) ?_; clear hE a; intro a hE)
 | ((with_reducible refine g_bin .mul ?_); refine s_mul hE rfl rfl rfl (by first | exact wrap_u64_in (by omega) ) ?_; clear hE a; intro a hE)
 | ((with_reducible refine g_conv ?_); refine s_conv hE rfl rfl (by first | exact wrap_u64_in (by omega) ) ?_; clear hE a; intro a hE)
 | ((with_reducible refine g_cond ?_); refine c_dec hE rfl (fun hc => ?_) (fun hc => ?_) <;> try omega)
 | ((with_reducible refine g_ia ?_); refine s_idxR hE rfl rfl (by omega) (by omega) (by (first | exact Rd.st (by assumption) hS )) (by first | (simp only [bys_length]; omega)) rfl ?_; clear hE a; intro a hE)
 | ((with_reducible refine g_load ?_); refine s_loadR hE rfl (by (first | exact Rd.st (by assumption) hS )) (by first | exact bys_getM hk1) rfl ?_; clear hE a; intro a hE))
    refine ⟨q - 1, by omega, k + 1, by omega, hS, hE.sub ⟨rfl, rfl, ?_, rfl, trivial⟩⟩
    rw [bnum_take hk1]
    rfl
  · obtain rfl : k = ys.length := by omega
    rw [List.take_length] at hE
    repeat' (first
 | (with_reducible refine wp_seq ?_)
 | (with_reducible refine c_region ?_)
 | (with_reducible refine wpList_nil ?_)
 | (with_reducible refine then_normal ?_)
 | (with_reducible refine wp_ret ?_)
 | (with_reducible refine wp_exit ?_)
 | (with_reducible refine then_exit ?_)
 | (with_reducible refine block_same ?_)
 | ((with_reducible refine g_move ?_); refine s_move hE rfl rfl ?_; clear hE a; intro a hE)
 | ((with_reducible refine g_assign ?_); refine s_assign hE rfl rfl ?_; clear hE a; intro a hE)
 | ((with_reducible refine g_bin .lss ?_); refine s_lss hE rfl rfl rfl ?_; clear hE a; intro a hE)
 | ((with_reducible refine g_cond ?_); refine c_dec hE rfl (fun hc => ?_) (fun hc => ?_) <;> try omega))
    exact ret1 hE rfl rfl ⟨rfl, hS⟩
theorem rhead (t ar : Nat) (ht : t < 4294967296) (ha : ar < 4294967296) (w0 : World) : Fn Try.prog 71 [.int .u32 (t : Int), .int .i64 (ar : Int)] w0 fun v w' => v = .agg (bys (headB t ar)).toArray ∧ St w0 w' [] := by
  refine enter 27 Try.func71 rfl rfl rfl ?_
  intro a hE
  have hS := St.start w0
  have e1 : IntKind.u64.wrap (ar : Int) = (ar : Int) := wrap_u64_in (by omega)
  have e2 : IntKind.u64.wrap (t : Int) = (t : Int) := wrap_u64_in (by omega)
  refine wp_seq ?_
  refine c_region ?_
  refine s_allocL (bys noughts) hE hS rfl rfl ?_
  clear hE a hS; intro g4 a w hE hS
  repeat' (first
 | (with_reducible refine wp_seq ?_)
 | (with_reducible refine c_region ?_)
 | (with_reducible refine wpList_nil ?_)
 | (with_reducible refine then_normal ?_)
 | ((with_reducible refine g_lit ?_); refine s_lit hE hS rfl rfl rfl rfl rfl (by first | (simp [Value.oneCell']; done)) rfl ?_; clear hE a hS; intro g a w hE hS))
  have hS2 : St w0 w [hRow 5 1 (some ⟨g, 0, none⟩) 8 8 (bys magicB), hBlk g4 80 (bys noughts)] := hS
  clear hS; have hS := hS2; clear hS2
  refine s_convB hE hS rfl rfl ?_
  clear hE a hS; intro a w hE hS
  repeat' (first
 | ((with_reducible refine g_move ?_); refine s_move hE rfl rfl ?_; clear hE a; intro a hE)
 | ((with_reducible refine g_conv ?_); refine s_conv hE rfl rfl (by first | exact e2 ) ?_; clear hE a; intro a hE))
  refine s_call hE rfl rfl rfl (rhigh t 4 (by omega) (by decide) w) ?_
  rintro _ w ⟨A1, c1, rfl, hS1⟩; clear hE a; intro a hE; replace hS := hS.frame hS1; clear hS1; try simp only [List.cons_append, List.nil_append] at hS
  rw [beb_length] at hE hS
  have hml : (bys magicB).length = 8 := rfl
  refine s_appendGrow (bytes := 1) hE hS rfl rfl ((hS.focus (k := 1) rfl).rd2) hml (hS.rdAt (k := 0) rfl) (by rw [bys_length, beb_length]) (by decide) (by decide) (by decide) rfl rfl rfl ?_
  clear hE a hS; intro A2 c2 a w hE hS
  have hS2 : St w0 w [hRow 5 1 A2 12 c2 (bys (magicB ++ beb 4 t)), hBlk g4 80 (bys noughts)] := by
    rw [show bys (magicB ++ beb 4 t) = bys magicB ++ bys (beb 4 t) from List.map_append ..]
    exact (St.selD [0, 2] 2 hS)
  clear hS; have hS := hS2; clear hS2
  repeat' (first
 | (with_reducible refine wp_seq ?_)
 | (with_reducible refine c_region ?_)
 | (with_reducible refine wpList_nil ?_)
 | (with_reducible refine then_normal ?_)
 | ((with_reducible refine g_move ?_); refine s_move hE rfl rfl ?_; clear hE a; intro a hE)
 | ((with_reducible refine g_assign ?_); refine s_assign hE rfl rfl ?_; clear hE a; intro a hE)
 | ((with_reducible refine g_conv ?_); refine s_conv hE rfl rfl (by first | exact e1 ) ?_; clear hE a; intro a hE))
  refine s_call hE rfl rfl rfl (rhigh ar 4 (by omega) (by decide) w) ?_
  rintro _ w ⟨A3, c3, rfl, hS1⟩; clear hE a; intro a hE; replace hS := hS.frame hS1; clear hS1; try simp only [List.cons_append, List.nil_append] at hS
  rw [beb_length] at hE hS
  refine s_appendAt (k := 1) hE hS rfl rfl rfl (hS.rdAt (k := 0) rfl) (by rw [bys_length, beb_length]) (bys_one _) (by decide) rfl rfl rfl rfl ?_
  clear hE a hS; intro A4 c4 a w hE hS
  simp only [List.set_cons_zero, List.set_cons_succ] at hS
  have hA : headA t ar = magicB ++ beb 4 t ++ beb 4 ar ++ List.replicate 44 0 := rfl
  have hS2 : St w0 w [hRow 5 1 A4 16 c4 (bys (magicB ++ beb 4 t ++ beb 4 ar)), hBlk g4 80 (bys noughts)] := by
    rw [show bys (magicB ++ beb 4 t ++ beb 4 ar) = bys (magicB ++ beb 4 t) ++ bys (beb 4 ar) from List.map_append ..]
    exact (St.selD [1, 1] 1 hS)
  clear hS; have hS := hS2; clear hS2
  generalize magicB ++ beb 4 t ++ beb 4 ar = b16 at hS hA
  repeat' (first
 | ((with_reducible refine g_appZ ?_); refine s_appendZ (k := 0) (j := 44) (bytes := 1) (z := .int .u8 0) hE hS rfl rfl rfl rfl rfl rfl rfl (by decide) rfl ?_; clear hE a hS; intro A5 c5 a w hE hS; simp only [List.set_cons_zero, Nat.reduceAdd] at hE hS)
 | (with_reducible refine wp_seq ?_)
 | (with_reducible refine c_region ?_)
 | (with_reducible refine wpList_nil ?_)
 | (with_reducible refine then_normal ?_)
 | ((with_reducible refine g_move ?_); refine s_move hE rfl rfl ?_; clear hE a; intro a hE)
 | ((with_reducible refine g_assign ?_); refine s_assign hE rfl rfl ?_; clear hE a; intro a hE))
  rename_i A5 c5 _ _
  have e3 : bys b16 ++ List.replicate 44 (Value.int .u8 0) = bys (headA t ar) := by
    rw [hA]
    unfold bys
    rw [List.map_append, List.map_replicate]
    rfl
  rw [e3] at hS
  refine s_call hE rfl rfl rfl (rsum32S A5 c5 (headA t ar) 60 w (hS.rdAt (k := 0) rfl) (headA_bs t ar) (by rw [headA_len]; decide) (headA_len t ar).symm) ?_
  rintro _ w ⟨rfl, hS1⟩; clear hE a; intro a hE; replace hS := hS.frame hS1; clear hS1; try simp only [List.cons_append, List.nil_append] at hS
  skip
  have hcl := crc32_lt (headA t ar) (headA_bs t ar)
  refine s_call hE rfl rfl rfl (rhigh (crc32 (headA t ar)) 4 (by omega) (by decide) w) ?_
  rintro _ w ⟨A6, c6, rfl, hS1⟩; clear hE a; intro a hE; replace hS := hS.frame hS1; clear hS1; try simp only [List.cons_append, List.nil_append] at hS
  rw [beb_length] at hE hS
  refine s_appendAt (k := 1) hE hS rfl rfl rfl (hS.rdAt (k := 0) rfl) (by rw [bys_length, beb_length]) (bys_one _) (by decide) rfl rfl rfl rfl ?_
  clear hE a hS; intro A4 c4 a w hE hS
  simp only [List.set_cons_zero, List.set_cons_succ] at hS
  have hS2 : St w0 w [hRow 5 1 A4 64 c4 (bys (headB t ar)), hBlk g4 80 (bys noughts)] := by
    rw [show bys (headB t ar) = bys (headA t ar) ++ bys (beb 4 (crc32 (headA t ar))) from List.map_append ..]
    exact (St.selD [1, 1] 1 hS)
  clear hS; have hS := hS2; clear hS2
  have hbl : (bys (headB t ar)).length = 64 := by rw [bys_length]; exact headB_len t ar
  repeat' (first
 | (with_reducible refine wp_seq ?_)
 | (with_reducible refine c_region ?_)
 | (with_reducible refine wpList_nil ?_)
 | (with_reducible refine then_normal ?_)
 | ((with_reducible refine g_move ?_); refine s_move hE rfl rfl ?_; clear hE a; intro a hE)
 | ((with_reducible refine g_assign ?_); refine s_assign hE rfl rfl ?_; clear hE a; intro a hE))
  obtain ⟨hA4, _⟩ := (hS.rdAt (k := 0) rfl).some (List.getElem?_eq_getElem (show 0 < (bys (headB t ar)).length by omega))
  obtain ⟨ad, rfl⟩ : ∃ ad, A4 = some ad := ⟨_, hA4⟩
  refine s_val hE rfl rfl rfl (r_toArr hE rfl (by omega)) ?_
  clear hE a; intro a hE
  refine s_loadA (ad := ad) (cs := bys (headB t ar)) hE rfl hbl (rd_all (hS.rdAt (k := 0) rfl)) rfl ?_
  clear hE a; intro a hE
  have hnl : (bys noughts).length = 64 := by rw [bys_length]; exact noughts_ok.1
  have hone := bys_one (headB t ar)
  repeat' (first
 | (with_reducible refine wpList_nil ?_)
 | (with_reducible refine then_normal ?_)
 | (with_reducible refine wp_ret ?_)
 | ((with_reducible refine g_store ?_); (first | (refine s_storeW (k := 1) hS hE rfl rfl rfl (by assumption) (by first | rfl ) (by first | exact bys_one _ ) ?_) ); clear hS; intro w hS; simp only [List.set_cons_zero, List.set_cons_succ, Nat.add_zero] at hS))
  exact retG (vs := [_]) hE rfl ⟨⟨_, rfl, res_W (k := 1) hS rfl hbl⟩, trivial⟩ ⟨rfl, hS.nil⟩
end
end Go.Proofs.Ytfoeelghehjanaa
/-
  Contract of the document's log: the sectors of a frame.
-/
namespace Go.Proofs.Ytfoeelghehjanaa
open Go.RowKit
set_option linter.unusedVariables false
set_option linter.unusedSimpArgs false
attribute [local irreducible] Rd hRow hBlk hRd hRdr Fn hMarks
theorem flat_bys {l : List Blk} (h : ∀ x ∈ l, Blk.ok x) : (l.flatMap bys).length = l.length * 64 := flat_len (fun x => by
  intro hx
  rw [bys_length]; exact (h x hx).1)
section
variable {H : List HP} {w0 w : World}
set_option maxHeartbeats 8000000
theorem rframe (t n : Nat) (b : List Nat) (A : Option Addr) (c m : Nat) (hm : m = b.length) (ht : t < 4294967296) (hn : n < 4294967296) (hb : Bs b) (hl : b.length ≤ 40000) (w0 : World) (hr : Rd w0 A (bys b)) :
    Fn Try.prog 70 [.int .u32 (t : Int), .int .u32 (n : Int), .slice A m c] w0 fun v w' => ∃ A' c', v = .slice A' (secN b.length) c' ∧ St w0 w' [hRow 80 64 A' (secN b.length) c' ((partsB t n b).flatMap bys)] := by
  subst hm
  have hS := St.start w0
  have hsec := secN_le b.length
  have hfit := secN_fit hl
  have hAl := allB_len hl
  have e1 : IntKind.u64.wrap (b.length : Int) = (b.length : Int) := wrap_u64_in (by omega)
  have e2 : IntKind.u64.wrap (t : Int) = (t : Int) := wrap_u64_in (by omega)
  have e3 : IntKind.u64.wrap (n : Int) = (n : Int) := wrap_u64_in (by omega)
  have e4 : IntKind.i64.wrap (48 * (secN b.length : Int)) = ((48 * secN b.length : Nat) : Int) := by rw [wrap64_in (by omega)]; omega
  have e5 : IntKind.u64.wrap (secN b.length : Int) = (secN b.length : Int) := wrap_u64_in (by omega)
  refine enter 77 Try.func70 rfl rfl rfl ?_
  intro a hE
  repeat' (first
 | (with_reducible refine wp_seq ?_)
 | (with_reducible refine c_region ?_)
 | (with_reducible refine wpList_nil ?_)
 | (with_reducible refine then_normal ?_)
 | ((with_reducible refine g_move ?_); refine s_move hE rfl rfl ?_; clear hE a; intro a hE)
 | ((with_reducible refine g_assign ?_); refine s_assign hE rfl rfl ?_; clear hE a; intro a hE)
 | ((with_reducible refine g_blt .len ?_); refine s_len hE rfl rfl ?_; clear hE a; intro a hE))
  refine s_call hE rfl rfl rfl (rsectors b.length (by omega) w0) ?_
  rintro _ w ⟨rfl, hS1⟩; clear hE a; intro a hE; replace hS := hS.frame hS1; clear hS1; try simp only [List.cons_append, List.nil_append] at hS
  repeat' (first
 | (with_reducible refine wp_seq ?_)
 | (with_reducible refine c_region ?_)
 | (with_reducible refine wpList_nil ?_)
 | (with_reducible refine then_normal ?_)
 | ((with_reducible refine g_move ?_); refine s_move hE rfl rfl ?_; clear hE a; intro a hE)
 | ((with_reducible refine g_assign ?_); refine s_assign hE rfl rfl ?_; clear hE a; intro a hE)
 | ((with_reducible refine g_conv ?_); refine s_conv hE rfl rfl (by first | exact e1 ) ?_; clear hE a; intro a hE)
 | ((with_reducible refine g_blt .len ?_); refine s_len hE rfl rfl ?_; clear hE a; intro a hE))
  refine s_call hE rfl rfl rfl (rhigh b.length 4 (by omega) (by decide) w) ?_
  rintro _ w ⟨A1, c1, rfl, hS1⟩; clear hE a; intro a hE; replace hS := hS.frame hS1; clear hS1; try simp only [List.cons_append, List.nil_append] at hS
  repeat' (first
 | ((with_reducible refine g_move ?_); refine s_move hE rfl rfl ?_; clear hE a; intro a hE))
  refine s_appendB (k := 0) (ys := b) hE hS rfl rfl rfl (hr.st hS) rfl rfl (by rw [beb_length]; omega) rfl rfl rfl ?_
  clear hE a hS; intro A2 c2 a w hE hS
  simp only [List.set_cons_zero] at hS
  repeat' (first
 | (with_reducible refine wp_seq ?_)
 | (with_reducible refine wpList_nil ?_)
 | (with_reducible refine then_normal ?_)
 | (with_reducible refine wp_block ?_)
 | ((with_reducible refine g_assign ?_); refine s_assign hE rfl rfl ?_; clear hE a; intro a hE))
  have hfull : allB b = beb 4 b.length ++ b ++ List.replicate (secN b.length * 48 - (4 + b.length)) 0 := rfl
  have hpl : (beb 4 b.length ++ b).length = 4 + b.length := by rw [List.length_append, beb_length]
  refine wp_loop_ghost (fun q a w => ∃ (ys : List Nat) (A1 : Option Addr) (c1 : Nat), ys.length + q = secN b.length * 48 ∧ ys ++ List.replicate q 0 = allB b ∧ St w0 w [hRow 5 1 A1 ys.length c1 (bys ys)] ∧
    Env 77 [(0, .int .u32 (t : Int)), (1, .int .u32 (n : Int)), (7, .int .i64 (secN b.length : Int)), (8, .slice A1 ys.length c1)] a) (secN b.length * 48 - (4 + b.length)) ⟨beb 4 b.length ++ b, A2, c2, by omega, rfl, hS, hE.sub ⟨rfl, rfl, rfl, rfl, trivial⟩⟩ ?_
  clear hE a hS
  rintro q a w ⟨ys, A3, c3, hyl, hys, hS, hE⟩
  by_cases hq : q = 0
  · subst hq
    obtain rfl : ys = allB b := by rw [← hys]; simp
    repeat' (first
 | (with_reducible refine wp_seq ?_)
 | (with_reducible refine c_region ?_)
 | (with_reducible refine wpList_nil ?_)
 | (with_reducible refine then_normal ?_)
 | (with_reducible refine wp_block ?_)
 | (with_reducible refine wp_exit ?_)
 | (with_reducible refine then_exit ?_)
 | (with_reducible refine block_same ?_)
 | ((with_reducible refine g_move ?_); refine s_move hE rfl rfl ?_; clear hE a; intro a hE)
 | ((with_reducible refine g_assign ?_); refine s_assign hE rfl rfl ?_; clear hE a; intro a hE)
 | ((with_reducible refine g_bin .lss ?_); refine s_lss hE rfl rfl rfl ?_; clear hE a; intro a hE)
 | ((with_reducible refine g_bin .mul ?_); refine s_mul hE rfl rfl rfl (by first | exact e4 ) ?_; clear hE a; intro a hE)
 | ((with_reducible refine g_blt .len ?_); refine s_len hE rfl rfl ?_; clear hE a; intro a hE)
 | ((with_reducible refine g_cond ?_); refine c_dec hE rfl (fun hc => ?_) (fun hc => ?_) <;> try omega))
    have hS2 : St w0 w [hRow 80 64 none 0 0 (((partsB t n b).take 0).flatMap bys), hRow 5 1 A3 (allB b).length c3 (bys (allB b))] := St.rowNil hS _ _
    clear hS; have hS := hS2; clear hS2
    refine wp_loop_ghost (fun q a w => ∃ (k : Nat) (A4 : Option Addr) (c4 : Nat), k + q = secN b.length ∧ St w0 w [hRow 80 64 A4 k c4 (((partsB t n b).take k).flatMap bys), hRow 5 1 A3 (allB b).length c3 (bys (allB b))] ∧
      Env 77 [(0, .int .u32 (t : Int)), (1, .int .u32 (n : Int)), (7, .int .i64 (secN b.length : Int)), (8, .slice A3 (allB b).length c3), (9, .slice A4 k c4), (31, .int .i64 (secN b.length : Int)), (32, .int .i64 (k : Int))] a) (secN b.length) ⟨0, none, 0, by omega, hS, hE.sub ⟨rfl, rfl, rfl, rfl, rfl, rfl, rfl, trivial⟩⟩ ?_
    clear hE a hS
    rintro q a w ⟨k, A4, c4, hk, hS, hE⟩
    by_cases hk1 : k < secN b.length
    · have hbl := bodyB_len hl hk1
      have hbb := bodyB_bs hb k
      have hpk := partB_ok (t := t) (n := n) hb hl hk1
      have e6 : IntKind.u64.wrap (k : Int) = (k : Int) := wrap_u64_in (by omega)
      have e7 : IntKind.i64.wrap (48 * (k : Int)) = ((48 * k : Nat) : Int) := by rw [wrap64_in (by omega)]; omega
      have e8 : IntKind.i64.wrap (((48 * k : Nat) : Int) + 48) = ((48 * k + 48 : Nat) : Int) := by rw [wrap64_in (by omega)]; omega
      have htk : (partsB t n b).take (k + 1) = (partsB t n b).take k ++ [partB t n b k] := by
        have hkl : k < (partsB t n b).length := by rw [partsB_len]; exact hk1
        rw [List.take_succ_eq_append_getElem hkl]
        congr 2
        simp [partsB]
      repeat' (first
 | (with_reducible refine wp_seq ?_)
 | (with_reducible refine c_region ?_)
 | (with_reducible refine wpList_nil ?_)
 | (with_reducible refine then_normal ?_)
 | (with_reducible refine wp_skip ?_)
 | (with_reducible refine wp_block ?_)
 | ((with_reducible refine g_move ?_); refine s_move hE rfl rfl ?_; clear hE a; intro a hE)
 | ((with_reducible refine g_assign ?_); refine s_assign hE rfl rfl ?_; clear hE a; intro a hE)
 | ((with_reducible refine g_bin .lss ?_); refine s_lss hE rfl rfl rfl ?_; clear hE a; intro a hE)
 | ((with_reducible refine g_conv ?_); refine s_conv hE rfl rfl (by first | exact e2 ) ?_; clear hE a; intro a hE)
 | ((with_reducible refine g_cond ?_); refine c_dec hE rfl (fun hc => ?_) (fun hc => ?_) <;> try omega))
      refine s_call hE rfl rfl rfl (rhigh t 4 (by omega) (by decide) w) ?_
      rintro _ w ⟨A5, c5, rfl, hS1⟩; clear hE a; intro a hE; replace hS := hS.frame hS1; clear hS1; try simp only [List.cons_append, List.nil_append] at hS
      repeat' (first
 | ((with_reducible refine g_move ?_); refine s_move hE rfl rfl ?_; clear hE a; intro a hE)
 | ((with_reducible refine g_conv ?_); refine s_conv hE rfl rfl (by first | exact e3 ) ?_; clear hE a; intro a hE))
      refine s_call hE rfl rfl rfl (rhigh n 4 (by omega) (by decide) w) ?_
      rintro _ w ⟨A6, c6, rfl, hS1⟩; clear hE a; intro a hE; replace hS := hS.frame hS1; clear hS1; try simp only [List.cons_append, List.nil_append] at hS
      refine s_appendB (k := 1) (ys := beb 4 n) hE hS rfl rfl rfl (hS.rdAt (k := 0) rfl) rfl rfl (by rw [beb_length, beb_length]; decide) rfl rfl rfl ?_
      clear hE a hS; intro A7 c7 a w hE hS
      simp only [List.set_cons_zero, List.set_cons_succ] at hS
      replace hS := (St.selD [1, 1, 1] 1 hS)
      repeat' (first
 | (with_reducible refine wp_seq ?_)
 | (with_reducible refine c_region ?_)
 | (with_reducible refine wpList_nil ?_)
 | (with_reducible refine then_normal ?_)
 | ((with_reducible refine g_move ?_); refine s_move hE rfl rfl ?_; clear hE a; intro a hE)
 | ((with_reducible refine g_assign ?_); refine s_assign hE rfl rfl ?_; clear hE a; intro a hE)
 | ((with_reducible refine g_conv ?_); refine s_conv hE rfl rfl (by first | exact e6 ) ?_; clear hE a; intro a hE))
      refine s_call hE rfl rfl rfl (rhigh k 2 (by omega) (by decide) w) ?_
      rintro _ w ⟨A6, c6, rfl, hS1⟩; clear hE a; intro a hE; replace hS := hS.frame hS1; clear hS1; try simp only [List.cons_append, List.nil_append] at hS
      refine s_appendB (k := 1) (ys := beb 2 k) hE hS rfl rfl rfl (hS.rdAt (k := 0) rfl) rfl rfl (by rw [List.length_append, beb_length, beb_length, beb_length]; decide) rfl rfl rfl ?_
      clear hE a hS; intro A7 c7 a w hE hS
      simp only [List.set_cons_zero, List.set_cons_succ] at hS
      replace hS := (St.selD [1, 1, 1] 1 hS)
      repeat' (first
 | ((with_reducible refine g_move ?_); refine s_move hE rfl rfl ?_; clear hE a; intro a hE)
 | ((with_reducible refine g_conv ?_); refine s_conv hE rfl rfl (by first | exact e5 ) ?_; clear hE a; intro a hE))
      refine s_call hE rfl rfl rfl (rhigh (secN b.length) 2 (by omega) (by decide) w) ?_
      rintro _ w ⟨A6, c6, rfl, hS1⟩; clear hE a; intro a hE; replace hS := hS.frame hS1; clear hS1; try simp only [List.cons_append, List.nil_append] at hS
      refine s_appendB (k := 1) (ys := beb 2 (secN b.length)) hE hS rfl rfl rfl (hS.rdAt (k := 0) rfl) rfl rfl (by rw [List.length_append, List.length_append, beb_length, beb_length, beb_length, beb_length]; decide) rfl rfl rfl ?_
      clear hE a hS; intro A7 c7 a w hE hS
      simp only [List.set_cons_zero, List.set_cons_succ] at hS
      replace hS := (St.selD [1, 1, 1] 1 hS)
      rw [show beb 4 t ++ beb 4 n ++ beb 2 k ++ beb 2 (secN b.length) = stampB t n (secN b.length) k from rfl] at hS hE
      have hst := stampB_len t n (secN b.length) k
      have hsb := stampB_bs t n (secN b.length) k
      have hpe : partB t n b k = stampB t n (secN b.length) k ++ beb 4 (crc32 (stampB t n (secN b.length) k ++ bodyB b k)) ++ bodyB b k := rfl
      generalize stampB t n (secN b.length) k = st at hS hE hst hsb hpe
      obtain ⟨_, hcap, _⟩ := hS.lenAt (k := 2) rfl
      repeat' (first
 | (with_reducible refine wp_seq ?_)
 | (with_reducible refine c_region ?_)
 | (with_reducible refine wpList_nil ?_)
 | (with_reducible refine then_normal ?_)
 | ((with_reducible refine g_move ?_); refine s_move hE rfl rfl ?_; clear hE a; intro a hE)
 | ((with_reducible refine g_assign ?_); refine s_assign hE rfl rfl ?_; clear hE a; intro a hE)
 | ((with_reducible refine g_bin .add ?_); refine s_add hE rfl rfl rfl (by first | exact e8 ) ?_; clear hE a; intro a hE)
 | ((with_reducible refine g_bin .mul ?_); refine s_mul hE rfl rfl rfl (by first | exact e7 ) ?_; clear hE a; intro a hE)
 | ((with_reducible refine g_lit ?_); refine s_lit hE hS rfl rfl rfl rfl rfl (by first | (simp [Value.oneCell']; done)) rfl ?_; clear hE a hS; intro g a w hE hS)
 | ((with_reducible refine g_sliceLH ?_); refine s_val hE rfl rfl rfl (r_cutLH hE rfl rfl rfl (by omega) (by omega)) ?_; clear hE a; intro a hE))
      rw [Int.toNat_natCast, Int.toNat_natCast, if_neg (show ¬ c3 = 48 * k by omega), show 48 * k + 48 - 48 * k = 48 by omega, Nat.mul_one] at hE
      have hbody : ∀ w', Rd w' A3 (bys (allB b)) → Rd w' (A3.map (·.add (48 * k))) (bys (bodyB b k)) := fun w' h => by
        have h1 := (h.drop (48 * k)).take 48
        unfold bodyB
        rw [bys_take, bys_drop, Nat.mul_comm k 48]
        exact h1
      have hS2 : St w0 w [hRow 5 1 (some ⟨g, 0, none⟩) 0 0 [], hRow 5 1 A7 st.length c7 (bys st), hRow 80 64 A4 k c4 (((partsB t n b).take k).flatMap bys), hRow 5 1 A3 (allB b).length c3 (bys (allB b))] := hS
      clear hS; have hS := hS2; clear hS2
      refine s_appendB0 (k := 0) (ys := st) hE hS rfl rfl rfl (hS.rdAt (k := 1) rfl) rfl rfl (by rw [hst]; decide) rfl rfl rfl ?_
      clear hE a hS; intro A8 c8 a w hE hS
      simp only [List.set_cons_zero, List.set_cons_succ] at hS
      repeat' (first
 | ((with_reducible refine g_move ?_); refine s_move hE rfl rfl ?_; clear hE a; intro a hE))
      refine s_appendB (k := 0) (ys := bodyB b k) hE hS rfl rfl rfl (hbody _ (hS.rdAt (k := 3) rfl)) rfl hbl.symm (by rw [hst, hbl]; decide) rfl rfl rfl ?_
      clear hE a hS; intro A9 c9 a w hE hS
      simp only [List.set_cons_zero, List.set_cons_succ] at hS
      have hsbb : Bs (st ++ bodyB b k) := Bs.app hsb hbb
      have hcl := crc32_lt (st ++ bodyB b k) hsbb
      refine s_call hE rfl rfl rfl (rsum32S A9 c9 (st ++ bodyB b k) _ w (hS.rdAt (k := 0) rfl) hsbb (by rw [List.length_append, hst, hbl]; decide) rfl) ?_
      rintro _ w ⟨rfl, hS1⟩; clear hE a; intro a hE; replace hS := hS.frame hS1; clear hS1; try simp only [List.cons_append, List.nil_append] at hS
      generalize crc32 (st ++ bodyB b k) = cr at hE hS hcl hpe
      repeat' (first
 | (with_reducible refine c_region ?_)
 | (with_reducible refine wpList_nil ?_)
 | (with_reducible refine then_normal ?_)
 | ((with_reducible refine g_move ?_); refine s_move hE rfl rfl ?_; clear hE a; intro a hE)
 | ((with_reducible refine g_assign ?_); refine s_assign hE rfl rfl ?_; clear hE a; intro a hE))
      refine s_call hE rfl rfl rfl (rhigh cr 4 (by omega) (by decide) w) ?_
      rintro _ w ⟨A10, c10, rfl, hS1⟩; clear hE a; intro a hE; replace hS := hS.frame hS1; clear hS1; try simp only [List.cons_append, List.nil_append] at hS
      refine s_appendB (k := 2) (ys := beb 4 cr) hE hS rfl rfl rfl (hS.rdAt (k := 0) rfl) rfl rfl (by rw [hst, beb_length]; decide) rfl rfl rfl ?_
      clear hE a hS; intro A11 c11 a w hE hS
      simp only [List.set_cons_zero, List.set_cons_succ] at hS
      repeat' (first
 | ((with_reducible refine g_move ?_); refine s_move hE rfl rfl ?_; clear hE a; intro a hE))
      refine s_appendB (k := 2) (ys := bodyB b k) hE hS rfl rfl rfl (hbody _ (hS.rdAt (k := 4) rfl)) rfl hbl.symm (by rw [List.length_append, hst, beb_length, hbl]; decide) rfl rfl rfl ?_
      clear hE a hS; intro A12 c12 a w hE hS
      simp only [List.set_cons_zero, List.set_cons_succ] at hS
      rw [← hpe] at hE hS
      have hpk2 : (bys (partB t n b k)).length = 64 := by rw [bys_length]; exact hpk.1
      have hpk3 : (bys (partB t n b k)).length = 1 * 64 := hpk2
      generalize partB t n b k = x at hE hS hpk hpk2 hpk3 htk
      obtain ⟨hA12, _⟩ := (hS.rdAt (k := 2) rfl).some (List.getElem?_eq_getElem (show 0 < (bys x).length by omega))
      obtain ⟨ad, rfl⟩ : ∃ ad, A12 = some ad := ⟨_, hA12⟩
      refine s_val hE rfl rfl rfl (r_toArr hE rfl (by rw [hpk.1]; decide)) ?_
      clear hE a; intro a hE
      refine s_loadA (ad := ad) (cs := bys x) hE rfl hpk2 (rd_all (hS.rdAt (k := 2) rfl)) rfl ?_
      clear hE a; intro a hE
      refine s_litA (vs := bys x) hE hS rfl hpk2 rfl rfl rfl ?_
      clear hE a hS; intro gl a w hE hS
      refine s_appendAt (k := 4) (size := 64) (bytes := 64) hE hS rfl rfl rfl (hS.rdAt (k := 0) rfl) hpk3 (bys_one _) (by omega) rfl rfl rfl rfl ?_
      clear hE a hS; intro A6 c6 a w hE hS
      simp only [List.set_cons_succ, List.set_cons_zero] at hS
      rw [show (((partsB t n b).take k).flatMap bys) ++ bys x = ((partsB t n b).take (k + 1)).flatMap bys from by rw [htk, List.flatMap_append, List.flatMap_singleton]] at hS
      repeat' (first
 | (with_reducible refine c_region ?_)
 | (with_reducible refine wpList_nil ?_)
 | (with_reducible refine then_normal ?_)
 | (with_reducible refine block_normal ?_)
 | ((with_reducible refine g_move ?_); refine s_move hE rfl rfl ?_; clear hE a; intro a hE)
 | ((with_reducible refine g_assign ?_); refine s_assign hE rfl rfl ?_; clear hE a; intro a hE)
 | ((with_reducible refine g_bin .add ?_); refine s_add hE rfl rfl rfl (by first  | exact wrap64_in (by omega) ) ?_; clear hE a; intro a hE))
      exact ⟨q - 1, by omega, k + 1, A6, c6, by omega, (St.selD [4, 4] 4 hS), hE.sub ⟨rfl, rfl, rfl, rfl, rfl, rfl, rfl, trivial⟩⟩
    · obtain rfl : k = secN b.length := by omega
      repeat' (first
 | (with_reducible refine wp_seq ?_)
 | (with_reducible refine c_region ?_)
 | (with_reducible refine wpList_nil ?_)
 | (with_reducible refine then_normal ?_)
 | (with_reducible refine wp_ret ?_)
 | (with_reducible refine wp_exit ?_)
 | (with_reducible refine then_exit ?_)
 | (with_reducible refine block_same ?_)
 | ((with_reducible refine g_move ?_); refine s_move hE rfl rfl ?_; clear hE a; intro a hE)
 | ((with_reducible refine g_assign ?_); refine s_assign hE rfl rfl ?_; clear hE a; intro a hE)
 | ((with_reducible refine g_bin .lss ?_); refine s_lss hE rfl rfl rfl ?_; clear hE a; intro a hE)
 | ((with_reducible refine g_cond ?_); refine c_dec hE rfl (fun hc => ?_) (fun hc => ?_) <;> try omega))
      rw [List.take_of_length_le (by rw [partsB_len]; exact Nat.le_refl _)] at hS
      exact ret1 hE rfl rfl ⟨A4, c4, rfl, hS.only 0 rfl⟩
  · repeat' (first
 | (with_reducible refine wp_seq ?_)
 | (with_reducible refine c_region ?_)
 | (with_reducible refine wpList_nil ?_)
 | (with_reducible refine then_normal ?_)
 | (with_reducible refine wp_skip ?_)
 | (with_reducible refine wp_block ?_)
 | (with_reducible refine block_normal ?_)
 | ((with_reducible refine g_move ?_); refine s_move hE rfl rfl ?_; clear hE a; intro a hE)
 | ((with_reducible refine g_assign ?_); refine s_assign hE rfl rfl ?_; clear hE a; intro a hE)
 | ((with_reducible refine g_bin .lss ?_); refine s_lss hE rfl rfl rfl ?_; clear hE a; intro a hE)
 | ((with_reducible refine g_bin .mul ?_); refine s_mul hE rfl rfl rfl (by first | exact e4 ) ?_; clear hE a; intro a hE)
 | ((with_reducible refine g_blt .len ?_); refine s_len hE rfl rfl ?_; clear hE a; intro a hE)
 | ((with_reducible refine g_cond ?_); refine c_dec hE rfl (fun hc => ?_) (fun hc => ?_) <;> try omega)
 | ((with_reducible refine g_lit ?_); refine s_lit hE hS rfl rfl rfl rfl rfl (by first | (simp [Value.oneCell']; done)) rfl ?_; clear hE a hS; intro g a w hE hS)
 | ((with_reducible refine g_blt .append ?_); (first | (refine s_appendAt (k := 1) hE hS rfl rfl rfl (by (first | exact hS.rd )) (by (first | rfl )) (by (first | (simp [Value.oneCell']; done))) (by omega) rfl rfl rfl rfl ?_) ); clear hE a hS; intro A c a w hE hS; simp only [List.set_cons_zero, List.set_cons_succ, Nat.add_zero] at hS))
    have e : ys.length + 1 = (ys ++ [0]).length := by simp
    rw [e] at hE hS
    refine ⟨q - 1, by omega, ys ++ [0], _, _, by rw [← e]; omega, ?_, by rw [bys_append]; exact (St.selD [1] 1 hS), hE.sub ⟨rfl, rfl, rfl, rfl, trivial⟩⟩
    rw [List.append_assoc, ← hys]
    obtain ⟨m, rfl⟩ : ∃ m, q = m + 1 := ⟨q - 1, by omega⟩
    rfl
end
end Go.Proofs.Ytfoeelghehjanaa
/-
  Contract of the document's log: the head that counts.
-/
namespace Go.Proofs.Ytfoeelghehjanaa
open Go.RowKit
set_option linter.unusedVariables false
set_option linter.unusedSimpArgs false
section
variable {P : Program} {n d : Nat} {L : List (Nat × Value)} {a : Act} {w : World} {ty : TypeId} {ps : String} {af : Array Edge} {x y z : Operand} {gd : Option (Nat × Bool)}
theorem r_sliceALH {t e len size b lo hi : Nat} {zz : Value} {ad : Addr} {k k2 : IntKind} [TyU P t (.array len e)] [TyI P e size zz b] (hE : Env n L a) (hx : ev L x = some (.pointer (some ad))) (hy : ev L y = some (.int k (lo : Int))) (hz : ev L z = some (.int k2 (hi : Int))) (h1 : lo ≤ hi) (h2 : hi ≤ len) (h3 : lo < len) :
    (execOp a.eval ⟨some d, .slice t x (some y) (some z) none, ty, ps, af, gd⟩).run P w = .ok (.value (.slice (some (ad.add (lo * size))) (hi - lo) (len - lo))) w := by
  have h4 : ¬ len = lo := by omega
  simp [execOp, Instr.sliceAt, Instr.sureAddr, Instr.sliceBounds, hE.eval hx, hE.eval hy, hE.eval hz, run_under (d := .array len e), run_size (size := size) (zero := zz) (bytes := b), run_bound (hi : Int) k2 len _ ⟨by omega, by omega⟩, run_bound (lo : Int) k hi _ ⟨by omega, by omega⟩, h4]
end
theorem rd_sub {w : World} {A : Option Addr} {l : List Blk} (h : Rd w A (l.flatMap bys)) (hl : ∀ b ∈ l, Blk.ok b) {k o n : Nat} (hk : k < l.length) : Rd w (some (((adr A).add (k * 64)).add (o * 1))) (bys (((l.getD k noughts).drop o).take n)) := by
  intro hne
  have hfl := flat_seg (c := bys) (size := 64) (l := l) (blk_len hl) hk
  have hll : (l.flatMap bys).length = l.length * 64 := flat_len (blk_len hl)
  obtain ⟨hA, _⟩ := h.some (List.getElem?_eq_getElem (show k * 64 < (l.flatMap bys).length by omega))
  have hs := h.seg hA (k * 64) 64
  rw [hfl] at hs
  refine ⟨_, rfl, fun j u hu => ?_⟩
  have e : l.getD k noughts = l[k] := by rw [List.getD_eq_getElem?_getD, List.getElem?_eq_getElem hk]; rfl
  rw [e, bys_take, bys_drop, List.getElem?_take] at hu
  split at hu
  · rw [List.getElem?_drop] at hu
    have := hs (o + j) u hu
    rw [add_add, add_add, Nat.mul_one]
    rw [add_add] at this
    exact this
  · cases hu
attribute [local irreducible] Rd hRow hBlk hRd hRdr Fn hMarks
theorem findP_par {sec : Nat} {l : List Blk} : ∀ k, (findP sec l k).2.2 = true → (findP sec l k).1 % 2 < k
  | 0, h => by cases h
  | k + 1, h => by
    unfold findP findStep at h ⊢
    split
    · rename_i h1
      have := h1.1.2.1
      dsimp only
      omega
    · rename_i h1
      rw [if_neg h1] at h
      have := findP_par k h
      omega
theorem findP_congr {sec : Nat} {l l2 : List Blk} : ∀ k, (∀ i, i < k → l.getD i noughts = l2.getD i noughts) → findP sec l k = findP sec l2 k
  | 0, _ => rfl
  | k + 1, h => by
    show findStep sec (findP sec l k) k (l.getD k noughts) = findStep sec (findP sec l2 k) k (l2.getD k noughts)
    rw [findP_congr k fun i hi => h i (by omega), h k (by omega)]
section
variable {H : List HP} {w0 w : World} {g m : Nat}
set_option maxHeartbeats 8000000
theorem rcounts (l : List Blk) (A : Option Addr) (c : Nat) (hl : ∀ b ∈ l, Blk.ok b) (hll : l.length ≤ 2048) (h2 : 2 ≤ l.length) (w0 : World) (hr : Rd w0 A (l.flatMap bys)) :
    Fn Try.prog 79 [.slice A l.length c] w0 fun v w' => v = .tuple #[.int .u32 ((findP l.length l 2).1 : Int), .int .i64 ((findP l.length l 2).2.1 : Int), .bool (findP l.length l 2).2.2] ∧ St w0 w' [] := by
  have hfl : (l.flatMap bys).length = l.length * 64 := flat_len (blk_len hl)
  refine enter 76 Try.func79 rfl rfl rfl ?_
  intro a hE
  have hS := St.start w0
  repeat' (first
 | (with_reducible refine wp_seq ?_)
 | (with_reducible refine c_region ?_)
 | (with_reducible refine wpList_nil ?_)
 | (with_reducible refine then_normal ?_)
 | (with_reducible refine wp_block ?_)
 | ((with_reducible refine g_assign ?_); refine s_assign hE rfl rfl ?_; clear hE a; intro a hE))
  refine wp_loop_ghost (fun q a w => ∃ (k : Nat), k + q = 2 ∧ St w0 w [] ∧ Env 76 [(0, .slice A l.length c), (5, .int .u32 ((findP l.length l k).1 : Int)), (6, .int .i64 ((findP l.length l k).2.1 : Int)), (7, .bool (findP l.length l k).2.2), (8, .int .i64 (k : Int))] a) 2 ⟨0, by omega, hS, hE.sub ⟨rfl, rfl, rfl, rfl, rfl, trivial⟩⟩ ?_
  clear hE a hS
  rintro q a w ⟨k, hk, hS, hE⟩
  by_cases hk1 : k < 2
  · have hkl : k < l.length := by omega
    have hseg := flat_seg (c := bys) (size := 64) (l := l) (blk_len hl) hkl
    have hg : l.getD k noughts = l[k] := by rw [List.getD_eq_getElem?_getD, List.getElem?_eq_getElem hkl]; rfl
    have hbo := hl _ (List.getElem_mem hkl)
    have hst : findP l.length l (k + 1) = findStep l.length (findP l.length l k) k l[k] := by
      show findStep l.length (findP l.length l k) k (l.getD k noughts) = _
      rw [hg]
    have hpar := findP_par (sec := l.length) (l := l) k
    have hsub : ∀ w, Rd w A (l.flatMap bys) → ∀ o n, Rd w (some (((adr A).add (k * 64)).add (o * 1))) (bys ((l[k].drop o).take n)) := fun w h o n => by
      have := rd_sub h hl (o := o) (n := n) hkl
      rw [hg] at this
      exact this
    generalize l[k] = b at hseg hbo hst hsub
    have hbl : (bys b).length = 64 := by rw [bys_length]; exact hbo.1
    have htl := hT_lt hbo
    have hnl := hN_lt hbo
    have hl8 : ((b.drop 8).take 4).length = 4 := by rw [List.length_take, List.length_drop, hbo.1]; rfl
    have hl12 : ((b.drop 12).take 4).length = 4 := by rw [List.length_take, List.length_drop, hbo.1]; rfl
    have hb8 : Bs ((b.drop 8).take 4) := fun c hc => hbo.2 c (List.mem_of_mem_drop (List.mem_of_mem_take hc))
    have hb12 : Bs ((b.drop 12).take 4) := fun c hc => hbo.2 c (List.mem_of_mem_drop (List.mem_of_mem_take hc))
    have e1 : IntKind.u32.wrap ((hT b : Nat) : Int) = (hT b : Int) := wrap_u32_in (by omega)
    have e2 : IntKind.i64.wrap ((hN b : Nat) : Int) = (hN b : Int) := wrap64_in (by omega)
    have hrw := hr.st hS
    repeat' (first
 | (with_reducible refine wp_seq ?_)
 | (with_reducible refine c_region ?_)
 | (with_reducible refine wpList_nil ?_)
 | (with_reducible refine then_normal ?_)
 | (with_reducible refine wp_skip ?_)
 | (with_reducible refine wp_block ?_)
 | ((with_reducible refine g_move ?_); refine s_move hE rfl rfl ?_; clear hE a; intro a hE)
 | ((with_reducible refine g_bin .lss ?_); refine s_lss hE rfl rfl rfl ?_; clear hE a; intro a hE)
 | ((with_reducible refine g_blt .len ?_); refine s_len hE rfl rfl ?_; clear hE a; intro a hE)
 | ((with_reducible refine g_guard ?_); refine gd_yes hE rfl rfl rfl ?_)
 | ((with_reducible refine g_guard ?_); refine gd_dec hE rfl rfl (fun hc hE2 => ?_) (fun hc hE2 => ?_) <;> (try omega) <;> (replace hE := hE2; clear hE2))
 | ((with_reducible refine g_pick ?_); refine s_pickT hE rfl rfl rfl ?_; clear hE a; intro a hE)
 | ((with_reducible refine g_cond ?_); refine c_dec hE rfl (fun hc => ?_) (fun hc => ?_) <;> try omega))
    refine c_ordS hS 13 ((.rd 0 (.rd 1 (.rd 2 (.rd 3 (.rd 6 (.rd 7 (.rd 8 (.rd 9 (.ef 4 (.rd 5 (.ef 10 (.rd 11 (.rd 12 (.lt 13 .done))))))))))))))) mixed (by decide +kernel) ?_
    clear hS; intro w hS
    repeat' (first
 | (with_reducible refine o_rd rfl ?_)
 | ((with_reducible refine q_move ?_); refine d_val hE hS rfl (fun w hS => r_move hE rfl) ?_; clear hE a; intro a hE)
 | ((with_reducible refine q_ia ?_); refine d_val hE hS rfl (fun w hS => r_idxR hE rfl rfl (by omega) (by omega) (by (first | exact Rd.st (by assumption) hS )) (by first | omega )) ?_; clear hE a; intro a hE))
    rw [Int.toNat_natCast] at hE
    refine d_val hE hS rfl (fun w hS => r_sliceALH (lo := 8) (hi := 12) hE rfl rfl rfl (by decide) (by decide) (by decide)) ?_
    clear hE a; intro a hE
    repeat' (first
 | (with_reducible refine o_rd rfl ?_)
 | ((with_reducible refine q_move ?_); refine d_val hE hS rfl (fun w hS => r_move hE rfl) ?_; clear hE a; intro a hE)
 | ((with_reducible refine q_ia ?_); refine d_val hE hS rfl (fun w hS => r_idxR hE rfl rfl (by omega) (by omega) (by (first | exact Rd.st (by assumption) hS )) (by first | omega )) ?_; clear hE a; intro a hE))
    rw [Int.toNat_natCast] at hE
    refine d_val hE hS rfl (fun w hS => r_sliceALH (lo := 12) (hi := 16) hE rfl rfl rfl (by decide) (by decide) (by decide)) ?_
    clear hE a; intro a hE
    repeat' (first
 | ((with_reducible refine o_ef rfl ?_)))
    refine s_call hE rfl rfl rfl (rnum _ _ ((b.drop 8).take 4) (12 - 8) w (hsub w (hr.st hS) 8 4) hb8 (by omega) (by rw [hl8])) ?_
    rintro _ w ⟨rfl, hS1⟩; clear hE a; intro a hE; replace hS := hS.frame hS1; clear hS1; try simp only [List.cons_append, List.nil_append] at hS
    rw [show bnum 0 ((b.drop 8).take 4) = hT b from rfl] at hE
    refine wpList_nil ?_
    refine o_same hS ?_
    repeat' (first
 | (with_reducible refine o_rd rfl ?_)
 | ((with_reducible refine q_conv ?_); refine d_val hE hS rfl (fun w hS => r_conv hE rfl (by first | exact e1)) ?_; clear hE a; intro a hE)
 | ((with_reducible refine o_ef rfl ?_)))
    refine s_call hE rfl rfl rfl (rnum _ _ ((b.drop 12).take 4) (16 - 12) w (hsub w (hr.st hS) 12 4) hb12 (by omega) (by rw [hl12])) ?_
    rintro _ w ⟨rfl, hS1⟩; clear hE a; intro a hE; replace hS := hS.frame hS1; clear hS1; try simp only [List.cons_append, List.nil_append] at hS
    rw [show bnum 0 ((b.drop 12).take 4) = hN b from rfl] at hE
    refine wpList_nil ?_
    refine o_same hS ?_
    repeat' (first
 | (with_reducible refine o_rd rfl ?_)
 | ((with_reducible refine q_assign ?_); refine d_val hE hS rfl (fun w hS => r_assign hE rfl) ?_; clear hE a; intro a hE)
 | ((with_reducible refine q_conv ?_); refine d_val hE hS rfl (fun w hS => r_conv hE rfl (by first | exact e2)) ?_; clear hE a; intro a hE)
 | ((with_reducible refine o_lt rfl ?_)))
    repeat' (first
 | (with_reducible refine wpList_nil ?_)
 | ((with_reducible refine g_assign ?_); refine s_assign hE rfl rfl ?_; clear hE a; intro a hE))
    refine o_backL ?_
    repeat' (first
 | (with_reducible refine o_done ?_))
    repeat' (first
 | (with_reducible refine wp_seq ?_)
 | (with_reducible refine then_normal ?_))
    generalize findP l.length l k = acc at hE hst hpar
    obtain ⟨at_, aa, aok⟩ := acc
    dsimp only at hE hpar
    have hlt2 : hT b % 2 < 2 := Nat.mod_lt _ (by decide)
    have em : (hT b : Int).tmod 2 = ((hT b % 2 : Nat) : Int) := tmod_nat _ 2
    have em2 : IntKind.i64.wrap ((hT b % 2 : Nat) : Int) = ((hT b % 2 : Nat) : Int) := wrap64_in (by omega)
    have e3 : IntKind.i64.wrap (2 * (hN b : Int)) = 2 * (hN b : Int) := wrap64_in (by omega)
    have e4 : IntKind.i64.wrap (2 + 2 * (hN b : Int)) = 2 + 2 * (hN b : Int) := wrap64_in (by omega)
    refine c_ordS hS 27 ((.rd 0 (.ef 1 (.rd 2 (.rd 3 (.rd 4 (.rd 5 (.rd 6 (.rd 7 (.rd 8 (.rd 9 (.rd 10 (.rd 11 (.rd 12 (.rd 13 (.rd 14 (.rd 15 (.rd 16 (.rd 17 (.rd 18 (.rd 19 (.rd 20 (.rd 21 (.rd 22 (.rd 23 (.ef 24 (.rd 25 (.rd 26 (.lt 27 .done))))))))))))))))))))))))))))) mixed (by decide +kernel) ?_
    clear hS; intro w hS
    repeat' (first
 | (with_reducible refine o_rd rfl ?_)
 | ((with_reducible refine q_move ?_); refine d_val hE hS rfl (fun w hS => r_move hE rfl) ?_; clear hE a; intro a hE)
 | ((with_reducible refine o_ef rfl ?_)))
    refine s_call hE rfl rfl rfl (rarea (hN b : Int) w) ?_
    rintro _ w ⟨rfl, hS1⟩; clear hE a; intro a hE; replace hS := hS.frame hS1; clear hS1; try simp only [List.cons_append, List.nil_append] at hS
    refine wpList_nil ?_
    refine o_same hS ?_
    by_cases hsz : 4 ≤ hN b ∧ hN b ≤ 1000
    · rw [decide_eq_true (show 4 ≤ (hN b : Int) ∧ (hN b : Int) ≤ 1000 by omega)] at hE
      repeat' (first
 | (with_reducible refine o_rd rfl ?_)
 | ((with_reducible refine q_move ?_); refine d_val hE hS rfl (fun w hS => r_move hE rfl) ?_; clear hE a; intro a hE)
 | ((with_reducible refine q_bin .geq ?_); refine d_val hE hS rfl (fun w hS => r_geq hE rfl rfl) ?_; clear hE a; intro a hE)
 | ((with_reducible refine q_bin .eql ?_); refine d_val hE hS rfl (fun w hS => r_eql hE rfl rfl) ?_; clear hE a; intro a hE)
 | ((with_reducible refine q_bin .add ?_); refine d_val hE hS rfl (fun w hS => r_add hE rfl rfl (by first | exact e4 )) ?_; clear hE a; intro a hE)
 | ((with_reducible refine q_bin .mul ?_); refine d_val hE hS rfl (fun w hS => r_mul hE rfl rfl (by first | exact e3 )) ?_; clear hE a; intro a hE)
 | ((with_reducible refine q_bin .rem ?_); refine d_val hE hS rfl (fun w hS => r_rem hE rfl rfl (by omega) (by first | exact em )) ?_; clear hE a; intro a hE)
 | ((with_reducible refine q_conv ?_); refine d_val hE hS rfl (fun w hS => r_conv hE rfl (by first | exact em2 )) ?_; clear hE a; intro a hE)
 | ((with_reducible refine q_blt .len ?_); refine d_val hE hS rfl (fun w hS => r_len hE rfl) ?_; clear hE a; intro a hE)
 | ((with_reducible refine q_guard ?_); refine d_yes hE rfl rfl rfl ?_)
 | ((with_reducible refine q_guard ?_); refine d_no hE hS rfl rfl rfl rfl ?_; clear hE a; intro a hE)
 | ((with_reducible refine q_guard ?_); refine d_dec hE rfl rfl (fun hc hE2 => ?_) (fun hc hE2 => ?_) <;> (try omega) <;> (replace hE := hE2; clear hE2))
 | ((with_reducible refine q_pick ?_); refine d_val hE hS rfl (fun w hS => r_pickT hE rfl rfl) ?_; clear hE a; intro a hE)
 | ((with_reducible refine q_pick ?_); refine d_val hE hS rfl (fun w hS => r_pickF hE rfl rfl) ?_; clear hE a; intro a hE)
 | ((with_reducible refine q_ia ?_); refine d_val hE hS rfl (fun w hS => r_idxR hE rfl rfl (by omega) (by omega) (by (first | exact Rd.st (by assumption) hS )) (by first | omega )) ?_; clear hE a; intro a hE)
 | ((with_reducible refine o_ef rfl ?_))
 | ((with_reducible refine q_load ?_); refine d_val hE hS rfl (fun w hS => r_elemR hE rfl (by first | exact Rd.st (by assumption) hS ) (by first | exact hseg) (by first | assumption) rfl) ?_; clear hE a; intro a hE))
      · have hqs : hT b % 2 = k := by omega
        repeat' (first
 | ((with_reducible refine g_guard ?_); refine gd_yes hE rfl rfl rfl ?_))
        refine s_call hE rfl rfl rfl (rhead (hT b) (hN b) htl hnl w) ?_
        rintro _ w ⟨rfl, hS1⟩; clear hE a; intro a hE; replace hS := hS.frame hS1; clear hS1; try simp only [List.cons_append, List.nil_append] at hS
        refine wpList_nil ?_
        refine o_same hS ?_
        repeat' (first
 | (with_reducible refine o_rd rfl ?_)
 | ((with_reducible refine q_guard ?_); refine d_yes hE rfl rfl rfl ?_))
        refine d_val hE hS rfl (fun w hS => r_eqA hE rfl rfl hbo.1 (headB_len _ _)) ?_; clear hE a; intro a hE
        by_cases hh : b = headB (hT b) (hN b)
        · rw [decide_eq_true hh] at hE
          have hR : headR l.length k b := ⟨hsz, by omega, by omega, hh⟩
          repeat' (first
 | (with_reducible refine o_rd rfl ?_)
 | ((with_reducible refine q_pick ?_); refine d_val hE hS rfl (fun w hS => r_pickT hE rfl rfl) ?_; clear hE a; intro a hE)
 | ((with_reducible refine o_lt rfl ?_)))
          repeat' (first
 | (with_reducible refine wpList_nil ?_)
 | ((with_reducible refine g_assign ?_); refine s_assign hE rfl rfl ?_; clear hE a; intro a hE))
          refine o_backL ?_
          cases aok
          · have hyes : findStep l.length (at_, aa, false) k b = (hT b, hN b, true) := if_pos ⟨hR, fun h => by cases h.1⟩
            repeat' (first
 | (with_reducible refine o_done ?_))
            repeat' (first
 | (with_reducible refine wp_seq ?_)
 | (with_reducible refine c_region ?_)
 | (with_reducible refine wpList_nil ?_)
 | (with_reducible refine then_normal ?_)
 | (with_reducible refine block_normal ?_)
 | ((with_reducible refine g_move ?_); refine s_move hE rfl rfl ?_; clear hE a; intro a hE)
 | ((with_reducible refine g_assign ?_); refine s_assign hE rfl rfl ?_; clear hE a; intro a hE)
 | ((with_reducible refine g_bin .add ?_); refine s_add hE rfl rfl rfl (by first  | exact wrap64_in (by omega) ) ?_; clear hE a; intro a hE)
 | ((with_reducible refine g_un .not ?_); refine s_notb hE rfl rfl ?_; clear hE a; intro a hE)
 | ((with_reducible refine g_guard ?_); refine gd_yes hE rfl rfl rfl ?_)
 | ((with_reducible refine g_guard ?_); refine gd_no hE rfl rfl rfl rfl ?_; clear hE a; intro a hE)
 | ((with_reducible refine g_pick ?_); refine s_pickT hE rfl rfl rfl ?_; clear hE a; intro a hE)
 | ((with_reducible refine g_cond ?_); refine c_true hE rfl ?_))
            rw [hyes] at hst
            exact ⟨q - 1, by omega, k + 1, by omega, hS.nil, by rw [hst]; exact hE.sub ⟨rfl, rfl, rfl, rfl, rfl, trivial⟩⟩
          · have hp := hpar rfl
            by_cases ht : hT b < at_
            · have hno : findStep l.length (at_, aa, true) k b = (at_, aa, true) := if_neg fun h => h.2 ⟨rfl, ht⟩
              repeat' (first
 | (with_reducible refine o_done ?_))
              repeat' (first
 | (with_reducible refine wp_seq ?_)
 | (with_reducible refine c_region ?_)
 | (with_reducible refine wpList_nil ?_)
 | (with_reducible refine then_normal ?_)
 | (with_reducible refine wp_skip ?_)
 | (with_reducible refine block_normal ?_)
 | ((with_reducible refine g_move ?_); refine s_move hE rfl rfl ?_; clear hE a; intro a hE)
 | ((with_reducible refine g_assign ?_); refine s_assign hE rfl rfl ?_; clear hE a; intro a hE)
 | ((with_reducible refine g_bin .gtr ?_); refine s_gtr hE rfl rfl rfl ?_; clear hE a; intro a hE)
 | ((with_reducible refine g_bin .add ?_); refine s_add hE rfl rfl rfl (by first  | exact wrap64_in (by omega) ) ?_; clear hE a; intro a hE)
 | ((with_reducible refine g_un .not ?_); refine s_notb hE rfl rfl ?_; clear hE a; intro a hE)
 | ((with_reducible refine g_guard ?_); refine gd_yes hE rfl rfl rfl ?_)
 | ((with_reducible refine g_pick ?_); refine s_pickT hE rfl rfl rfl ?_; clear hE a; intro a hE)
 | ((with_reducible refine g_pick ?_); refine s_pickF hE rfl rfl rfl ?_; clear hE a; intro a hE)
 | ((with_reducible refine g_cond ?_); refine c_dec hE rfl (fun hc => ?_) (fun hc => ?_) <;> try omega))
              rw [hno] at hst
              exact ⟨q - 1, by omega, k + 1, by omega, hS.nil, by rw [hst]; exact hE.sub ⟨rfl, rfl, rfl, rfl, rfl, trivial⟩⟩
            · have hyes : findStep l.length (at_, aa, true) k b = (hT b, hN b, true) := if_pos ⟨hR, fun h => ht h.2⟩
              have hne : hT b ≠ at_ := fun h => by rw [h] at hqs; omega
              repeat' (first
 | (with_reducible refine o_done ?_))
              repeat' (first
 | (with_reducible refine wp_seq ?_)
 | (with_reducible refine c_region ?_)
 | (with_reducible refine wpList_nil ?_)
 | (with_reducible refine then_normal ?_)
 | (with_reducible refine block_normal ?_)
 | ((with_reducible refine g_move ?_); refine s_move hE rfl rfl ?_; clear hE a; intro a hE)
 | ((with_reducible refine g_assign ?_); refine s_assign hE rfl rfl ?_; clear hE a; intro a hE)
 | ((with_reducible refine g_bin .gtr ?_); refine s_gtr hE rfl rfl rfl ?_; clear hE a; intro a hE)
 | ((with_reducible refine g_bin .add ?_); refine s_add hE rfl rfl rfl (by first  | exact wrap64_in (by omega) ) ?_; clear hE a; intro a hE)
 | ((with_reducible refine g_un .not ?_); refine s_notb hE rfl rfl ?_; clear hE a; intro a hE)
 | ((with_reducible refine g_guard ?_); refine gd_yes hE rfl rfl rfl ?_)
 | ((with_reducible refine g_pick ?_); refine s_pickT hE rfl rfl rfl ?_; clear hE a; intro a hE)
 | ((with_reducible refine g_pick ?_); refine s_pickF hE rfl rfl rfl ?_; clear hE a; intro a hE)
 | ((with_reducible refine g_cond ?_); refine c_dec hE rfl (fun hc => ?_) (fun hc => ?_) <;> try omega))
              rw [hyes] at hst
              exact ⟨q - 1, by omega, k + 1, by omega, hS.nil, by rw [hst]; exact hE.sub ⟨rfl, rfl, rfl, rfl, rfl, trivial⟩⟩
        · rw [decide_eq_false hh] at hE
          have hno : findStep l.length (at_, aa, aok) k b = (at_, aa, aok) := if_neg fun h => hh h.1.2.2.2
          repeat' (first
 | (with_reducible refine o_rd rfl ?_)
 | ((with_reducible refine q_pick ?_); refine d_val hE hS rfl (fun w hS => r_pickT hE rfl rfl) ?_; clear hE a; intro a hE)
 | ((with_reducible refine o_lt rfl ?_)))
          repeat' (first
 | (with_reducible refine wpList_nil ?_)
 | ((with_reducible refine g_assign ?_); refine s_assign hE rfl rfl ?_; clear hE a; intro a hE))
          refine o_backL ?_
          repeat' (first
 | (with_reducible refine o_done ?_))
          repeat' (first
 | (with_reducible refine wp_seq ?_)
 | (with_reducible refine c_region ?_)
 | (with_reducible refine wpList_nil ?_)
 | (with_reducible refine then_normal ?_)
 | (with_reducible refine wp_skip ?_)
 | (with_reducible refine block_normal ?_)
 | ((with_reducible refine g_move ?_); refine s_move hE rfl rfl ?_; clear hE a; intro a hE)
 | ((with_reducible refine g_assign ?_); refine s_assign hE rfl rfl ?_; clear hE a; intro a hE)
 | ((with_reducible refine g_bin .add ?_); refine s_add hE rfl rfl rfl (by first  | exact wrap64_in (by omega) ) ?_; clear hE a; intro a hE)
 | ((with_reducible refine g_guard ?_); refine gd_no hE rfl rfl rfl rfl ?_; clear hE a; intro a hE)
 | ((with_reducible refine g_guard ?_); refine gd_un hE rfl rfl rfl ?_; clear hE a; intro a hE)
 | ((with_reducible refine g_pick ?_); refine s_pickF hE rfl rfl rfl ?_; clear hE a; intro a hE)
 | ((with_reducible refine g_cond ?_); refine c_false hE rfl ?_))
          rw [hno] at hst
          exact ⟨q - 1, by omega, k + 1, by omega, hS.nil, by rw [hst]; exact hE.sub ⟨rfl, rfl, rfl, rfl, rfl, trivial⟩⟩
      · have hno : findStep l.length (at_, aa, aok) k b = (at_, aa, aok) := if_neg fun h => absurd h.1.2.2.1 (by omega)
        repeat' (first
 | (with_reducible refine wpList_nil ?_)
 | ((with_reducible refine g_guard ?_); refine gd_no hE rfl rfl rfl rfl ?_; clear hE a; intro a hE))
        refine o_same hS ?_
        repeat' (first
 | (with_reducible refine o_rd rfl ?_)
 | ((with_reducible refine q_guard ?_); refine d_no hE hS rfl rfl rfl rfl ?_; clear hE a; intro a hE)
 | ((with_reducible refine q_pick ?_); refine d_val hE hS rfl (fun w hS => r_pickF hE rfl rfl) ?_; clear hE a; intro a hE)
 | ((with_reducible refine o_lt rfl ?_)))
        repeat' (first
 | (with_reducible refine wpList_nil ?_)
 | ((with_reducible refine g_assign ?_); refine s_assign hE rfl rfl ?_; clear hE a; intro a hE))
        refine o_backL ?_
        repeat' (first
 | (with_reducible refine o_done ?_))
        repeat' (first
 | (with_reducible refine wp_seq ?_)
 | (with_reducible refine c_region ?_)
 | (with_reducible refine wpList_nil ?_)
 | (with_reducible refine then_normal ?_)
 | (with_reducible refine wp_skip ?_)
 | (with_reducible refine block_normal ?_)
 | ((with_reducible refine g_move ?_); refine s_move hE rfl rfl ?_; clear hE a; intro a hE)
 | ((with_reducible refine g_assign ?_); refine s_assign hE rfl rfl ?_; clear hE a; intro a hE)
 | ((with_reducible refine g_bin .add ?_); refine s_add hE rfl rfl rfl (by first  | exact wrap64_in (by omega) ) ?_; clear hE a; intro a hE)
 | ((with_reducible refine g_guard ?_); refine gd_no hE rfl rfl rfl rfl ?_; clear hE a; intro a hE)
 | ((with_reducible refine g_guard ?_); refine gd_un hE rfl rfl rfl ?_; clear hE a; intro a hE)
 | ((with_reducible refine g_pick ?_); refine s_pickF hE rfl rfl rfl ?_; clear hE a; intro a hE)
 | ((with_reducible refine g_cond ?_); refine c_false hE rfl ?_))
        rw [hno] at hst
        exact ⟨q - 1, by omega, k + 1, by omega, hS.nil, by rw [hst]; exact hE.sub ⟨rfl, rfl, rfl, rfl, rfl, trivial⟩⟩
      · have hno : findStep l.length (at_, aa, aok) k b = (at_, aa, aok) := if_neg fun h => absurd h.1.2.1 (by omega)
        repeat' (first
 | (with_reducible refine wpList_nil ?_)
 | ((with_reducible refine g_guard ?_); refine gd_no hE rfl rfl rfl rfl ?_; clear hE a; intro a hE))
        refine o_same hS ?_
        repeat' (first
 | (with_reducible refine o_rd rfl ?_)
 | ((with_reducible refine q_guard ?_); refine d_no hE hS rfl rfl rfl rfl ?_; clear hE a; intro a hE)
 | ((with_reducible refine q_pick ?_); refine d_val hE hS rfl (fun w hS => r_pickF hE rfl rfl) ?_; clear hE a; intro a hE)
 | ((with_reducible refine o_lt rfl ?_)))
        repeat' (first
 | (with_reducible refine wpList_nil ?_)
 | ((with_reducible refine g_assign ?_); refine s_assign hE rfl rfl ?_; clear hE a; intro a hE))
        refine o_backL ?_
        repeat' (first
 | (with_reducible refine o_done ?_))
        repeat' (first
 | (with_reducible refine wp_seq ?_)
 | (with_reducible refine c_region ?_)
 | (with_reducible refine wpList_nil ?_)
 | (with_reducible refine then_normal ?_)
 | (with_reducible refine wp_skip ?_)
 | (with_reducible refine block_normal ?_)
 | ((with_reducible refine g_move ?_); refine s_move hE rfl rfl ?_; clear hE a; intro a hE)
 | ((with_reducible refine g_assign ?_); refine s_assign hE rfl rfl ?_; clear hE a; intro a hE)
 | ((with_reducible refine g_bin .add ?_); refine s_add hE rfl rfl rfl (by first  | exact wrap64_in (by omega) ) ?_; clear hE a; intro a hE)
 | ((with_reducible refine g_guard ?_); refine gd_no hE rfl rfl rfl rfl ?_; clear hE a; intro a hE)
 | ((with_reducible refine g_guard ?_); refine gd_un hE rfl rfl rfl ?_; clear hE a; intro a hE)
 | ((with_reducible refine g_pick ?_); refine s_pickF hE rfl rfl rfl ?_; clear hE a; intro a hE)
 | ((with_reducible refine g_cond ?_); refine c_false hE rfl ?_))
        rw [hno] at hst
        exact ⟨q - 1, by omega, k + 1, by omega, hS.nil, by rw [hst]; exact hE.sub ⟨rfl, rfl, rfl, rfl, rfl, trivial⟩⟩
    · rw [decide_eq_false (show ¬(4 ≤ (hN b : Int) ∧ (hN b : Int) ≤ 1000) by omega)] at hE
      have hno : findStep l.length (at_, aa, aok) k b = (at_, aa, aok) := if_neg fun h => hsz h.1.1
      repeat' (first
 | (with_reducible refine o_rd rfl ?_)
 | ((with_reducible refine q_move ?_); refine d_val hE hS rfl (fun w hS => r_move hE rfl) ?_; clear hE a; intro a hE)
 | ((with_reducible refine q_guard ?_); refine d_no hE hS rfl rfl rfl rfl ?_; clear hE a; intro a hE)
 | ((with_reducible refine q_pick ?_); refine d_val hE hS rfl (fun w hS => r_pickF hE rfl rfl) ?_; clear hE a; intro a hE)
 | ((with_reducible refine o_ef rfl ?_)))
      repeat' (first
 | (with_reducible refine wpList_nil ?_)
 | ((with_reducible refine g_guard ?_); refine gd_no hE rfl rfl rfl rfl ?_; clear hE a; intro a hE))
      refine o_same hS ?_
      repeat' (first
 | (with_reducible refine o_rd rfl ?_)
 | ((with_reducible refine q_guard ?_); refine d_no hE hS rfl rfl rfl rfl ?_; clear hE a; intro a hE)
 | ((with_reducible refine q_pick ?_); refine d_val hE hS rfl (fun w hS => r_pickF hE rfl rfl) ?_; clear hE a; intro a hE)
 | ((with_reducible refine o_lt rfl ?_)))
      repeat' (first
 | (with_reducible refine wpList_nil ?_)
 | ((with_reducible refine g_assign ?_); refine s_assign hE rfl rfl ?_; clear hE a; intro a hE))
      refine o_backL ?_
      repeat' (first
 | (with_reducible refine o_done ?_))
      repeat' (first
 | (with_reducible refine wp_seq ?_)
 | (with_reducible refine c_region ?_)
 | (with_reducible refine wpList_nil ?_)
 | (with_reducible refine then_normal ?_)
 | (with_reducible refine wp_skip ?_)
 | (with_reducible refine block_normal ?_)
 | ((with_reducible refine g_move ?_); refine s_move hE rfl rfl ?_; clear hE a; intro a hE)
 | ((with_reducible refine g_assign ?_); refine s_assign hE rfl rfl ?_; clear hE a; intro a hE)
 | ((with_reducible refine g_bin .add ?_); refine s_add hE rfl rfl rfl (by first  | exact wrap64_in (by omega) ) ?_; clear hE a; intro a hE)
 | ((with_reducible refine g_guard ?_); refine gd_no hE rfl rfl rfl rfl ?_; clear hE a; intro a hE)
 | ((with_reducible refine g_guard ?_); refine gd_un hE rfl rfl rfl ?_; clear hE a; intro a hE)
 | ((with_reducible refine g_pick ?_); refine s_pickF hE rfl rfl rfl ?_; clear hE a; intro a hE)
 | ((with_reducible refine g_cond ?_); refine c_false hE rfl ?_))
      rw [hno] at hst
      exact ⟨q - 1, by omega, k + 1, by omega, hS.nil, by rw [hst]; exact hE.sub ⟨rfl, rfl, rfl, rfl, rfl, trivial⟩⟩
  · obtain rfl : k = 2 := by omega
    repeat' (first
 | (with_reducible refine wp_seq ?_)
 | (with_reducible refine c_region ?_)
 | (with_reducible refine wpList_nil ?_)
 | (with_reducible refine then_normal ?_)
 | (with_reducible refine wp_ret ?_)
 | (with_reducible refine wp_exit ?_)
 | (with_reducible refine then_exit ?_)
 | (with_reducible refine block_same ?_)
 | ((with_reducible refine g_move ?_); refine s_move hE rfl rfl ?_; clear hE a; intro a hE)
 | ((with_reducible refine g_assign ?_); refine s_assign hE rfl rfl ?_; clear hE a; intro a hE)
 | ((with_reducible refine g_bin .lss ?_); refine s_lss hE rfl rfl rfl ?_; clear hE a; intro a hE)
 | ((with_reducible refine g_guard ?_); refine gd_no hE rfl rfl rfl rfl ?_; clear hE a; intro a hE)
 | ((with_reducible refine g_pick ?_); refine s_pickF hE rfl rfl rfl ?_; clear hE a; intro a hE)
 | ((with_reducible refine g_cond ?_); refine c_false hE rfl ?_))
    refine retG (vs := [_, _, _]) hE rfl ⟨rfl, rfl, rfl, trivial⟩ ⟨rfl, hS⟩
end
end Go.Proofs.Ytfoeelghehjanaa
/-
  Contracts of the document's log: an area; the frame that stands there.
-/
namespace Go.Proofs.Ytfoeelghehjanaa
open Go.RowKit
set_option linter.unusedVariables false
set_option linter.unusedSimpArgs false
attribute [local irreducible] Rd hRow hBlk hRd hRdr Fn hMarks
theorem stM_cons {x : Blk} {l : List Blk} {t n : Nat} (h1 : ¬ 40000 < stL x) (h2 : stN x = secN (stL x)) (h3 : stN x ≤ (x :: l).length) : stM (x :: l) t n = if partsB t n (stB (x :: l) (stN x) (stL x)) = (x :: l).take (stN x) then some (stB (x :: l) (stN x) (stL x)) else none := if_neg (by omega)
section
variable {H : List HP} {w0 w : World} {g m : Nat}
set_option maxHeartbeats 8000000
theorem rof (t n m c : Nat) (A : Option Addr) (ht : t < 4294967296) (hn : n ≤ 1000) (hn1 : 1 ≤ n) (hm : fromN t n + n ≤ m) (hc : m ≤ c) (w0 : World) :
    Fn Try.prog 80 [.slice A m c, .int .u32 (t : Int), .int .i64 (n : Int)] w0 fun v w' => v = .slice (A.map (·.add (fromN t n * 64))) n (c - fromN t n) ∧ St w0 w' [] := by
  refine enter 20 Try.func80 rfl rfl rfl ?_
  intro a hE
  have hS := St.start w0
  have h2 : t % 2 < 2 := Nat.mod_lt _ (by decide)
  have e1 : (t : Int).tmod 2 = ((t % 2 : Nat) : Int) := tmod_nat t 2
  have e2 : IntKind.i64.wrap ((t % 2 : Nat) : Int) = ((t % 2 : Nat) : Int) := wrap64_in (by omega)
  have e : fromN t n = 2 + t % 2 * n := rfl
  have hma : t % 2 * n ≤ 1000 := by
    generalize t % 2 = m at h2
    rcases (by omega : m = 0 ∨ m = 1) with rfl | rfl <;> omega
  generalize hmm : t % 2 = mm at h2 e1 e2 e hma
  have e3 : IntKind.i64.wrap ((mm : Int) * (n : Int)) = ((mm * n : Nat) : Int) := by rw [← Int.natCast_mul, wrap64_in (by omega)]
  have e4 : IntKind.i64.wrap (2 + ((mm * n : Nat) : Int)) = ((fromN t n : Nat) : Int) := by rw [e, wrap64_in (by omega)]; rfl
  have hf : fromN t n ≤ 1002 := by omega
  generalize fromN t n = f at e hm e4 hf ⊢
  have e5 : IntKind.i64.wrap ((f : Int) + (n : Int)) = ((f + n : Nat) : Int) := by rw [wrap64_in (by omega)]; rfl
  repeat' (first
 | (with_reducible refine wp_seq ?_)
 | (with_reducible refine c_region ?_)
 | (with_reducible refine wpList_nil ?_)
 | (with_reducible refine then_normal ?_)
 | (with_reducible refine wp_ret ?_)
 | ((with_reducible refine g_move ?_); refine s_move hE rfl rfl ?_; clear hE a; intro a hE)
 | ((with_reducible refine g_assign ?_); refine s_assign hE rfl rfl ?_; clear hE a; intro a hE)
 | ((with_reducible refine g_bin .add ?_); refine s_add hE rfl rfl rfl (by first | exact e4 | exact e5 ) ?_; clear hE a; intro a hE)
 | ((with_reducible refine g_bin .mul ?_); refine s_mul hE rfl rfl rfl (by first | exact e3 ) ?_; clear hE a; intro a hE)
 | ((with_reducible refine g_bin .rem ?_); refine s_rem hE rfl rfl (by omega) rfl (by first | exact e1 ) ?_; clear hE a; intro a hE)
 | ((with_reducible refine g_conv ?_); refine s_conv hE rfl rfl (by first | exact e2 ) ?_; clear hE a; intro a hE)
 | ((with_reducible refine g_sliceLH ?_); refine s_val hE rfl rfl rfl (r_cutLH hE rfl rfl rfl (by omega) (by omega)) ?_; clear hE a; intro a hE))
  rw [Int.toNat_natCast, Int.toNat_natCast, if_neg (show ¬ c = f by omega), show f + n - f = n by omega] at hE
  exact ret1 hE rfl rfl ⟨rfl, hS⟩
theorem rstands (l : List Blk) (A : Option Addr) (c at_ t n : Nat) (ht : t < 4294967296) (hn : n < 4294967296) (hl : ∀ b ∈ l, Blk.ok b) (hll : l.length ≤ 1000) (hat : at_ ≤ 1000) (hcl : l.length ≤ c) (w0 : World) (hr : Rd w0 A (l.flatMap bys)) :
    Fn Try.prog 93 [.slice A l.length c, .int .i64 (at_ : Int), .int .u32 (t : Int), .int .u32 (n : Int)] w0 fun v w' =>
      (stM (l.drop at_) t n = none ∧ v = .tuple #[.slice none 0 0, .bool false] ∧ St w0 w' []) ∨
      ∃ b A' c', stM (l.drop at_) t n = some b ∧ b.length ≤ 40000 ∧ Bs b ∧ v = .tuple #[.slice A' b.length c', .bool true] ∧ St w0 w' [hRd A' (bys b)] := by
  have hfl : (l.flatMap bys).length = l.length * 64 := flat_len (blk_len hl)
  have hS := St.start w0
  refine enter 97 Try.func93 rfl rfl rfl ?_
  intro a hE
  by_cases hin : l.length ≤ at_
  · have hno : stM (l.drop at_) t n = none := by rw [List.drop_eq_nil_of_le hin]; rfl
    repeat' (first
 | (with_reducible refine wp_seq ?_)
 | (with_reducible refine c_region ?_)
 | (with_reducible refine wpList_nil ?_)
 | (with_reducible refine then_normal ?_)
 | (with_reducible refine wp_ret ?_)
 | (with_reducible refine then_ret ?_)
 | ((with_reducible refine g_move ?_); refine s_move hE rfl rfl ?_; clear hE a; intro a hE)
 | ((with_reducible refine g_assign ?_); refine s_assign hE rfl rfl ?_; clear hE a; intro a hE)
 | ((with_reducible refine g_bin .geq ?_); refine s_geq hE rfl rfl rfl ?_; clear hE a; intro a hE)
 | ((with_reducible refine g_blt .len ?_); refine s_len hE rfl rfl ?_; clear hE a; intro a hE)
 | ((with_reducible refine g_cond ?_); refine c_dec hE rfl (fun hc => ?_) (fun hc => ?_) <;> try omega))
    exact ret2 hE rfl rfl rfl (.inl ⟨hno, rfl, hS⟩)
  have hkl : at_ < l.length := by omega
  have hg : l.getD at_ noughts = l[at_] := by rw [List.getD_eq_getElem?_getD, List.getElem?_eq_getElem hkl]; rfl
  have hsub : ∀ w, Rd w A (l.flatMap bys) → ∀ o n, Rd w (some (((adr A).add (at_ * 64)).add (o * 1))) (bys ((l[at_].drop o).take n)) := fun w h o n => by
    have := rd_sub h hl (o := o) (n := n) hkl
    rw [hg] at this
    exact this
  have hxo := hl _ (List.getElem_mem hkl)
  have hdr : l.drop at_ = l[at_] :: l.drop (at_ + 1) := List.drop_eq_getElem_cons hkl
  have hly : ∀ b ∈ l.drop at_, Blk.ok b := fun b hb => hl b (List.mem_of_mem_drop hb)
  have hyl : (l.drop at_).length = l.length - at_ := List.length_drop
  have hry : ∀ w, Rd w A (l.flatMap bys) → Rd w (A.map (·.add (at_ * 64))) ((l.drop at_).flatMap bys) := fun w h => by
    rw [← flat_drop l hl]
    exact h.drop (at_ * 64)
  generalize l[at_] = x at hxo hdr hsub
  generalize l.drop (at_ + 1) = l' at hdr
  rw [hdr] at hly hyl hry ⊢
  have hb10 : Bs ((x.drop 10).take 2) := fun c hc => hxo.2 c (List.mem_of_mem_drop (List.mem_of_mem_take hc))
  have hb16 : Bs ((x.drop 16).take 4) := fun c hc => hxo.2 c (List.mem_of_mem_drop (List.mem_of_mem_take hc))
  have hl10 : ((x.drop 10).take 2).length = 2 := by rw [List.length_take, List.length_drop, hxo.1]; rfl
  have hl16 : ((x.drop 16).take 4).length = 4 := by rw [List.length_take, List.length_drop, hxo.1]; rfl
  have hnl := stN_lt hxo
  have hll2 := stL_lt hxo
  have e1 : IntKind.i64.wrap ((stN x : Nat) : Int) = (stN x : Int) := wrap64_in (by omega)
  repeat' (first
 | (with_reducible refine wp_seq ?_)
 | (with_reducible refine c_region ?_)
 | (with_reducible refine wpList_nil ?_)
 | (with_reducible refine then_normal ?_)
 | (with_reducible refine wp_skip ?_)
 | ((with_reducible refine g_move ?_); refine s_move hE rfl rfl ?_; clear hE a; intro a hE)
 | ((with_reducible refine g_assign ?_); refine s_assign hE rfl rfl ?_; clear hE a; intro a hE)
 | ((with_reducible refine g_bin .geq ?_); refine s_geq hE rfl rfl rfl ?_; clear hE a; intro a hE)
 | ((with_reducible refine g_blt .len ?_); refine s_len hE rfl rfl ?_; clear hE a; intro a hE)
 | ((with_reducible refine g_cond ?_); refine c_dec hE rfl (fun hc => ?_) (fun hc => ?_) <;> try omega)
 | ((with_reducible refine g_ia ?_); refine s_idxR hE rfl rfl (by omega) (by omega) (by (first | exact Rd.st (by assumption) hS )) (by first | omega ) rfl ?_; clear hE a; intro a hE))
  rw [Int.toNat_natCast] at hE
  refine s_val hE rfl rfl rfl (r_sliceALH (lo := 10) (hi := 12) hE rfl rfl rfl (by decide) (by decide) (by decide)) ?_
  clear hE a; intro a hE
  refine s_call hE rfl rfl rfl (rnum _ _ ((x.drop 10).take 2) (12 - 10) w0 (hsub w0 hr 10 2) hb10 (by omega) (by rw [hl10])) ?_
  rintro _ w ⟨rfl, hS1⟩; clear hE a; intro a hE; replace hS := hS.frame hS1; clear hS1; try simp only [List.cons_append, List.nil_append] at hS
  rw [show bnum 0 ((x.drop 10).take 2) = stN x from rfl] at hE
  by_cases hbad : stN x < 1 ∨ l.length - at_ < stN x
  · have hno : stM (x :: l') t n = none := by
      refine if_pos ?_
      by_cases h40 : 40000 < stL x
      · exact .inl h40
      · have := secN_pos (n := stL x) (by omega)
        omega
    repeat' (first
 | (with_reducible refine wp_seq ?_)
 | (with_reducible refine c_region ?_)
 | (with_reducible refine wpList_nil ?_)
 | (with_reducible refine then_normal ?_)
 | (with_reducible refine wp_ret ?_)
 | (with_reducible refine then_ret ?_)
 | ((with_reducible refine g_move ?_); refine s_move hE rfl rfl ?_; clear hE a; intro a hE)
 | ((with_reducible refine g_assign ?_); refine s_assign hE rfl rfl ?_; clear hE a; intro a hE)
 | ((with_reducible refine g_bin .lss ?_); refine s_lss hE rfl rfl rfl ?_; clear hE a; intro a hE)
 | ((with_reducible refine g_bin .gtr ?_); refine s_gtr hE rfl rfl rfl ?_; clear hE a; intro a hE)
 | ((with_reducible refine g_bin .sub ?_); refine s_sub hE rfl rfl rfl (by first | exact subN (by omega) (by omega) ) ?_; clear hE a; intro a hE)
 | ((with_reducible refine g_conv ?_); refine s_conv hE rfl rfl (by first | exact e1 ) ?_; clear hE a; intro a hE)
 | ((with_reducible refine g_blt .len ?_); refine s_len hE rfl rfl ?_; clear hE a; intro a hE)
 | ((with_reducible refine g_guard ?_); refine gd_yes hE rfl rfl rfl ?_)
 | ((with_reducible refine g_guard ?_); refine gd_no hE rfl rfl rfl rfl ?_; clear hE a; intro a hE)
 | ((with_reducible refine g_guard ?_); refine gd_dec hE rfl rfl (fun hc hE2 => ?_) (fun hc hE2 => ?_) <;> (try omega) <;> (replace hE := hE2; clear hE2))
 | ((with_reducible refine g_pick ?_); refine s_pickT hE rfl rfl rfl ?_; clear hE a; intro a hE)
 | ((with_reducible refine g_pick ?_); refine s_pickF hE rfl rfl rfl ?_; clear hE a; intro a hE)
 | ((with_reducible refine g_cond ?_); refine c_true hE rfl ?_)
 | ((with_reducible refine g_cond ?_); refine c_dec hE rfl (fun hc => ?_) (fun hc => ?_) <;> try omega))
    all_goals exact ret2 hE rfl rfl rfl (.inl ⟨hno, rfl, hS⟩)
  repeat' (first
 | (with_reducible refine wp_seq ?_)
 | (with_reducible refine c_region ?_)
 | (with_reducible refine wpList_nil ?_)
 | (with_reducible refine then_normal ?_)
 | (with_reducible refine wp_skip ?_)
 | ((with_reducible refine g_move ?_); refine s_move hE rfl rfl ?_; clear hE a; intro a hE)
 | ((with_reducible refine g_assign ?_); refine s_assign hE rfl rfl ?_; clear hE a; intro a hE)
 | ((with_reducible refine g_bin .lss ?_); refine s_lss hE rfl rfl rfl ?_; clear hE a; intro a hE)
 | ((with_reducible refine g_bin .gtr ?_); refine s_gtr hE rfl rfl rfl ?_; clear hE a; intro a hE)
 | ((with_reducible refine g_bin .sub ?_); refine s_sub hE rfl rfl rfl (by first | exact subN (by omega) (by omega) ) ?_; clear hE a; intro a hE)
 | ((with_reducible refine g_conv ?_); refine s_conv hE rfl rfl (by first | exact e1 ) ?_; clear hE a; intro a hE)
 | ((with_reducible refine g_blt .len ?_); refine s_len hE rfl rfl ?_; clear hE a; intro a hE)
 | ((with_reducible refine g_guard ?_); refine gd_yes hE rfl rfl rfl ?_)
 | ((with_reducible refine g_guard ?_); refine gd_dec hE rfl rfl (fun hc hE2 => ?_) (fun hc hE2 => ?_) <;> (try omega) <;> (replace hE := hE2; clear hE2))
 | ((with_reducible refine g_pick ?_); refine s_pickF hE rfl rfl rfl ?_; clear hE a; intro a hE)
 | ((with_reducible refine g_cond ?_); refine c_dec hE rfl (fun hc => ?_) (fun hc => ?_) <;> try omega)
 | ((with_reducible refine g_ia ?_); refine s_idxR hE rfl rfl (by omega) (by omega) (by (first | exact Rd.st (by assumption) hS )) (by first | omega ) rfl ?_; clear hE a; intro a hE))
  rw [Int.toNat_natCast] at hE
  refine s_val hE rfl rfl rfl (r_sliceALH (lo := 16) (hi := 20) hE rfl rfl rfl (by decide) (by decide) (by decide)) ?_
  clear hE a; intro a hE
  refine s_call hE rfl rfl rfl (rnum _ _ ((x.drop 16).take 4) (20 - 16) w (hsub w (hr.st hS) 16 4) hb16 (by omega) (by rw [hl16])) ?_
  rintro _ w ⟨rfl, hS1⟩; clear hE a; intro a hE; replace hS := hS.frame hS1; clear hS1; try simp only [List.cons_append, List.nil_append] at hS
  rw [show bnum 0 ((x.drop 16).take 4) = stL x from rfl] at hE
  have e5 : IntKind.i64.wrap ((at_ : Int) + (stN x : Int)) = ((at_ + stN x : Nat) : Int) := by rw [wrap64_in (by omega)]; omega
  have hnl2 : stN x ≤ (x :: l').length := by omega
  have hstB : stM (x :: l') t n = none ∨ True := .inr trivial
  have hbl2 := fun k => bodies_len (l := (x :: l').take k) fun b hb => hly b (List.mem_of_mem_take hb)
  have hbb := bodies_bs (l := (x :: l').take (stN x)) fun b hb => hly b (List.mem_of_mem_take hb)
  have hstc : ¬ 40000 < stL x → stN x = secN (stL x) → stM (x :: l') t n = if partsB t n (stB (x :: l') (stN x) (stL x)) = (x :: l').take (stN x) then some (stB (x :: l') (stN x) (stL x)) else none := fun h1 h2 => stM_cons h1 h2 hnl2
  have hstn : (40000 < stL x ∨ stN x ≠ secN (stL x)) → stM (x :: l') t n = none := fun h => if_pos (by omega)
  repeat' (first
 | (with_reducible refine wp_seq ?_)
 | (with_reducible refine c_region ?_)
 | (with_reducible refine wpList_nil ?_)
 | (with_reducible refine then_normal ?_)
 | (with_reducible refine wp_block ?_)
 | ((with_reducible refine g_move ?_); refine s_move hE rfl rfl ?_; clear hE a; intro a hE)
 | ((with_reducible refine g_assign ?_); refine s_assign hE rfl rfl ?_; clear hE a; intro a hE)
 | ((with_reducible refine g_bin .add ?_); refine s_add hE rfl rfl rfl (by first | exact e5 ) ?_; clear hE a; intro a hE)
 | ((with_reducible refine g_blt .len ?_); refine s_len hE rfl rfl ?_; clear hE a; intro a hE)
 | ((with_reducible refine g_sliceLH ?_); refine s_val hE rfl rfl rfl (r_cutLH hE rfl rfl rfl (by omega) (by omega)) ?_; clear hE a; intro a hE))
  rw [Int.toNat_natCast, Int.toNat_natCast, if_neg (show ¬ c = at_ by omega), show at_ + stN x - at_ = stN x by omega] at hE
  obtain ⟨Ay, hAy⟩ : ∃ Ay, Ay = A.map (fun z : Addr => z.add (at_ * 64)) := ⟨_, rfl⟩
  rw [← hAy] at hE hry
  have hxl : ((x :: l').take (stN x)).length = stN x := by rw [List.length_take]; omega
  generalize hnx : stN x = nn at hE hxl hnl e1 hbb hnl2 hbad e5 hstc hstn ⊢
  generalize hlx : stL x = lo at hE hll2 hstc hstn ⊢
  have hfy : ((x :: l').flatMap bys).length = (x :: l').length * 64 := flat_len (blk_len hly)
  generalize hlyq : x :: l' = ly at hdr hly hyl hry hbl2 hbb hxl hnl2 hstc hstn hfy ⊢
  clear hnx hlx hstB hsub hb10 hb16 hl10 hl16 hxo hlyq
  have hlyl : ly.length ≤ 1000 := by omega
  obtain ⟨cy, hcy⟩ : ∃ cy, cy = c - at_ := ⟨_, rfl⟩
  rw [← hcy] at hE
  have hS2 : St w0 w [hRow 5 1 none 0 0 (bys (bodies (ly.take 0)))] := St.rowNil hS _ _
  clear hS; have hS := hS2; clear hS2
  refine wp_loop_ghost (fun q a w => ∃ (k : Nat) (A5 : Option Addr) (c5 : Nat), k + q = nn ∧ St w0 w [hRow 5 1 A5 (bodies (ly.take k)).length c5 (bys (bodies (ly.take k)))] ∧
    Env 97 [(0, .slice A l.length c), (1, .int .i64 (at_ : Int)), (2, .int .u32 (t : Int)), (3, .int .u32 (n : Int)), (10, .int .i64 (nn : Int)), (11, .int .u64 (lo : Int)), (12, .slice A5 (bodies (ly.take k)).length c5), (47, .slice Ay nn cy), (48, .int .i64 (nn : Int)), (49, .int .i64 (k : Int))] a) nn ⟨0, none, 0, by omega, hS, hE.sub ⟨rfl, rfl, rfl, rfl, rfl, rfl, rfl, rfl, rfl, rfl, trivial⟩⟩ ?_
  clear hE a hS
  rintro q a w ⟨k, A5, c5, hk, hS, hE⟩
  by_cases hk1 : k < nn
  · have hky : k < ly.length := by omega
    have hseg := flat_seg (c := bys) (size := 64) (l := ly) (blk_len hly) hky
    have hyo := hly _ (List.getElem_mem hky)
    have htk : ly.take (k + 1) = ly.take k ++ [ly[k]] := List.take_succ_eq_append_getElem hky
    generalize ly[k] = y at hseg hyo htk
    have hyl2 : (bys y).length = 64 := by rw [bys_length]; exact hyo.1
    have hone := bys_one y
    have hryw := hry w (hr.st hS)
    have hbk := hbl2 k
    have hbk1 : (ly.take k).length ≤ k := List.length_take_le _ _
    repeat' (first
 | (with_reducible refine wp_seq ?_)
 | (with_reducible refine c_region ?_)
 | (with_reducible refine wpList_nil ?_)
 | (with_reducible refine then_normal ?_)
 | (with_reducible refine wp_skip ?_)
 | (with_reducible refine wp_block ?_)
 | ((with_reducible refine g_move ?_); refine s_move hE rfl rfl ?_; clear hE a; intro a hE)
 | ((with_reducible refine g_bin .lss ?_); refine s_lss hE rfl rfl rfl ?_; clear hE a; intro a hE)
 | ((with_reducible refine g_cond ?_); refine c_dec hE rfl (fun hc => ?_) (fun hc => ?_) <;> try omega)
 | ((with_reducible refine g_ia ?_); refine s_idxR hE rfl rfl (by omega) (by omega) (by (first | assumption)) (by first | omega ) rfl ?_; clear hE a; intro a hE)
 | ((with_reducible refine g_alloc ?_); refine s_allocS hE hS rfl rfl ?_; clear hE a hS; intro g a w hE hS)
 | ((with_reducible refine g_store ?_); (first | (refine s_storeW (k := 0) hS hE rfl rfl rfl (by assumption) (by first | rfl ) (by first | exact bys_one _ ) ?_) ); clear hS; intro w hS; simp only [List.set_cons_zero, List.set_cons_succ, Nat.add_zero] at hS)
 | ((with_reducible refine g_load ?_); refine s_elemR hE rfl (by (first | assumption )) (by first | exact hseg ) (by first | assumption) (by rfl) rfl ?_; clear hE a; intro a hE))
    obtain ⟨g13, rfl⟩ : ∃ x, x = g := ⟨_, rfl⟩
    refine s_val hE rfl rfl rfl (r_sliceAL hE rfl rfl (by decide)) ?_
    clear hE a; intro a hE
    have hrd16 : Rd w (some ((⟨g13, 0, none⟩ : Addr).add (Int.toNat 16 * 1))) (bys (y.drop 16)) := by
      rw [bys_drop, add_lit]
      exact (hS.blkRdAt (k := 0) (o := 16) rfl)
    refine s_appendB (k := 1) hE hS rfl rfl rfl hrd16 rfl (by rw [List.length_drop, hyo.1]; rfl) (by rw [List.length_drop, hyo.1]; omega) rfl rfl rfl ?_
    clear hE a hS; intro A7 c7 a w hE hS; simp only [List.set_cons_zero, List.set_cons_succ] at hS
    rw [← bodies_snoc, ← htk] at hE hS
    repeat' (first
 | (with_reducible refine c_region ?_)
 | (with_reducible refine wpList_nil ?_)
 | (with_reducible refine then_normal ?_)
 | (with_reducible refine block_normal ?_)
 | ((with_reducible refine g_move ?_); refine s_move hE rfl rfl ?_; clear hE a; intro a hE)
 | ((with_reducible refine g_assign ?_); refine s_assign hE rfl rfl ?_; clear hE a; intro a hE)
 | ((with_reducible refine g_bin .add ?_); refine s_add hE rfl rfl rfl (by first  | exact wrap64_in (by omega) ) ?_; clear hE a; intro a hE))
    exact ⟨q - 1, by omega, k + 1, A7, c7, by omega, hS.tail, hE.sub ⟨rfl, rfl, rfl, rfl, rfl, rfl, rfl, rfl, rfl, rfl, trivial⟩⟩
  · obtain rfl : k = nn := by omega
    have hal := hbl2 k
    rw [hxl] at hal
    have e2 : IntKind.u64.wrap (4 + (lo : Int)) = ((4 + lo : Nat) : Int) := by rw [wrap_u64_in (by omega)]; rfl
    have e3 : IntKind.u64.wrap ((bodies (ly.take k)).length : Int) = ((bodies (ly.take k)).length : Int) := wrap_u64_in (by omega)
    by_cases hbad2 : 40000 < lo ∨ (bodies (ly.take k)).length < 4 + lo
    · have hno := hstn (by
        by_cases h40 : 40000 < lo
        · exact .inl h40
        · have := secN_fit (n := lo) (by omega)
          omega)
      rw [hno]
      repeat' (first
 | (with_reducible refine wp_seq ?_)
 | (with_reducible refine c_region ?_)
 | (with_reducible refine wpList_nil ?_)
 | (with_reducible refine then_normal ?_)
 | (with_reducible refine wp_ret ?_)
 | (with_reducible refine then_ret ?_)
 | (with_reducible refine wp_exit ?_)
 | (with_reducible refine then_exit ?_)
 | (with_reducible refine block_same ?_)
 | ((with_reducible refine g_move ?_); refine s_move hE rfl rfl ?_; clear hE a; intro a hE)
 | ((with_reducible refine g_assign ?_); refine s_assign hE rfl rfl ?_; clear hE a; intro a hE)
 | ((with_reducible refine g_bin .lss ?_); refine s_lss hE rfl rfl rfl ?_; clear hE a; intro a hE)
 | ((with_reducible refine g_bin .gtr ?_); refine s_gtr hE rfl rfl rfl ?_; clear hE a; intro a hE)
 | ((with_reducible refine g_bin .add ?_); refine s_add hE rfl rfl rfl (by first | exact e2 ) ?_; clear hE a; intro a hE)
 | ((with_reducible refine g_conv ?_); refine s_conv hE rfl rfl (by first | exact e3 ) ?_; clear hE a; intro a hE)
 | ((with_reducible refine g_blt .len ?_); refine s_len hE rfl rfl ?_; clear hE a; intro a hE)
 | ((with_reducible refine g_guard ?_); refine gd_yes hE rfl rfl rfl ?_)
 | ((with_reducible refine g_guard ?_); refine gd_no hE rfl rfl rfl rfl ?_; clear hE a; intro a hE)
 | ((with_reducible refine g_guard ?_); refine gd_dec hE rfl rfl (fun hc hE2 => ?_) (fun hc hE2 => ?_) <;> (try omega) <;> (replace hE := hE2; clear hE2))
 | ((with_reducible refine g_pick ?_); refine s_pickT hE rfl rfl rfl ?_; clear hE a; intro a hE)
 | ((with_reducible refine g_pick ?_); refine s_pickF hE rfl rfl rfl ?_; clear hE a; intro a hE)
 | ((with_reducible refine g_cond ?_); refine c_true hE rfl ?_)
 | ((with_reducible refine g_cond ?_); refine c_dec hE rfl (fun hc => ?_) (fun hc => ?_) <;> try omega))
      all_goals exact ret2 hE rfl rfl rfl (.inl ⟨rfl, rfl, hS.nil⟩)
    have hbE : (stB ly k lo).length = lo := by unfold stB; rw [List.length_take, List.length_drop, hal]; omega
    have hbB : Bs (stB ly k lo) := fun c hc => hbb c (List.mem_of_mem_drop (List.mem_of_mem_take hc))
    have hrs : ∀ w' A', Rd w' A' (bys (bodies (ly.take k))) → Rd w' (A'.map (·.add 4)) (bys (stB ly k lo)) := fun w' A' h => by
      unfold stB
      rw [bys_take, bys_drop]
      exact (h.drop 4).take lo
    obtain ⟨_, hcap, _⟩ := hS.lenAt (k := 0) rfl
    repeat' (first
 | (with_reducible refine wp_seq ?_)
 | (with_reducible refine c_region ?_)
 | (with_reducible refine wpList_nil ?_)
 | (with_reducible refine then_normal ?_)
 | (with_reducible refine wp_skip ?_)
 | (with_reducible refine wp_exit ?_)
 | (with_reducible refine then_exit ?_)
 | (with_reducible refine block_same ?_)
 | ((with_reducible refine g_move ?_); refine s_move hE rfl rfl ?_; clear hE a; intro a hE)
 | ((with_reducible refine g_assign ?_); refine s_assign hE rfl rfl ?_; clear hE a; intro a hE)
 | ((with_reducible refine g_bin .lss ?_); refine s_lss hE rfl rfl rfl ?_; clear hE a; intro a hE)
 | ((with_reducible refine g_bin .gtr ?_); refine s_gtr hE rfl rfl rfl ?_; clear hE a; intro a hE)
 | ((with_reducible refine g_bin .add ?_); refine s_add hE rfl rfl rfl (by first | exact e2 ) ?_; clear hE a; intro a hE)
 | ((with_reducible refine g_conv ?_); refine s_conv hE rfl rfl (by first | exact e3 ) ?_; clear hE a; intro a hE)
 | ((with_reducible refine g_blt .len ?_); refine s_len hE rfl rfl ?_; clear hE a; intro a hE)
 | ((with_reducible refine g_guard ?_); refine gd_yes hE rfl rfl rfl ?_)
 | ((with_reducible refine g_guard ?_); refine gd_dec hE rfl rfl (fun hc hE2 => ?_) (fun hc hE2 => ?_) <;> (try omega) <;> (replace hE := hE2; clear hE2))
 | ((with_reducible refine g_pick ?_); refine s_pickF hE rfl rfl rfl ?_; clear hE a; intro a hE)
 | ((with_reducible refine g_cond ?_); refine c_dec hE rfl (fun hc => ?_) (fun hc => ?_) <;> try omega)
 | ((with_reducible refine g_sliceLH ?_); refine s_val hE rfl rfl rfl (r_cutLH hE rfl rfl rfl (by omega) (by omega)) ?_; clear hE a; intro a hE))
    rw [if_neg (show ¬ c5 = Int.toNat 4 by show ¬ c5 = 4; omega), show (((4 + lo : Nat) : Int)).toNat - Int.toNat 4 = lo by rw [Int.toNat_natCast]; show 4 + lo - 4 = lo; omega] at hE
    have hS2 := St.rdCut (k := 4) (cs' := bys (stB ly k lo)) hS.rowRd (fun w h => hrs w A5 h)
    obtain ⟨A6, hA6⟩ : ∃ A6, A6 = A5.map (fun x : Addr => x.add 4) := ⟨_, rfl⟩
    rw [show (A5.map fun x : Addr => x.add (Int.toNat 4 * 1)) = A6 from hA6.symm] at hE
    rw [← hA6] at hS2
    clear hA6
    clear hS; have hS := hS2; clear hS2
    generalize hcx : c5 - Int.toNat 4 = cx at hE
    generalize hbq : stB ly k lo = b at hS hE hbE hbB hstc
    refine s_call hE rfl rfl rfl (rframe t n b A6 cx lo hbE.symm ht hn hbB (by omega) w hS.rd2) ?_
    rintro _ w ⟨A9, c9, rfl, hS1⟩; clear hE a; intro a hE; replace hS := hS.frame hS1; clear hS1; try simp only [List.cons_append, List.nil_append] at hS
    have hsl := secN_le b.length
    by_cases hlen : secN b.length = k
    · have hst := hstc (by omega) (by rw [← hbE]; exact hlen.symm)
      rw [hst]
      clear hst hstc hstn
      have hpl : (partsB t n b).length = secN b.length := partsB_len ..
      have hpo := partsB_ok (t := t) (n := n) hbB (by omega)
      have hfp : ((partsB t n b).flatMap bys).length = secN b.length * 64 := by rw [flat_bys hpo, hpl]
      have hin2 : ∀ j, j < k → ly[j]? = l[at_ + j]? := fun j hj => by rw [← hdr, List.getElem?_drop]
      generalize partsB t n b = pl at hS hpl hpo hfp ⊢
      repeat' (first
 | (with_reducible refine wp_seq ?_)
 | (with_reducible refine c_region ?_)
 | (with_reducible refine wpList_nil ?_)
 | (with_reducible refine then_normal ?_)
 | (with_reducible refine wp_skip ?_)
 | (with_reducible refine wp_block ?_)
 | ((with_reducible refine g_move ?_); refine s_move hE rfl rfl ?_; clear hE a; intro a hE)
 | ((with_reducible refine g_assign ?_); refine s_assign hE rfl rfl ?_; clear hE a; intro a hE)
 | ((with_reducible refine g_bin .neq ?_); refine s_neq hE rfl rfl rfl ?_; clear hE a; intro a hE)
 | ((with_reducible refine g_blt .len ?_); refine s_len hE rfl rfl ?_; clear hE a; intro a hE)
 | ((with_reducible refine g_cond ?_); refine c_dec hE rfl (fun hc => ?_) (fun hc => ?_) <;> try omega))
      refine wp_loop_ghost (fun q a w => ∃ (j : Nat), j + q = secN b.length ∧ (∀ i, i < j → pl[i]? = ly[i]?) ∧ St w0 w [hRow 80 64 A9 (secN b.length) c9 (pl.flatMap bys), hRd A6 (bys b)] ∧
        Env 97 [(0, .slice A l.length c), (1, .int .i64 (at_ : Int)), (12, .slice A6 lo cx), (15, .slice A9 (secN b.length) c9), (80, .int .i64 (secN b.length : Int)), (81, .int .i64 (j : Int))] a) (secN b.length) ⟨0, by omega, fun i hi => absurd hi (Nat.not_lt_zero _), hS, hE.sub ⟨rfl, rfl, rfl, rfl, rfl, rfl, trivial⟩⟩ ?_
      clear hE a hS
      rintro q a w ⟨j, hj, hpre, hS, hE⟩
      by_cases hj1 : j < secN b.length
      · have hjl : at_ + j < l.length := by omega
        have hjp : j < pl.length := by omega
        have hseg := flat_seg (c := bys) (size := 64) (l := l) (blk_len hl) hjl
        have hsegp := flat_seg (c := bys) (size := 64) (l := pl) (blk_len hpo) hjp
        have hzo := hl _ (List.getElem_mem hjl)
        have hxo := hpo _ (List.getElem_mem hjp)
        have hgz : ly[j]? = some l[at_ + j] := by rw [hin2 j (by omega), List.getElem?_eq_getElem hjl]
        have hgx : pl[j]? = some pl[j] := List.getElem?_eq_getElem hjp
        generalize l[at_ + j] = zb at hseg hzo hgz
        generalize pl[j] = xb at hsegp hxo hgx
        have hzl : (bys zb).length = 64 := by rw [bys_length]; exact hzo.1
        have hxl2 : (bys xb).length = 64 := by rw [bys_length]; exact hxo.1
        have e6 : IntKind.i64.wrap ((at_ : Int) + (j : Int)) = ((at_ + j : Nat) : Int) := by rw [wrap64_in (by omega)]; omega
        repeat' (first
 | (with_reducible refine wp_seq ?_)
 | (with_reducible refine c_region ?_)
 | (with_reducible refine wpList_nil ?_)
 | (with_reducible refine then_normal ?_)
 | (with_reducible refine wp_skip ?_)
 | (with_reducible refine wp_block ?_)
 | ((with_reducible refine g_move ?_); refine s_move hE rfl rfl ?_; clear hE a; intro a hE)
 | ((with_reducible refine g_assign ?_); refine s_assign hE rfl rfl ?_; clear hE a; intro a hE)
 | ((with_reducible refine g_bin .lss ?_); refine s_lss hE rfl rfl rfl ?_; clear hE a; intro a hE)
 | ((with_reducible refine g_cond ?_); refine c_dec hE rfl (fun hc => ?_) (fun hc => ?_) <;> try omega))
        refine c_ordS hS 11 ((.rd 0 (.rd 1 (.rd 2 (.rd 3 (.rd 4 (.rd 5 (.rd 6 (.rd 7 (.rd 8 (.rd 9 (.rd 10 .done)))))))))))) mixed (by decide +kernel) ?_
        clear hS; intro w hS
        repeat' (first
 | (with_reducible refine o_rd rfl ?_)
 | ((with_reducible refine q_move ?_); refine d_val hE hS rfl (fun w hS => r_move hE rfl) ?_; clear hE a; intro a hE)
 | ((with_reducible refine q_bin .add ?_); refine d_val hE hS rfl (fun w hS => r_add hE rfl rfl (by first | exact e6 )) ?_; clear hE a; intro a hE)
 | ((with_reducible refine q_ia ?_); refine d_val hE hS rfl (fun w hS => r_idxR hE rfl rfl (by omega) (by omega) (by (first | exact hS.rd | exact Rd.st (by assumption) hS )) (by first | omega )) ?_; clear hE a; intro a hE)
 | ((with_reducible refine q_load ?_); refine d_val hE hS rfl (fun w hS => r_elemR hE rfl (by first | exact hS.rd | exact Rd.st (by assumption) hS ) (by first | exact hseg | exact hsegp) (by first | assumption) rfl) ?_; clear hE a; intro a hE))
        refine d_val hE hS rfl (fun w hS => r_neA hE rfl rfl hxo.1 hzo.1) ?_; clear hE a; intro a hE
        by_cases hz : xb = zb
        · rw [decide_eq_false (show ¬ (xb ≠ zb) from fun h => h hz)] at hE
          repeat' (first
 | (with_reducible refine o_done ?_))
          repeat' (first
 | (with_reducible refine c_region ?_)
 | (with_reducible refine wpList_nil ?_)
 | (with_reducible refine then_normal ?_)
 | (with_reducible refine wp_skip ?_)
 | (with_reducible refine block_normal ?_)
 | ((with_reducible refine g_move ?_); refine s_move hE rfl rfl ?_; clear hE a; intro a hE)
 | ((with_reducible refine g_bin .add ?_); refine s_add hE rfl rfl rfl (by first  | exact wrap64_in (by omega) ) ?_; clear hE a; intro a hE)
 | ((with_reducible refine g_cond ?_); refine c_false hE rfl ?_))
          refine ⟨q - 1, by omega, j + 1, by omega, fun i hi => ?_, hS, hE.sub ⟨rfl, rfl, rfl, rfl, rfl, rfl, trivial⟩⟩
          by_cases hij : i = j
          · subst hij; rw [hgx, hgz, hz]
          · exact hpre i (by omega)
        · rw [decide_eq_true (show xb ≠ zb from hz)] at hE
          have hne : pl ≠ ly.take k := fun h => hz (by
            have h2 : pl[j]? = (ly.take k)[j]? := by rw [h]
            rw [List.getElem?_take_of_lt (by omega), hgx, hgz] at h2
            exact Option.some.inj h2)
          rw [if_neg hne]
          repeat' (first
 | (with_reducible refine o_done ?_))
          repeat' (first
 | (with_reducible refine wp_seq ?_)
 | (with_reducible refine c_region ?_)
 | (with_reducible refine wpList_nil ?_)
 | (with_reducible refine then_normal ?_)
 | (with_reducible refine wp_ret ?_)
 | (with_reducible refine then_ret ?_)
 | (with_reducible refine block_ret ?_)
 | ((with_reducible refine g_assign ?_); refine s_assign hE rfl rfl ?_; clear hE a; intro a hE)
 | ((with_reducible refine g_cond ?_); refine c_true hE rfl ?_))
          exact ret2 hE rfl rfl rfl (.inl ⟨rfl, rfl, hS.nil⟩)
      · have heq : pl = ly.take k := by
          refine List.ext_getElem? fun i => ?_
          by_cases hi : i < k
          · rw [List.getElem?_take_of_lt hi]; exact hpre i (by omega)
          · rw [List.getElem?_eq_none (by omega), List.getElem?_eq_none (by rw [hxl]; omega)]
        rw [if_pos heq]
        repeat' (first
 | (with_reducible refine wp_seq ?_)
 | (with_reducible refine c_region ?_)
 | (with_reducible refine wpList_nil ?_)
 | (with_reducible refine then_normal ?_)
 | (with_reducible refine wp_ret ?_)
 | (with_reducible refine wp_exit ?_)
 | (with_reducible refine then_exit ?_)
 | (with_reducible refine block_same ?_)
 | ((with_reducible refine g_move ?_); refine s_move hE rfl rfl ?_; clear hE a; intro a hE)
 | ((with_reducible refine g_assign ?_); refine s_assign hE rfl rfl ?_; clear hE a; intro a hE)
 | ((with_reducible refine g_bin .lss ?_); refine s_lss hE rfl rfl rfl ?_; clear hE a; intro a hE)
 | ((with_reducible refine g_cond ?_); refine c_dec hE rfl (fun hc => ?_) (fun hc => ?_) <;> try omega))
        exact ret2 hE rfl rfl rfl (.inr ⟨b, A6, cx, rfl, by omega, hbB, by rw [hbE], hS.only 1 rfl⟩)
    · have hst := hstn (.inr (by rw [← hbE]; omega))
      rw [hst]
      repeat' (first
 | (with_reducible refine wp_seq ?_)
 | (with_reducible refine c_region ?_)
 | (with_reducible refine wpList_nil ?_)
 | (with_reducible refine then_normal ?_)
 | (with_reducible refine wp_ret ?_)
 | (with_reducible refine then_ret ?_)
 | ((with_reducible refine g_move ?_); refine s_move hE rfl rfl ?_; clear hE a; intro a hE)
 | ((with_reducible refine g_assign ?_); refine s_assign hE rfl rfl ?_; clear hE a; intro a hE)
 | ((with_reducible refine g_bin .neq ?_); refine s_neq hE rfl rfl rfl ?_; clear hE a; intro a hE)
 | ((with_reducible refine g_blt .len ?_); refine s_len hE rfl rfl ?_; clear hE a; intro a hE)
 | ((with_reducible refine g_cond ?_); refine c_dec hE rfl (fun hc => ?_) (fun hc => ?_) <;> try omega))
      exact ret2 hE rfl rfl rfl (.inl ⟨rfl, rfl, hS.nil⟩)
end
end Go.Proofs.Ytfoeelghehjanaa
