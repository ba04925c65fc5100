/-
  The document's tuples: which may be, their bytes, which tuple bytes are.
-/
import Derived.Test.YtaiahigeejodaaaHI
import Derived.Test.YtaiahigeejodaaaGK
namespace Go.Proofs.Ytaiahigeejodaaa
open Go.RowKit
set_option linter.unusedVariables false
set_option linter.unusedSimpArgs false
attribute [local irreducible] Rd hRow hBlk hRd hRdr rowsP Fn hMarks

/-- a point of a region that several orders reach, shown once -/
theorem cutO {P : Program} {l : List Oper} {K : Act → World → Prop} {S : World → Prop} {p : Pl} {a : Act} {w : World} (M : Act → World → Prop) (main : (∀ a w, M a w → K a w) → wpO P l K S p a w) (tail : ∀ a w, M a w → K a w) : wpO P l K S p a w := main tail
theorem bcut {xs : List Nat} (hx : Bs xs) (i n : Nat) : Bs ((xs.drop i).take n) := fun c hc => hx c (List.mem_of_mem_drop (List.mem_of_mem_take hc))
theorem xmul {x c : Nat} (h : x * 256 < 18446744073709551616) : IntKind.u64.wrap ((x : Int) * 256) = ((x * 256 : Nat) : Int) := by
  rw [wrap_u64_in (by omega)]; omega
theorem xadd {x c : Nat} (hc : c < 256) (h : x * 256 < 18446744073709551616) : IntKind.u64.wrap (((x * 256 : Nat) : Int) + (c : Int)) = ((x * 256 + c : Nat) : Int) := by
  rw [wrap_u64_in (by omega)]; omega
section
variable {H : List HP} {w0 w : World}
set_option maxHeartbeats 8000000
theorem xbox (x0 x1 y0 y1 : Int) (w0 : World) : Fn Try.prog 33 [.agg [Value.int .i64 x0, .int .i64 x1, .int .i64 y0, .int .i64 y1].toArray] w0 fun v w' => v = .bool (decide (x0 ≤ x1 ∧ y0 ≤ y1)) ∧ St w0 w' [] := by
  refine enter 15 Try.func33 rfl rfl rfl ?_
  intro a hE
  have hS := St.start w0
  repeat' (first

    | (with_reducible refine wp_seq ?_)
    | (with_reducible refine c_region ?_)
    | (with_reducible refine wpList_nil ?_)
    | (with_reducible refine then_normal ?_)
    | (with_reducible refine wp_ret ?_)
    | ((with_reducible refine g_move ?_); refine s_move hE rfl rfl ?_; clear hE a; intro a hE)
    | ((with_reducible refine g_assign ?_); refine s_assign hE rfl rfl ?_; clear hE a; intro a hE)
    | ((with_reducible refine g_bin .leq ?_); refine s_leq hE rfl rfl rfl ?_; clear hE a; intro a hE)
    | ((with_reducible refine g_fa ?_); refine s_fieldL hE rfl rfl rfl ?_; clear hE a; intro a hE)
    | ((with_reducible refine g_guard ?_); refine gd_yes hE rfl rfl rfl ?_)
    | ((with_reducible refine g_guard ?_); refine gd_no hE rfl rfl rfl rfl ?_; clear hE a; intro a hE)
    | ((with_reducible refine g_guard ?_); refine gd_dec hE rfl rfl (fun hc hE2 => ?_) (fun hc hE2 => ?_) <;> (try omega) <;> (replace hE := hE2; clear hE2))
    | ((with_reducible refine g_pick ?_); refine s_pickT hE rfl rfl rfl ?_; clear hE a; intro a hE)
    | ((with_reducible refine g_pick ?_); refine s_pickF hE rfl rfl rfl ?_; clear hE a; intro a hE)
    | ((with_reducible refine g_load ?_); (first | (refine s_loadB (k := 0) hS hE rfl rfl rfl rfl ?_) ); clear hE a; intro a hE)
    | ((with_reducible refine g_box ?_); refine s_boxS hE hS rfl rfl ?_; clear hE a hS; intro g a w hE hS)
    )
  · rw [show decide (x0 ≤ x1 ∧ y0 ≤ y1) = decide (y0 ≤ y1) by simp; omega]
    exact ret1 hE rfl rfl ⟨rfl, hS.nil⟩
  · rw [decide_eq_false (show ¬ (x0 ≤ x1 ∧ y0 ≤ y1) by omega)]
    exact ret1 hE rfl rfl ⟨rfl, hS.nil⟩
theorem xright (t : TM) (w0 : World) : Fn Try.prog 11 [.agg t.cells.toArray] w0 fun v w' => v = .bool t.right ∧ St w0 w' [] := by
  have hri : t.right = decide (1 ≤ t.r ∧ 1 ≤ t.a ∧ t.a ≤ 4294967295 ∧ t.b ≤ 4294967295 ∧ t.x0 ≤ t.x1 ∧ t.y0 ≤ t.y1) := rfl
  have hcl : t.cells.length = 8 := rfl
  refine enter 26 Try.func11 rfl rfl rfl ?_
  intro a hE
  have hS := St.start w0
  have hk : (t.cells.drop (0 + 3)).take 4 = [Value.int .i64 t.x0, .int .i64 t.x1, .int .i64 t.y0, .int .i64 t.y1] := rfl
  by_cases h : 1 ≤ t.r ∧ 1 ≤ t.a ∧ t.a ≤ 4294967295 ∧ t.b ≤ 4294967295
  · have hd1 : decide ((1 : Int) ≤ (t.r : Int)) = true := decide_eq_true (by omega)
    repeat' (first

      | (with_reducible refine wp_seq ?_)
      | (with_reducible refine c_region ?_)
      | (with_reducible refine wpList_nil ?_)
      | (with_reducible refine then_normal ?_)
      | ((with_reducible refine g_move ?_); refine s_move hE rfl rfl ?_; clear hE a; intro a hE)
      | ((with_reducible refine g_assign ?_); refine s_assign hE rfl rfl ?_; clear hE a; intro a hE)
      | ((with_reducible refine g_bin .leq ?_); refine s_leq hE rfl rfl rfl ?_; clear hE a; intro a hE)
      | ((with_reducible refine g_bin .geq ?_); refine s_geq hE rfl rfl rfl ?_; clear hE a; intro a hE)
      | ((with_reducible refine g_fa ?_); refine s_fieldL hE rfl rfl rfl ?_; clear hE a; intro a hE)
      | ((with_reducible refine g_guard ?_); refine gd_yes hE rfl rfl rfl ?_)
      | ((with_reducible refine g_guard ?_); refine gd_dec hE rfl rfl (fun hc hE2 => ?_) (fun hc hE2 => ?_) <;> (try omega) <;> (replace hE := hE2; clear hE2))
      | ((with_reducible refine g_pick ?_); refine s_pickT hE rfl rfl rfl ?_; clear hE a; intro a hE)
      | ((with_reducible refine g_load ?_); (first | (refine s_loadB (k := 0) hS hE rfl rfl rfl rfl ?_) ); clear hE a; intro a hE)
      | ((with_reducible refine g_box ?_); refine s_boxS hE hS rfl rfl ?_; clear hE a hS; intro g a w hE hS)
      | ((with_reducible refine g_load ?_); (first | (refine s_loadBs (k := 0) hS hE rfl rfl (by first | exact hk ) (by omega) rfl ?_) ); clear hE a; intro a hE)
      )
    refine s_call hE rfl rfl rfl (xbox t.x0 t.x1 t.y0 t.y1 w) ?_
    rintro _ w ⟨rfl, hS1⟩; clear hE a; intro a hE; replace hS := hS.frame hS1; clear hS1; try simp only [List.cons_append, List.nil_append] at hS
    rw [hri, show decide (1 ≤ t.r ∧ 1 ≤ t.a ∧ t.a ≤ 4294967295 ∧ t.b ≤ 4294967295 ∧ t.x0 ≤ t.x1 ∧ t.y0 ≤ t.y1) = decide (t.x0 ≤ t.x1 ∧ t.y0 ≤ t.y1) from decide_eq_decide.2 (by omega)]
    repeat' (first

      | (with_reducible refine wpList_nil ?_)
      | (with_reducible refine then_normal ?_)
      | (with_reducible refine wp_ret ?_)
      | ((with_reducible refine g_assign ?_); refine s_assign hE rfl rfl ?_; clear hE a; intro a hE)
      | ((with_reducible refine g_pick ?_); refine s_pickT hE rfl rfl rfl ?_; clear hE a; intro a hE)
      )
    exact ret1 hE rfl rfl ⟨rfl, hS.nil⟩
  · rw [hri, decide_eq_false (fun h3 => h ⟨h3.1, h3.2.1, h3.2.2.1, h3.2.2.2.1⟩)]
    repeat' (first

      | (with_reducible refine wp_seq ?_)
      | (with_reducible refine c_region ?_)
      | (with_reducible refine wpList_nil ?_)
      | (with_reducible refine then_normal ?_)
      | (with_reducible refine wp_ret ?_)
      | ((with_reducible refine g_move ?_); refine s_move hE rfl rfl ?_; clear hE a; intro a hE)
      | ((with_reducible refine g_assign ?_); refine s_assign hE rfl rfl ?_; clear hE a; intro a hE)
      | ((with_reducible refine g_bin .leq ?_); refine s_leq hE rfl rfl rfl ?_; clear hE a; intro a hE)
      | ((with_reducible refine g_bin .geq ?_); refine s_geq hE rfl rfl rfl ?_; clear hE a; intro a hE)
      | ((with_reducible refine g_fa ?_); refine s_fieldL hE rfl rfl rfl ?_; clear hE a; intro a hE)
      | ((with_reducible refine g_guard ?_); refine gd_yes hE rfl rfl rfl ?_)
      | ((with_reducible refine g_guard ?_); refine gd_no hE rfl rfl rfl rfl ?_; clear hE a; intro a hE)
      | ((with_reducible refine g_guard ?_); refine gd_dec hE rfl rfl (fun hc hE2 => ?_) (fun hc hE2 => ?_) <;> (try omega) <;> (replace hE := hE2; clear hE2))
      | ((with_reducible refine g_pick ?_); refine s_pickT hE rfl rfl rfl ?_; clear hE a; intro a hE)
      | ((with_reducible refine g_pick ?_); refine s_pickF hE rfl rfl rfl ?_; clear hE a; intro a hE)
      | ((with_reducible refine g_load ?_); (first | (refine s_loadB (k := 0) hS hE rfl rfl rfl rfl ?_) ); clear hE a; intro a hE)
      | ((with_reducible refine g_box ?_); refine s_boxS hE hS rfl rfl ?_; clear hE a hS; intro g a w hE hS)
      )
    all_goals exact ret1 hE rfl rfl ⟨rfl, hS.nil⟩
theorem xhigh (x n : Nat) (hx : x < 18446744073709551616) (hn : n ≤ 8) (w0 : World) :
    Fn Try.prog 34 [.int .u64 (x : Int), .int .i64 (n : Int)] w0 fun v w' => ∃ A' c', v = .slice A' (beb n x).length c' ∧ St w0 w' [hRow 5 1 A' (beb n x).length c' (bys (beb n x))] := by
  refine enter 22 Try.func34 rfl rfl rfl ?_
  intro a hE
  have hS := St.start w0
  repeat' (first

    | (with_reducible refine wp_seq ?_)
    | (with_reducible refine c_region ?_)
    | (with_reducible refine wpList_nil ?_)
    | (with_reducible refine then_normal ?_)
    | (with_reducible refine wp_block ?_)
    | ((with_reducible refine g_move ?_); refine s_move hE rfl rfl ?_; clear hE a; intro a hE)
    | ((with_reducible refine g_assign ?_); refine s_assign hE rfl rfl ?_; clear hE a; intro a hE)
    | ((with_reducible refine g_bin .sub ?_); refine s_sub hE rfl rfl rfl (by first  | exact wrap64_in (by omega) ) ?_; clear hE a; intro a hE)
    )
  refine wp_loop_ghost (fun q a w => ∃ (ys : List Nat) (A1 : Option Addr) (c1 : Nat), ys ++ beb q x = beb n x ∧ q ≤ n ∧ St w0 w [hRow 5 1 A1 ys.length c1 (bys ys)] ∧ Env 22 [(5, .slice A1 ys.length c1), (0, .int .u64 (x : Int)), (6, .int .i64 ((q : Int) - 1))] a) n ⟨[], none, 0, rfl, Nat.le_refl _, hS.rowNil _ _, hE.sub ⟨rfl, rfl, rfl, trivial⟩⟩ ?_
  clear hE a hS
  rintro q a w ⟨ys, A2, c2, hy, hq, hS, hE⟩
  have hly := congrArg List.length hy
  simp only [List.length_append, beb_length] at hly
  by_cases hq0 : q = 0
  · subst hq0
    simp only [beb, List.append_nil] at hy
    subst hy
    repeat' (first
      | (with_reducible refine wp_seq ?_)
      | (with_reducible refine c_region ?_)
      | (with_reducible refine wpList_nil ?_)
      | (with_reducible refine then_normal ?_)
      | (with_reducible refine wp_ret ?_)
      | (with_reducible refine wp_exit ?_)
      | (with_reducible refine then_exit ?_)
      | (with_reducible refine block_same ?_)
      | ((with_reducible refine g_move ?_); refine s_move hE rfl rfl ?_; clear hE a; intro a hE)
      | ((with_reducible refine g_assign ?_); refine s_assign hE rfl rfl ?_; clear hE a; intro a hE)
      | ((with_reducible refine g_bin .geq ?_); refine s_geq hE rfl rfl rfl ?_; clear hE a; intro a hE)
      | ((with_reducible refine g_cond ?_); refine c_false hE rfl ?_)
      )
    exact ret1 hE rfl rfl ⟨A2, c2, rfl, hS⟩
  · obtain ⟨m, rfl⟩ : ∃ m, q = m + 1 := ⟨q - 1, by omega⟩
    replace hE := hE.as (d := 6) rfl (u := .int .i64 (m : Int)) (by simp)
    repeat' (first
      | (with_reducible refine wp_seq ?_)
      | (with_reducible refine c_region ?_)
      | (with_reducible refine wpList_nil ?_)
      | (with_reducible refine then_normal ?_)
      | (with_reducible refine wp_skip ?_)
      | (with_reducible refine wp_block ?_)
      | ((with_reducible refine g_move ?_); refine s_move hE rfl rfl ?_; clear hE a; intro a hE)
      | ((with_reducible refine g_bin .geq ?_); refine s_geq hE rfl rfl rfl ?_; clear hE a; intro a hE)
      | ((with_reducible refine g_bin .mul ?_); refine s_mul hE rfl rfl rfl (by first | exact mulN (a := 8) (by omega) ) ?_; clear hE a; intro a hE)
      | ((with_reducible refine g_bin .shr ?_); refine s_shr hE rfl rfl (by omega) rfl (by first | exact shr_nat x (8 * m) 64 (by omega) ) ?_; clear hE a; intro a hE)
      | ((with_reducible refine g_conv ?_); refine s_conv hE rfl rfl (by first | exact wrap_u8_nat (x / 2 ^ (8 * m))) ?_; clear hE a; intro a hE)
      | ((with_reducible refine g_cond ?_); refine c_true hE rfl ?_)
      )
    have e : ys.length + 1 = (ys ++ [x / 2 ^ (8 * m) % 256]).length := by simp
    refine s_append1 (s := .tmp 13) hE hS rfl rfl (by intro t h; cases h; rfl) rfl (by omega) rfl rfl rfl rfl ?_
    clear hE a hS; intro A3 c3 u a w hE hS
    rw [e] at hE hS
    repeat' (first
      | (with_reducible refine c_region ?_)
      | (with_reducible refine wpList_nil ?_)
      | (with_reducible refine then_normal ?_)
      | (with_reducible refine block_normal ?_)
      | ((with_reducible refine g_move ?_); refine s_move hE rfl rfl ?_; clear hE a; intro a hE)
      | ((with_reducible refine g_assign ?_); refine s_assign hE rfl rfl ?_; clear hE a; intro a hE)
      | ((with_reducible refine g_bin .sub ?_); refine s_sub hE rfl rfl rfl (by first | exact wrap64_in (by omega) ) ?_; clear hE a; intro a hE)
      )
    refine ⟨m, by omega, ys ++ [x / 2 ^ (8 * m) % 256], A3, c3, ?_, by omega, by rw [bys_append]; exact hS, hE.sub ⟨rfl, rfl, rfl, trivial⟩⟩
    rw [List.append_assoc]
    simp only [beb] at hy
    exact hy
theorem xnumber (A : Option Addr) (c : Nat) (ys : List Nat) (n : Nat) (w0 : World) (hr : Rd w0 A (bys ys)) (hb : Bs ys) (hl : ys.length ≤ 8) (hn : n = ys.length) :
    Fn Try.prog 38 [.slice A n c] w0 fun v w' => v = .int .u64 ((bnum 0 ys : Nat) : Int) ∧ St w0 w' [] := by
  subst hn
  refine enter 19 Try.func38 rfl rfl rfl ?_
  intro a hE
  have hS := St.start w0
  repeat' (first
    | (with_reducible refine wp_seq ?_)
    | (with_reducible refine c_region ?_)
    | (with_reducible refine wpList_nil ?_)
    | (with_reducible refine then_normal ?_)
    | (with_reducible refine wp_block ?_)
    | ((with_reducible refine g_move ?_); refine s_move hE rfl rfl ?_; clear hE a; intro a hE)
    | ((with_reducible refine g_assign ?_); refine s_assign hE rfl rfl ?_; clear hE a; intro a hE)
    | ((with_reducible refine g_blt .len ?_); refine s_len hE rfl rfl ?_; clear hE a; intro a hE)
    )
  refine wp_loop_ghost (fun q a w => ∃ (k : Nat), k + q = ys.length ∧ St w0 w [] ∧ Env 19 [(6, .slice A ys.length c), (7, .int .i64 (ys.length : Int)), (3, .int .u64 ((bnum 0 (ys.take k) : Nat) : Int)), (8, .int .i64 (k : Int))] a) ys.length ⟨0, by omega, hS, hE.sub ⟨rfl, rfl, rfl, rfl, trivial⟩⟩ ?_
  clear hE a hS
  rintro q a w ⟨k, hk, hS, hE⟩
  by_cases hk1 : k < ys.length
  · have hst := bnum_step hb hk1 (by omega)
    have hbk : ys[k] < 256 := hb _ (List.getElem_mem hk1)
    repeat' (first
      | (with_reducible refine wp_seq ?_)
      | (with_reducible refine c_region ?_)
      | (with_reducible refine wpList_nil ?_)
      | (with_reducible refine then_normal ?_)
      | (with_reducible refine wp_skip ?_)
      | (with_reducible refine wp_block ?_)
      | (with_reducible refine block_normal ?_)
      | ((with_reducible refine g_move ?_); refine s_move hE rfl rfl ?_; clear hE a; intro a hE)
      | ((with_reducible refine g_assign ?_); refine s_assign hE rfl rfl ?_; clear hE a; intro a hE)
      | ((with_reducible refine g_bin .lss ?_); refine s_lss hE rfl rfl rfl ?_; clear hE a; intro a hE)
      | ((with_reducible refine g_bin .add ?_); refine s_add hE rfl rfl rfl (by first | with_reducible exact xadd hbk hst | exact wrap64_in (by omega) ) ?_; clear hE a; intro a hE)
      | ((with_reducible refine g_bin .mul ?_); refine s_mul hE rfl rfl rfl (by first | with_reducible exact xmul (c := 0) hst ) ?_; clear hE a; intro a hE)
      | ((with_reducible refine g_conv ?_); refine s_conv hE rfl rfl (by first | exact wrap_u64_in (by omega) ) ?_; clear hE a; intro a hE)
      | ((with_reducible refine g_cond ?_); refine c_dec hE rfl (fun hc => ?_) (fun hc => ?_) <;> try omega)
      | ((with_reducible refine g_ia ?_); refine s_idxR hE rfl rfl (by omega) (by omega) (by (first | exact Rd.st (by assumption) hS )) (by first | (simp only [bys_length]; omega)) rfl ?_; clear hE a; intro a hE)
      | ((with_reducible refine g_load ?_); refine s_loadR hE rfl (by (first | exact Rd.st (by assumption) hS )) (by first | exact bys_getM hk1) rfl ?_; clear hE a; intro a hE)
      )
    refine ⟨q - 1, by omega, k + 1, by omega, hS, hE.sub ⟨rfl, rfl, ?_, rfl, trivial⟩⟩
    rw [bnum_take hk1]
    rfl
  · obtain rfl : k = ys.length := by omega
    rw [List.take_length] at hE
    repeat' (first
      | (with_reducible refine wp_seq ?_)
      | (with_reducible refine c_region ?_)
      | (with_reducible refine wpList_nil ?_)
      | (with_reducible refine then_normal ?_)
      | (with_reducible refine wp_ret ?_)
      | (with_reducible refine wp_exit ?_)
      | (with_reducible refine then_exit ?_)
      | (with_reducible refine block_same ?_)
      | ((with_reducible refine g_move ?_); refine s_move hE rfl rfl ?_; clear hE a; intro a hE)
      | ((with_reducible refine g_assign ?_); refine s_assign hE rfl rfl ?_; clear hE a; intro a hE)
      | ((with_reducible refine g_bin .lss ?_); refine s_lss hE rfl rfl rfl ?_; clear hE a; intro a hE)
      | ((with_reducible refine g_cond ?_); refine c_dec hE rfl (fun hc => ?_) (fun hc => ?_) <;> try omega)
      )
    exact ret1 hE rfl rfl ⟨rfl, hS⟩
theorem xbytes (t : TM) (ht : t.ok) (w0 : World) : Fn Try.prog 13 [.agg t.cells.toArray] w0 fun v w' => ∃ A c, v = .slice A t.enc.length c ∧ St w0 w' [hRow 5 1 A t.enc.length c (bys t.enc)] := by
  have hcl : t.cells.length = 8 := rfl
  have hr4 := ht.r
  have ha4 := ht.a
  have hb4 := ht.b
  have e1 : IntKind.u64.wrap (t.r : Int) = (t.r : Int) := wrap_u64_in (by omega)
  refine enter 43 Try.func13 rfl rfl rfl ?_
  intro a hE
  have hS := St.start w0
  repeat' (first

    | (with_reducible refine wp_seq ?_)
    | (with_reducible refine c_region ?_)
    | (with_reducible refine wpList_nil ?_)
    | (with_reducible refine then_normal ?_)
    | ((with_reducible refine g_assign ?_); refine s_assign hE rfl rfl ?_; clear hE a; intro a hE)
    | ((with_reducible refine g_box ?_); refine s_boxS hE hS rfl rfl ?_; clear hE a hS; intro g a w hE hS)
    )
  refine c_ordK hS 0 rfl 12 ((.rd 0 (.rd 1 (.rd 2 (.rd 4 (.rd 5 (.rd 8 (.rd 9 (.ef 3 (.ef 6 (.ef 7 (.ef 10 (.ef 11 (.lt 12 .done)))))))))))))) mixed (by decide +kernel) ?_
  clear hS; intro w hF hS
  repeat' (first
    | (with_reducible refine o_rd rfl ?_)
    | ((with_reducible refine q_conv ?_); refine d_val hE hS rfl (fun w hS => r_conv hE rfl (by first | exact e1)) ?_; clear hE a; intro a hE)
    | ((with_reducible refine q_fa ?_); refine d_val hE hS rfl (fun w hS => r_fieldL hE rfl rfl) ?_; clear hE a; intro a hE)
    | ((with_reducible refine q_load ?_); (first | (refine d_val hE hS rfl (fun w hS => r_loadB (k := 0) hS hE rfl rfl rfl) ?_) ); clear hE a; intro a hE)
    | ((with_reducible refine o_ef rfl ?_))
    )
  refine s_call hE rfl rfl rfl (xhigh t.r 4 (by omega) (by decide) w) ?_
  rintro _ w ⟨A1, c1, rfl, hS1⟩; clear hE a; intro a hE; replace hF := hF.frame hS1; clear hS1; simp only [List.cons_append, List.nil_append] at hF
  refine wpList_nil ?_
  refine o_back _ (fun _ h => h) (hF.only 1 rfl) ?_
  clear hS
  have hS := hF.only 1 rfl
  repeat' (first
    | ((with_reducible refine o_ef rfl ?_))
    )
  refine s_call hE rfl rfl rfl (xhigh t.a 4 (by omega) (by decide) w) ?_
  rintro _ w ⟨A2, c2, rfl, hS1⟩; clear hE a; intro a hE; replace hF := hF.frame hS1; clear hS1; simp only [List.cons_append, List.nil_append] at hF
  refine wpList_nil ?_
  refine o_back _ (fun _ h => h) (hF.only 2 rfl) ?_
  clear hS
  have hS := hF.only 2 rfl
  repeat' (first
    | ((with_reducible refine o_ef rfl ?_))
    )
  refine s_appendB (k := 1) hE hF rfl rfl rfl (hF.rdAt (k := 0) rfl) rfl rfl (by rw [beb_length, beb_length]; decide) rfl rfl rfl ?_
  clear hE a hF; intro A3 c3 a w hE hF; simp only [List.set_cons_zero, List.set_cons_succ] at hF
  refine wpList_nil ?_
  refine o_back _ (fun _ h => h) (hF.only 2 rfl) ?_
  clear hS
  have hS := hF.only 2 rfl
  repeat' (first
    | ((with_reducible refine o_ef rfl ?_))
    )
  refine s_call hE rfl rfl rfl (xhigh t.b 4 (by omega) (by decide) w) ?_
  rintro _ w ⟨A4, c4, rfl, hS1⟩; clear hE a; intro a hE; replace hF := hF.frame hS1; clear hS1; simp only [List.cons_append, List.nil_append] at hF
  refine wpList_nil ?_
  refine o_back _ (fun _ h => h) (hF.only 3 rfl) ?_
  clear hS
  have hS := hF.only 3 rfl
  repeat' (first
    | ((with_reducible refine o_ef rfl ?_))
    )
  refine s_appendB (k := 2) hE hF rfl rfl rfl (hF.rdAt (k := 0) rfl) rfl rfl (by rw [List.length_append, beb_length, beb_length, beb_length]; decide) rfl rfl rfl ?_
  clear hE a hF; intro A5 c5 a w hE hF; simp only [List.set_cons_zero, List.set_cons_succ] at hF
  refine wpList_nil ?_
  refine o_back _ (fun _ h => h) (hF.only 3 rfl) ?_
  clear hS
  have hS := hF.only 3 rfl
  repeat' (first
    | ((with_reducible refine o_lt rfl ?_))
    )
  clear hS
  have hS := hF
  clear hF
  repeat' (first

    | (with_reducible refine wpList_nil ?_)
    | ((with_reducible refine g_assign ?_); refine s_assign hE rfl rfl ?_; clear hE a; intro a hE)
    )
  refine o_backL ?_
  repeat' (first
    | (with_reducible refine o_done ?_)
    )
  have hS2 := hS.only2 2 2 rfl rfl
  clear hS
  have hS := hS2
  clear hS2
  have hl0 : (beb 4 t.r ++ beb 4 t.a ++ beb 4 t.b).length = 12 := by simp [beb_length]
  have henc : t.enc = (beb 4 t.r ++ beb 4 t.a ++ beb 4 t.b) ++ longB [t.x0, t.x1, t.y0, t.y1, t.v] := by simp [TM.enc, List.flatMap_cons]
  generalize beb 4 t.r ++ beb 4 t.a ++ beb 4 t.b = b0 at hl0 henc hE hS
  repeat' (first

    | (with_reducible refine wp_seq ?_)
    | (with_reducible refine c_region ?_)
    | (with_reducible refine wpList_nil ?_)
    | (with_reducible refine then_normal ?_)
    | (with_reducible refine wp_block ?_)
    | ((with_reducible refine g_move ?_); refine s_move hE rfl rfl ?_; clear hE a; intro a hE)
    | ((with_reducible refine g_fa ?_); refine s_fieldL hE rfl rfl rfl ?_; clear hE a; intro a hE)
    | ((with_reducible refine g_load ?_); (first | (refine s_loadB (k := 0) hS hE rfl rfl rfl rfl ?_) ); clear hE a; intro a hE)
    | ((with_reducible refine g_build ?_); refine s_build [_, _, _, _, _] hE rfl rfl rfl ?_; clear hE a; intro a hE)
    )
  generalize hL : [t.x0, t.x1, t.y0, t.y1, t.v] = L at henc
  have hll : L.length = 5 := by rw [← hL]; rfl
  have hvs : ([.int .i64 t.x0, .int .i64 t.x1, .int .i64 t.y0, .int .i64 t.y1, .int .i64 t.v] : List Value) = L.map (Value.int .i64 ·) := by rw [← hL]; rfl
  clear hL
  refine wp_loop_ghost (fun q a w => ∃ (k : Nat) (A1 : Option Addr) (c1 : Nat), k + q = 5 ∧ St w0 w [hRow 5 1 A1 (b0 ++ longB (L.take k)).length c1 (bys (b0 ++ longB (L.take k)))] ∧ Env 43 [(3, .slice A1 (b0 ++ longB (L.take k)).length c1), (32, .agg (L.map (Value.int .i64 ·)).toArray), (33, .int .i64 (k : Int))] a) 5 ⟨0, A5, c5, by omega, ?_, ?_⟩ ?_
  · show St w0 w [hRow _ 1 A5 (b0 ++ longB []).length c5 (bys (b0 ++ longB []))]
    rw [show longB [] = [] from rfl, List.append_nil]
    exact hS.only 1 rfl
  · show Env 43 [(3, .slice A5 (b0 ++ longB []).length c5), (32, .agg (L.map (Value.int .i64 ·)).toArray), (33, .int .i64 ((0 : Nat) : Int))] a
    rw [show longB [] = [] from rfl, List.append_nil, ← hvs]
    exact hE.sub ⟨rfl, rfl, rfl, trivial⟩
  clear hE a hS hvs
  rintro q a w ⟨k, A1, c1, hk, hS, hE⟩
  by_cases hk1 : k < 5
  · have hg := map_at (fun x : Int => Value.int .i64 x) (l := L) (k := k) (by omega)
    have hst : longB (L.take (k + 1)) = longB (L.take k) ++ beb 8 (uN (L[k]'(by omega))) := by
      unfold longB
      exact fm_take (fun x => beb 8 (uN x)) (by omega)
    have hle : (b0 ++ longB (L.take k)).length ≤ 52 := by
      rw [List.length_append]
      unfold longB
      rw [fm_len (fun x => beb 8 (uN x)) 8 (fun x => beb_length _ _), List.length_take]
      omega
    generalize (L[k]'(by omega)) = x at hg hst
    generalize longB (L.take k) = ys at hS hE hst hle
    have e2 : IntKind.u64.wrap x = ((uN x : Nat) : Int) := wrap_u64_u x
    repeat' (first

      | (with_reducible refine wp_seq ?_)
      | (with_reducible refine c_region ?_)
      | (with_reducible refine wpList_nil ?_)
      | (with_reducible refine then_normal ?_)
      | (with_reducible refine wp_skip ?_)
      | (with_reducible refine wp_block ?_)
      | ((with_reducible refine g_move ?_); refine s_move hE rfl rfl ?_; clear hE a; intro a hE)
      | ((with_reducible refine g_assign ?_); refine s_assign hE rfl rfl ?_; clear hE a; intro a hE)
      | ((with_reducible refine g_bin .lss ?_); refine s_lss hE rfl rfl rfl ?_; clear hE a; intro a hE)
      | ((with_reducible refine g_conv ?_); refine s_conv hE rfl rfl (by first | exact e2 ) ?_; clear hE a; intro a hE)
      | ((with_reducible refine g_cond ?_); refine c_dec hE rfl (fun hc => ?_) (fun hc => ?_) <;> try omega)
      | ((with_reducible refine g_index ?_); refine s_val hE rfl rfl rfl (r_index1 hE rfl rfl (by omega) (by omega) (by assumption)) ?_; clear hE a; intro a hE)
      )
    refine s_call hE rfl rfl rfl (xhigh (uN x) 8 (u64_lt x) (by decide) w) ?_
    rintro _ w ⟨A6, c6, rfl, hS1⟩; clear hE a; intro a hE; replace hS := hS.frame hS1; clear hS1; try simp only [List.cons_append, List.nil_append] at hS
    refine s_appendB (k := 1) hE hS rfl rfl rfl (hS.rdAt (k := 0) rfl) rfl rfl (by rw [beb_length]; omega) rfl rfl rfl ?_
    clear hE a hS; intro A3 c3 a w hE hS; simp only [List.set_cons_zero, List.set_cons_succ] at hS
    rw [List.append_assoc, ← hst] at hE hS
    repeat' (first

      | (with_reducible refine c_region ?_)
      | (with_reducible refine wpList_nil ?_)
      | (with_reducible refine then_normal ?_)
      | (with_reducible refine block_normal ?_)
      | ((with_reducible refine g_move ?_); refine s_move hE rfl rfl ?_; clear hE a; intro a hE)
      | ((with_reducible refine g_assign ?_); refine s_assign hE rfl rfl ?_; clear hE a; intro a hE)
      | ((with_reducible refine g_bin .add ?_); refine s_add hE rfl rfl rfl (by first  | exact wrap64_in (by omega) ) ?_; clear hE a; intro a hE)
      )
    exact ⟨q - 1, by omega, k + 1, A3, c3, by omega, hS.only 1 rfl, hE.sub ⟨rfl, rfl, rfl, trivial⟩⟩
  · obtain rfl : k = 5 := by omega
    rw [List.take_of_length_le (by omega), ← henc] at hS hE
    repeat' (first

      | (with_reducible refine wp_seq ?_)
      | (with_reducible refine c_region ?_)
      | (with_reducible refine wpList_nil ?_)
      | (with_reducible refine then_normal ?_)
      | (with_reducible refine wp_ret ?_)
      | (with_reducible refine wp_exit ?_)
      | (with_reducible refine then_exit ?_)
      | (with_reducible refine block_same ?_)
      | ((with_reducible refine g_move ?_); refine s_move hE rfl rfl ?_; clear hE a; intro a hE)
      | ((with_reducible refine g_assign ?_); refine s_assign hE rfl rfl ?_; clear hE a; intro a hE)
      | ((with_reducible refine g_bin .lss ?_); refine s_lss hE rfl rfl rfl ?_; clear hE a; intro a hE)
      | ((with_reducible refine g_cond ?_); refine c_false hE rfl ?_)
      )
    exact ret1 hE rfl rfl ⟨A1, c1, rfl, hS⟩
theorem xdecode (A : Option Addr) (c : Nat) (b : List Nat) (n : Nat) (hn : n = b.length) (w0 : World) (hr : Rd w0 A (bys b)) (hb : Bs b) (hcp : b.length ≤ c) (hl : b.length ≤ 140737488351232) :
    Fn Try.prog 15 [.slice A n c] w0 fun v w' => v = .tuple #[.agg (decR b).cells.toArray, .bool (decT b).isSome] ∧ St w0 w' [] := by
  subst hn
  refine enter 48 Try.func15 rfl rfl rfl ?_
  intro a hE
  have hS := St.start w0
  have hzl : TM.zero.cells.length = 8 := rfl
  have hzo := TM.cells_one TM.zero
  by_cases hl52 : b.length = 52
  · have hl4 : (b.take 4).length = 4 := by rw [List.length_take]; omega
    have hb4 : Bs (b.take 4) := fun c hc => hb c (List.mem_of_mem_take hc)
    have hr4 : ∀ w', Rd w' A (bys b) → Rd w' A (bys (b.take 4)) := fun w' h => by
      rw [bys_take]; exact h.take 4
    have cutl : ∀ o n : Nat, o + n ≤ 52 → ((b.drop o).take n).length = n := fun o n h => by rw [List.length_take, List.length_drop]; omega
    have hd0 : decT b = if (parseT b).right = true then some (parseT b) else none := by
      unfold decT
      by_cases hri : (parseT b).right = true
      · rw [if_pos hri, if_pos ⟨hl52, hri⟩]
      · rw [if_neg hri, if_neg (fun h => hri h.2)]
    have hdR : decR b = (decT b).getD TM.zero := rfl
    have hV := bnum_lt32 hb4 (by omega)
    have e32 : IntKind.u32.wrap ((bnum 0 (b.take 4) : Nat) : Int) = ((bnum 0 (b.take 4) : Nat) : Int) := wrap_u32_in (by omega)
    have es : ∀ n : Nat, IntKind.i64.wrap (n : Int) = sN n := fun _ => rfl
    repeat' (first

      | (with_reducible refine wp_seq ?_)
      | (with_reducible refine c_region ?_)
      | (with_reducible refine wpList_nil ?_)
      | (with_reducible refine then_normal ?_)
      | (with_reducible refine wp_skip ?_)
      | ((with_reducible refine g_move ?_); refine s_move hE rfl rfl ?_; clear hE a; intro a hE)
      | ((with_reducible refine g_assign ?_); refine s_assign hE rfl rfl ?_; clear hE a; intro a hE)
      | ((with_reducible refine g_bin .neq ?_); refine s_neq hE rfl rfl rfl ?_; clear hE a; intro a hE)
      | ((with_reducible refine g_blt .len ?_); refine s_len hE rfl rfl ?_; clear hE a; intro a hE)
      | ((with_reducible refine g_cond ?_); refine c_dec hE rfl (fun hc => ?_) (fun hc => ?_) <;> try omega)
      | ((with_reducible refine g_alloc ?_); refine s_allocS hE hS rfl rfl ?_; clear hE a hS; intro g a w hE hS)
      )
    refine c_ordK hS 0 rfl 12 ((.rd 0 (.rd 1 (.rd 4 (.rd 5 (.rd 7 (.rd 8 (.ef2 2 ((.rd 3 (.ef2 6 (.ef2 9 ((.rd 10 (.ef 11 (.lt 12 .done)))) 11 ((.ef 9 (.rd 10 (.lt 12 .done))))) 11 ((.ef 6 (.ef 9 (.rd 10 (.lt 12 .done)))))))) 11 ((.ef 2 (.rd 3 (.ef 6 (.ef 9 (.rd 10 (.lt 12 .done))))))))))))))) mixed (by decide +kernel) ?_
    clear hS; intro w hF hS
    repeat' (first
      | (with_reducible refine o_rd rfl ?_)
      | ((with_reducible refine q_move ?_); refine d_val hE hS rfl (fun w hS => r_move hE rfl) ?_; clear hE a; intro a hE)
      | ((with_reducible refine q_sliceLH ?_); refine d_val hE hS rfl (fun w hS => r_cutLH hE rfl rfl rfl (by omega) (by omega)) ?_; clear hE a; intro a hE)
      | ((with_reducible refine q_sliceH ?_); refine d_val hE hS rfl (fun w hS => r_cutH hE rfl rfl (by omega)) ?_; clear hE a; intro a hE)
      )
    have hone3 : ∀ v ∈ ([.int .u32 (bnum 0 (b.take 4) : Int), .int .u64 (bnum 0 ((b.drop 4).take 4) : Int), .int .u64 (bnum 0 ((b.drop 8).take 4) : Int), .int .i64 0, .int .i64 0, .int .i64 0, .int .i64 0, .int .i64 0] : List Value), v.oneCell' = true := by
      intro v hv
      simp only [List.mem_cons, List.not_mem_nil, or_false] at hv
      rcases hv with rfl | rfl | rfl | rfl | rfl | rfl | rfl | rfl <;> rfl
    refine cutO (M := fun a w => ∃ g4 : Nat, St w0 w [hBlk g4 30 [.int .u32 (bnum 0 (b.take 4) : Int), .int .u64 (bnum 0 ((b.drop 4).take 4) : Int), .int .u64 (bnum 0 ((b.drop 8).take 4) : Int), .int .i64 0, .int .i64 0, .int .i64 0, .int .i64 0, .int .i64 0], hBlk g 30 TM.zero.cells] ∧ Env 48 [(4, .pointer (some ⟨g4, 0, none⟩)), (2, .pointer (some ⟨g, 0, none⟩)), (0, .slice A b.length c)] a) ?_ ?_
    · intro tail
      refine o_ef2 rfl rfl ?_ ?_
      · refine s_call hE rfl rfl rfl (xnumber _ _ (b.take 4) _ w (hr4 _ (hr.st hF)) hb4 (by rw [hl4]; decide) (by rw [hl4]; rfl)) ?_
        rintro _ w ⟨rfl, hS1⟩; clear hE a; intro a hE; replace hF := hF.frame hS1; clear hS1; simp only [List.nil_append] at hF
        refine wpList_nil ?_
        refine o_back _ (fun _ h => h) (hF.only 0 rfl) ?_
        clear hS
        have hS := hF.only 0 rfl
        repeat' (first
          | (with_reducible refine o_rd rfl ?_)
          | ((with_reducible refine q_conv ?_); refine d_val hE hS rfl (fun w hS => r_conv hE rfl (by first | exact e32)) ?_; clear hE a; intro a hE)
          )
        refine o_ef2 rfl rfl ?_ ?_
        · refine s_call hE rfl rfl rfl (xnumber _ _ ((b.drop 4).take 4) _ w ((hr.st hF).cutB hcp (l := 4) 4) (bcut hb _ _) (by rw [cutl 4 4 (by decide)]; decide) (by rw [cutl 4 4 (by decide)]; rfl)) ?_
          rintro _ w ⟨rfl, hS1⟩; clear hE a; intro a hE; replace hF := hF.frame hS1; clear hS1; simp only [List.nil_append] at hF
          refine wpList_nil ?_
          refine o_back _ (fun _ h => h) (hF.only 0 rfl) ?_
          clear hS
          have hS := hF.only 0 rfl
          skip
          refine o_ef2 rfl rfl ?_ ?_
          · refine s_call hE rfl rfl rfl (xnumber _ _ ((b.drop 8).take 4) _ w ((hr.st hF).cutB hcp (l := 8) 4) (bcut hb _ _) (by rw [cutl 8 4 (by decide)]; decide) (by rw [cutl 8 4 (by decide)]; rfl)) ?_
            rintro _ w ⟨rfl, hS1⟩; clear hE a; intro a hE; replace hF := hF.frame hS1; clear hS1; simp only [List.nil_append] at hF
            refine wpList_nil ?_
            refine o_back _ (fun _ h => h) (hF.only 0 rfl) ?_
            clear hS
            have hS := hF.only 0 rfl
            repeat' (first
              | (with_reducible refine o_rd rfl ?_)
              | ((with_reducible refine q_build ?_); refine d_val hE hS rfl (fun w hS => r_build [_, _, _, _, _, _, _, _] hE rfl rfl) ?_; clear hE a; intro a hE)
              | ((with_reducible refine o_ef rfl ?_))
              )
            refine s_allocL TM.zero.cells hE hF rfl rfl ?_
            clear hE a hF; intro g4 a w hE hF
            refine wpList_nil ?_
            refine o_back _ (fun _ h => h) (hF.only 1 rfl) ?_
            clear hS
            have hS := hF.only 1 rfl
            repeat' (first
              | ((with_reducible refine o_lt rfl ?_))
              )
            refine g_store ?_
            refine s_storeW (k := 0) (vs := [.int .u32 (bnum 0 (b.take 4) : Int), .int .u64 (bnum 0 ((b.drop 4).take 4) : Int), .int .u64 (bnum 0 ((b.drop 8).take 4) : Int), .int .i64 0, .int .i64 0, .int .i64 0, .int .i64 0, .int .i64 0]) hF hE rfl rfl rfl rfl rfl hone3 ?_
            clear hF; intro w hF; simp only [List.set_cons_zero, List.set_cons_succ] at hF
            refine wpList_nil ?_
            refine o_backL ?_
            repeat' (first
              | (with_reducible refine o_done ?_)
              )
            exact tail _ _ ⟨g4, hF, hE.sub ⟨rfl, rfl, rfl, trivial⟩⟩
          · refine s_allocL TM.zero.cells hE hF rfl rfl ?_
            clear hE a hF; intro g4 a w hE hF
            refine wpList_nil ?_
            refine o_back _ (fun _ h => h) (hF.only 1 rfl) ?_
            clear hS
            have hS := hF.only 1 rfl
            repeat' (first
              | ((with_reducible refine o_ef rfl ?_))
              )
            refine s_call hE rfl rfl rfl (xnumber _ _ ((b.drop 8).take 4) _ w ((hr.st hF).cutB hcp (l := 8) 4) (bcut hb _ _) (by rw [cutl 8 4 (by decide)]; decide) (by rw [cutl 8 4 (by decide)]; rfl)) ?_
            rintro _ w ⟨rfl, hS1⟩; clear hE a; intro a hE; replace hF := hF.frame hS1; clear hS1; simp only [List.nil_append] at hF
            refine wpList_nil ?_
            refine o_back _ (fun _ h => h) (hF.only 1 rfl) ?_
            clear hS
            have hS := hF.only 1 rfl
            repeat' (first
              | (with_reducible refine o_rd rfl ?_)
              | ((with_reducible refine q_build ?_); refine d_val hE hS rfl (fun w hS => r_build [_, _, _, _, _, _, _, _] hE rfl rfl) ?_; clear hE a; intro a hE)
              | ((with_reducible refine o_lt rfl ?_))
              )
            refine g_store ?_
            refine s_storeW (k := 0) (vs := [.int .u32 (bnum 0 (b.take 4) : Int), .int .u64 (bnum 0 ((b.drop 4).take 4) : Int), .int .u64 (bnum 0 ((b.drop 8).take 4) : Int), .int .i64 0, .int .i64 0, .int .i64 0, .int .i64 0, .int .i64 0]) hF hE rfl rfl rfl rfl rfl hone3 ?_
            clear hF; intro w hF; simp only [List.set_cons_zero, List.set_cons_succ] at hF
            refine wpList_nil ?_
            refine o_backL ?_
            repeat' (first
              | (with_reducible refine o_done ?_)
              )
            exact tail _ _ ⟨g4, hF, hE.sub ⟨rfl, rfl, rfl, trivial⟩⟩
        · refine s_allocL TM.zero.cells hE hF rfl rfl ?_
          clear hE a hF; intro g4 a w hE hF
          refine wpList_nil ?_
          refine o_back _ (fun _ h => h) (hF.only 1 rfl) ?_
          clear hS
          have hS := hF.only 1 rfl
          repeat' (first
            | ((with_reducible refine o_ef rfl ?_))
            )
          refine s_call hE rfl rfl rfl (xnumber _ _ ((b.drop 4).take 4) _ w ((hr.st hF).cutB hcp (l := 4) 4) (bcut hb _ _) (by rw [cutl 4 4 (by decide)]; decide) (by rw [cutl 4 4 (by decide)]; rfl)) ?_
          rintro _ w ⟨rfl, hS1⟩; clear hE a; intro a hE; replace hF := hF.frame hS1; clear hS1; simp only [List.nil_append] at hF
          refine wpList_nil ?_
          refine o_back _ (fun _ h => h) (hF.only 1 rfl) ?_
          clear hS
          have hS := hF.only 1 rfl
          repeat' (first
            | ((with_reducible refine o_ef rfl ?_))
            )
          refine s_call hE rfl rfl rfl (xnumber _ _ ((b.drop 8).take 4) _ w ((hr.st hF).cutB hcp (l := 8) 4) (bcut hb _ _) (by rw [cutl 8 4 (by decide)]; decide) (by rw [cutl 8 4 (by decide)]; rfl)) ?_
          rintro _ w ⟨rfl, hS1⟩; clear hE a; intro a hE; replace hF := hF.frame hS1; clear hS1; simp only [List.nil_append] at hF
          refine wpList_nil ?_
          refine o_back _ (fun _ h => h) (hF.only 1 rfl) ?_
          clear hS
          have hS := hF.only 1 rfl
          repeat' (first
            | (with_reducible refine o_rd rfl ?_)
            | ((with_reducible refine q_build ?_); refine d_val hE hS rfl (fun w hS => r_build [_, _, _, _, _, _, _, _] hE rfl rfl) ?_; clear hE a; intro a hE)
            | ((with_reducible refine o_lt rfl ?_))
            )
          refine g_store ?_
          refine s_storeW (k := 0) (vs := [.int .u32 (bnum 0 (b.take 4) : Int), .int .u64 (bnum 0 ((b.drop 4).take 4) : Int), .int .u64 (bnum 0 ((b.drop 8).take 4) : Int), .int .i64 0, .int .i64 0, .int .i64 0, .int .i64 0, .int .i64 0]) hF hE rfl rfl rfl rfl rfl hone3 ?_
          clear hF; intro w hF; simp only [List.set_cons_zero, List.set_cons_succ] at hF
          refine wpList_nil ?_
          refine o_backL ?_
          repeat' (first
            | (with_reducible refine o_done ?_)
            )
          exact tail _ _ ⟨g4, hF, hE.sub ⟨rfl, rfl, rfl, trivial⟩⟩
      · refine s_allocL TM.zero.cells hE hF rfl rfl ?_
        clear hE a hF; intro g4 a w hE hF
        refine wpList_nil ?_
        refine o_back _ (fun _ h => h) (hF.only 1 rfl) ?_
        clear hS
        have hS := hF.only 1 rfl
        repeat' (first
          | ((with_reducible refine o_ef rfl ?_))
          )
        refine s_call hE rfl rfl rfl (xnumber _ _ (b.take 4) _ w (hr4 _ (hr.st hF)) hb4 (by rw [hl4]; decide) (by rw [hl4]; rfl)) ?_
        rintro _ w ⟨rfl, hS1⟩; clear hE a; intro a hE; replace hF := hF.frame hS1; clear hS1; simp only [List.nil_append] at hF
        refine wpList_nil ?_
        refine o_back _ (fun _ h => h) (hF.only 1 rfl) ?_
        clear hS
        have hS := hF.only 1 rfl
        repeat' (first
          | (with_reducible refine o_rd rfl ?_)
          | ((with_reducible refine q_conv ?_); refine d_val hE hS rfl (fun w hS => r_conv hE rfl (by first | exact e32)) ?_; clear hE a; intro a hE)
          | ((with_reducible refine o_ef rfl ?_))
          )
        refine s_call hE rfl rfl rfl (xnumber _ _ ((b.drop 4).take 4) _ w ((hr.st hF).cutB hcp (l := 4) 4) (bcut hb _ _) (by rw [cutl 4 4 (by decide)]; decide) (by rw [cutl 4 4 (by decide)]; rfl)) ?_
        rintro _ w ⟨rfl, hS1⟩; clear hE a; intro a hE; replace hF := hF.frame hS1; clear hS1; simp only [List.nil_append] at hF
        refine wpList_nil ?_
        refine o_back _ (fun _ h => h) (hF.only 1 rfl) ?_
        clear hS
        have hS := hF.only 1 rfl
        repeat' (first
          | ((with_reducible refine o_ef rfl ?_))
          )
        refine s_call hE rfl rfl rfl (xnumber _ _ ((b.drop 8).take 4) _ w ((hr.st hF).cutB hcp (l := 8) 4) (bcut hb _ _) (by rw [cutl 8 4 (by decide)]; decide) (by rw [cutl 8 4 (by decide)]; rfl)) ?_
        rintro _ w ⟨rfl, hS1⟩; clear hE a; intro a hE; replace hF := hF.frame hS1; clear hS1; simp only [List.nil_append] at hF
        refine wpList_nil ?_
        refine o_back _ (fun _ h => h) (hF.only 1 rfl) ?_
        clear hS
        have hS := hF.only 1 rfl
        repeat' (first
          | (with_reducible refine o_rd rfl ?_)
          | ((with_reducible refine q_build ?_); refine d_val hE hS rfl (fun w hS => r_build [_, _, _, _, _, _, _, _] hE rfl rfl) ?_; clear hE a; intro a hE)
          | ((with_reducible refine o_lt rfl ?_))
          )
        refine g_store ?_
        refine s_storeW (k := 0) (vs := [.int .u32 (bnum 0 (b.take 4) : Int), .int .u64 (bnum 0 ((b.drop 4).take 4) : Int), .int .u64 (bnum 0 ((b.drop 8).take 4) : Int), .int .i64 0, .int .i64 0, .int .i64 0, .int .i64 0, .int .i64 0]) hF hE rfl rfl rfl rfl rfl hone3 ?_
        clear hF; intro w hF; simp only [List.set_cons_zero, List.set_cons_succ] at hF
        refine wpList_nil ?_
        refine o_backL ?_
        repeat' (first
          | (with_reducible refine o_done ?_)
          )
        exact tail _ _ ⟨g4, hF, hE.sub ⟨rfl, rfl, rfl, trivial⟩⟩
    · clear hF hS
      rintro a w ⟨g4, hS, hE⟩
      repeat' (first

        | (with_reducible refine wp_seq ?_)
        | (with_reducible refine then_normal ?_)
        )
      refine c_ordK hS 0 rfl 17 ((.rd 0 (.rd 1 (.rd 4 (.rd 5 (.rd 8 (.rd 9 (.rd 12 (.rd 13 (.ef 2 (.rd 3 (.ef 6 (.rd 7 (.ef 10 (.rd 11 (.ef 14 (.rd 15 (.rd 16 (.lt 17 (.lt 18 .done)))))))))))))))))))) mixed (by decide +kernel) ?_
      clear hS; intro w hF hS
      repeat' (first
        | (with_reducible refine o_rd rfl ?_)
        | ((with_reducible refine q_move ?_); refine d_val hE hS rfl (fun w hS => r_move hE rfl) ?_; clear hE a; intro a hE)
        | ((with_reducible refine q_sliceLH ?_); refine d_val hE hS rfl (fun w hS => r_cutLH hE rfl rfl rfl (by omega) (by omega)) ?_; clear hE a; intro a hE)
        | ((with_reducible refine o_ef rfl ?_))
        )
      refine s_call hE rfl rfl rfl (xnumber _ _ ((b.drop 12).take 8) _ w ((hr.st hF).cutB hcp (l := 12) 8) (bcut hb _ _) (by rw [cutl 12 8 (by decide)]; decide) (by rw [cutl 12 8 (by decide)]; rfl)) ?_
      rintro _ w ⟨rfl, hS1⟩; clear hE a; intro a hE; replace hF := hF.frame hS1; clear hS1; simp only [List.nil_append] at hF
      refine wpList_nil ?_
      refine o_back _ (fun _ h => h) (hF.only 0 rfl) ?_
      clear hS
      have hS := hF.only 0 rfl
      repeat' (first
        | (with_reducible refine o_rd rfl ?_)
        | ((with_reducible refine q_conv ?_); refine d_val hE hS rfl (fun w hS => r_conv hE rfl (by first | exact es _)) ?_; clear hE a; intro a hE)
        | ((with_reducible refine o_ef rfl ?_))
        )
      refine s_call hE rfl rfl rfl (xnumber _ _ ((b.drop 20).take 8) _ w ((hr.st hF).cutB hcp (l := 20) 8) (bcut hb _ _) (by rw [cutl 20 8 (by decide)]; decide) (by rw [cutl 20 8 (by decide)]; rfl)) ?_
      rintro _ w ⟨rfl, hS1⟩; clear hE a; intro a hE; replace hF := hF.frame hS1; clear hS1; simp only [List.nil_append] at hF
      refine wpList_nil ?_
      refine o_back _ (fun _ h => h) (hF.only 0 rfl) ?_
      clear hS
      have hS := hF.only 0 rfl
      repeat' (first
        | (with_reducible refine o_rd rfl ?_)
        | ((with_reducible refine q_conv ?_); refine d_val hE hS rfl (fun w hS => r_conv hE rfl (by first | exact es _)) ?_; clear hE a; intro a hE)
        | ((with_reducible refine o_ef rfl ?_))
        )
      refine s_call hE rfl rfl rfl (xnumber _ _ ((b.drop 28).take 8) _ w ((hr.st hF).cutB hcp (l := 28) 8) (bcut hb _ _) (by rw [cutl 28 8 (by decide)]; decide) (by rw [cutl 28 8 (by decide)]; rfl)) ?_
      rintro _ w ⟨rfl, hS1⟩; clear hE a; intro a hE; replace hF := hF.frame hS1; clear hS1; simp only [List.nil_append] at hF
      refine wpList_nil ?_
      refine o_back _ (fun _ h => h) (hF.only 0 rfl) ?_
      clear hS
      have hS := hF.only 0 rfl
      repeat' (first
        | (with_reducible refine o_rd rfl ?_)
        | ((with_reducible refine q_conv ?_); refine d_val hE hS rfl (fun w hS => r_conv hE rfl (by first | exact es _)) ?_; clear hE a; intro a hE)
        | ((with_reducible refine o_ef rfl ?_))
        )
      refine s_call hE rfl rfl rfl (xnumber _ _ ((b.drop 36).take 8) _ w ((hr.st hF).cutB hcp (l := 36) 8) (bcut hb _ _) (by rw [cutl 36 8 (by decide)]; decide) (by rw [cutl 36 8 (by decide)]; rfl)) ?_
      rintro _ w ⟨rfl, hS1⟩; clear hE a; intro a hE; replace hF := hF.frame hS1; clear hS1; simp only [List.nil_append] at hF
      refine wpList_nil ?_
      refine o_back _ (fun _ h => h) (hF.only 0 rfl) ?_
      clear hS
      have hS := hF.only 0 rfl
      repeat' (first
        | (with_reducible refine o_rd rfl ?_)
        | ((with_reducible refine q_conv ?_); refine d_val hE hS rfl (fun w hS => r_conv hE rfl (by first | exact es _)) ?_; clear hE a; intro a hE)
        | ((with_reducible refine q_build ?_); refine d_val hE hS rfl (fun w hS => r_build [_, _, _, _] hE rfl rfl) ?_; clear hE a; intro a hE)
        | ((with_reducible refine o_lt rfl ?_))
        )
      clear hS
      have hS := hF
      clear hF
      repeat' (first

        | (with_reducible refine wpList_nil ?_)
        | ((with_reducible refine g_fa ?_); refine s_fieldL hE rfl rfl rfl ?_; clear hE a; intro a hE)
        )
      refine o_backL ?_
      repeat' (first
        | ((with_reducible refine o_lt rfl ?_))
        )
      refine g_store ?_
      refine s_storeBs' (k := 0) [.int .u32 (bnum 0 (b.take 4) : Int), .int .u64 (bnum 0 ((b.drop 4).take 4) : Int), .int .u64 (bnum 0 ((b.drop 8).take 4) : Int), .int .i64 (sN (bnum 0 ((b.drop 12).take 8))), .int .i64 (sN (bnum 0 ((b.drop 20).take 8))), .int .i64 (sN (bnum 0 ((b.drop 28).take 8))), .int .i64 (sN (bnum 0 ((b.drop 36).take 8))), .int .i64 0] hS hE rfl rfl rfl rfl rfl (by show 0 + 3 + 4 ≤ 8; decide) (by
        intro v hv
        simp only [List.mem_cons, List.not_mem_nil, or_false] at hv
        rcases hv with rfl | rfl | rfl | rfl <;> rfl) ?_
      clear hS; intro w hS; simp only [List.set_cons_zero, List.set_cons_succ] at hS
      refine wpList_nil ?_
      refine o_backL ?_
      repeat' (first
        | (with_reducible refine o_done ?_)
        )
      repeat' (first

        | (with_reducible refine wp_seq ?_)
        | (with_reducible refine c_region ?_)
        | (with_reducible refine then_normal ?_)
        | ((with_reducible refine g_move ?_); refine s_move hE rfl rfl ?_; clear hE a; intro a hE)
        | ((with_reducible refine g_sliceL ?_); refine s_val hE rfl rfl rfl (r_cutL hE rfl rfl (by omega)) ?_; clear hE a; intro a hE)
        )
      refine s_call hE rfl rfl rfl (xnumber _ _ ((b.drop 44).take 8) _ w ((hr.st hS).cutB hcp (l := 44) 8) (bcut hb _ _) (by rw [cutl 44 8 (by decide)]; decide) (by rw [cutl 44 8 (by decide)]; show b.length - 44 = 8; omega)) ?_
      rintro _ w ⟨rfl, hS1⟩; clear hE a; intro a hE; replace hS := hS.frame hS1; clear hS1; try simp only [List.cons_append, List.nil_append] at hS
      repeat' (first

        | (with_reducible refine wp_seq ?_)
        | (with_reducible refine c_region ?_)
        | (with_reducible refine wpList_nil ?_)
        | (with_reducible refine then_normal ?_)
        | ((with_reducible refine g_conv ?_); refine s_conv hE rfl rfl (by first | exact es _ ) ?_; clear hE a; intro a hE)
        | ((with_reducible refine g_fa ?_); refine s_fieldL hE rfl rfl rfl ?_; clear hE a; intro a hE)
        | ((with_reducible refine g_store ?_); (first | (refine s_storeB (k := 0) hS hE rfl rfl rfl rfl rfl rfl ?_) ); clear hS; intro w hS; simp only [List.set_cons_zero, List.set_cons_succ, Nat.add_zero] at hS)
        | ((with_reducible refine g_load ?_); (first | (refine s_loadW (k := 0) hS hE rfl rfl rfl rfl ?_) ); clear hE a; intro a hE)
        )
      refine s_call hE rfl rfl rfl (xright (parseT b) w) ?_
      rintro _ w ⟨rfl, hS1⟩; clear hE a; intro a hE; replace hS := hS.frame hS1; clear hS1; try simp only [List.cons_append, List.nil_append] at hS
      have hS2 : St w0 w [hBlk g4 30 (parseT b).cells, hBlk g 30 TM.zero.cells] := hS
      have hE2 : Env 48 [(44, .bool (parseT b).right), (4, .pointer (some ⟨g4, 0, none⟩)), (2, .pointer (some ⟨g, 0, none⟩))] a := hE.sub ⟨rfl, rfl, rfl, trivial⟩
      clear hS hE
      have hS := hS2
      have hE := hE2
      clear hS2 hE2
      have hcl : (parseT b).cells.length = 8 := rfl
      have hone := TM.cells_one (parseT b)
      rw [hdR]
      generalize parseT b = t at hS hcl hone hd0 hE
      by_cases hri : t.right = true
      · rw [if_pos hri] at hd0
        rw [hri] at hE
        rw [hd0]
        repeat' (first

          | (with_reducible refine wp_seq ?_)
          | (with_reducible refine c_region ?_)
          | (with_reducible refine wpList_nil ?_)
          | (with_reducible refine then_normal ?_)
          | (with_reducible refine wp_skip ?_)
          | (with_reducible refine wp_ret ?_)
          | ((with_reducible refine g_assign ?_); refine s_assign hE rfl rfl ?_; clear hE a; intro a hE)
          | ((with_reducible refine g_un .not ?_); refine s_notb hE rfl rfl ?_; clear hE a; intro a hE)
          | ((with_reducible refine g_cond ?_); refine c_false hE rfl ?_)
          | ((with_reducible refine g_load ?_); (first | (refine s_loadW (k := 0) hS hE rfl rfl rfl rfl ?_) ); clear hE a; intro a hE)
          | ((with_reducible refine g_store ?_); (first | (refine s_storeW (k := 1) hS hE rfl rfl rfl rfl rfl (by first | assumption ) ?_) ); clear hS; intro w hS; simp only [List.set_cons_zero, List.set_cons_succ, Nat.add_zero] at hS)
          )
        exact retG (vs := [_, _]) hE rfl ⟨⟨_, rfl, res_W (k := 1) hS rfl rfl⟩, rfl, trivial⟩ ⟨rfl, hS.nil⟩
      · rw [if_neg hri] at hd0
        rw [show t.right = false by simpa using hri] at hE
        rw [hd0]
        repeat' (first

          | (with_reducible refine wp_seq ?_)
          | (with_reducible refine c_region ?_)
          | (with_reducible refine wpList_nil ?_)
          | (with_reducible refine then_normal ?_)
          | (with_reducible refine wp_ret ?_)
          | (with_reducible refine then_ret ?_)
          | ((with_reducible refine g_assign ?_); refine s_assign hE rfl rfl ?_; clear hE a; intro a hE)
          | ((with_reducible refine g_un .not ?_); refine s_notb hE rfl rfl ?_; clear hE a; intro a hE)
          | ((with_reducible refine g_cond ?_); refine c_true hE rfl ?_)
          | ((with_reducible refine g_build ?_); refine s_build [_, _, _, _, _, _, _, _] hE rfl rfl rfl ?_; clear hE a; intro a hE)
          | ((with_reducible refine g_store ?_); (first | (refine s_storeW (k := 1) hS hE rfl rfl rfl rfl rfl (by first | assumption ) ?_) ); clear hS; intro w hS; simp only [List.set_cons_zero, List.set_cons_succ, Nat.add_zero] at hS)
          )
        exact retG (vs := [_, _]) hE rfl ⟨⟨_, rfl, res_W (k := 1) hS rfl rfl⟩, rfl, trivial⟩ ⟨rfl, hS.nil⟩
  · have hd0 : decT b = none := if_neg fun h => hl52 h.1
    have hdR : decR b = TM.zero := by unfold decR; rw [hd0]; rfl
    rw [hd0, hdR]
    repeat' (first

      | (with_reducible refine wp_seq ?_)
      | (with_reducible refine c_region ?_)
      | (with_reducible refine wpList_nil ?_)
      | (with_reducible refine then_normal ?_)
      | (with_reducible refine wp_ret ?_)
      | (with_reducible refine then_ret ?_)
      | ((with_reducible refine g_move ?_); refine s_move hE rfl rfl ?_; clear hE a; intro a hE)
      | ((with_reducible refine g_assign ?_); refine s_assign hE rfl rfl ?_; clear hE a; intro a hE)
      | ((with_reducible refine g_bin .neq ?_); refine s_neq hE rfl rfl rfl ?_; clear hE a; intro a hE)
      | ((with_reducible refine g_blt .len ?_); refine s_len hE rfl rfl ?_; clear hE a; intro a hE)
      | ((with_reducible refine g_cond ?_); refine c_dec hE rfl (fun hc => ?_) (fun hc => ?_) <;> try omega)
      | ((with_reducible refine g_alloc ?_); refine s_allocS hE hS rfl rfl ?_; clear hE a hS; intro g a w hE hS)
      | ((with_reducible refine g_build ?_); refine s_build [_, _, _, _, _, _, _, _] hE rfl rfl rfl ?_; clear hE a; intro a hE)
      | ((with_reducible refine g_store ?_); (first | (refine s_storeW (k := 0) hS hE rfl rfl rfl rfl rfl (by first | assumption ) ?_) ); clear hS; intro w hS; simp only [List.set_cons_zero, List.set_cons_succ, Nat.add_zero] at hS)
      )
    exact retG (vs := [_, _]) hE rfl ⟨⟨_, rfl, res_W (k := 0) hS rfl rfl⟩, rfl, trivial⟩ ⟨rfl, hS.nil⟩
end
end Go.Proofs.Ytaiahigeejodaaa
