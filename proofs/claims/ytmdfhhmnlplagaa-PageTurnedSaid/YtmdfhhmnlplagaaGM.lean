/-
  A page of which up to three bits are turned is told to be none.
-/
import Derived.Test.YtmdfhhmnlplagaaGK
import Derived.Test.YtmdfhhmnlplagaaGL
namespace Go.Proofs.Ytmdfhhmnlplagaa
open Go.RowKit
set_option linter.unusedVariables false
set_option linter.unusedSimpArgs false
attribute [local irreducible] Rd hRow hBlk hRd hRdr rowsP Fn hMarks

theorem kind2048 (x : Int) : ∃ m : Nat, m < 2048 ∧ IntKind.i64.wrap ((IntKind.u64.wrap x).tmod 2048) = (m : Int) := by
  rw [wrap_u64]
  have h1 : 0 ≤ x % 18446744073709551616 := Int.emod_nonneg _ (by decide)
  obtain ⟨m, hm⟩ := Int.eq_ofNat_of_zero_le h1
  rw [hm]
  have e : ((m : Int)).tmod 2048 = ((m % 2048 : Nat) : Int) := rfl
  rw [e, wrap64_in (by omega)]
  exact ⟨m % 2048, Nat.mod_lt _ (by decide), rfl⟩
theorem zflat (z : List Int) (k : Nat) (h : k < z.length) : (z.flatMap fun n => [Value.int .i64 n])[((k : Nat) : Int).toNat * 1]? = some (.int .i64 (z[k]'h)) := by
  have e : (z.flatMap fun n => [Value.int .i64 n]) = z.map (Value.int .i64) := by
    clear h
    induction z with
    | nil => rfl
    | cons n l ih => rw [List.flatMap_cons, ih]; rfl
  rw [e, Int.toNat_natCast, Nat.mul_one, List.getElem?_map, List.getElem?_eq_getElem h]
  rfl
theorem zlen (z : List Int) : (z.flatMap fun n => [Value.int .i64 n]).length = z.length := by
  induction z with
  | nil => rfl
  | cons n l ih =>
    rw [List.flatMap_cons, List.length_append, ih, List.length_cons]
    show 1 + l.length = l.length + 1
    omega
theorem zone (z : List Int) : ∀ v ∈ (z.flatMap fun n => [Value.int .i64 n]), v.oneCell' = true := by
  intro v hv
  obtain ⟨n, _, hn⟩ := List.mem_flatMap.1 hv
  rw [List.mem_singleton] at hn
  subst hn
  rfl
section
variable {H : List HP} {w0 w : World}
set_option maxHeartbeats 8000000
theorem law_PageTurned (y : PT) (z : List Int) (w0 : World) (h : y.ok w0) (hz : z.length = 3 ∧ ∀ n ∈ z, (Lit.int .i64 n).wf = true) : Fn Try.prog 6 [.agg y.cells.toArray, .agg (z.flatMap fun n => [Value.int .i64 n]).toArray] w0 fun v w' => v = .bool true ∧ St w0 w' [] := by
  rw [PT.cells_pg h]
  have hr := PT.pg_rd h
  have hp := PT.pg_wf h
  generalize y.pg = p at hr hp
  obtain ⟨hz1, hz2⟩ := hz
  have hzl := zlen z
  rw [hz1] at hzl
  have hcl : p.cells.length = 6 := by simp [hp.s4]
  refine enter 64 Try.func6 rfl rfl rfl ?_
  intro a hE
  have hS := St.start w0
  refine wp_seq ?_
  refine c_region ?_
  refine s_boxS hE hS rfl rfl ?_
  clear hE a hS; intro b2 a w hE hS
  refine s_boxS hE hS rfl rfl ?_
  clear hE a hS; intro b3 a w hE hS
  repeat' (first

    | (with_reducible refine wp_seq ?_)
    | (with_reducible refine c_region ?_)
    | (with_reducible refine wpList_nil ?_)
    | (with_reducible refine then_normal ?_)
    | ((with_reducible refine g_assign ?_); refine s_assign hE rfl rfl ?_; clear hE a; intro a hE)
    )
  refine s_call hE rfl rfl rfl (wakes w) ?_
  rintro _ w ⟨rfl, hS1⟩; clear hE a; intro a hE; replace hS := hS.frame hS1; clear hS1; try simp only [List.cons_append, List.nil_append] at hS
  repeat' (first

    | (with_reducible refine wp_seq ?_)
    | (with_reducible refine c_region ?_)
    | (with_reducible refine wpList_nil ?_)
    | (with_reducible refine then_normal ?_)
    | (with_reducible refine wp_skip ?_)
    | ((with_reducible refine g_un .not ?_); refine s_notb hE rfl rfl ?_; clear hE a; intro a hE)
    | ((with_reducible refine g_cond ?_); refine c_false hE rfl ?_)
    | ((with_reducible refine g_load ?_); (first | (refine s_loadW (k := 1) hS hE rfl rfl (by first | assumption ) rfl ?_) ); clear hE a; intro a hE)
    )
  refine s_call hE rfl rfl rfl (short p hp (hr.st hS)) ?_
  rintro _ w ⟨p', rfl, hpm, hpw, hS1⟩; clear hE a; intro a hE; replace hS := hS.frame hS1; clear hS1; try simp only [List.cons_append, List.nil_append] at hS
  have hcl3 : p'.cells.length = 6 := by simp [hpw.s4]
  have hone3 := Pg.cells_one p'
  repeat' (first

    | (with_reducible refine wp_seq ?_)
    | (with_reducible refine c_region ?_)
    | (with_reducible refine wpList_nil ?_)
    | (with_reducible refine then_normal ?_)
    | ((with_reducible refine g_load ?_); (first | (refine s_loadW (k := 2) hS hE rfl rfl (by first | assumption ) rfl ?_) ); clear hE a; intro a hE)
    | ((with_reducible refine g_store ?_); (first | (refine s_storeW (k := 2) hS hE rfl rfl rfl (by assumption) (by first | assumption) (by first | assumption) ?_) ); clear hS; intro w hS; simp only [List.set_cons_zero, List.set_cons_succ, Nat.add_zero] at hS)
    )
  cases hri : p'.m.right
  · refine s_call hE rfl rfl rfl (encode_no p' hpw hri w) ?_
    rintro _ w ⟨rfl, hS1⟩; clear hE a; intro a hE; replace hS := hS.frame hS1; clear hS1; try simp only [List.cons_append, List.nil_append] at hS
    repeat' (first

      | (with_reducible refine wp_seq ?_)
      | (with_reducible refine c_region ?_)
      | (with_reducible refine wpList_nil ?_)
      | (with_reducible refine then_normal ?_)
      | (with_reducible refine wp_ret ?_)
      | (with_reducible refine then_ret ?_)
      | ((with_reducible refine g_move ?_); refine s_move hE rfl rfl ?_; clear hE a; intro a hE)
      | ((with_reducible refine g_assign ?_); refine s_assign hE rfl rfl ?_; clear hE a; intro a hE)
      | ((with_reducible refine g_bin .eql ?_); refine s_eql hE rfl rfl rfl ?_; clear hE a; intro a hE)
      | ((with_reducible refine g_bin .neq ?_); refine s_neq hE rfl rfl rfl ?_; clear hE a; intro a hE)
      | ((with_reducible refine g_extract ?_); refine s_extract hE rfl rfl rfl ?_; clear hE a; intro a hE)
      | ((with_reducible refine g_cond ?_); refine c_true hE rfl ?_)
      )
    exact ret1 hE rfl rfl ⟨rfl, hS.nil⟩
  · refine s_call hE rfl rfl rfl (encode_ok p' hpw (rowsP_rdAt hS (k := 0) rfl) hri) ?_
    rintro _ w ⟨A, c, rfl, hS1⟩; clear hE a; intro a hE; replace hS := hS.frame hS1; clear hS1; try simp only [List.cons_append, List.nil_append] at hS
    have hri2 := (right_iff p'.m).1 hri
    have hel := enc_len hpw.ok.s4 hri2.2
    have heb := enc_bs hpw.ok hri2.2
    have hev := enc_even hpw.ok hri2.2
    have hel2 : (bys p'.m.enc).length = 256 * 1 := by rw [bys_length, hel]
    repeat' (first
      | ((with_reducible refine g_blt .append ?_); refine s_appendAt0 (k := 0) (size := 1) (bytes := 1) hE hS rfl rfl rfl (hS.rdAt (k := 1) rfl) hel2 (bys_one _) (by decide) rfl rfl rfl rfl ?_; clear hE a hS; intro A' c' a w hE hS; simp only [List.set_cons_zero] at hS)
      | (with_reducible refine wp_seq ?_)
      | (with_reducible refine c_region ?_)
      | (with_reducible refine wpList_nil ?_)
      | (with_reducible refine then_normal ?_)
      | (with_reducible refine wp_skip ?_)
      | (with_reducible refine wp_block ?_)
      | ((with_reducible refine g_move ?_); refine s_move hE rfl rfl ?_; clear hE a; intro a hE)
      | ((with_reducible refine g_assign ?_); refine s_assign hE rfl rfl ?_; clear hE a; intro a hE)
      | ((with_reducible refine g_bin .neq ?_); refine s_neq hE rfl rfl rfl ?_; clear hE a; intro a hE)
      | ((with_reducible refine g_extract ?_); refine s_extract hE rfl rfl rfl ?_; clear hE a; intro a hE)
      | ((with_reducible refine g_cond ?_); refine c_false hE rfl ?_)
      | ((with_reducible refine g_lit ?_); refine s_lit hE hS rfl rfl rfl rfl rfl (by first | (simp [Value.oneCell']; done)) rfl ?_; clear hE a hS; intro g a w hE hS)
      | ((with_reducible refine g_load ?_); (first | (refine s_loadW (k := 3) hS hE rfl rfl (by first | assumption ) rfl ?_) ); clear hE a; intro a hE)
      )
    refine wp_loop_ghost (fun q a w => ∃ (k : Nat) (L : List Nat), k + q = 3 ∧ L.length = 256 ∧ Bs L ∧ parL L = (k % 2 == 1) ∧ St w0 w [hRow 5 1 A' 256 c' (bys L), hRow 5 1 A 256 c (bys p'.m.enc), rowsP p'.s, hBlk b2 30 p'.cells] ∧ Env 64 [(28, .agg (z.flatMap fun n => [Value.int .i64 n]).toArray), (29, .int .i64 (k : Int)), (7, .slice A' 256 c'), (5, .slice A 256 c), (2, .pointer (some ⟨b2, 0, none⟩))] a) 3
      ⟨0, p'.m.enc, by omega, hel, heb, hev, hS.drop 3, hE.sub ⟨rfl, rfl, rfl, rfl, rfl, trivial⟩⟩ ?_
    clear hE a hS
    rintro q a w ⟨k, L, hk, hll, hLb, hpar, hS, hE⟩
    have hbl : (bys L).length = 256 := by rw [bys_length]; exact hll
    by_cases hk1 : k < 3
    · have hkz : k < z.length := by omega
      have hv := zflat z k hkz
      obtain ⟨m, hm, ek⟩ := kind2048 (z[k]'hkz)
      generalize (z[k]'hkz) = x at hv ek
      repeat' (first

        | (with_reducible refine wp_seq ?_)
        | (with_reducible refine c_region ?_)
        | (with_reducible refine wpList_nil ?_)
        | (with_reducible refine then_normal ?_)
        | (with_reducible refine wp_skip ?_)
        | (with_reducible refine wp_block ?_)
        | ((with_reducible refine g_move ?_); refine s_move hE rfl rfl ?_; clear hE a; intro a hE)
        | ((with_reducible refine g_assign ?_); refine s_assign hE rfl rfl ?_; clear hE a; intro a hE)
        | ((with_reducible refine g_bin .lss ?_); refine s_lss hE rfl rfl rfl ?_; clear hE a; intro a hE)
        | ((with_reducible refine g_bin .rem ?_); refine s_rem hE rfl rfl (by omega) rfl (by first | rfl) ?_; clear hE a; intro a hE)
        | ((with_reducible refine g_conv ?_); refine s_conv hE rfl rfl (by first | exact ek | rfl) ?_; clear hE a; intro a hE)
        | ((with_reducible refine g_cond ?_); refine c_dec hE rfl (fun hc => ?_) (fun hc => ?_) <;> try omega)
        | ((with_reducible refine g_index ?_); refine s_val hE rfl rfl rfl (r_index1 hE rfl rfl (by omega) (by omega) (by assumption)) ?_; clear hE a; intro a hE)
        )
      have eq8 : IntKind.i64.wrap ((m : Int).tdiv 8) = ((m / 8 : Nat) : Int) := by
        have e : ((m : Int)).tdiv 8 = ((m / 8 : Nat) : Int) := rfl
        rw [e, wrap64_in (by omega)]
      have er8 : IntKind.i64.wrap ((m : Int).tmod 8) = ((m % 8 : Nat) : Int) := by
        have e : ((m : Int)).tmod 8 = ((m % 8 : Nat) : Int) := rfl
        rw [e, wrap64_in (by omega)]
      have hi : m / 8 < L.length := by omega
      have hg : (bys L)[((m / 8 : Nat) : Int).toNat * 1]? = some (.int .u8 ((L[m / 8]'hi : Nat) : Int)) := by
        rw [Int.toNat_natCast, Nat.mul_one, bys_get hi]
      refine c_ordS hS 9 ((.rd 0 (.rd 1 (.rd 2 (.rd 3 (.rd 4 (.rd 5 (.rd 6 (.rd 7 (.rd 8 (.lt 9 (.lt 10 .done)))))))))))) mixed (by decide +kernel) ?_
      clear hS; intro w hS
      have hlb := hLb _ (List.getElem_mem hi)
      have h128 : 128 / 2 ^ (m % 8) < 256 := Nat.lt_of_le_of_lt (Nat.div_le_self _ _) (by decide)
      have esh : (128 : Int).fdiv (2 ^ min ((m % 8 : Nat) : Int).toNat IntKind.u8.bits) = ((128 / 2 ^ (m % 8) : Nat) : Int) := shr_nat 128 (m % 8) 8 (by omega)
      have exo := xor_u8 hlb h128
      have hpx := par_one (m := m % 8) (Nat.mod_lt _ (by decide))
      have hps := parL_set L (m / 8) (128 / 2 ^ (m % 8)) hi
      rw [hpx, hpar] at hps
      repeat' (first
        | (with_reducible refine o_rd rfl ?_)
        | ((with_reducible refine q_move ?_); refine d_val hE hS rfl (fun w hS => r_move hE rfl) ?_; clear hE a; intro a hE)
        | ((with_reducible refine q_bin .xor ?_); refine d_val hE hS rfl (fun w hS => r_xor hE rfl rfl (by first | exact exo)) ?_; clear hE a; intro a hE)
        | ((with_reducible refine q_bin .shr ?_); refine d_val hE hS rfl (fun w hS => r_shr hE rfl rfl (by omega) (by first | exact esh )) ?_; clear hE a; intro a hE)
        | ((with_reducible refine q_bin .quo ?_); refine d_val hE hS rfl (fun w hS => r_quo hE rfl rfl (by omega) (by first | exact eq8 )) ?_; clear hE a; intro a hE)
        | ((with_reducible refine q_bin .rem ?_); refine d_val hE hS rfl (fun w hS => r_rem hE rfl rfl (by omega) (by first | exact tmod_nat _ _ )) ?_; clear hE a; intro a hE)
        | ((with_reducible refine q_ia ?_); refine d_val hE hS rfl (fun w hS => r_idxR hE rfl rfl (by omega) (by omega) (by (first | exact hS.rd )) (by first | omega )) ?_; clear hE a; intro a hE)
        | ((with_reducible refine q_load ?_); refine d_val hE hS rfl (fun w hS => r_loadR hE rfl (by (first | exact hS.rd )) (by first | exact hg )) ?_; clear hE a; intro a hE)
        | ((with_reducible refine o_lt rfl ?_))
        )
      repeat' (first

        | (with_reducible refine wpList_nil ?_)
        | ((with_reducible refine g_ia ?_); refine s_idxR hE rfl rfl (by omega) (by omega) (by (first | exact hS.rd )) (by first | omega ) rfl ?_; clear hE a; intro a hE)
        )
      refine o_backL ?_
      repeat' (first
        | ((with_reducible refine o_lt rfl ?_))
        )
      repeat' (first

        | (with_reducible refine wpList_nil ?_)
        | ((with_reducible refine g_store ?_); (first | (refine s_storeR1 (k := 0) hS hE rfl rfl rfl rfl (by first | omega ) rfl ?_) ); clear hS; intro w hS; simp only [List.set_cons_zero, List.set_cons_succ, Nat.add_zero] at hS)
        )
      refine o_backL ?_
      repeat' (first
        | (with_reducible refine o_done ?_)
        )
      repeat' (first

        | (with_reducible refine c_region ?_)
        | (with_reducible refine wpList_nil ?_)
        | (with_reducible refine then_normal ?_)
        | (with_reducible refine block_normal ?_)
        | ((with_reducible refine g_move ?_); refine s_move hE rfl rfl ?_; clear hE a; intro a hE)
        | ((with_reducible refine g_bin .add ?_); refine s_add hE rfl rfl rfl (by first  | exact wrap64_in (by omega) ) ?_; clear hE a; intro a hE)
        )
      rw [Int.toNat_natCast, Nat.mul_one, bys_set] at hS
      refine ⟨q - 1, by omega, k + 1, L.set (m / 8) (L[m / 8] ^^^ 128 / 2 ^ (m % 8)), by omega, by rw [List.length_set]; exact hll, ?_, ?_, hS, hE.sub ⟨rfl, rfl, rfl, rfl, rfl, trivial⟩⟩
      · intro x hx
        rcases List.mem_or_eq_of_mem_set hx with hx | hx
        · exact hLb x hx
        · subst hx
          exact Nat.xor_lt_two_pow (n := 8) hlb h128
      · rw [hps]
        rcases Nat.mod_two_eq_zero_or_one k with h0 | h0
        · rw [h0, show (k + 1) % 2 = 1 by omega]; rfl
        · rw [h0, show (k + 1) % 2 = 0 by omega]; rfl
    · obtain rfl : k = 3 := by omega
      have hrd2 := hS.rdAt (k := 1) rfl
      repeat' (first

        | (with_reducible refine wp_seq ?_)
        | (with_reducible refine c_region ?_)
        | (with_reducible refine wpList_nil ?_)
        | (with_reducible refine then_normal ?_)
        | (with_reducible refine wp_exit ?_)
        | (with_reducible refine then_exit ?_)
        | (with_reducible refine block_same ?_)
        | ((with_reducible refine g_move ?_); refine s_move hE rfl rfl ?_; clear hE a; intro a hE)
        | ((with_reducible refine g_bin .lss ?_); refine s_lss hE rfl rfl rfl ?_; clear hE a; intro a hE)
        | ((with_reducible refine g_cond ?_); refine c_false hE rfl ?_)
        )
      refine s_call hE rfl rfl rfl (bequal A A' c c' p'.m.enc L 256 256 w hrd2 hS.rd heb hLb hel.symm hll.symm) ?_
      rintro _ w ⟨rfl, hS1⟩; clear hE a; intro a hE; replace hS := hS.frame hS1; clear hS1; try simp only [List.cons_append, List.nil_append] at hS
      by_cases he : p'.m.enc = L
      · rw [decide_eq_true he] at hE
        repeat' (first

          | (with_reducible refine wp_seq ?_)
          | (with_reducible refine c_region ?_)
          | (with_reducible refine wpList_nil ?_)
          | (with_reducible refine then_normal ?_)
          | (with_reducible refine wp_ret ?_)
          | (with_reducible refine then_ret ?_)
          | ((with_reducible refine g_assign ?_); refine s_assign hE rfl rfl ?_; clear hE a; intro a hE)
          | ((with_reducible refine g_cond ?_); refine c_true hE rfl ?_)
          )
        exact ret1 hE rfl rfl ⟨rfl, hS.nil⟩
      · rw [decide_eq_false he] at hE
        obtain ⟨_, hc256, _⟩ := hS.lenAt (k := 0) rfl
        have hde := fun w' h => decode p'.n hpw.n64 A' c' L (w0 := w') h hLb (by omega) (by omega)
        rw [hll, dec_odd (n := p'.n) hLb hll hri2.1 hpar] at hde
        repeat' (first

          | (with_reducible refine wp_seq ?_)
          | (with_reducible refine c_region ?_)
          | (with_reducible refine wpList_nil ?_)
          | (with_reducible refine then_normal ?_)
          | (with_reducible refine wp_skip ?_)
          | ((with_reducible refine g_move ?_); refine s_move hE rfl rfl ?_; clear hE a; intro a hE)
          | ((with_reducible refine g_fa ?_); refine s_fieldL hE rfl rfl rfl ?_; clear hE a; intro a hE)
          | ((with_reducible refine g_cond ?_); refine c_false hE rfl ?_)
          | ((with_reducible refine g_load ?_); (first | (refine s_loadB (k := 3) hS hE rfl rfl rfl rfl ?_) ); clear hE a; intro a hE)
          )
        refine s_call hE rfl rfl rfl (hde w hS.rd) ?_
        rintro _ w ⟨r, rfl, hrm, hrw, hS1⟩; clear hE a; intro a hE; replace hS := hS.frame hS1; clear hS1; try simp only [List.cons_append, List.nil_append] at hS
        have hcl4 : r.cells.length = 6 := by simp [hrw.s4]
        have hone4 := Pg.cells_one r
        dsimp only at hE
        obtain ⟨go, rfl⟩ : ∃ x, x = g := ⟨g, rfl⟩
        repeat' (first

          | (with_reducible refine wp_seq ?_)
          | (with_reducible refine c_region ?_)
          | (with_reducible refine wpList_nil ?_)
          | (with_reducible refine then_normal ?_)
          | ((with_reducible refine g_move ?_); refine s_move hE rfl rfl ?_; clear hE a; intro a hE)
          | ((with_reducible refine g_assign ?_); refine s_assign hE rfl rfl ?_; clear hE a; intro a hE)
          | ((with_reducible refine g_bin .eql ?_); refine s_eql hE rfl rfl rfl ?_; clear hE a; intro a hE)
          | ((with_reducible refine g_extract ?_); refine s_extract hE rfl rfl rfl ?_; clear hE a; intro a hE)
          | ((with_reducible refine g_guard ?_); refine gd_yes hE rfl rfl rfl ?_)
          | ((with_reducible refine g_alloc ?_); refine s_allocS hE hS rfl rfl ?_; clear hE a hS; intro g a w hE hS)
          | ((with_reducible refine g_build ?_); refine s_build [_, _, _, _, _, _] hE rfl rfl rfl ?_; clear hE a; intro a hE)
          | ((with_reducible refine g_load ?_); (first | (refine s_loadW (k := 0) hS hE rfl rfl (by first | assumption ) rfl ?_) ); clear hE a; intro a hE)
          | ((with_reducible refine g_store ?_); (first | (refine s_storeW (k := 0) hS hE rfl rfl rfl (by assumption) (by first | rfl ) (by first | assumption) ?_) ); clear hS; intro w hS; simp only [List.set_cons_zero, List.set_cons_succ, Nat.add_zero] at hS)
          )
        refine s_call hE rfl rfl rfl (sameP r Pg.zero hrw Pg.zero_wf (rowsP_rdAt hS (k := 1) rfl) (fun s hs => by have : s = nilS := by simp [Pg.zero] at hs; exact hs
                                                                                                                  subst this; exact Rd.nil)) ?_
        rintro _ w ⟨rfl, hS1⟩; clear hE a; intro a hE; replace hS := hS.frame hS1; clear hS1; try simp only [List.cons_append, List.nil_append] at hS
        rw [decide_eq_true (show r.m = Pg.zero.m from hrm)] at hE
        repeat' (first

          | (with_reducible refine wpList_nil ?_)
          | (with_reducible refine then_normal ?_)
          | (with_reducible refine wp_ret ?_)
          | ((with_reducible refine g_assign ?_); refine s_assign hE rfl rfl ?_; clear hE a; intro a hE)
          | ((with_reducible refine g_pick ?_); refine s_pickT hE rfl rfl rfl ?_; clear hE a; intro a hE)
          )
        exact ret1 hE rfl rfl ⟨rfl, hS.nil⟩
end
end Go.Proofs.Ytmdfhhmnlplagaa
