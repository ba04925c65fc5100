/-
  What has room is taken, and what has none is refused.
-/
import Derived.Test.YtfoeelghehjanaaWX
namespace Go.Proofs.Ytfoeelghehjanaa
open Go.RowKit
set_option linter.unusedVariables false
set_option linter.unusedSimpArgs false
attribute [local irreducible] Rd hRow hBlk hRd hRdr wrP hDk hWl Fn FnD hMarks hStt hTs
section
set_option maxHeartbeats 16000000
theorem law_WalFull (n : Int) (y : LT) (w0 : World) (hn : (Lit.int .i64 n).wf = true) (h : y.ok w0) : Fn Try.prog 3 [.int .i64 n, .slice y.1 y.2.2.length y.2.1] w0 fun v w' => v = .bool true ∧ St w0 w' [] := by
  rw [← LT.len]
  have hr := LT.rd h
  have hall := LT.all h
  obtain ⟨hcap, hbig⟩ := LT.cap h
  generalize y.wops = l at hr hall hcap hbig
  generalize y.1 = A at hr
  generalize y.2.1 = c at hcap
  have hS := St.start w0
  have hk : (IntKind.u64.wrap n).tmod 20 = (((n % 18446744073709551616).toNat % 20 : Nat) : Int) := u64_rem n 20 (by decide)
  have hklt : (n % 18446744073709551616).toNat % 20 < 20 := Nat.mod_lt _ (by decide)
  generalize (n % 18446744073709551616).toNat % 20 = r at hk hklt
  have e1 : IntKind.i64.wrap ((r : Nat) : Int) = (r : Int) := wrap64_in (by omega)
  have e2 : IntKind.i64.wrap (4 + (r : Int)) = ((4 + r : Nat) : Int) := by rw [wrap64_in (by omega)]; rfl
  refine enter 103 Try.func3 rfl rfl rfl ?_
  intro a hE
  repeat' (first

    | (with_reducible refine wp_seq ?_)
    | (with_reducible refine c_region ?_)
    | (with_reducible refine wpList_nil ?_)
    | (with_reducible refine then_normal ?_)
    | ((with_reducible refine g_assign ?_); refine s_assign hE rfl rfl ?_; clear hE a; intro a hE)
    )
  refine s_call hE rfl rfl rfl (wakes w0) ?_
  rintro _ w ⟨rfl, hS1⟩; clear hE a; intro a hE; replace hS := hS.frame hS1; clear hS1; try simp only [List.cons_append, List.nil_append] at hS
  repeat' (first

    | (with_reducible refine wp_seq ?_)
    | (with_reducible refine c_region ?_)
    | (with_reducible refine wpList_nil ?_)
    | (with_reducible refine then_normal ?_)
    | (with_reducible refine wp_skip ?_)
    | ((with_reducible refine g_move ?_); refine s_move hE rfl rfl ?_; clear hE a; intro a hE)
    | ((with_reducible refine g_assign ?_); refine s_assign hE rfl rfl ?_; clear hE a; intro a hE)
    | ((with_reducible refine g_bin .add ?_); refine s_add hE rfl rfl rfl (by first | exact e2 ) ?_; clear hE a; intro a hE)
    | ((with_reducible refine g_bin .rem ?_); refine s_rem hE rfl rfl (by omega) rfl (by first | exact hk ) ?_; clear hE a; intro a hE)
    | ((with_reducible refine g_un .not ?_); refine s_notb hE rfl rfl ?_; clear hE a; intro a hE)
    | ((with_reducible refine g_conv ?_); refine s_conv hE rfl rfl (by first | exact e1 | rfl) ?_; clear hE a; intro a hE)
    | ((with_reducible refine g_cond ?_); refine c_false hE rfl ?_)
    )
  obtain ⟨ar, rfl⟩ : ∃ ar, ar = 4 + r := ⟨_, rfl⟩
  generalize har : 4 + r = ar at hE
  refine s_call hE rfl rfl rfl (made ar (by omega) w) ?_
  rintro _ w ⟨gd, gw, D, rfl, hcl, hp, hsf, hat, hS1⟩; clear hE a; intro a hE; replace hS := hS.frame hS1; clear hS1; try simp only [List.cons_append, List.nil_append] at hS
  have hsl : D.safe.length = 2 + 2 * ar := by
    rw [hsf]
    have : (partsB 0 0 []).length = 1 := partsB_len ..
    simp [this]
    omega
  repeat' (first

    | (with_reducible refine wp_seq ?_)
    | (with_reducible refine c_region ?_)
    | (with_reducible refine wpList_nil ?_)
    | (with_reducible refine then_normal ?_)
    | (with_reducible refine wp_skip ?_)
    | ((with_reducible refine g_move ?_); refine s_move hE rfl rfl ?_; clear hE a; intro a hE)
    | ((with_reducible refine g_assign ?_); refine s_assign hE rfl rfl ?_; clear hE a; intro a hE)
    | ((with_reducible refine g_bin .sub ?_); refine s_sub hE rfl rfl rfl (by first  | exact wrap64_in (by omega) ) ?_; clear hE a; intro a hE)
    | ((with_reducible refine g_extract ?_); refine s_extract hE rfl rfl rfl ?_; clear hE a; intro a hE)
    | ((with_reducible refine g_cond ?_); refine c_false hE rfl ?_)
    | ((with_reducible refine g_bin .eql ?_); refine s_val hE rfl rfl rfl (r_eqp hE rfl rfl) ?_; clear hE a; intro a hE)
    )
  have hWo : (⟨ar, 0, [[]], 1, false⟩ : WM).ok := ⟨by show ar ≤ 1000; omega, by show 1 ≤ ar; omega, by show (0 : Nat) < _; decide, by show 1 ≤ 1; decide, (fun b hb => by
    rw [List.mem_singleton] at hb; subst hb; exact ⟨(fun c hc => by cases hc), by decide⟩), by show 1 ≤ 1; decide⟩
  refine s_call hE rfl rfl rfl (kleft hWo hS) ?_
  rintro _ w ⟨rfl, hS⟩; clear hE a; intro a hE
  rw [show ((⟨ar, 0, [[]], 1, false⟩ : WM).area - (⟨ar, 0, [[]], 1, false⟩ : WM).fin : Nat) = ar - 1 from rfl] at hE
  have e3 : ((ar - 1 : Nat) : Int) = (ar : Int) - 1 := by omega
  rw [e3] at hE
  repeat' (first

    | (with_reducible refine wp_seq ?_)
    | (with_reducible refine c_region ?_)
    | (with_reducible refine wpList_nil ?_)
    | (with_reducible refine then_normal ?_)
    | (with_reducible refine wp_skip ?_)
    | ((with_reducible refine g_move ?_); refine s_move hE rfl rfl ?_; clear hE a; intro a hE)
    | ((with_reducible refine g_bin .neq ?_); refine s_neq hE rfl rfl rfl ?_; clear hE a; intro a hE)
    | ((with_reducible refine g_cond ?_); refine c_dec hE rfl (fun hc => ?_) (fun hc => ?_) <;> try omega)
    )
  refine s_call hE rfl rfl rfl (few A l.length c w hcap hbig) ?_
  rintro _ w ⟨rfl, hS1⟩; clear hE a; intro a hE; replace hS := hS.frame hS1; clear hS1; try simp only [List.cons_append, List.nil_append] at hS
  repeat' (first

    | (with_reducible refine wpList_nil ?_)
    | (with_reducible refine then_normal ?_)
    | (with_reducible refine wp_block ?_)
    | ((with_reducible refine g_move ?_); refine s_move hE rfl rfl ?_; clear hE a; intro a hE)
    | ((with_reducible refine g_blt .len ?_); refine s_len hE rfl rfl ?_; clear hE a; intro a hE)
    )
  have hfl : (l.flatMap WOp.cells).length = l.length * 4 := flat_len (fun o _ => rfl)
  obtain ⟨mm, hmm⟩ : ∃ mm, mm = min l.length 40 := ⟨_, rfl⟩
  have hmm1 : mm ≤ l.length ∧ mm ≤ 40 := by omega
  rw [← hmm] at hE
  clear hmm
  refine wp_loop_ghost (fun q a w => ∃ (k : Nat) (W : WM) (D : DM), k + q = mm ∧ W.ok ∧ W.area = ar ∧ W.broken = false ∧ W.turn ≤ k ∧ D.calm ∧ D.pend = [] ∧ D.safe.length = 2 + 2 * ar ∧ D.atN (2100 + 20 * k) ∧ St w0 w [hWl gw gd W, hDk gd D] ∧
    Env 103 [(0, .int .i64 (ar : Int)), (6, .pointer (some ⟨gw, 0, none⟩)), (7, .int .i64 ((W.area - W.fin : Nat) : Int)), (33, .slice A mm c), (34, .int .i64 (mm : Int)), (35, .int .i64 (k : Int))] a) mm
    ⟨0, ⟨ar, 0, [[]], 1, false⟩, D, by omega, hWo, rfl, rfl, Nat.le_refl _, hcl, hp, hsl, hat, hS, hE.sub ⟨rfl, rfl, by rw [show ((⟨ar, 0, [[]], 1, false⟩ : WM).area - (⟨ar, 0, [[]], 1, false⟩ : WM).fin : Nat) = ar - 1 from rfl, e3]; rfl, rfl, rfl, rfl, trivial⟩⟩ ?_
  clear hE a hS hWo hcl hp hsf hat hsl
  rintro q a w ⟨k, W, D, hkq, hWo, hWa, hWb, hWt, hcl, hp, hsl, hat, hS, hE⟩
  by_cases hk1 : k < mm
  · have hkl : k < l.length := by omega
    have hseg := flat_seg (c := WOp.cells) (size := 4) (l := l) (fun o _ => rfl) hkl
    obtain ⟨how, hord⟩ := hall _ (List.getElem_mem hkl)
    generalize l[k] = o at hseg how hord
    have hvl : o.cells.length = 4 := rfl
    have hone : ∀ v ∈ o.cells, v.oneCell' = true := by
      intro v hv
      unfold WOp.cells at hv
      simp only [List.mem_cons, List.not_mem_nil, or_false] at hv
      rcases hv with rfl | rfl | rfl | rfl <;> rfl
    have hrw := hr.st hS
    repeat' (first

      | (with_reducible refine wp_seq ?_)
      | (with_reducible refine c_region ?_)
      | (with_reducible refine wpList_nil ?_)
      | (with_reducible refine then_normal ?_)
      | (with_reducible refine wp_skip ?_)
      | (with_reducible refine wp_block ?_)
      | ((with_reducible refine g_move ?_); refine s_move hE rfl rfl ?_; clear hE a; intro a hE)
      | ((with_reducible refine g_bin .lss ?_); refine s_lss hE rfl rfl rfl ?_; clear hE a; intro a hE)
      | ((with_reducible refine g_cond ?_); refine c_dec hE rfl (fun hc => ?_) (fun hc => ?_) <;> try omega)
      | ((with_reducible refine g_ia ?_); refine s_idxR hE rfl rfl (by omega) (by omega) (by (first | exact Rd.st (by assumption) hS )) (by first | omega ) rfl ?_; clear hE a; intro a hE)
      | ((with_reducible refine g_alloc ?_); refine s_allocS hE hS rfl rfl ?_; clear hE a hS; intro g a w hE hS)
      | ((with_reducible refine g_store ?_); (first | (refine s_storeW (k := 0) hS hE rfl rfl rfl rfl rfl (by first | assumption ) ?_) ); clear hS; intro w hS; simp only [List.set_cons_zero, List.set_cons_succ, Nat.add_zero] at hS)
      | ((with_reducible refine g_load ?_); refine s_elemR hE rfl (by (first | exact Rd.st (by assumption) hS )) (by first | exact hseg ) (by first | rfl ) (by rfl) rfl ?_; clear hE a; intro a hE))
    obtain ⟨g9, rfl⟩ : ∃ x, x = g := ⟨_, rfl⟩
    refine s_call hE rfl rfl rfl (told hWo hS.p1) ?_
    rintro _ w ⟨sx, sy, rfl, hS⟩; clear hE a; intro a hE
    have hxy := hStt_one hS
    have hxyl : [sx, sy].length = 2 := rfl
    repeat' (first

      | (with_reducible refine wp_seq ?_)
      | (with_reducible refine c_region ?_)
      | (with_reducible refine wpList_nil ?_)
      | (with_reducible refine then_normal ?_)
      | ((with_reducible refine g_alloc ?_); refine s_allocS hE hS rfl rfl ?_; clear hE a hS; intro g a w hE hS)
      | ((with_reducible refine g_load ?_); (first | (refine s_loadW (k := 3) hS hE rfl rfl rfl rfl ?_) ); clear hE a; intro a hE)
      | ((with_reducible refine g_store ?_); (first | (refine s_storeW (k := 0) hS hE rfl rfl rfl rfl rfl (by first | assumption ) ?_) ); clear hS; intro w hS; simp only [List.set_cons_zero, List.set_cons_succ, Nat.add_zero] at hS)
      )
    obtain ⟨g10, rfl⟩ : ∃ x, x = g := ⟨_, rfl⟩
    have hob := o.b_bs
    have hol := o.b_lt
    have hsn := secN_pos (n := o.b.length) (by omega)
    have hap1 : (W.list ++ [o.b]).headD [] = W.list.headD [] ∧ (W.list ++ [o.b]).tail = W.list.tail ++ [o.b] := by
      have hne := hWo.ne
      generalize W.list = L at hne
      cases L with
      | nil => exact absurd hne (by decide)
      | cons b0 L => exact ⟨rfl, rfl⟩
    obtain ⟨hap1, hap2⟩ := hap1
    have hlW : W.list.tail.length ≤ 100000 := by
      rw [List.length_tail]
      have := hWo.len
      have := hWo.fin
      have := hWo.area
      omega
    refine s_call hE rfl rfl rfl (obytes o how w) ?_
    rintro _ w ⟨A2, c2, rfl, hS1⟩; clear hE a; intro a hE; replace hS := hS.frame hS1; clear hS1; try simp only [List.cons_append, List.nil_append] at hS
    repeat' (first

      | ((with_reducible refine g_blt .len ?_); refine s_len hE rfl rfl ?_; clear hE a; intro a hE)
      )
    refine s_call hE rfl rfl rfl (sectors o.b.length w) ?_
    rintro _ w ⟨rfl, hS1⟩; clear hE a; intro a hE; replace hS := hS.frame hS1; clear hS1; try simp only [List.cons_append, List.nil_append] at hS
    repeat' (first

      | (with_reducible refine wp_seq ?_)
      | (with_reducible refine c_region ?_)
      | (with_reducible refine wpList_nil ?_)
      | (with_reducible refine then_normal ?_)
      | ((with_reducible refine g_assign ?_); refine s_assign hE rfl rfl ?_; clear hE a; intro a hE)
      | ((with_reducible refine g_load ?_); (first | (refine s_loadW (k := 4) hS hE rfl rfl rfl rfl ?_) ); clear hE a; intro a hE)
      )
    refine s_call hE rfl rfl rfl (kind o w) ?_
    rintro _ w ⟨rfl, hS1⟩; clear hE a; intro a hE; replace hS := hS.frame hS1; clear hS1; try simp only [List.cons_append, List.nil_append] at hS
    refine s_eql hE rfl rfl rfl ?_
    clear hE a; intro a hE
    refine wpList_nil ?_
    refine then_normal ?_
    refine wp_mono (?_ : Code.wp _ _ (fun e a w => e = .normal ∧ ∃ (W' : WM) (D' : DM) (sx' sy' : Value), W'.ok ∧ W'.area = ar ∧ W'.broken = false ∧ W'.turn ≤ k + 1 ∧ D'.calm ∧ D'.pend = [] ∧ D'.safe.length = 2 + 2 * ar ∧ D'.atN (2100 + 20 * (k + 1)) ∧
      St w0 w [hBlk g10 37 [sx', sy'], hStt sx' sy' (W'.list.headD []) W'.list.tail, hWl gw gd W', hDk gd D'] ∧
      Env 103 [(0, .int .i64 (ar : Int)), (6, .pointer (some ⟨gw, 0, none⟩)), (7, .int .i64 ((W'.area - W'.fin : Nat) : Int)), (10, .pointer (some ⟨g10, 0, none⟩)), (33, .slice A mm c), (34, .int .i64 (mm : Int)), (35, .int .i64 (k : Int))] a) _ _) ?_
    · by_cases hk : o.k = 1
      · rw [hk] at hE
        repeat' (first

          | (with_reducible refine wp_seq ?_)
          | (with_reducible refine c_region ?_)
          | ((with_reducible refine g_move ?_); refine s_move hE rfl rfl ?_; clear hE a; intro a hE)
          | ((with_reducible refine g_cond ?_); refine c_true hE rfl ?_)
          | ((with_reducible refine g_load ?_); (first | (refine s_loadW (k := 4) hS hE rfl rfl rfl rfl ?_) ); clear hE a; intro a hE)
          )
        refine s_call hE rfl rfl rfl (obytes o how w) ?_
        rintro _ w ⟨A5, c5, rfl, hS1⟩; clear hE a; intro a hE; replace hS := hS.frame hS1; clear hS1; try simp only [List.cons_append, List.nil_append] at hS
        obtain ⟨ce, cc, cpn, cl, cw⟩ := chk_calm hWo hob (by omega) hWb (by omega) hcl hp (by omega)
        have hat2 := chk_atN (W := W) hat hob (by omega)
        have hok2 := chk_ok (D := D) hWo hob
        have hap := kchk (m := 2100 + 20 * k) (w0 := w0) (w := w) (H := [hRow 5 1 A5 o.b.length c5 (bys o.b), hRow 5 1 A2 o.b.length c2 (bys o.b), hBlk g10 37 [sx, sy], hStt sx sy (W.list.headD []) W.list.tail, hBlk g9 33 o.cells]) gw gd W D o.b A5 c5 hWo hob (by omega) (fun w' L h => (h.perm (List.perm_append_comm (l₁ := L))).rd) hat (by omega) (St.selD [4, 5, 0, 0, 0, 0, 0] 0 hS)
        refine s_call hE rfl rfl rfl hap ?_
        clear hap
        rw [ce]
        generalize W.chk D o.b = R at cc cpn cl cw hat2 hok2 ⊢
        obtain ⟨W2, D2, ee⟩ := R
        dsimp only at cc cpn cl cw hat2 hok2 ⊢
        rintro _ w ⟨rfl, hS⟩; clear hE a; intro a hE
        by_cases hroom : secN o.b.length ≤ W.area
        · rw [if_pos hroom] at hE cw
          subst cw
          repeat' (first

            | (with_reducible refine wp_seq ?_)
            | (with_reducible refine c_region ?_)
            | (with_reducible refine wpList_nil ?_)
            | (with_reducible refine then_normal ?_)
            | (with_reducible refine wp_skip ?_)
            | (with_reducible refine wp_ret ?_)
            | (with_reducible refine then_ret ?_)
            | ((with_reducible refine g_move ?_); refine s_move hE rfl rfl ?_; clear hE a; intro a hE)
            | ((with_reducible refine g_assign ?_); refine s_assign hE rfl rfl ?_; clear hE a; intro a hE)
            | ((with_reducible refine g_bin .leq ?_); refine s_leq hE rfl rfl rfl ?_; clear hE a; intro a hE)
            | ((with_reducible refine g_bin .eql ?_); refine s_eql hE rfl rfl rfl ?_; clear hE a; intro a hE)
            | ((with_reducible refine g_bin .sub ?_); refine s_sub hE rfl rfl rfl (by first  | exact subN (by omega) (by omega) ) ?_; clear hE a; intro a hE)
            | ((with_reducible refine g_bin .neq ?_); refine s_neb hE rfl rfl rfl ?_; clear hE a; intro a hE)
            | ((with_reducible refine g_cond ?_); refine c_dec hE rfl (fun hc => ?_) (fun hc => ?_) <;> try omega)
            | ((with_reducible refine g_cond ?_); refine c_bool hE rfl (fun hc => ?_) (fun hc => ?_))

            | ((with_reducible refine g_load ?_); (first | (refine s_loadW (k := 4) hS hE rfl rfl rfl rfl ?_) | (refine s_loadW (k := 6) hS hE rfl rfl rfl rfl ?_) ); clear hE a; intro a hE)
            )
          · exact absurd (show (decide ((0 : Int) = 0) != decide ((secN o.b.length : Int) ≤ (ar : Int))) = true by assumption) (by rw [decide_eq_true (rfl : (0 : Int) = 0), decide_eq_true (show (secN o.b.length : Int) ≤ (ar : Int) by omega)]; decide)
          · refine s_call hE rfl rfl rfl (after o how hlW (hS.focus (k := 5) rfl)) ?_
            rintro _ w ⟨x', y', rfl, hS⟩; clear hE a; intro a hE
            rw [show afterP (W.list.headD []) W.list.tail o = (o.b, []) from if_pos hk] at hS
            simp only [List.eraseIdx_cons_succ, List.eraseIdx_cons_zero] at hS
            have hxy' := hStt_one hS
            have hxyl' : [x', y'].length = 2 := rfl
            repeat' (first

              | (with_reducible refine wpList_nil ?_)
              | ((with_reducible refine g_assign ?_); refine s_assign hE rfl rfl ?_; clear hE a; intro a hE)
              | ((with_reducible refine g_store ?_); (first | (refine s_storeW (k := 5) hS hE rfl rfl rfl rfl rfl (by first | assumption ) ?_) ); clear hS; intro w hS; simp only [List.set_cons_zero, List.set_cons_succ, Nat.add_zero] at hS)
              )
            refine ⟨rfl, _, D2, x', y', hok2.1, hWa, rfl, ?_, cc, cpn, by omega, hat2.mono (by omega), ?_, ?_⟩
            · show W.turn + 1 ≤ k + 1; omega
            · exact (St.selD [5, 0, 0, 0] 3 hS)
            · exact hE.sub ⟨rfl, rfl, by show _ = some (Value.int .i64 ((W.area - secN o.b.length : Nat) : Int)); rw [hWa]; rfl, rfl, rfl, rfl, rfl, trivial⟩
        · rw [if_neg hroom] at hE cw
          subst cw
          repeat' (first

            | (with_reducible refine wp_seq ?_)
            | (with_reducible refine c_region ?_)
            | (with_reducible refine wpList_nil ?_)
            | (with_reducible refine then_normal ?_)
            | (with_reducible refine wp_skip ?_)
            | (with_reducible refine wp_ret ?_)
            | (with_reducible refine then_ret ?_)
            | ((with_reducible refine g_move ?_); refine s_move hE rfl rfl ?_; clear hE a; intro a hE)
            | ((with_reducible refine g_assign ?_); refine s_assign hE rfl rfl ?_; clear hE a; intro a hE)
            | ((with_reducible refine g_bin .leq ?_); refine s_leq hE rfl rfl rfl ?_; clear hE a; intro a hE)
            | ((with_reducible refine g_bin .eql ?_); refine s_eql hE rfl rfl rfl ?_; clear hE a; intro a hE)
            | ((with_reducible refine g_bin .neq ?_); refine s_neb hE rfl rfl rfl ?_; clear hE a; intro a hE)
            | ((with_reducible refine g_cond ?_); refine c_dec hE rfl (fun hc => ?_) (fun hc => ?_) <;> try omega)
            | ((with_reducible refine g_cond ?_); refine c_bool hE rfl (fun hc => ?_) (fun hc => ?_))

            )
          · exact absurd (show (decide ((6 : Int) = 0) != decide ((secN o.b.length : Int) ≤ (ar : Int))) = true by assumption) (by rw [decide_eq_false (by decide : ¬ (6 : Int) = 0), decide_eq_false (show ¬ (secN o.b.length : Int) ≤ (ar : Int) by omega)]; decide)
          · exact ⟨rfl, W2, D2, sx, sy, hok2.1, hWa, hWb, by omega, cc, cpn, by omega, hat2.mono (by omega), (St.selD [4, 4, 0, 0] 3 hS), hE.sub ⟨rfl, rfl, rfl, rfl, rfl, rfl, rfl, trivial⟩⟩
      · repeat' (first

          | (with_reducible refine wp_seq ?_)
          | (with_reducible refine c_region ?_)
          | ((with_reducible refine g_move ?_); refine s_move hE rfl rfl ?_; clear hE a; intro a hE)
          | ((with_reducible refine g_cond ?_); refine c_dec hE rfl (fun hc => ?_) (fun hc => ?_) <;> try omega)
          | ((with_reducible refine g_load ?_); (first | (refine s_loadW (k := 4) hS hE rfl rfl rfl rfl ?_) ); clear hE a; intro a hE)
          )
        refine s_call hE rfl rfl rfl (obytes o how w) ?_
        rintro _ w ⟨A5, c5, rfl, hS1⟩; clear hE a; intro a hE; replace hS := hS.frame hS1; clear hS1; try simp only [List.cons_append, List.nil_append] at hS
        obtain ⟨ce, cc, cpn, cl, cw⟩ := app_calm hWo hob (by omega) hWb hcl hp (by omega)
        have hat2 := app_atN (W := W) hat hob (by omega)
        have hok2 := app_ok (D := D) hWo hob
        have hap := kapp (m := 2100 + 20 * k) (w0 := w0) (w := w) (H := [hRow 5 1 A5 o.b.length c5 (bys o.b), hRow 5 1 A2 o.b.length c2 (bys o.b), hBlk g10 37 [sx, sy], hStt sx sy (W.list.headD []) W.list.tail, hBlk g9 33 o.cells]) gw gd W D o.b A5 c5 hWo hob (by omega) (fun w' L h => (h.perm (List.perm_append_comm (l₁ := L))).rd) hat (by omega) (St.selD [4, 5, 0, 0, 0, 0, 0] 0 hS)
        refine s_call hE rfl rfl rfl hap ?_
        clear hap
        rw [ce]
        generalize W.app D o.b = R at cc cpn cl cw hat2 hok2 ⊢
        obtain ⟨W2, D2, ee⟩ := R
        dsimp only at cc cpn cl cw hat2 hok2 ⊢
        rintro _ w ⟨rfl, hS⟩; clear hE a; intro a hE
        by_cases hroom : secN o.b.length ≤ W.area - W.fin
        · rw [if_pos hroom] at hE cw
          subst cw
          repeat' (first

            | (with_reducible refine wp_seq ?_)
            | (with_reducible refine c_region ?_)
            | (with_reducible refine wpList_nil ?_)
            | (with_reducible refine then_normal ?_)
            | (with_reducible refine wp_skip ?_)
            | (with_reducible refine wp_ret ?_)
            | (with_reducible refine then_ret ?_)
            | ((with_reducible refine g_move ?_); refine s_move hE rfl rfl ?_; clear hE a; intro a hE)
            | ((with_reducible refine g_assign ?_); refine s_assign hE rfl rfl ?_; clear hE a; intro a hE)
            | ((with_reducible refine g_bin .leq ?_); refine s_leq hE rfl rfl rfl ?_; clear hE a; intro a hE)
            | ((with_reducible refine g_bin .eql ?_); refine s_eql hE rfl rfl rfl ?_; clear hE a; intro a hE)
            | ((with_reducible refine g_bin .sub ?_); refine s_sub hE rfl rfl rfl (by first  | exact subN (by omega) (by omega) ) ?_; clear hE a; intro a hE)
            | ((with_reducible refine g_fa ?_); refine s_fieldL hE rfl rfl rfl ?_; clear hE a; intro a hE)
            | ((with_reducible refine g_bin .neq ?_); refine s_neb hE rfl rfl rfl ?_; clear hE a; intro a hE)
            | ((with_reducible refine g_cond ?_); refine c_dec hE rfl (fun hc => ?_) (fun hc => ?_) <;> try omega)
            | ((with_reducible refine g_cond ?_); refine c_bool hE rfl (fun hc => ?_) (fun hc => ?_))

            | ((with_reducible refine g_load ?_); (first | (refine s_loadB (k := 6) hS hE rfl rfl rfl rfl ?_) ); clear hE a; intro a hE)
            | ((with_reducible refine g_build ?_); refine s_build [_, _, _, _] hE rfl rfl rfl ?_; clear hE a; intro a hE)
            | ((with_reducible refine g_load ?_); (first | (refine s_loadW (k := 4) hS hE rfl rfl rfl rfl ?_) ); clear hE a; intro a hE)
            )
          · exact absurd (show (decide ((0 : Int) = 0) != decide ((secN o.b.length : Int) ≤ ((W.area - W.fin : Nat) : Int))) = true by assumption) (by rw [decide_eq_true (rfl : (0 : Int) = 0), decide_eq_true (show (secN o.b.length : Int) ≤ ((W.area - W.fin : Nat) : Int) by omega)]; decide)
          · refine s_call hE rfl rfl rfl (after ⟨0, o.n, o.fill, none, 0, []⟩ ⟨by show (-9223372036854775808 : Int) ≤ 0 ∧ (0 : Int) ≤ 9223372036854775807; decide, how.n, how.fill, by show 0 ≤ 0 ∧ 0 ≤ 140737488351232; decide⟩ hlW (hS.focus (k := 5) rfl)) ?_
            rintro _ w ⟨x', y', rfl, hS⟩; clear hE a; intro a hE
            rw [show afterP (W.list.headD []) W.list.tail (⟨0, o.n, o.fill, none, 0, []⟩ : WOp) = (W.list.headD [], W.list.tail ++ [o.b]) from if_neg (show ¬ (0 : Nat) = 1 by decide)] at hS
            simp only [List.eraseIdx_cons_succ, List.eraseIdx_cons_zero] at hS
            have hxy' := hStt_one hS
            have hxyl' : [x', y'].length = 2 := rfl
            repeat' (first

              | (with_reducible refine wpList_nil ?_)
              | ((with_reducible refine g_assign ?_); refine s_assign hE rfl rfl ?_; clear hE a; intro a hE)
              | ((with_reducible refine g_store ?_); (first | (refine s_storeW (k := 5) hS hE rfl rfl rfl rfl rfl (by first | assumption ) ?_) ); clear hS; intro w hS; simp only [List.set_cons_zero, List.set_cons_succ, Nat.add_zero] at hS)
              )
            refine ⟨rfl, _, D2, x', y', hok2.1, hWa, rfl, ?_, cc, cpn, by omega, hat2.mono (by omega), ?_, ?_⟩
            · show W.turn ≤ k + 1; omega
            · show St w0 w [hBlk g10 37 [x', y'], hStt x' y' ((W.list ++ [o.b]).headD []) (W.list ++ [o.b]).tail, _, _]
              rw [hap1, hap2]
              exact (St.selD [5, 0, 0, 0] 3 hS)
            · exact hE.sub ⟨rfl, rfl, by show _ = some (Value.int .i64 ((W.area - (W.fin + secN o.b.length) : Nat) : Int)); rw [← Nat.sub_sub]; rfl, rfl, rfl, rfl, rfl, trivial⟩
        · rw [if_neg hroom] at hE cw
          subst cw
          repeat' (first

            | (with_reducible refine wp_seq ?_)
            | (with_reducible refine c_region ?_)
            | (with_reducible refine wpList_nil ?_)
            | (with_reducible refine then_normal ?_)
            | (with_reducible refine wp_skip ?_)
            | (with_reducible refine wp_ret ?_)
            | (with_reducible refine then_ret ?_)
            | ((with_reducible refine g_move ?_); refine s_move hE rfl rfl ?_; clear hE a; intro a hE)
            | ((with_reducible refine g_assign ?_); refine s_assign hE rfl rfl ?_; clear hE a; intro a hE)
            | ((with_reducible refine g_bin .leq ?_); refine s_leq hE rfl rfl rfl ?_; clear hE a; intro a hE)
            | ((with_reducible refine g_bin .eql ?_); refine s_eql hE rfl rfl rfl ?_; clear hE a; intro a hE)
            | ((with_reducible refine g_bin .neq ?_); refine s_neb hE rfl rfl rfl ?_; clear hE a; intro a hE)
            | ((with_reducible refine g_cond ?_); refine c_dec hE rfl (fun hc => ?_) (fun hc => ?_) <;> try omega)
            | ((with_reducible refine g_cond ?_); refine c_bool hE rfl (fun hc => ?_) (fun hc => ?_))

            )
          · exact absurd (show (decide ((6 : Int) = 0) != decide ((secN o.b.length : Int) ≤ ((W2.area - W2.fin : Nat) : Int))) = true by assumption) (by rw [decide_eq_false (by decide : ¬ (6 : Int) = 0), decide_eq_false (show ¬ (secN o.b.length : Int) ≤ ((W2.area - W2.fin : Nat) : Int) by omega)]; decide)
          · exact ⟨rfl, W2, D2, sx, sy, hok2.1, hWa, hWb, by omega, cc, cpn, by omega, hat2.mono (by omega), (St.selD [4, 4, 0, 0] 3 hS), hE.sub ⟨rfl, rfl, rfl, rfl, rfl, rfl, rfl, trivial⟩⟩
    · clear hE a hS
      rintro _ a w ⟨rfl, W', D', sx', sy', hWo', hWa', hWb', hWt', hcl', hp', hsl', hat', hS, hE⟩
      repeat' (first

        | (with_reducible refine wp_seq ?_)
        | (with_reducible refine then_normal ?_)
        )
      have hbsW : Bs (W'.list.headD []) ∧ ∀ b ∈ W'.list.tail, Bs b := by
        have hne := hWo'.ne
        have hbb := hWo'.bs
        generalize W'.list = L at hne hbb
        cases L with
        | nil => exact absurd hne (by decide)
        | cons b0 L => exact ⟨(hbb b0 (List.mem_cons_self ..)).1, fun b hb => (hbb b (List.mem_cons_of_mem _ hb)).1⟩
      have hlW : W'.list.tail.length ≤ 100000 := by
        rw [List.length_tail]
        have := hWo'.len
        have := hWo'.fin
        have := hWo'.area
        omega
      refine c_ordK hS 0 rfl 11 ((.rd 0 (.rd 2 (.ef 1 (.rd 3 (.rd 4 (.rd 5 (.rd 7 (.ef 6 (.ef 8 (.rd 9 (.rd 10 .done)))))))))))) mixed (by decide +kernel) ?_
      clear hS; intro w hF hS
      repeat' (first
        | (with_reducible refine o_rd rfl ?_)
        | ((with_reducible refine q_move ?_); refine d_val hE hS rfl (fun w hS => r_move hE rfl) ?_; clear hE a; intro a hE)
        | ((with_reducible refine o_ef rfl ?_))
        )
      refine s_call hE rfl rfl rfl (kleft hWo' (hF.focus (k := 2) rfl)) ?_
      rintro _ w ⟨rfl, hF⟩; clear hE a; intro a hE
      simp only [List.eraseIdx_cons_succ, List.eraseIdx_cons_zero] at hF
      refine wpList_nil ?_
      refine o_back _ (fun _ h => h) (hF.only 1 rfl) ?_
      clear hS; have hS := hF.only 1 rfl
      repeat' (first
        | (with_reducible refine o_rd rfl ?_)
        | ((with_reducible refine q_move ?_); refine d_val hE hS rfl (fun w hS => r_move hE rfl) ?_; clear hE a; intro a hE)
        | ((with_reducible refine q_bin .neq ?_); refine d_val hE hS rfl (fun w hS => r_neq hE rfl rfl) ?_; clear hE a; intro a hE)
        | ((with_reducible refine q_guard ?_); refine d_yes hE rfl rfl rfl ?_)
        | ((with_reducible refine q_guard ?_); refine d_dec hE rfl rfl (fun hc hE2 => ?_) (fun hc hE2 => ?_) <;> (try omega) <;> (replace hE := hE2; clear hE2))
        | ((with_reducible refine q_load ?_); (first | (refine d_val hE hS rfl (fun w hS => r_loadW (k := 0) hS hE rfl rfl rfl) ?_) ); clear hE a; intro a hE)
        | ((with_reducible refine o_ef rfl ?_))
        )
      have hS := hF
      repeat' (first

        | ((with_reducible refine g_guard ?_); refine gd_yes hE rfl rfl rfl ?_)
        )
      refine s_call hE rfl rfl rfl (told hWo' hF) ?_
      rintro _ w ⟨x2, y2, rfl, hF⟩; clear hE a; intro a hE
      refine wpList_nil ?_
      refine o_back _ (fun _ h => h) (hF.only 2 rfl) ?_
      clear hS; have hS := hF.only 2 rfl
      repeat' (first
        | ((with_reducible refine o_ef rfl ?_))
        )
      clear hS; have hS := hF
      repeat' (first

        | ((with_reducible refine g_guard ?_); refine gd_yes hE rfl rfl rfl ?_)
        )
      have hF2 : St w0 w [hStt x2 y2 (W'.list.headD []) W'.list.tail, hStt sx' sy' (W'.list.headD []) W'.list.tail, hWl gw gd W', hBlk g10 37 [sx', sy'], hDk gd D'] := (St.selD [0, 2, 0, 0, 0] 0 hF)
      refine s_call hE rfl rfl rfl (sameS hbsW hbsW hlW hlW hF2) ?_
      rintro _ w ⟨rfl, hS1⟩; clear hE a; intro a hE; replace hF := hF.frame hS1; clear hS1; simp only [List.nil_append] at hF
      rw [decide_eq_true (⟨rfl, rfl⟩ : W'.list.headD [] = W'.list.headD [] ∧ W'.list.tail = W'.list.tail)] at hE
      refine wpList_nil ?_
      refine o_back _ (fun _ h => h) (hF.only 2 rfl) ?_
      clear hS; have hS := hF.only 2 rfl
      repeat' (first
        | (with_reducible refine o_rd rfl ?_)
        | (with_reducible refine o_done ?_)
        | ((with_reducible refine q_un .not ?_); refine d_val hE hS rfl (fun w hS => r_notb hE rfl) ?_; clear hE a; intro a hE)
        | ((with_reducible refine q_guard ?_); refine d_yes hE rfl rfl rfl ?_)
        | ((with_reducible refine q_pick ?_); refine d_val hE hS rfl (fun w hS => r_pickF hE rfl rfl) ?_; clear hE a; intro a hE)
        )
      clear hS; have hS := hF; clear hF
      repeat' (first

        | (with_reducible refine c_region ?_)
        | (with_reducible refine wpList_nil ?_)
        | (with_reducible refine then_normal ?_)
        | (with_reducible refine wp_skip ?_)
        | (with_reducible refine block_normal ?_)
        | ((with_reducible refine g_move ?_); refine s_move hE rfl rfl ?_; clear hE a; intro a hE)
        | ((with_reducible refine g_bin .add ?_); refine s_add hE rfl rfl rfl (by first  | exact wrap64_in (by omega) ) ?_; clear hE a; intro a hE)
        | ((with_reducible refine g_cond ?_); refine c_false hE rfl ?_)
        )
      exact ⟨q - 1, by omega, k + 1, W', D', by omega, hWo', hWa', hWb', hWt', hcl', hp', hsl', hat', (St.selD [1, 3] 3 hS), hE.sub ⟨rfl, rfl, rfl, rfl, rfl, rfl, trivial⟩⟩
  · obtain rfl : k = mm := by omega
    repeat' (first

      | (with_reducible refine wp_seq ?_)
      | (with_reducible refine c_region ?_)
      | (with_reducible refine wpList_nil ?_)
      | (with_reducible refine then_normal ?_)
      | (with_reducible refine wp_exit ?_)
      | (with_reducible refine then_exit ?_)
      | (with_reducible refine block_same ?_)
      | ((with_reducible refine g_move ?_); refine s_move hE rfl rfl ?_; clear hE a; intro a hE)
      | ((with_reducible refine g_bin .lss ?_); refine s_lss hE rfl rfl rfl ?_; clear hE a; intro a hE)
      | ((with_reducible refine g_cond ?_); refine c_dec hE rfl (fun hc => ?_) (fun hc => ?_) <;> try omega)
      )
    refine s_call hE rfl rfl rfl (kbroken hS) ?_
    rintro _ w ⟨rfl, hS⟩; clear hE a; intro a hE
    rw [hWb] at hE
    repeat' (first

      | (with_reducible refine wpList_nil ?_)
      | (with_reducible refine then_normal ?_)
      | (with_reducible refine wp_ret ?_)
      | ((with_reducible refine g_assign ?_); refine s_assign hE rfl rfl ?_; clear hE a; intro a hE)
      | ((with_reducible refine g_un .not ?_); refine s_notb hE rfl rfl ?_; clear hE a; intro a hE)
      )
    exact ret1 hE rfl rfl ⟨rfl, hS.nil⟩
end
end Go.Proofs.Ytfoeelghehjanaa
