/-
  The law HeapPuts.
-/
import Derived.Test.YtaiahigeejodaaaHT
import Derived.Test.YtaiahigeejodaaaHK
import Derived.Test.YtaiahigeejodaaaHR
namespace Go.Proofs.Ytaiahigeejodaaa
open Go.RowKit
set_option linter.unusedVariables false
set_option linter.unusedSimpArgs false
attribute [local irreducible] Rd hRow hBlk hRd hRdr rowsP hPs Fn hMarks

theorem sum_take {l : List Nat} {k : Nat} (hk : k < l.length) : (l.take (k + 1)).sum = (l.take k).sum + l[k]'hk := by
  rw [List.take_succ_eq_append_getElem hk, List.sum_append]
  simp
theorem sum_take_le (l : List Nat) (k : Nat) : (l.take k).sum ≤ l.sum := by
  have : l.sum = (l.take k).sum + (l.drop k).sum := by rw [← List.sum_append, List.take_append_drop]
  omega
section
variable {H : List HP} {w0 w : World}
set_option maxHeartbeats 16000000
theorem law_HeapPuts (y : LPT) (z : TT) (w0 : World) (h : y.ok w0) (h2 : z.ok w0) : Fn Try.prog 7 [.slice y.1 y.2.2.length y.2.1, .agg z.cells.toArray] w0 fun v w' => v = .bool true ∧ St w0 w' [] := by
  rw [← LPT.len, TT.cells_tm h2]
  have hto := TT.tm_ok h2
  generalize z.tm = t at hto
  have hr := LPT.rd h
  have hall := LPT.all h
  have hbig : y.pgs.length ≤ 140737488351232 := by have := h.2.2.2.1; rw [LPT.len]; omega
  generalize y.pgs = l at hr hall hbig
  generalize y.1 = A at hr
  generalize y.2.1 = c
  clear h h2
  have hto1 := TM.cells_one t
  have htl : t.cells.length = 8 := rfl
  refine enter 167 Try.func7 rfl rfl rfl ?_
  intro a hE
  have hS := St.start w0
  repeat' (first

    | (with_reducible refine wp_seq ?_)
    | (with_reducible refine c_region ?_)
    | (with_reducible refine wpList_nil ?_)
    | (with_reducible refine then_normal ?_)
    | ((with_reducible refine g_assign ?_); refine s_assign hE rfl rfl ?_; clear hE a; intro a hE)
    | ((with_reducible refine g_box ?_); refine s_boxS hE hS rfl rfl ?_; clear hE a hS; intro g a w hE hS)
    )
  obtain ⟨g3, rfl⟩ : ∃ x, x = g := ⟨g, rfl⟩
  refine s_call hE rfl rfl rfl (hwakes w) ?_
  rintro _ w ⟨rfl, hS1⟩; clear hE a; intro a hE; replace hS := hS.frame hS1; clear hS1; try simp only [List.cons_append, List.nil_append] at hS
  repeat' (first

    | (with_reducible refine wp_seq ?_)
    | (with_reducible refine c_region ?_)
    | (with_reducible refine wpList_nil ?_)
    | (with_reducible refine then_normal ?_)
    | (with_reducible refine wp_skip ?_)
    | ((with_reducible refine g_move ?_); refine s_move hE rfl rfl ?_; clear hE a; intro a hE)
    | ((with_reducible refine g_un .not ?_); refine s_notb hE rfl rfl ?_; clear hE a; intro a hE)
    | ((with_reducible refine g_cond ?_); refine c_false hE rfl ?_)
    )
  refine s_call hE rfl rfl rfl (hshortL l A c l.length rfl w hbig (fun p hp => ⟨(hall p hp).1, (hall p hp).2.st hS⟩) (hr.st hS)) ?_
  rintro _ w ⟨Aq, cq, qs, rfl, hqm, hqw, hS1⟩; clear hE a; intro a hE; replace hS := hS.frame hS1; clear hS1; try simp only [List.cons_append, List.nil_append] at hS
  have hql : qs.length ≤ 33 := by
    have := congrArg List.length hqm
    simp only [List.length_map, List.length_take] at this
    omega
  obtain ⟨_, hpc, _⟩ := hS.lenAt (k := 0) rfl
  clear hqm hr hall hbig
  repeat' (first

    | (with_reducible refine wp_seq ?_)
    | (with_reducible refine c_region ?_)
    | (with_reducible refine wpList_nil ?_)
    | (with_reducible refine then_normal ?_)
    | ((with_reducible refine g_move ?_); refine s_move hE rfl rfl ?_; clear hE a; intro a hE)
    | ((with_reducible refine g_assign ?_); refine s_assign hE rfl rfl ?_; clear hE a; intro a hE)
    )
  refine s_call hE rfl rfl rfl (items qs Aq cq qs.length rfl w (by omega) hqw (hS.rdAt (k := 0) rfl) (hPs_rdAt hS (k := 1) rfl)) ?_
  rintro _ w ⟨A5, c5, rfl, hS1⟩; clear hE a; intro a hE; replace hS := hS.frame hS1; clear hS1; try simp only [List.cons_append, List.nil_append] at hS
  by_cases he : wrongM (qs.map Pg.m) = 0
  · rw [he] at hE
    have hle := filterMap_le hqw (by omega)
    have h4 : ∀ p ∈ qs.map Pg.m, p.s.length = 4 := by
      intro p hp
      obtain ⟨q, hq, rfl⟩ := List.mem_map.1 hp
      exact (hqw q hq).ok.s4
    have hcnt := puts_count h4 he
    have hful := puts_full he
    rw [List.length_map] at hcnt
    repeat' (first

      | (with_reducible refine wp_seq ?_)
      | (with_reducible refine c_region ?_)
      | (with_reducible refine wpList_nil ?_)
      | (with_reducible refine then_normal ?_)
      | (with_reducible refine wp_skip ?_)
      | ((with_reducible refine g_move ?_); refine s_move hE rfl rfl ?_; clear hE a; intro a hE)
      | ((with_reducible refine g_assign ?_); refine s_assign hE rfl rfl ?_; clear hE a; intro a hE)
      | ((with_reducible refine g_bin .neq ?_); refine s_neq hE rfl rfl rfl ?_; clear hE a; intro a hE)
      | ((with_reducible refine g_extract ?_); refine s_extract hE rfl rfl rfl ?_; clear hE a; intro a hE)
      | ((with_reducible refine g_cond ?_); refine c_false hE rfl ?_)
      | ((with_reducible refine g_load ?_); (first | (refine s_loadW (k := 3) hS hE rfl rfl rfl rfl ?_) ); clear hE a; intro a hE)
      )
    by_cases hri : t.right = true
    · refine s_call hE rfl rfl rfl (hencode_ok t hto hri w) ?_
      rintro _ w ⟨Ae, ce, rfl, hS1⟩; clear hE a; intro a hE; replace hS := hS.frame hS1; clear hS1; try simp only [List.cons_append, List.nil_append] at hS
      have hl52 := tenc_len t
      repeat' (first

        | (with_reducible refine wp_seq ?_)
        | (with_reducible refine c_region ?_)
        | (with_reducible refine wpList_nil ?_)
        | (with_reducible refine then_normal ?_)
        | (with_reducible refine wp_skip ?_)
        | ((with_reducible refine g_move ?_); refine s_move hE rfl rfl ?_; clear hE a; intro a hE)
        | ((with_reducible refine g_assign ?_); refine s_assign hE rfl rfl ?_; clear hE a; intro a hE)
        | ((with_reducible refine g_bin .neq ?_); refine s_neq hE rfl rfl rfl ?_; clear hE a; intro a hE)
        | ((with_reducible refine g_extract ?_); refine s_extract hE rfl rfl rfl ?_; clear hE a; intro a hE)
        | ((with_reducible refine g_cond ?_); refine c_false hE rfl ?_)
        )
      refine s_call hE rfl rfl rfl (place qs Aq cq qs.length rfl w (by omega) hqw (hS.rdAt (k := 2) rfl) (hPs_rdAt hS (k := 3) rfl)) ?_
      rintro _ w ⟨rfl, hS1⟩; clear hE a; intro a hE; replace hS := hS.frame hS1; clear hS1; try simp only [List.cons_append, List.nil_append] at hS
      repeat' (first

        | (with_reducible refine wp_seq ?_)
        | (with_reducible refine c_region ?_)
        | (with_reducible refine wpList_nil ?_)
        | (with_reducible refine then_normal ?_)
        | ((with_reducible refine g_move ?_); refine s_move hE rfl rfl ?_; clear hE a; intro a hE)
        | ((with_reducible refine g_assign ?_); refine s_assign hE rfl rfl ?_; clear hE a; intro a hE)
        | ((with_reducible refine g_extract ?_); refine s_extract hE rfl rfl rfl ?_; clear hE a; intro a hE)
        | ((with_reducible refine g_alloc ?_); refine s_allocS hE hS rfl rfl ?_; clear hE a hS; intro g a w hE hS)
        | ((with_reducible refine g_store ?_); (first | (refine s_storeW (k := 0) hS hE rfl rfl rfl rfl rfl (by first | (simp [Value.oneCell']; done)) ?_) ); clear hS; intro w hS; simp only [List.set_cons_zero, List.set_cons_succ, Nat.add_zero] at hS)
        )
      obtain ⟨g9, rfl⟩ : ∃ x, x = g := ⟨g, rfl⟩
      refine s_call hE rfl rfl rfl (room qs Aq cq qs.length rfl hpc w (by omega) hqw (hS.rdAt (k := 3) rfl) (hPs_rdAt hS (k := 4) rfl)) ?_
      rintro _ w ⟨Ar, cr, rfl, hS1⟩; clear hE a; intro a hE; replace hS := hS.frame hS1; clear hS1; try simp only [List.cons_append, List.nil_append] at hS
      have hro : roomM (qs.map Pg.m) = (qs.map Pg.m).map roomP := if_pos he
      rw [hro] at hE hS
      rw [he] at hE
      have hrl : ((qs.map Pg.m).map roomP).length = qs.length := by simp
      obtain ⟨rs, hrs⟩ : ∃ rs, rs = (qs.map Pg.m).map roomP := ⟨_, rfl⟩
      rw [← hrs] at hE hS hrl hcnt hful
      clear hro hrs
      rw [hrl] at hE hS
      have hil2 : (ints rs).length = qs.length := by rw [← hrl]; exact List.length_map ..
      generalize (placeM (qs.map Pg.m)).2 = e7 at hE hful
      obtain ⟨n1, hn1⟩ : ∃ x, x = (placeM (qs.map Pg.m)).1.1 := ⟨_, rfl⟩
      obtain ⟨n2, hn2⟩ : ∃ x, x = (placeM (qs.map Pg.m)).1.2 := ⟨_, rfl⟩
      rw [← hn1, ← hn2] at hE hS
      obtain ⟨its, hits⟩ : ∃ x, x = itemsM (qs.map Pg.m) := ⟨_, rfl⟩
      rw [← hits] at hE hS hle hcnt
      repeat' (first

        | (with_reducible refine wp_seq ?_)
        | (with_reducible refine c_region ?_)
        | (with_reducible refine wpList_nil ?_)
        | (with_reducible refine then_normal ?_)
        | (with_reducible refine wp_skip ?_)
        | (with_reducible refine wp_block ?_)
        | ((with_reducible refine g_move ?_); refine s_move hE rfl rfl ?_; clear hE a; intro a hE)
        | ((with_reducible refine g_assign ?_); refine s_assign hE rfl rfl ?_; clear hE a; intro a hE)
        | ((with_reducible refine g_bin .neq ?_); refine s_neq hE rfl rfl rfl ?_; clear hE a; intro a hE)
        | ((with_reducible refine g_blt .len ?_); refine s_len hE rfl rfl ?_; clear hE a; intro a hE)
        | ((with_reducible refine g_extract ?_); refine s_extract hE rfl rfl rfl ?_; clear hE a; intro a hE)
        | ((with_reducible refine g_guard ?_); refine gd_yes hE rfl rfl rfl ?_)
        | ((with_reducible refine g_pick ?_); refine s_pickF hE rfl rfl rfl ?_; clear hE a; intro a hE)
        | ((with_reducible refine g_cond ?_); refine c_dec hE rfl (fun hc => ?_) (fun hc => ?_) <;> try omega)
        )
      refine wp_mono (?_ : Code.wp _ _ (fun e a w => e = .exit 0 ∧ St w0 w [hRow 3 1 Ar qs.length cr (ints rs), hBlk g9 54 [.int .i64 n1, .int .i64 (n2 : Int)], hRow 5 1 Ae 52 ce (bys t.enc), hRow 56 10 A5 its.length c5 (its.flatMap stc), hRow 74 6 Aq qs.length cq (qs.flatMap Pg.cells), hPs qs, hBlk g3 30 t.cells] ∧ Env 167 [(12, .int .i64 (rs.sum : Int)), (3, .pointer (some ⟨g3, 0, none⟩)), (5, .slice Aq qs.length cq), (6, .slice A5 its.length c5), (7, .int .i64 e7), (8, .slice Ae 52 ce), (9, .pointer (some ⟨g9, 0, none⟩))] a) _ _) ?_
      · refine wp_loop_ghost (fun q a w => ∃ (k : Nat), k + q = qs.length ∧ St w0 w [hRow 3 1 Ar qs.length cr (ints rs), hBlk g9 54 [.int .i64 n1, .int .i64 (n2 : Int)], hRow 5 1 Ae 52 ce (bys t.enc), hRow 56 10 A5 its.length c5 (its.flatMap stc), hRow 74 6 Aq qs.length cq (qs.flatMap Pg.cells), hPs qs, hBlk g3 30 t.cells] ∧ Env 167 [(60, .slice Ar qs.length cr), (61, .int .i64 (qs.length : Int)), (62, .int .i64 (k : Int)), (12, .int .i64 ((rs.take k).sum : Int)), (3, .pointer (some ⟨g3, 0, none⟩)), (5, .slice Aq qs.length cq), (6, .slice A5 its.length c5), (7, .int .i64 e7), (8, .slice Ae 52 ce), (9, .pointer (some ⟨g9, 0, none⟩))] a) qs.length ⟨0, by omega, hS, hE.sub ⟨rfl, rfl, rfl, rfl, rfl, rfl, rfl, rfl, rfl, rfl, trivial⟩⟩ ?_
        clear hE a hS
        rintro q a w ⟨k, hk, hS, hE⟩
        by_cases hk1 : k < qs.length
        · have hkr : k < rs.length := by omega
          have hg := map_at (fun n : Nat => Value.int .i64 (n : Int)) hkr
          have hst := sum_take hkr
          have hb1 := sum_take_le rs (k + 1)
          have hadd : IntKind.i64.wrap (((rs.take k).sum : Int) + ((rs[k]'hkr : Nat) : Int)) = ((rs.take (k + 1)).sum : Int) := by
            rw [wrap64_in (by omega), hst]; rfl
          generalize (rs[k]'hkr) = r at hg hst hadd
          repeat' (first

            | (with_reducible refine wp_seq ?_)
            | (with_reducible refine c_region ?_)
            | (with_reducible refine wpList_nil ?_)
            | (with_reducible refine then_normal ?_)
            | (with_reducible refine wp_skip ?_)
            | (with_reducible refine wp_block ?_)
            | (with_reducible refine block_normal ?_)
            | ((with_reducible refine g_move ?_); refine s_move hE rfl rfl ?_; clear hE a; intro a hE)
            | ((with_reducible refine g_assign ?_); refine s_assign hE rfl rfl ?_; clear hE a; intro a hE)
            | ((with_reducible refine g_bin .lss ?_); refine s_lss hE rfl rfl rfl ?_; clear hE a; intro a hE)
            | ((with_reducible refine g_bin .add ?_); refine s_add hE rfl rfl rfl (by first | exact hadd | exact wrap64_in (by omega) ) ?_; clear hE a; intro a hE)
            | ((with_reducible refine g_cond ?_); refine c_dec hE rfl (fun hc => ?_) (fun hc => ?_) <;> try omega)
            | ((with_reducible refine g_ia ?_); refine s_idxR hE rfl rfl (by omega) (by omega) (by (first | exact hS.rd )) (by first | omega ) rfl ?_; clear hE a; intro a hE)
            | ((with_reducible refine g_load ?_); refine s_loadR hE rfl (by (first | exact hS.rd )) (by first | exact hg ) rfl ?_; clear hE a; intro a hE)
            )
          exact ⟨q - 1, by omega, k + 1, by omega, hS, hE.sub ⟨rfl, rfl, rfl, rfl, rfl, rfl, rfl, rfl, rfl, rfl, trivial⟩⟩
        · obtain rfl : k = qs.length := by omega
          rw [List.take_of_length_le (by omega)] at hE
          repeat' (first

            | (with_reducible refine wp_seq ?_)
            | (with_reducible refine c_region ?_)
            | (with_reducible refine wpList_nil ?_)
            | (with_reducible refine then_normal ?_)
            | (with_reducible refine wp_exit ?_)
            | (with_reducible refine then_exit ?_)
            | ((with_reducible refine g_bin .lss ?_); refine s_lss hE rfl rfl rfl ?_; clear hE a; intro a hE)
            | ((with_reducible refine g_cond ?_); refine c_dec hE rfl (fun hc => ?_) (fun hc => ?_) <;> try omega)
            )
          exact ⟨rfl, hS, hE.sub ⟨rfl, rfl, rfl, rfl, rfl, rfl, rfl, trivial⟩⟩
      clear hE a hS
      rintro _ a w ⟨rfl, hS, hE⟩
      rcases hful with ⟨he7, hz⟩ | ⟨he7, hz, x, hx, hxp⟩
      · rw [hz] at hE hcnt
        rw [he7] at hE
        repeat' (first

          | (with_reducible refine wp_seq ?_)
          | (with_reducible refine c_region ?_)
          | (with_reducible refine wpList_nil ?_)
          | (with_reducible refine then_normal ?_)
          | (with_reducible refine wp_skip ?_)
          | (with_reducible refine wp_ret ?_)
          | (with_reducible refine then_ret ?_)
          | (with_reducible refine block_same ?_)
          | ((with_reducible refine g_move ?_); refine s_move hE rfl rfl ?_; clear hE a; intro a hE)
          | ((with_reducible refine g_assign ?_); refine s_assign hE rfl rfl ?_; clear hE a; intro a hE)
          | ((with_reducible refine g_bin .eql ?_); refine s_eql hE rfl rfl rfl ?_; clear hE a; intro a hE)
          | ((with_reducible refine g_bin .neq ?_); refine s_neq hE rfl rfl rfl ?_; clear hE a; intro a hE)
          | ((with_reducible refine g_bin .add ?_); refine s_add hE rfl rfl rfl (by first  | exact addN (by omega) ) ?_; clear hE a; intro a hE)
          | ((with_reducible refine g_bin .mul ?_); refine s_mul hE rfl rfl rfl (by first  | exact wrap64_in (by omega) ) ?_; clear hE a; intro a hE)
          | ((with_reducible refine g_blt .len ?_); refine s_len hE rfl rfl ?_; clear hE a; intro a hE)
          | ((with_reducible refine g_bin .neq ?_); refine s_neb hE rfl rfl rfl ?_; clear hE a; intro a hE)
          | ((with_reducible refine g_guard ?_); refine gd_yes hE rfl rfl rfl ?_)
          | ((with_reducible refine g_guard ?_); refine gd_dec hE rfl rfl (fun hc hE2 => ?_) (fun hc hE2 => ?_) <;> (try omega) <;> (replace hE := hE2; clear hE2))
          | ((with_reducible refine g_pick ?_); refine s_pickF hE rfl rfl rfl ?_; clear hE a; intro a hE)
          | ((with_reducible refine g_cond ?_); refine c_true hE rfl ?_)
          | ((with_reducible refine g_cond ?_); refine c_false hE rfl ?_)
          )
        exact ret1 hE rfl rfl ⟨rfl, hS.nil⟩
      · have hxp2 : placeM (qs.map Pg.m) = (x.1, 0) := by
          unfold placeM
          rw [if_pos he, hx]
        obtain ⟨i0, k0, hi0, hk0, hx1, hrt, hnum, hput⟩ := puts_at h4 he hx
        obtain ⟨hw', xs, ys, hi1, hi2, hdis⟩ := hput t hto hri
        rw [hxp] at hn1 hn2
        rw [hx1] at hn1 hn2
        dsimp only at hn1 hn2
        subst n2
        have hnum' : ∀ j < qs.length, ((qs.map Pg.m).getD j PM.zero).n = n1 ↔ j = i0 := fun j hj => by
          rw [← hnum j (by rw [List.length_map]; exact hj), hx1, hn1]
        rw [List.length_map] at hi0
        rw [he7] at hE
        have hb6 : ∀ v : Bool, v = ((decide ((0 : Int) = 6)) != decide ((rs.sum : Int) = 0)) → v = false := by
          intro v hv
          rw [hv, decide_eq_false (show ¬ ((rs.sum : Int) = 0) by omega)]
          rfl
        repeat' (first

          | (with_reducible refine wp_seq ?_)
          | (with_reducible refine c_region ?_)
          | (with_reducible refine wpList_nil ?_)
          | (with_reducible refine then_normal ?_)
          | (with_reducible refine wp_skip ?_)
          | (with_reducible refine wp_ret ?_)
          | (with_reducible refine then_ret ?_)
          | (with_reducible refine wp_block ?_)
          | (with_reducible refine block_same ?_)
          | ((with_reducible refine g_move ?_); refine s_move hE rfl rfl ?_; clear hE a; intro a hE)
          | ((with_reducible refine g_assign ?_); refine s_assign hE rfl rfl ?_; clear hE a; intro a hE)
          | ((with_reducible refine g_bin .eql ?_); refine s_eql hE rfl rfl rfl ?_; clear hE a; intro a hE)
          | ((with_reducible refine g_bin .neq ?_); refine s_neq hE rfl rfl rfl ?_; clear hE a; intro a hE)
          | ((with_reducible refine g_bin .add ?_); refine s_add hE rfl rfl rfl (by first  | exact addN (by omega) ) ?_; clear hE a; intro a hE)
          | ((with_reducible refine g_bin .mul ?_); refine s_mul hE rfl rfl rfl (by first  | exact wrap64_in (by omega) ) ?_; clear hE a; intro a hE)
          | ((with_reducible refine g_blt .len ?_); refine s_len hE rfl rfl ?_; clear hE a; intro a hE)
          | ((with_reducible refine g_bin .neq ?_); refine s_neb hE rfl rfl rfl ?_; clear hE a; intro a hE)
          | ((with_reducible refine g_guard ?_); refine gd_yes hE rfl rfl rfl ?_)
          | ((with_reducible refine g_guard ?_); refine gd_dec hE rfl rfl (fun hc hE2 => ?_) (fun hc hE2 => ?_) <;> (try omega) <;> (replace hE := hE2; clear hE2))
          | ((with_reducible refine g_pick ?_); refine s_pickF hE rfl rfl rfl ?_; clear hE a; intro a hE)
          | ((with_reducible refine g_cond ?_); refine c_false hE rfl ?_)
          | ((with_reducible refine g_cond ?_); refine c_bool hE rfl (fun hc => ?_) (fun hc => ?_))

          )
        · rw [hb6 _ rfl] at hc; cases hc
        have hS0 : St w0 w [hRow 74 6 Aq qs.length cq (qs.flatMap Pg.cells), hPs qs, hBlk g9 54 [.int .i64 n1, .int .i64 (k0 : Int)], hRow 5 1 Ae 52 ce (bys t.enc), hRow 56 10 A5 its.length c5 (its.flatMap stc), hBlk g3 30 t.cells] :=
          ((hS.drop 0).focus (k := 4) rfl).focus (k := 4) rfl
        refine wp_mono (?_ : Code.wp _ _ (fun e a w => e = .exit 2 ∧ ∃ (ls os : List Pg), ls.length = qs.length ∧ ls.map Pg.m = (qs.map Pg.m).set i0 (((qs.map Pg.m).getD i0 PM.zero).put k0 t.enc 1) ∧ (∀ p ∈ ls, p.wf ∧ p ∈ os) ∧ St w0 w [hRow 74 6 Aq qs.length cq (ls.flatMap Pg.cells), hPs os, hBlk g9 54 [.int .i64 n1, .int .i64 (k0 : Int)], hRow 5 1 Ae 52 ce (bys t.enc), hRow 56 10 A5 its.length c5 (its.flatMap stc), hBlk g3 30 t.cells] ∧ Env 167 [(3, .pointer (some ⟨g3, 0, none⟩)), (5, .slice Aq qs.length cq), (6, .slice A5 its.length c5), (9, .pointer (some ⟨g9, 0, none⟩))] a) _ _) ?_
        · refine wp_loop_ghost (fun q a w => ∃ (k : Nat) (ls os : List Pg), k + q = qs.length ∧ ls.length = qs.length ∧ ls.map Pg.m = (if i0 < k then (qs.map Pg.m).set i0 (((qs.map Pg.m).getD i0 PM.zero).put k0 t.enc 1) else qs.map Pg.m) ∧ (∀ p ∈ ls, p.wf ∧ p ∈ os) ∧ St w0 w [hRow 74 6 Aq qs.length cq (ls.flatMap Pg.cells), hPs os, hBlk g9 54 [.int .i64 n1, .int .i64 (k0 : Int)], hRow 5 1 Ae 52 ce (bys t.enc), hRow 56 10 A5 its.length c5 (its.flatMap stc), hBlk g3 30 t.cells] ∧ Env 167 [(90, .int .i64 (qs.length : Int)), (91, .int .i64 (k : Int)), (3, .pointer (some ⟨g3, 0, none⟩)), (5, .slice Aq qs.length cq), (6, .slice A5 its.length c5), (8, .slice Ae 52 ce), (9, .pointer (some ⟨g9, 0, none⟩))] a) qs.length ⟨0, qs, qs, by omega, rfl, (if_neg (Nat.not_lt_zero _)).symm, fun p hp => ⟨hqw p hp, hp⟩, hS0, hE.sub ⟨rfl, rfl, rfl, rfl, rfl, rfl, rfl, trivial⟩⟩ ?_
          clear hE a hS hS0
          rintro q a w ⟨k, ls, os, hk, hll, hlm, hlo, hS, hE⟩
          by_cases hk1 : k < qs.length
          · have hkl : k < ls.length := by omega
            have hls : ∀ r ∈ ls, (Pg.cells r).length = 6 := fun r hr => by simp [(hlo r hr).1.s4]
            have hfl : (ls.flatMap Pg.cells).length = qs.length * 6 := by rw [flat_len hls, hll]
            have hg0 := flat_at hls hkl
            rw [show k * 6 + 0 = ((k : Nat) : Int).toNat * 6 + 0 by omega] at hg0
            have hgd := getD_m hkl
            have hnk := hnum' k hk1
            by_cases hki : k = i0
            · subst hki
              have hnn := hnk.2 rfl
              rw [if_neg (Nat.lt_irrefl _)] at hlm
              rw [hlm] at hgd
              rw [hgd] at hnn hrt
              have hn0 : (ls[k]'hkl).n = n1 := hnn
              have hseg := flat_seg (c := Pg.cells) (size := 6) (l := ls) hls hkl
              obtain ⟨hpw, hpo⟩ := hlo _ (List.getElem_mem hkl)
              have hput2 : ∀ q' : Pg, q'.m = (ls[k]'hkl).m.put k0 t.enc 1 → (ls.set k q').map Pg.m = (qs.map Pg.m).set k (((qs.map Pg.m).getD k PM.zero).put k0 t.enc 1) := fun q' h => by
                rw [List.map_set, hlm, h, hgd]
              have hspl := fun (q' : Pg) h => splice_at hls hkl (p := q') h
              generalize (ls[k]'hkl) = p at hg0 hn0 hseg hpw hpo hput2 hrt
              have hpl : p.cells.length = 6 := by simp [hpw.s4]
              repeat' (first

                | (with_reducible refine wp_seq ?_)
                | (with_reducible refine c_region ?_)
                | (with_reducible refine wpList_nil ?_)
                | (with_reducible refine then_normal ?_)
                | (with_reducible refine wp_skip ?_)
                | (with_reducible refine wp_block ?_)
                | ((with_reducible refine g_move ?_); refine s_move hE rfl rfl ?_; clear hE a; intro a hE)
                | ((with_reducible refine g_assign ?_); refine s_assign hE rfl rfl ?_; clear hE a; intro a hE)
                | ((with_reducible refine g_bin .lss ?_); refine s_lss hE rfl rfl rfl ?_; clear hE a; intro a hE)
                | ((with_reducible refine g_cond ?_); refine c_dec hE rfl (fun hc => ?_) (fun hc => ?_) <;> try omega)
                )
              refine c_ordS hS 8 ((.rd 0 (.rd 1 (.rd 2 (.rd 3 (.rd 4 (.rd 5 (.rd 6 (.rd 7 .done))))))))) mixed (by decide +kernel) ?_
              clear hS; intro w hS
              repeat' (first
                | (with_reducible refine o_rd rfl ?_)
                | (with_reducible refine o_done ?_)
                | ((with_reducible refine q_move ?_); refine d_val hE hS rfl (fun w hS => r_move hE rfl) ?_; clear hE a; intro a hE)
                | ((with_reducible refine q_bin .eql ?_); refine d_val hE hS rfl (fun w hS => r_eql hE rfl rfl) ?_; clear hE a; intro a hE)
                | ((with_reducible refine q_fa ?_); refine d_val hE hS rfl (fun w hS => r_fieldL hE rfl rfl) ?_; clear hE a; intro a hE)
                | ((with_reducible refine q_fa ?_); refine d_val hE hS rfl (fun w hS => r_fieldR hE rfl rfl) ?_; clear hE a; intro a hE)
                | ((with_reducible refine q_ia ?_); refine d_val hE hS rfl (fun w hS => r_idxR hE rfl rfl (by omega) (by omega) (by (first | exact hS.rd )) (by first | omega )) ?_; clear hE a; intro a hE)
                | ((with_reducible refine q_load ?_); refine d_val hE hS rfl (fun w hS => r_loadR hE rfl (by (first | exact hS.rd )) (by first | exact hg0)) ?_; clear hE a; intro a hE)
                | ((with_reducible refine q_load ?_); (first | (refine d_val hE hS rfl (fun w hS => r_loadB (k := 2) hS hE rfl rfl rfl) ?_) ); clear hE a; intro a hE)
                )
              repeat' (first

                | (with_reducible refine wp_seq ?_)
                | (with_reducible refine then_normal ?_)
                | ((with_reducible refine g_cond ?_); refine c_dec hE rfl (fun hc => ?_) (fun hc => ?_) <;> try omega)
                )
              have hA : Aq = some (adr Aq) := ((hS.rdAt (k := 0) rfl).some (List.getElem?_eq_getElem (show 0 < (ls.flatMap Pg.cells).length by omega))).1
              refine c_ordK hS 2 rfl 15 ((.rd 0 (.rd 1 (.rd 2 (.rd 3 (.rd 4 (.rd 6 (.rd 7 (.rd 8 (.ef 5 (.ef 9 (.rd 10 (.rd 11 (.rd 12 (.rd 13 (.ef 14 (.lt 15 .done))))))))))))))))) mixed (by decide +kernel) ?_
              clear hS; intro w hF hS
              repeat' (first
                | (with_reducible refine o_rd rfl ?_)
                | ((with_reducible refine q_move ?_); refine d_val hE hS rfl (fun w hS => r_move hE rfl) ?_; clear hE a; intro a hE)
                )
              refine d_val hE hS rfl (fun w hS => r_idx hE rfl rfl (by omega) (by omega) hA) ?_
              clear hE a; intro a hE
              repeat' (first
                | (with_reducible refine o_rd rfl ?_)
                | ((with_reducible refine q_move ?_); refine d_val hE hS rfl (fun w hS => r_move hE rfl) ?_; clear hE a; intro a hE)
                | ((with_reducible refine q_fa ?_); refine d_val hE hS rfl (fun w hS => r_fieldL hE rfl rfl) ?_; clear hE a; intro a hE)
                | ((with_reducible refine q_load ?_); (first | (refine d_val hE hS rfl (fun w hS => r_loadB (k := 0) hS hE rfl rfl rfl) ?_) ); clear hE a; intro a hE)
                | ((with_reducible refine o_ef rfl ?_))
                )
              refine g_load ?_
              refine s_val hE rfl rfl rfl (r_elemR hE rfl (hF.rdAt (k := 0) rfl) hseg hpl rfl) ?_
              clear hE a; intro a hE
              refine wpList_nil ?_
              refine o_back _ (fun _ h => h) (hF.only 2 rfl) ?_
              clear hS
              have hS := hF.only 2 rfl
              repeat' (first
                | ((with_reducible refine o_ef rfl ?_))
                )
              refine s_call hE rfl rfl rfl (set_ok p hpw (hPs_rdAt hF (k := 1) rfl p hpo) k0 Ae ce t.enc 52 (tenc_len t).symm (hF.rdAt (k := 3) rfl) (tenc_bs t) 1 (by decide) hrt hk0 (by rw [tenc_len]; decide)) ?_
              rintro _ w ⟨q2, rfl, hq2m, hq2w, hS1⟩; clear hE a; intro a hE; replace hF := hF.frame hS1; clear hS1; simp only [List.cons_append, List.nil_append] at hF
              refine wpList_nil ?_
              refine o_back _ (fun _ h => h) (hF.only 3 rfl) ?_
              clear hS
              have hS := hF.only 3 rfl
              repeat' (first
                | (with_reducible refine o_rd rfl ?_)
                | ((with_reducible refine q_move ?_); refine d_val hE hS rfl (fun w hS => r_move hE rfl) ?_; clear hE a; intro a hE)
                | ((with_reducible refine q_extract ?_); refine d_val hE hS rfl (fun w hS => r_extract hE rfl rfl) ?_; clear hE a; intro a hE)
                )
              refine d_val hE hS rfl (fun w hS => r_idx hE rfl rfl (by omega) (by omega) hA) ?_
              clear hE a; intro a hE
              repeat' (first
                | ((with_reducible refine o_ef rfl ?_))
                )
              have hq2l : q2.cells.length = 6 := by simp [hq2w.s4]
              refine g_store ?_
              refine s_storeRs (k := 1) hF hE rfl rfl rfl hq2l rfl (by rw [hfl]; omega) (Pg.cells_one q2) ?_
              clear hF; intro w hF; simp only [List.set_cons_zero, List.set_cons_succ] at hF
              rw [show ((k : Nat) : Int).toNat * 6 = k * 6 by omega, hspl q2 hq2l] at hF
              refine wpList_nil ?_
              refine o_back _ (fun _ h => h) (hF.only 3 rfl) ?_
              clear hS
              have hS := hF.only 3 rfl
              repeat' (first
                | ((with_reducible refine o_lt rfl ?_))
                )
              clear hS; have hS := hF
              repeat' (first

                | (with_reducible refine wpList_nil ?_)
                | ((with_reducible refine g_assign ?_); refine s_assign hE rfl rfl ?_; clear hE a; intro a hE)
                )
              refine o_backL ?_
              repeat' (first
                | (with_reducible refine o_done ?_)
                )
              repeat' (first

                | (with_reducible refine wp_seq ?_)
                | (with_reducible refine c_region ?_)
                | (with_reducible refine wpList_nil ?_)
                | (with_reducible refine then_normal ?_)
                | (with_reducible refine wp_skip ?_)
                | (with_reducible refine block_normal ?_)
                | ((with_reducible refine g_move ?_); refine s_move hE rfl rfl ?_; clear hE a; intro a hE)
                | ((with_reducible refine g_bin .neq ?_); refine s_neq hE rfl rfl rfl ?_; clear hE a; intro a hE)
                | ((with_reducible refine g_bin .add ?_); refine s_add hE rfl rfl rfl (by first  | exact wrap64_in (by omega) ) ?_; clear hE a; intro a hE)
                | ((with_reducible refine g_cond ?_); refine c_false hE rfl ?_)
                )
              have hS3 := (hPs_add (hF.focus (k := 2) rfl).p1).p1
              exact ⟨q - 1, by omega, k + 1, ls.set k q2, os ++ [q2], by omega, by rw [List.length_set]; exact hll, by rw [if_pos (by omega)]; exact hput2 q2 hq2m, fun r hr => by
                rcases List.mem_or_eq_of_mem_set hr with h | h
                · exact ⟨(hlo r h).1, List.mem_append_left _ (hlo r h).2⟩
                · subst h; exact ⟨hq2w, List.mem_append_right _ (List.mem_singleton.2 rfl)⟩, hS3, hE.sub ⟨rfl, rfl, rfl, rfl, rfl, rfl, rfl, trivial⟩⟩
            · have hn0 : ¬ (ls[k]'hkl).n = n1 := fun e => hki (hnk.1 (by
                rw [← e]
                by_cases hlt : i0 < k
                · rw [if_pos hlt] at hlm
                  have h1 : ((qs.map Pg.m).set i0 (((qs.map Pg.m).getD i0 PM.zero).put k0 t.enc 1)).getD k PM.zero = (qs.map Pg.m).getD k PM.zero := by
                    rw [List.getD_eq_getElem?_getD, List.getElem?_set_ne (by omega), ← List.getD_eq_getElem?_getD]
                  rw [← h1, ← hlm, hgd]
                  rfl
                · rw [if_neg hlt] at hlm
                  rw [← hlm, hgd]
                  rfl))
              generalize (ls[k]'hkl) = p at hg0 hn0
              repeat' (first

                | (with_reducible refine wp_seq ?_)
                | (with_reducible refine c_region ?_)
                | (with_reducible refine wpList_nil ?_)
                | (with_reducible refine then_normal ?_)
                | (with_reducible refine wp_skip ?_)
                | (with_reducible refine wp_block ?_)
                | ((with_reducible refine g_move ?_); refine s_move hE rfl rfl ?_; clear hE a; intro a hE)
                | ((with_reducible refine g_assign ?_); refine s_assign hE rfl rfl ?_; clear hE a; intro a hE)
                | ((with_reducible refine g_bin .lss ?_); refine s_lss hE rfl rfl rfl ?_; clear hE a; intro a hE)
                | ((with_reducible refine g_cond ?_); refine c_dec hE rfl (fun hc => ?_) (fun hc => ?_) <;> try omega)
                )
              refine c_ordS hS 8 ((.rd 0 (.rd 1 (.rd 2 (.rd 3 (.rd 4 (.rd 5 (.rd 6 (.rd 7 .done))))))))) mixed (by decide +kernel) ?_
              clear hS; intro w hS
              repeat' (first
                | (with_reducible refine o_rd rfl ?_)
                | (with_reducible refine o_done ?_)
                | ((with_reducible refine q_move ?_); refine d_val hE hS rfl (fun w hS => r_move hE rfl) ?_; clear hE a; intro a hE)
                | ((with_reducible refine q_bin .eql ?_); refine d_val hE hS rfl (fun w hS => r_eql hE rfl rfl) ?_; clear hE a; intro a hE)
                | ((with_reducible refine q_fa ?_); refine d_val hE hS rfl (fun w hS => r_fieldL hE rfl rfl) ?_; clear hE a; intro a hE)
                | ((with_reducible refine q_fa ?_); refine d_val hE hS rfl (fun w hS => r_fieldR hE rfl rfl) ?_; clear hE a; intro a hE)
                | ((with_reducible refine q_ia ?_); refine d_val hE hS rfl (fun w hS => r_idxR hE rfl rfl (by omega) (by omega) (by (first | exact hS.rd )) (by first | omega )) ?_; clear hE a; intro a hE)
                | ((with_reducible refine q_load ?_); refine d_val hE hS rfl (fun w hS => r_loadR hE rfl (by (first | exact hS.rd )) (by first | exact hg0)) ?_; clear hE a; intro a hE)
                | ((with_reducible refine q_load ?_); (first | (refine d_val hE hS rfl (fun w hS => r_loadB (k := 2) hS hE rfl rfl rfl) ?_) ); clear hE a; intro a hE)
                )
              repeat' (first

                | (with_reducible refine c_region ?_)
                | (with_reducible refine wpList_nil ?_)
                | (with_reducible refine then_normal ?_)
                | (with_reducible refine wp_skip ?_)
                | (with_reducible refine block_normal ?_)
                | ((with_reducible refine g_move ?_); refine s_move hE rfl rfl ?_; clear hE a; intro a hE)
                | ((with_reducible refine g_bin .add ?_); refine s_add hE rfl rfl rfl (by first  | exact wrap64_in (by omega) ) ?_; clear hE a; intro a hE)
                | ((with_reducible refine g_cond ?_); refine c_dec hE rfl (fun hc => ?_) (fun hc => ?_) <;> try omega)
                )
              exact ⟨q - 1, by omega, k + 1, ls, os, by omega, hll, by
                by_cases hlt : i0 < k
                · rw [if_pos hlt] at hlm
                  rw [if_pos (by omega)]; exact hlm
                · rw [if_neg hlt] at hlm
                  rw [if_neg (by omega)]; exact hlm, hlo, hS, hE.sub ⟨rfl, rfl, rfl, rfl, rfl, rfl, rfl, trivial⟩⟩
          · obtain rfl : k = qs.length := by omega
            rw [if_pos hi0] at hlm
            repeat' (first

              | (with_reducible refine wp_seq ?_)
              | (with_reducible refine c_region ?_)
              | (with_reducible refine wpList_nil ?_)
              | (with_reducible refine then_normal ?_)
              | (with_reducible refine wp_exit ?_)
              | (with_reducible refine then_exit ?_)
              | ((with_reducible refine g_bin .lss ?_); refine s_lss hE rfl rfl rfl ?_; clear hE a; intro a hE)
              | ((with_reducible refine g_cond ?_); refine c_dec hE rfl (fun hc => ?_) (fun hc => ?_) <;> try omega)
              )
            exact ⟨rfl, ls, os, hll, hlm, hlo, hS, hE.sub ⟨rfl, rfl, rfl, rfl, trivial⟩⟩
        clear hE a hS hS0
        rintro _ a w ⟨rfl, ls, os, hll, hlm, hlo, hS, hE⟩
        repeat' (first

          | (with_reducible refine wp_seq ?_)
          | (with_reducible refine c_region ?_)
          | (with_reducible refine then_normal ?_)
          | (with_reducible refine block_same ?_)
          | ((with_reducible refine g_move ?_); refine s_move hE rfl rfl ?_; clear hE a; intro a hE)
          )
        have hli := items ls Aq cq qs.length hll.symm w (by omega) (fun p hp => (hlo p hp).1) (hS.rdAt (k := 0) rfl) (fun p hp => hPs_rdAt hS (k := 1) rfl p (hlo p hp).2)
        rw [hlm, hw', hi2] at hli
        refine s_call hE rfl rfl rfl hli ?_
        rintro _ w ⟨A6, c6, rfl, hS1⟩; clear hE a; intro a hE; replace hS := hS.frame hS1; clear hS1; try simp only [List.cons_append, List.nil_append] at hS
        clear hli
        rw [hits, hi1] at hle
        have hitl : its = xs ++ ys := hits.trans hi1
        subst hitl
        have hnl : (xs ++ (x.1, t) :: ys).length = (xs ++ ys).length + 1 := by simp [List.length_append]; omega
        have hsp : x.1 = (n1, k0) := by rw [hx1, ← hn1]
        rw [hsp] at hdis
        rw [hnl] at hE hS
        rw [hsp] at hS
        obtain ⟨now, hnow⟩ : ∃ now, now = xs ++ ((n1, k0), t) :: ys := ⟨_, rfl⟩
        rw [← hnow] at hS
        have hnwl : now.length = (xs ++ ys).length + 1 := by rw [hnow]; simp [List.length_append]; omega
        rw [← hnwl] at hE hS
        have hat : ∀ j (hj : j < now.length), j ≠ xs.length → ∃ (hm : (if j ≤ xs.length then j else j - 1) < (xs ++ ys).length), now[j] = (xs ++ ys)[if j ≤ xs.length then j else j - 1] ∧ now[j].1 ≠ (n1, k0) := by
          intro j hj hne
          subst hnow
          have e1 : (xs ++ ((n1, k0), t) :: ys)[j] ∈ xs ++ ys ∧ ∃ (hm : (if j ≤ xs.length then j else j - 1) < (xs ++ ys).length), (xs ++ ((n1, k0), t) :: ys)[j] = (xs ++ ys)[if j ≤ xs.length then j else j - 1] := by
            simp only [List.length_append, List.length_cons] at hj
            by_cases hlt : j < xs.length
            · have hm : (if j ≤ xs.length then j else j - 1) = j := if_pos (by omega)
              simp only [hm]
              have hj2 : j < (xs ++ ys).length := by rw [List.length_append]; omega
              have e2 : (xs ++ ((n1, k0), t) :: ys)[j] = (xs ++ ys)[j] := by
                rw [List.getElem_append_left hlt, List.getElem_append_left hlt]
              exact ⟨by rw [e2]; exact List.getElem_mem _, hj2, e2⟩
            · have hm : (if j ≤ xs.length then j else j - 1) = j - 1 := if_neg (by omega)
              simp only [hm]
              have hj2 : j - 1 < (xs ++ ys).length := by rw [List.length_append]; omega
              have e2 : (xs ++ ((n1, k0), t) :: ys)[j] = (xs ++ ys)[j - 1] := by
                rw [List.getElem_append_right (by omega), List.getElem_append_right (by omega)]
                have h3 : j - xs.length = (j - 1 - xs.length) + 1 := by omega
                simp only [h3, List.getElem_cons_succ]
              exact ⟨by rw [e2]; exact List.getElem_mem _, hj2, e2⟩
          exact ⟨e1.2.1, e1.2.2, hdis _ e1.1⟩
        have hatx : ∀ (hj : xs.length < now.length), now[xs.length] = ((n1, k0), t) := by
          intro hj
          subst hnow
          rw [List.getElem_append_right (Nat.le_refl _)]
          simp
        have hxl : xs.length < now.length := by rw [hnwl, List.length_append]; omega
        clear hi1 hi2 hdis hput hnow hits hnl
        obtain ⟨its, hits⟩ : ∃ its, its = xs ++ ys := ⟨_, rfl⟩
        rw [← hits] at hE hS hnwl hle
        have hat' : ∀ j (hj : j < now.length), j ≠ xs.length → ∃ (hm : (if j ≤ xs.length then j else j - 1) < its.length), now[j] = its[if j ≤ xs.length then j else j - 1] ∧ now[j].1 ≠ (n1, k0) := by
          subst hits
          exact hat
        clear hat hits
        have hfl2 : (now.flatMap stc).length = now.length * 10 := flat_len fun x _ => stc_len x
        have hfl3 : (its.flatMap stc).length = its.length * 10 := flat_len fun x _ => stc_len x
        repeat' (first

          | (with_reducible refine wp_seq ?_)
          | (with_reducible refine c_region ?_)
          | (with_reducible refine wpList_nil ?_)
          | (with_reducible refine then_normal ?_)
          | (with_reducible refine wp_skip ?_)
          | (with_reducible refine wp_block ?_)
          | ((with_reducible refine g_move ?_); refine s_move hE rfl rfl ?_; clear hE a; intro a hE)
          | ((with_reducible refine g_assign ?_); refine s_assign hE rfl rfl ?_; clear hE a; intro a hE)
          | ((with_reducible refine g_bin .neq ?_); refine s_neq hE rfl rfl rfl ?_; clear hE a; intro a hE)
          | ((with_reducible refine g_bin .add ?_); refine s_add hE rfl rfl rfl (by first  | exact wrap64_in (by omega) ) ?_; clear hE a; intro a hE)
          | ((with_reducible refine g_blt .len ?_); refine s_len hE rfl rfl ?_; clear hE a; intro a hE)
          | ((with_reducible refine g_extract ?_); refine s_extract hE rfl rfl rfl ?_; clear hE a; intro a hE)
          | ((with_reducible refine g_guard ?_); refine gd_yes hE rfl rfl rfl ?_)
          | ((with_reducible refine g_pick ?_); refine s_pickF hE rfl rfl rfl ?_; clear hE a; intro a hE)
          | ((with_reducible refine g_cond ?_); refine c_dec hE rfl (fun hc => ?_) (fun hc => ?_) <;> try omega)
          )
        have hS2 : St w0 w [hRow 56 10 A6 now.length c6 (now.flatMap stc), hBlk g9 54 [.int .i64 n1, .int .i64 (k0 : Int)], hRow 56 10 A5 its.length c5 (its.flatMap stc), hBlk g3 30 t.cells] := ((hS.drop 1).drop 1).drop 2
        clear hS; have hS := hS2; clear hS2
        refine wp_loop_ghost (fun q a w => ∃ (j : Nat), j + q = now.length ∧ St w0 w [hRow 56 10 A6 now.length c6 (now.flatMap stc), hBlk g9 54 [.int .i64 n1, .int .i64 (k0 : Int)], hRow 56 10 A5 its.length c5 (its.flatMap stc), hBlk g3 30 t.cells] ∧ Env 167 [(134, .slice A6 now.length c6), (135, .int .i64 (now.length : Int)), (136, .int .i64 (j : Int)), (17, .int .i64 ((if j ≤ xs.length then j else j - 1 : Nat) : Int)), (3, .pointer (some ⟨g3, 0, none⟩)), (6, .slice A5 its.length c5), (9, .pointer (some ⟨g9, 0, none⟩))] a) now.length ⟨0, by omega, hS, hE.sub ⟨rfl, rfl, rfl, rfl, rfl, rfl, rfl, trivial⟩⟩ ?_
        clear hE a hS
        rintro q a w ⟨j, hj, hS, hE⟩
        by_cases hj1 : j < now.length
        · have hseg := flat_seg (c := stc) (size := 10) (l := now) (fun x _ => stc_len x) hj1
          by_cases hjx : j = xs.length
          · subst hjx
            rw [hatx hj1] at hseg
            rw [if_pos (Nat.le_refl _)] at hE
            have hone := stc_one ((n1, k0), t)
            have hcl := stc_len ((n1, k0), t)
            have hs0 : ((stc ((n1, k0), t)).drop (0 + 0)).take 2 = spc n1 (k0 : Int) := rfl
            have hs2 : ((stc ((n1, k0), t)).drop (0 + 2)).take 8 = t.cells := rfl
            repeat' (first

              | (with_reducible refine wp_seq ?_)
              | (with_reducible refine c_region ?_)
              | (with_reducible refine wpList_nil ?_)
              | (with_reducible refine then_normal ?_)
              | (with_reducible refine wp_skip ?_)
              | (with_reducible refine wp_block ?_)
              | ((with_reducible refine g_bin .lss ?_); refine s_lss hE rfl rfl rfl ?_; clear hE a; intro a hE)
              | ((with_reducible refine g_fa ?_); refine s_fieldL hE rfl rfl rfl ?_; clear hE a; intro a hE)
              | ((with_reducible refine g_cond ?_); refine c_dec hE rfl (fun hc => ?_) (fun hc => ?_) <;> try omega)
              | ((with_reducible refine g_ia ?_); refine s_idxR hE rfl rfl (by omega) (by omega) (by (first | exact hS.rd )) (by first | omega ) rfl ?_; clear hE a; intro a hE)
              | ((with_reducible refine g_alloc ?_); refine s_allocS hE hS rfl rfl ?_; clear hE a hS; intro g a w hE hS)
              | ((with_reducible refine g_load ?_); (first | (refine s_loadW (k := 2) hS hE rfl rfl rfl rfl ?_) ); clear hE a; intro a hE)
              | ((with_reducible refine g_store ?_); (first | (refine s_storeW (k := 0) hS hE rfl rfl rfl rfl rfl (by first | assumption ) ?_) ); clear hS; intro w hS; simp only [List.set_cons_zero, List.set_cons_succ, Nat.add_zero] at hS)
              | ((with_reducible refine g_load ?_); (first | (refine s_loadBs (k := 0) hS hE rfl rfl (by first | exact hseg | exact hs0 ) (by omega) rfl ?_) ); clear hE a; intro a hE)
              | ((with_reducible refine g_load ?_); refine s_elemR hE rfl (by (first | exact hS.rd )) (by first | exact hseg ) (by first | rfl ) (by rfl) rfl ?_; clear hE a; intro a hE))
            refine s_val hE rfl rfl rfl (r_eqT hE rfl rfl (eq_spot 9998 n1 (k0 : Int) n1 (k0 : Int))) ?_
            clear hE a; intro a hE
            rw [decide_eq_true (show n1 = n1 ∧ (k0 : Int) = (k0 : Int) from ⟨rfl, rfl⟩)] at hE
            repeat' (first

              | (with_reducible refine wp_seq ?_)
              | (with_reducible refine c_region ?_)
              | (with_reducible refine wpList_nil ?_)
              | (with_reducible refine then_normal ?_)
              | ((with_reducible refine g_fa ?_); refine s_fieldL hE rfl rfl rfl ?_; clear hE a; intro a hE)
              | ((with_reducible refine g_cond ?_); refine c_true hE rfl ?_)
              | ((with_reducible refine g_load ?_); (first | (refine s_loadW (k := 4) hS hE rfl rfl rfl rfl ?_) ); clear hE a; intro a hE)
              | ((with_reducible refine g_load ?_); (first | (refine s_loadBs (k := 0) hS hE rfl rfl (by first | exact hs2 ) (by omega) rfl ?_) ); clear hE a; intro a hE)
              )
            refine s_val hE rfl rfl rfl (r_neT hE rfl rfl (eq_tuple 9997 t t)) ?_
            clear hE a; intro a hE
            rw [decide_eq_true rfl] at hE
            repeat' (first

              | (with_reducible refine c_region ?_)
              | (with_reducible refine wpList_nil ?_)
              | (with_reducible refine then_normal ?_)
              | (with_reducible refine wp_skip ?_)
              | (with_reducible refine wp_exit ?_)
              | (with_reducible refine then_exit ?_)
              | (with_reducible refine block_same ?_)
              | ((with_reducible refine g_move ?_); refine s_move hE rfl rfl ?_; clear hE a; intro a hE)
              | ((with_reducible refine g_bin .add ?_); refine s_add hE rfl rfl rfl (by first  | exact wrap64_in (by omega) ) ?_; clear hE a; intro a hE)
              | ((with_reducible refine g_cond ?_); refine c_false hE rfl ?_)
              )
            exact ⟨q - 1, by omega, xs.length + 1, by omega, hS.drop 0, hE.sub ⟨rfl, rfl, rfl, by rw [if_neg (by omega)]; rfl, rfl, rfl, rfl, trivial⟩⟩
          · obtain ⟨hm, hx2, hx3⟩ := hat' j hj1 hjx
            have hstep : (if j + 1 ≤ xs.length then j + 1 else j + 1 - 1) = (if j ≤ xs.length then j else j - 1) + 1 := by
              by_cases h1 : j < xs.length
              · rw [if_pos (by omega), if_pos (by omega)]
              · rw [if_neg (by omega), if_neg (by omega)]; omega
            have hseg3 := flat_seg (c := stc) (size := 10) (l := its) (fun x _ => stc_len x) hm
            rw [← hx2] at hseg3
            generalize (if j ≤ xs.length then j else j - 1) = m at hE hm hstep hseg3 hx2
            generalize now[j] = x at hseg hseg3 hx3
            obtain ⟨⟨xn, xk⟩, u⟩ := x
            have hone := stc_one ((xn, xk), u)
            have hcl := stc_len ((xn, xk), u)
            have hs0 : ((stc ((xn, xk), u)).drop (0 + 0)).take 2 = spc xn (xk : Int) := rfl
            repeat' (first

              | (with_reducible refine wp_seq ?_)
              | (with_reducible refine c_region ?_)
              | (with_reducible refine wpList_nil ?_)
              | (with_reducible refine then_normal ?_)
              | (with_reducible refine wp_skip ?_)
              | (with_reducible refine wp_block ?_)
              | ((with_reducible refine g_bin .lss ?_); refine s_lss hE rfl rfl rfl ?_; clear hE a; intro a hE)
              | ((with_reducible refine g_fa ?_); refine s_fieldL hE rfl rfl rfl ?_; clear hE a; intro a hE)
              | ((with_reducible refine g_cond ?_); refine c_dec hE rfl (fun hc => ?_) (fun hc => ?_) <;> try omega)
              | ((with_reducible refine g_ia ?_); refine s_idxR hE rfl rfl (by omega) (by omega) (by (first | exact hS.rd )) (by first | omega ) rfl ?_; clear hE a; intro a hE)
              | ((with_reducible refine g_alloc ?_); refine s_allocS hE hS rfl rfl ?_; clear hE a hS; intro g a w hE hS)
              | ((with_reducible refine g_load ?_); (first | (refine s_loadW (k := 2) hS hE rfl rfl rfl rfl ?_) ); clear hE a; intro a hE)
              | ((with_reducible refine g_store ?_); (first | (refine s_storeW (k := 0) hS hE rfl rfl rfl rfl rfl (by first | assumption ) ?_) ); clear hS; intro w hS; simp only [List.set_cons_zero, List.set_cons_succ, Nat.add_zero] at hS)
              | ((with_reducible refine g_load ?_); (first | (refine s_loadBs (k := 0) hS hE rfl rfl (by first | exact hseg | exact hs0 ) (by omega) rfl ?_) ); clear hE a; intro a hE)
              | ((with_reducible refine g_load ?_); refine s_elemR hE rfl (by (first | exact hS.rd )) (by first | exact hseg ) (by first | rfl ) (by rfl) rfl ?_; clear hE a; intro a hE))
            refine s_val hE rfl rfl rfl (r_eqT hE rfl rfl (eq_spot 9998 xn (xk : Int) n1 (k0 : Int))) ?_
            clear hE a; intro a hE
            rw [decide_eq_false (show ¬ (xn = n1 ∧ (xk : Int) = (k0 : Int)) from fun h => hx3 (by rw [h.1, show xk = k0 by omega]))] at hE
            repeat' (first

              | (with_reducible refine wp_seq ?_)
              | (with_reducible refine wpList_nil ?_)
              | (with_reducible refine then_normal ?_)
              | (with_reducible refine wp_skip ?_)
              | ((with_reducible refine g_cond ?_); refine c_false hE rfl ?_)
              )
            refine c_ordS hS 12 ((.rd 0 (.rd 1 (.rd 2 (.rd 3 (.rd 4 (.rd 5 (.rd 6 (.rd 7 (.rd 8 (.rd 9 (.rd 10 (.rd 11 .done))))))))))))) mixed (by decide +kernel) ?_
            clear hS; intro w hS
            repeat' (first
              | (with_reducible refine o_rd rfl ?_)
              | ((with_reducible refine q_move ?_); refine d_val hE hS rfl (fun w hS => r_move hE rfl) ?_; clear hE a; intro a hE)
              | ((with_reducible refine q_bin .eql ?_); refine d_val hE hS rfl (fun w hS => r_eql hE rfl rfl) ?_; clear hE a; intro a hE)
              | ((with_reducible refine q_blt .len ?_); refine d_val hE hS rfl (fun w hS => r_len hE rfl) ?_; clear hE a; intro a hE)
              | ((with_reducible refine q_guard ?_); refine d_yes hE rfl rfl rfl ?_)
              | ((with_reducible refine q_guard ?_); refine d_dec hE rfl rfl (fun hc hE2 => ?_) (fun hc hE2 => ?_) <;> (try omega) <;> (replace hE := hE2; clear hE2))
              | ((with_reducible refine q_ia ?_); refine d_val hE hS rfl (fun w hS => r_idxR hE rfl rfl (by omega) (by omega) (by (first | exact hS.rdAt (k := 3) rfl )) (by first | omega )) ?_; clear hE a; intro a hE)
              | ((with_reducible refine q_load ?_); (first | (refine d_val hE hS rfl (fun w hS => r_loadW (k := 0) hS hE rfl rfl rfl) ?_) ); clear hE a; intro a hE)
              | ((with_reducible refine q_load ?_); refine d_val hE hS rfl (fun w hS => r_elemR hE rfl (by first | exact hS.rdAt (k := 3) rfl ) (by first | exact hseg3) (by first | rfl ) rfl) ?_; clear hE a; intro a hE)
              )
            refine d_val hE hS rfl (fun w hS => r_neT hE rfl rfl (eq_stored 9996 ((xn, xk), u) ((xn, xk), u))) ?_
            clear hE a; intro a hE
            rw [decide_eq_true rfl] at hE
            repeat' (first
              | (with_reducible refine o_rd rfl ?_)
              | (with_reducible refine o_done ?_)
              | ((with_reducible refine q_pick ?_); refine d_val hE hS rfl (fun w hS => r_pickF hE rfl rfl) ?_; clear hE a; intro a hE)
              )
            repeat' (first

              | (with_reducible refine c_region ?_)
              | (with_reducible refine wpList_nil ?_)
              | (with_reducible refine then_normal ?_)
              | (with_reducible refine wp_skip ?_)
              | (with_reducible refine block_normal ?_)
              | ((with_reducible refine g_move ?_); refine s_move hE rfl rfl ?_; clear hE a; intro a hE)
              | ((with_reducible refine g_assign ?_); refine s_assign hE rfl rfl ?_; clear hE a; intro a hE)
              | ((with_reducible refine g_bin .add ?_); refine s_add hE rfl rfl rfl (by first  | exact wrap64_in (by omega) ) ?_; clear hE a; intro a hE)
              | ((with_reducible refine g_cond ?_); refine c_false hE rfl ?_)
              )
            exact ⟨q - 1, by omega, j + 1, by omega, hS.drop 0, hE.sub ⟨rfl, rfl, rfl, by rw [hstep]; rfl, rfl, rfl, rfl, trivial⟩⟩
        · obtain rfl : j = now.length := by omega
          rw [if_neg (by omega)] at hE
          repeat' (first

            | (with_reducible refine wp_seq ?_)
            | (with_reducible refine c_region ?_)
            | (with_reducible refine wpList_nil ?_)
            | (with_reducible refine then_normal ?_)
            | (with_reducible refine wp_ret ?_)
            | (with_reducible refine wp_exit ?_)
            | (with_reducible refine then_exit ?_)
            | (with_reducible refine block_same ?_)
            | ((with_reducible refine g_move ?_); refine s_move hE rfl rfl ?_; clear hE a; intro a hE)
            | ((with_reducible refine g_assign ?_); refine s_assign hE rfl rfl ?_; clear hE a; intro a hE)
            | ((with_reducible refine g_bin .lss ?_); refine s_lss hE rfl rfl rfl ?_; clear hE a; intro a hE)
            | ((with_reducible refine g_bin .eql ?_); refine s_eql hE rfl rfl rfl ?_; clear hE a; intro a hE)
            | ((with_reducible refine g_blt .len ?_); refine s_len hE rfl rfl ?_; clear hE a; intro a hE)
            | ((with_reducible refine g_cond ?_); refine c_dec hE rfl (fun hc => ?_) (fun hc => ?_) <;> try omega)
            )
          exact ret1 hE rfl rfl ⟨congrArg Value.bool (decide_eq_true (by omega)), hS.nil⟩
    · have hri : t.right = false := by simpa using hri
      refine s_call hE rfl rfl rfl (hencode_no t hri w) ?_
      rintro _ w ⟨rfl, hS1⟩; clear hE a; intro a hE; replace hS := hS.frame hS1; clear hS1; try simp only [List.cons_append, List.nil_append] at hS
      repeat' (first

        | (with_reducible refine wp_seq ?_)
        | (with_reducible refine c_region ?_)
        | (with_reducible refine wpList_nil ?_)
        | (with_reducible refine then_normal ?_)
        | (with_reducible refine wp_ret ?_)
        | (with_reducible refine then_ret ?_)
        | ((with_reducible refine g_move ?_); refine s_move hE rfl rfl ?_; clear hE a; intro a hE)
        | ((with_reducible refine g_assign ?_); refine s_assign hE rfl rfl ?_; clear hE a; intro a hE)
        | ((with_reducible refine g_bin .neq ?_); refine s_neq hE rfl rfl rfl ?_; clear hE a; intro a hE)
        | ((with_reducible refine g_extract ?_); refine s_extract hE rfl rfl rfl ?_; clear hE a; intro a hE)
        | ((with_reducible refine g_cond ?_); refine c_true hE rfl ?_)
        )
      exact ret1 hE rfl rfl ⟨rfl, hS.nil⟩
  · have e3 : itemsM (qs.map Pg.m) = [] := if_neg he
    rw [e3] at hE
    generalize wrongM (qs.map Pg.m) = e at hE he
    repeat' (first

      | (with_reducible refine wp_seq ?_)
      | (with_reducible refine c_region ?_)
      | (with_reducible refine wpList_nil ?_)
      | (with_reducible refine then_normal ?_)
      | (with_reducible refine wp_ret ?_)
      | (with_reducible refine then_ret ?_)
      | ((with_reducible refine g_move ?_); refine s_move hE rfl rfl ?_; clear hE a; intro a hE)
      | ((with_reducible refine g_assign ?_); refine s_assign hE rfl rfl ?_; clear hE a; intro a hE)
      | ((with_reducible refine g_bin .eql ?_); refine s_eql hE rfl rfl rfl ?_; clear hE a; intro a hE)
      | ((with_reducible refine g_bin .neq ?_); refine s_neq hE rfl rfl rfl ?_; clear hE a; intro a hE)
      | ((with_reducible refine g_blt .len ?_); refine s_len hE rfl rfl ?_; clear hE a; intro a hE)
      | ((with_reducible refine g_extract ?_); refine s_extract hE rfl rfl rfl ?_; clear hE a; intro a hE)
      | ((with_reducible refine g_cond ?_); refine c_dec hE rfl (fun hc => ?_) (fun hc => ?_) <;> try omega)
      )
    exact ret1 hE rfl rfl ⟨rfl, hS.nil⟩
end
end Go.Proofs.Ytaiahigeejodaaa
