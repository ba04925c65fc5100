/-
  Pages handed in, cut short and copied; the next row; the versions of a row.
-/
import Derived.Test.YtaiahigeejodaaaHJ
import Derived.Test.YtaiahigeejodaaaGK
namespace Go.Proofs.Ytaiahigeejodaaa
open Go.RowKit
set_option linter.unusedVariables false
set_option linter.unusedSimpArgs false
attribute [local irreducible] Rd hRow hBlk hRd hRdr rowsP Fn hMarks

abbrev LPT := Option Addr × Nat × List PT
def LPT.ok (W : World) (q : LPT) : Prop := Rd W q.1 (q.2.2.flatMap PT.cells) ∧ q.2.2.length ≤ q.2.1 ∧ q.2.1 ≤ maxLen ∧ q.2.2.length * 112 ≤ 140737488351232 ∧ ∀ y ∈ q.2.2, PT.ok W y ∧ (PT.cells y).length = 6
def LPT.pgs (q : LPT) : List Pg := q.2.2.map PT.pg
theorem LPT.len (q : LPT) : q.pgs.length = q.2.2.length := by simp [LPT.pgs]
theorem pgs_flat {W : World} : ∀ {l : List PT}, (∀ y ∈ l, PT.ok W y) → l.flatMap PT.cells = (l.map PT.pg).flatMap Pg.cells
  | [], _ => rfl
  | y :: l, h => by
    rw [List.flatMap_cons, List.map_cons, List.flatMap_cons, PT.cells_pg (h y (List.mem_cons_self ..)), pgs_flat (l := l) fun y hy => h y (List.mem_cons_of_mem _ hy)]
theorem LPT.rd {W : World} {q : LPT} (h : q.ok W) : Rd W q.1 (q.pgs.flatMap Pg.cells) := by
  have h1 := h.1
  rw [pgs_flat fun y hy => (h.2.2.2.2 y hy).1] at h1
  exact h1
theorem LPT.all {W : World} {q : LPT} (h : q.ok W) : ∀ r ∈ q.pgs, r.wf ∧ r.rd W := by
  intro r hr
  obtain ⟨y, hy, rfl⟩ := List.mem_map.1 hr
  have := (h.2.2.2.2 y hy).1
  exact ⟨PT.pg_wf this, PT.pg_rd this⟩
/-- what the pages' slots hold, owned -/
def hPs (l : List Pg) : HP := hAll (l.map fun q => rowsP q.s)
section
variable {H : List HP} {w0 w : World} {l : List Pg}
theorem hPs_nil (hS : St w0 w H) : St w0 w (hPs [] :: H) := St.close_ (M := []) hS
theorem hPs_add {q : Pg} (hS : St w0 w (rowsP q.s :: hPs l :: H)) : St w0 w (hPs (l ++ [q]) :: H) := by
  have h := St.open_ hS.p1
  unfold hPs
  rw [List.map_append]
  exact St.close_ (M := (l.map fun q => rowsP q.s) ++ [rowsP q.s]) (by rw [List.append_assoc]; exact h)
theorem hPs_rd (hS : St w0 w (hPs l :: H)) : ∀ q ∈ l, q.rd w := by
  intro q hq
  have h := St.open_ hS
  obtain ⟨k, hk, rfl⟩ := List.getElem_of_mem hq
  refine rowsP_rdAt h (k := k) (l := (l[k]'hk).s) ?_
  rw [List.getElem?_append_left (by rw [List.length_map]; exact hk), List.getElem?_map, List.getElem?_eq_getElem hk]
  rfl
theorem hPs_rdAt {k : Nat} (hS : St w0 w H) (hk : H[k]? = some (hPs l)) : ∀ q ∈ l, q.rd w := hPs_rd (hS.focus hk)
end
def topR (l : List StM) : Nat := l.foldl (fun n x => max n x.2.r) 0
theorem topR_add (l : List StM) (x : StM) : topR (l ++ [x]) = max (topR l) x.2.r := by unfold topR; rw [List.foldl_append]; rfl
theorem topR_le {l : List StM} : ∀ x ∈ l, x.2.r ≤ topR l := by
  have key : ∀ (l : List StM) (n : Nat), n ≤ l.foldl (fun n x => max n x.2.r) n ∧ ∀ x ∈ l, x.2.r ≤ l.foldl (fun n x => max n x.2.r) n := by
    intro l
    induction l with
    | nil => intro n; exact ⟨Nat.le_refl _, fun x hx => by cases hx⟩
    | cons y l ih =>
      intro n
      obtain ⟨h1, h2⟩ := ih (max n y.2.r)
      refine ⟨Nat.le_trans (Nat.le_max_left ..) h1, fun x hx => ?_⟩
      rcases List.mem_cons.1 hx with rfl | hx
      · exact Nat.le_trans (Nat.le_max_right ..) h1
      · exact h2 x hx
  exact (key l 0).2
theorem topR_lt {l : List StM} (h : ∀ x ∈ l, x.2.ok) : topR l < 4294967296 := by
  have key : ∀ (l : List StM) (n : Nat), n < 4294967296 → (∀ x ∈ l, x.2.ok) → l.foldl (fun n x => max n x.2.r) n < 4294967296 := by
    intro l
    induction l with
    | nil => intro n hn _; exact hn
    | cons y l ih =>
      intro n hn h
      refine ih _ ?_ fun x hx => h x (List.mem_cons_of_mem _ hx)
      have := (h y (List.mem_cons_self ..)).r
      show max n y.2.r < _
      omega
  exact key l 0 (by decide) h
theorem itemsM_ok {l : List Pg} (hwf : ∀ p ∈ l, p.wf) : ∀ x ∈ itemsM (l.map Pg.m), x.2.ok := by
  intro x hx
  unfold itemsM at hx
  split at hx
  · rw [← spots_m] at hx
    obtain ⟨y, hy, e⟩ := List.mem_filterMap.1 hx
    obtain ⟨z, hz, rfl⟩ := List.mem_map.1 hy
    obtain ⟨p, hp, hs⟩ := spots_mem hz
    obtain ⟨_, _, hb⟩ := (hwf p hp).sl _ hs
    unfold itM1 at e
    obtain ⟨t, ht, rfl⟩ := Option.map_eq_some_iff.1 e
    exact (decT_some hb ht).1
  · cases hx
def nextM (l : List PM) : Nat × Int := if wrongM l = 0 then (if topR (itemsM l) = 4294967295 then (0, 6) else (topR (itemsM l) + 1, 0)) else (0, wrongM l)
def verM (l : List PM) (r : Nat) : List StM := (itemsM l).filter fun x => decide (x.2.r = r)
theorem filterMap_le {l : List Pg} (hwf : ∀ p ∈ l, p.wf) (hl : l.length ≤ 100000) : (itemsM (l.map Pg.m)).length ≤ 400000 := by
  unfold itemsM
  split
  · rw [← spots_m]
    have h1 := List.length_filterMap_le itM1 ((spotsM l).map SpT.m)
    have h2 := spotsM_len hwf
    rw [List.length_map] at h1
    omega
  · exact Nat.zero_le _
section
variable {H : List HP} {w0 w : World}
set_option maxHeartbeats 8000000
theorem hshortL (l : List Pg) (A : Option Addr) (c n : Nat) (hn : n = l.length) (w0 : World) (hbig : l.length ≤ 140737488351232) (hwf : ∀ p ∈ l, p.wf ∧ p.rd w0) (hr : Rd w0 A (l.flatMap Pg.cells)) :
    Fn Try.prog 16 [.slice A n c] w0 fun v w' => ∃ (A' : Option Addr) (c' : Nat) (qs : List Pg), v = .slice A' qs.length c' ∧ qs.map Pg.m = ((l.take 33).map Pg.m).map PM.short ∧ (∀ q ∈ qs, q.wf) ∧ St w0 w' [hRow 74 6 A' qs.length c' (qs.flatMap Pg.cells), hPs qs] := by
  subst hn
  have hls : ∀ r ∈ l, (Pg.cells r).length = 6 := fun r hr => by simp [(hwf r hr).1.s4]
  have hfl : (l.flatMap Pg.cells).length = l.length * 6 := flat_len hls
  refine enter 39 Try.func16 rfl rfl rfl ?_
  intro a hE
  have hS := St.start w0
  repeat' (first

    | (with_reducible refine wp_seq ?_)
    | (with_reducible refine c_region ?_)
    | (with_reducible refine wpList_nil ?_)
    | (with_reducible refine then_normal ?_)
    | (with_reducible refine wp_block ?_)
    | ((with_reducible refine g_move ?_); refine s_move hE rfl rfl ?_; clear hE a; intro a hE)
    | ((with_reducible refine g_assign ?_); refine s_assign hE rfl rfl ?_; clear hE a; intro a hE)
    | ((with_reducible refine g_blt .len ?_); refine s_len hE rfl rfl ?_; clear hE a; intro a hE)
    )
  have hS2 : St w0 _ [hRow 74 6 none 0 0 [], hPs []] := St.rowNil (hPs_nil hS) _ _
  refine wp_loop_ghost (fun q a w => ∃ (k : Nat) (qs : List Pg) (A1 : Option Addr) (c1 : Nat), k + q = l.length ∧ k ≤ 33 ∧ qs.length = k ∧ qs.map Pg.m = ((l.take k).map Pg.m).map PM.short ∧ (∀ q ∈ qs, q.wf) ∧ St w0 w [hRow 74 6 A1 qs.length c1 (qs.flatMap Pg.cells), hPs qs] ∧ Env 39 [(3, .slice A1 qs.length c1), (8, .slice A l.length c), (9, .int .i64 (l.length : Int)), (10, .int .i64 (k : Int))] a) l.length ⟨0, [], none, 0, by omega, by decide, rfl, rfl, (fun q hq => by cases hq), hS2, hE.sub ⟨rfl, rfl, rfl, rfl, trivial⟩⟩ ?_
  clear hE a hS hS2
  rintro q a w ⟨k, qs, A1, c1, hk, hk33, hql, hqm, hqw, hS, hE⟩
  by_cases hk1 : k < l.length
  · have hseg := flat_seg (c := Pg.cells) (size := 6) (l := l) hls hk1
    obtain ⟨hpw, hpr⟩ := hwf _ (List.getElem_mem hk1)
    have hpl := hls _ (List.getElem_mem hk1)
    by_cases hk20 : k = 33
    · subst hk20
      have hone := Pg.cells_one (l[33]'hk1)
      repeat' (first

        | (with_reducible refine wp_seq ?_)
        | (with_reducible refine c_region ?_)
        | (with_reducible refine wpList_nil ?_)
        | (with_reducible refine then_normal ?_)
        | (with_reducible refine wp_skip ?_)
        | (with_reducible refine wp_ret ?_)
        | (with_reducible refine wp_block ?_)
        | (with_reducible refine wp_exit ?_)
        | (with_reducible refine then_exit ?_)
        | (with_reducible refine block_same ?_)
        | ((with_reducible refine block_other ?_ ?_); rfl)
        | ((with_reducible refine g_move ?_); refine s_move hE rfl rfl ?_; clear hE a; intro a hE)
        | ((with_reducible refine g_assign ?_); refine s_assign hE rfl rfl ?_; clear hE a; intro a hE)
        | ((with_reducible refine g_bin .lss ?_); refine s_lss hE rfl rfl rfl ?_; clear hE a; intro a hE)
        | ((with_reducible refine g_bin .eql ?_); refine s_eql hE rfl rfl rfl ?_; clear hE a; intro a hE)
        | ((with_reducible refine g_cond ?_); refine c_true hE rfl ?_)
        | ((with_reducible refine g_cond ?_); refine c_dec hE rfl (fun hc => ?_) (fun hc => ?_) <;> try omega)
        | ((with_reducible refine g_ia ?_); refine s_idxR hE rfl rfl (by omega) (by omega) (by (first | exact Rd.st (by assumption) hS )) (by first | omega ) rfl ?_; clear hE a; intro a hE)
        | ((with_reducible refine g_alloc ?_); refine s_allocS hE hS rfl rfl ?_; clear hE a hS; intro g a w hE hS)
        | ((with_reducible refine g_store ?_); (first | (refine s_storeW (k := 0) hS hE rfl rfl rfl (by assumption) (by first | rfl ) (by first | assumption) ?_) ); clear hS; intro w hS; simp only [List.set_cons_zero, List.set_cons_succ, Nat.add_zero] at hS)
        | ((with_reducible refine g_load ?_); refine s_elemR hE rfl (by (first | exact Rd.st (by assumption) hS )) (by first | exact hseg ) (by first | assumption) (by rfl) rfl ?_; clear hE a; intro a hE))
      exact ret1 hE rfl rfl ⟨A1, c1, qs, rfl, hqm, hqw, hS.drop 0⟩
    · have hst : (l.take (k + 1)).map Pg.m = (l.take k).map Pg.m ++ [(l[k]'hk1).m] := by
        rw [List.take_succ_eq_append_getElem hk1, List.map_append]; rfl
      generalize (l[k]'hk1) = p at hseg hpw hpr hpl hst
      have hone := Pg.cells_one p
      have hsl := Pg.slots hpw
      repeat' (first

        | (with_reducible refine wp_seq ?_)
        | (with_reducible refine c_region ?_)
        | (with_reducible refine wpList_nil ?_)
        | (with_reducible refine then_normal ?_)
        | (with_reducible refine wp_skip ?_)
        | (with_reducible refine wp_block ?_)
        | ((with_reducible refine g_move ?_); refine s_move hE rfl rfl ?_; clear hE a; intro a hE)
        | ((with_reducible refine g_assign ?_); refine s_assign hE rfl rfl ?_; clear hE a; intro a hE)
        | ((with_reducible refine g_bin .lss ?_); refine s_lss hE rfl rfl rfl ?_; clear hE a; intro a hE)
        | ((with_reducible refine g_bin .eql ?_); refine s_eql hE rfl rfl rfl ?_; clear hE a; intro a hE)
        | ((with_reducible refine g_fa ?_); refine s_fieldL hE rfl rfl rfl ?_; clear hE a; intro a hE)
        | ((with_reducible refine g_cond ?_); refine c_dec hE rfl (fun hc => ?_) (fun hc => ?_) <;> try omega)
        | ((with_reducible refine g_ia ?_); refine s_idxR hE rfl rfl (by omega) (by omega) (by (first | exact Rd.st (by assumption) hS )) (by first | omega ) rfl ?_; clear hE a; intro a hE)
        | ((with_reducible refine g_alloc ?_); refine s_allocS hE hS rfl rfl ?_; clear hE a hS; intro g a w hE hS)
        | ((with_reducible refine g_load ?_); (first | (refine s_loadBs (k := 0) hS hE rfl rfl (by first | exact hseg | exact hsl ) (by omega) rfl ?_) ); clear hE a; intro a hE)
        | ((with_reducible refine g_store ?_); (first | (refine s_storeW (k := 0) hS hE rfl rfl rfl (by assumption) (by first | rfl ) (by first | assumption) ?_) ); clear hS; intro w hS; simp only [List.set_cons_zero, List.set_cons_succ, Nat.add_zero] at hS)
        | ((with_reducible refine g_load ?_); refine s_elemR hE rfl (by (first | exact Rd.st (by assumption) hS )) (by first | exact hseg ) (by first | assumption) (by rfl) rfl ?_; clear hE a; intro a hE))
      obtain ⟨h1, h2, h3, h4⟩ := hpw
      have hS2 : St w0 w [hBlk g 74 (Pg.cells ⟨p.n, p.l, [] ++ p.s.drop 0⟩), hRow 74 6 A1 qs.length c1 (qs.flatMap Pg.cells), hPs qs] := hS
      clear hS; have hS := hS2; clear hS2
      refine wp_mono (?_ : Code.wp _ _ (fun e a w => e = .exit 2 ∧ ∃ p' : Pg, p'.m = p.m.short ∧ p'.wf ∧ p'.rd w0 ∧ St w0 w [hBlk g 74 p'.cells, hRow 74 6 A1 qs.length c1 (qs.flatMap Pg.cells), hPs qs] ∧ Env 39 [(5, .pointer (some ⟨g, 0, none⟩)), (3, .slice A1 qs.length c1), (8, .slice A l.length c), (9, .int .i64 (l.length : Int)), (10, .int .i64 (k : Int))] a) _ _) ?_
      · refine wp_loop_ghost (fun q a w => ∃ (j : Nat) (sl : List Sl), j + q = 4 ∧ sl.length = j ∧ sl = (p.s.take j).map (fun s => ⟨s.A, s.c, s.b.take 53⟩) ∧ St w0 w [hBlk g 74 (Pg.cells ⟨p.n, p.l, sl ++ p.s.drop j⟩), hRow 74 6 A1 qs.length c1 (qs.flatMap Pg.cells), hPs qs] ∧ Env 39 [(18, .agg (p.s.map Sl.v).toArray), (19, .int .i64 (j : Int)), (5, .pointer (some ⟨g, 0, none⟩)), (3, .slice A1 qs.length c1), (8, .slice A l.length c), (9, .int .i64 (l.length : Int)), (10, .int .i64 (k : Int))] a) 4
          ⟨0, [], by omega, rfl, rfl, hS, hE.sub ⟨rfl, rfl, rfl, rfl, rfl, rfl, rfl, trivial⟩⟩ ?_
        clear hE a hS
        rintro q2 a w ⟨j, sl, hj, hsk, hsm, hS, hE⟩
        by_cases hj1 : j < 4
        · have hks : j < p.s.length := by omega
          have hv := Pg.slot hks
          have h4k := h4 _ (List.getElem_mem hks)
          have hcl2 : (Pg.cells ⟨p.n, p.l, sl ++ p.s.drop j⟩).length = 6 := cells_len (by rw [List.length_append, List.length_drop]; omega)
          have hst : (p.s.take (j + 1)).map (fun s => (⟨s.A, s.c, s.b.take 53⟩ : Sl)) = (p.s.take j).map (fun s => (⟨s.A, s.c, s.b.take 53⟩ : Sl)) ++ [⟨(p.s[j]'hks).A, (p.s[j]'hks).c, (p.s[j]'hks).b.take 53⟩] := by
            rw [List.take_succ_eq_append_getElem hks, List.map_append]
            rfl
          generalize (p.s[j]'hks) = s at hv h4k hst
          have hmin : (if (53 : Int) < (s.b.length : Int) then (53 : Int) else (s.b.length : Int)) = ((s.b.take 53).length : Int) := by
            rw [List.length_take]; split <;> omega
          have hl53 : (s.b.take 53).length ≤ s.b.length := by rw [List.length_take]; omega
          repeat' (first

            | (with_reducible refine wp_seq ?_)
            | (with_reducible refine c_region ?_)
            | (with_reducible refine wpList_nil ?_)
            | (with_reducible refine then_normal ?_)
            | (with_reducible refine wp_skip ?_)
            | (with_reducible refine wp_block ?_)
            | ((with_reducible refine g_move ?_); refine s_move hE rfl rfl ?_; clear hE a; intro a hE)
            | ((with_reducible refine g_assign ?_); refine s_assign hE rfl rfl ?_; clear hE a; intro a hE)
            | ((with_reducible refine g_bin .lss ?_); refine s_lss hE rfl rfl rfl ?_; clear hE a; intro a hE)
            | ((with_reducible refine g_blt .len ?_); refine s_len hE rfl rfl ?_; clear hE a; intro a hE)
            | ((with_reducible refine g_blt .min ?_); refine s_min hE rfl rfl rfl (by first | exact hmin ) ?_; clear hE a; intro a hE)
            | ((with_reducible refine g_fa ?_); refine s_fieldL hE rfl rfl rfl ?_; clear hE a; intro a hE)
            | ((with_reducible refine g_cond ?_); refine c_dec hE rfl (fun hc => ?_) (fun hc => ?_) <;> try omega)
            | ((with_reducible refine g_index ?_); refine s_val hE rfl rfl rfl (r_index1 hE rfl rfl (by omega) (by omega) (by assumption)) ?_; clear hE a; intro a hE)
            | ((with_reducible refine g_ia ?_); refine s_val hE rfl rfl rfl (r_idxP hE rfl rfl (by omega) (by omega)) ?_; clear hE a; intro a hE)
            | ((with_reducible refine g_sliceH ?_); refine s_val hE rfl rfl rfl (r_cutH hE rfl rfl (by omega)) ?_; clear hE a; intro a hE)
            )
          refine s_storeB (k := 0) hS hE rfl rfl rfl rfl (by rw [hcl2, Nat.blt_eq]; omega) rfl ?_
          clear hS; intro w hS
          simp only [List.set_cons_zero, List.set_cons_succ] at hS
          rw [show 0 + 2 + ((j : Nat) : Int).toNat * 1 = 2 + j by omega] at hS
          have e3 := cells_set (n := p.n) (l := p.l) hsk hks ⟨s.A, s.c, s.b.take 53⟩
          have e4 : (Sl.v ⟨s.A, s.c, s.b.take 53⟩) = .slice s.A (((s.b.take 53).length : Nat) : Int).toNat s.c := rfl
          rw [e4] at e3
          rw [e3] at hS
          repeat' (first

            | (with_reducible refine c_region ?_)
            | (with_reducible refine wpList_nil ?_)
            | (with_reducible refine then_normal ?_)
            | (with_reducible refine block_normal ?_)
            | ((with_reducible refine g_move ?_); refine s_move hE rfl rfl ?_; clear hE a; intro a hE)
            | ((with_reducible refine g_bin .add ?_); refine s_add hE rfl rfl rfl (by first  | exact wrap64_in (by omega) ) ?_; clear hE a; intro a hE)
            )
          exact ⟨q2 - 1, by omega, j + 1, sl ++ [⟨s.A, s.c, s.b.take 53⟩], by omega, by rw [List.length_append, hsk]; rfl, by rw [hst, ← hsm], hS, hE.sub ⟨rfl, rfl, rfl, rfl, rfl, rfl, rfl, trivial⟩⟩
        · obtain rfl : j = 4 := by omega
          rw [List.drop_eq_nil_of_le (by omega), List.append_nil] at hS
          rw [List.take_of_length_le (by omega)] at hsm
          have hmem : ∀ s ∈ sl, ∃ s' ∈ p.s, s = ⟨s'.A, s'.c, s'.b.take 53⟩ := by
            intro s hs
            rw [hsm] at hs
            obtain ⟨s', hs', e⟩ := List.mem_map.1 hs
            exact ⟨s', hs', e.symm⟩
          have hpw : Pg.wf ⟨p.n, p.l, sl⟩ := ⟨hsk, h2, h3, fun s hs => by
            obtain ⟨s', hs', rfl⟩ := hmem s hs
            obtain ⟨a1, a2, a3⟩ := h4 s' hs'
            have : (s'.b.take 53).length ≤ s'.b.length := by rw [List.length_take]; omega
            exact ⟨Nat.le_trans this a1, Nat.le_trans this a2, fun c hc => a3 c (List.mem_of_mem_take hc)⟩⟩
          have hrd : Pg.rd w0 ⟨p.n, p.l, sl⟩ := by
            intro s hs
            obtain ⟨s', hs', rfl⟩ := hmem s hs
            have := (hpr s' hs').take 53
            have e : bys (s'.b.take 53) = (bys s'.b).take 53 := List.map_take
            show Rd w0 s'.A (bys (s'.b.take 53))
            rw [e]
            exact this
          have hmm : Pg.m ⟨p.n, p.l, sl⟩ = p.m.short := by
            unfold Pg.m PM.short
            dsimp only
            rw [hsm, List.map_map, List.map_map]
            rfl
          repeat' (first

            | (with_reducible refine wp_seq ?_)
            | (with_reducible refine c_region ?_)
            | (with_reducible refine wpList_nil ?_)
            | (with_reducible refine then_normal ?_)
            | (with_reducible refine wp_exit ?_)
            | (with_reducible refine then_exit ?_)
            | ((with_reducible refine g_bin .lss ?_); refine s_lss hE rfl rfl rfl ?_; clear hE a; intro a hE)
            | ((with_reducible refine g_cond ?_); refine c_false hE rfl ?_)
            )
          exact ⟨rfl, ⟨p.n, p.l, sl⟩, hmm, hpw, hrd, hS, hE.sub ⟨rfl, rfl, rfl, rfl, rfl, trivial⟩⟩
      clear hS hE a hone hpl hsl
      rintro _ a w ⟨rfl, p2, hm2, hw2, hr2, hS, hE⟩
      have hcl2 : p2.cells.length = 6 := by simp [hw2.s4]
      repeat' (first

        | (with_reducible refine c_region ?_)
        | (with_reducible refine then_normal ?_)
        | (with_reducible refine block_same ?_)
        | ((with_reducible refine g_move ?_); refine s_move hE rfl rfl ?_; clear hE a; intro a hE)
        | ((with_reducible refine g_load ?_); (first | (refine s_loadW (k := 0) hS hE rfl rfl (by first | assumption ) rfl ?_) ); clear hE a; intro a hE)
        )
      refine s_call hE rfl rfl rfl (rcopy p2 hw2 (hr2.st hS)) ?_
      rintro _ w ⟨p3, rfl, hm3, hw3, hS1⟩; clear hE a; intro a hE; replace hS := hS.frame hS1; clear hS1; try simp only [List.cons_append, List.nil_append] at hS
      have hcl3 : p3.cells.length = 6 := by simp [hw3.s4]
      refine s_litA (vs := p3.cells) hE hS rfl hcl3 rfl rfl rfl ?_
      clear hE a hS; intro gl a w hE hS
      refine s_appendAt (k := 3) (size := 6) (bytes := 112) hE hS rfl rfl rfl (hS.rdAt (k := 0) rfl) hcl3 (Pg.cells_one p3) (by omega) rfl rfl rfl rfl ?_
      clear hE a hS; intro A6 c6 a w hE hS
      simp only [List.set_cons_succ, List.set_cons_zero] at hS
      repeat' (first

        | (with_reducible refine c_region ?_)
        | (with_reducible refine wpList_nil ?_)
        | (with_reducible refine then_normal ?_)
        | (with_reducible refine block_normal ?_)
        | ((with_reducible refine g_move ?_); refine s_move hE rfl rfl ?_; clear hE a; intro a hE)
        | ((with_reducible refine g_assign ?_); refine s_assign hE rfl rfl ?_; clear hE a; intro a hE)
        | ((with_reducible refine g_bin .add ?_); refine s_add hE rfl rfl rfl (by first  | exact wrap64_in (by omega) ) ?_; clear hE a; intro a hE)
        )
      have hS2 := hPs_add ((((hS.drop 0).drop 1).focus (k := 2) rfl).p1)
      have hS3 := hS2.p1
      have e2 : qs.flatMap Pg.cells ++ p3.cells = (qs ++ [p3]).flatMap Pg.cells := by rw [List.flatMap_append]; simp
      have e3 : qs.length + 1 = (qs ++ [p3]).length := by simp
      rw [e2, e3] at hS3
      rw [e3] at hE
      exact ⟨q - 1, by omega, k + 1, qs ++ [p3], A6, c6, by omega, by omega, by simp [hql], by rw [List.map_append, hqm, hst, List.map_append, List.map_cons, hm3, hm2]; rfl, fun q hq => by
        rcases List.mem_append.1 hq with h | h
        · exact hqw q h
        · rw [List.mem_singleton] at h; subst h; exact hw3, hS3, hE.sub ⟨rfl, rfl, rfl, rfl, trivial⟩⟩
  · obtain rfl : k = l.length := by omega
    rw [List.take_of_length_le (Nat.le_refl _)] at hqm
    have e33 : l.take 33 = l := List.take_of_length_le hk33
    repeat' (first

      | (with_reducible refine wp_seq ?_)
      | (with_reducible refine c_region ?_)
      | (with_reducible refine wpList_nil ?_)
      | (with_reducible refine then_normal ?_)
      | (with_reducible refine wp_ret ?_)
      | (with_reducible refine wp_exit ?_)
      | (with_reducible refine then_exit ?_)
      | (with_reducible refine block_same ?_)
      | ((with_reducible refine g_move ?_); refine s_move hE rfl rfl ?_; clear hE a; intro a hE)
      | ((with_reducible refine g_assign ?_); refine s_assign hE rfl rfl ?_; clear hE a; intro a hE)
      | ((with_reducible refine g_bin .lss ?_); refine s_lss hE rfl rfl rfl ?_; clear hE a; intro a hE)
      | ((with_reducible refine g_cond ?_); refine c_dec hE rfl (fun hc => ?_) (fun hc => ?_) <;> try omega)
      )
    exact ret1 hE rfl rfl ⟨A1, c1, qs, rfl, by rw [e33]; exact hqm, hqw, hS⟩
theorem nextOne (x : StM) (w0 : World) : Fn Try.prog 43 [.agg (stc x).toArray] w0 fun v w' => v = .int .u32 (x.2.r : Int) ∧ St w0 w' [] := by
  refine enter 6 Try.func43 rfl rfl rfl ?_
  intro a hE
  have hS := St.start w0
  have hone := stc_one x
  repeat' (first

    | (with_reducible refine wp_seq ?_)
    | (with_reducible refine c_region ?_)
    | (with_reducible refine wpList_nil ?_)
    | (with_reducible refine then_normal ?_)
    | (with_reducible refine wp_ret ?_)
    | ((with_reducible refine g_assign ?_); refine s_assign hE rfl rfl ?_; clear hE a; intro a hE)
    | ((with_reducible refine g_fa ?_); refine s_fieldL hE rfl rfl rfl ?_; clear hE a; intro a hE)
    | ((with_reducible refine g_load ?_); (first | (refine s_loadB (k := 0) hS hE rfl rfl rfl rfl ?_) ); clear hE a; intro a hE)
    | ((with_reducible refine g_box ?_); refine s_boxS hE hS rfl rfl ?_; clear hE a hS; intro g a w hE hS)
    )
  exact ret1 hE rfl rfl ⟨rfl, hS.nil⟩
theorem greatest (its : List StM) (A : Option Addr) (c n : Nat) (hn : n = its.length) (w0 : World) (hl : its.length ≤ 400000) (hr : Rd w0 A (its.flatMap stc)) :
    Fn Try.prog 42 [.slice A n c, .func (.func 43) #[] #[]] w0 fun v w' => v = .int .u32 (topR its : Int) ∧ St w0 w' [] := by
  subst hn
  have hfl : (its.flatMap stc).length = its.length * 10 := flat_len fun x _ => stc_len x
  refine enter 21 Try.func42 rfl rfl rfl ?_
  intro a hE
  have hS := St.start w0
  repeat' (first

    | (with_reducible refine wp_seq ?_)
    | (with_reducible refine c_region ?_)
    | (with_reducible refine wpList_nil ?_)
    | (with_reducible refine then_normal ?_)
    | (with_reducible refine wp_block ?_)
    | ((with_reducible refine g_move ?_); refine s_move hE rfl rfl ?_; clear hE a; intro a hE)
    | ((with_reducible refine g_assign ?_); refine s_assign hE rfl rfl ?_; clear hE a; intro a hE)
    | ((with_reducible refine g_blt .len ?_); refine s_len hE rfl rfl ?_; clear hE a; intro a hE)
    )
  refine wp_loop_ghost (fun q a w => ∃ (k : Nat), k + q = its.length ∧ St w0 w [] ∧ Env 21 [(1, .func (.func 43) #[] #[]), (5, .int .u32 (topR (its.take k) : Int)), (8, .slice A its.length c), (9, .int .i64 (its.length : Int)), (10, .int .i64 (k : Int))] a) its.length ⟨0, by omega, hS, hE.sub ⟨rfl, rfl, rfl, rfl, rfl, trivial⟩⟩ ?_
  clear hE a hS
  rintro q a w ⟨k, hk, hS, hE⟩
  by_cases hk1 : k < its.length
  · have hseg := flat_seg (c := stc) (size := 10) (l := its) (fun x _ => stc_len x) hk1
    have hst : topR (its.take (k + 1)) = max (topR (its.take k)) (its[k]'hk1).2.r := by
      rw [List.take_succ_eq_append_getElem hk1, topR_add]
    generalize (its[k]'hk1) = x at hseg hst
    generalize topR (its.take k) = n at hE hst
    have hone := stc_one x
    have hcl := stc_len x
    have hmx : (if (n : Int) < (x.2.r : Int) then (x.2.r : Int) else (n : Int)) = ((topR (its.take (k + 1)) : Nat) : Int) := by
      rw [hst]; split <;> omega
    repeat' (first

      | (with_reducible refine wp_seq ?_)
      | (with_reducible refine c_region ?_)
      | (with_reducible refine wpList_nil ?_)
      | (with_reducible refine then_normal ?_)
      | (with_reducible refine wp_skip ?_)
      | (with_reducible refine wp_block ?_)
      | ((with_reducible refine g_move ?_); refine s_move hE rfl rfl ?_; clear hE a; intro a hE)
      | ((with_reducible refine g_bin .lss ?_); refine s_lss hE rfl rfl rfl ?_; clear hE a; intro a hE)
      | ((with_reducible refine g_cond ?_); refine c_dec hE rfl (fun hc => ?_) (fun hc => ?_) <;> try omega)
      | ((with_reducible refine g_ia ?_); refine s_idxR hE rfl rfl (by omega) (by omega) (by (first | exact Rd.st (by assumption) hS )) (by first | omega ) rfl ?_; clear hE a; intro a hE)
      | ((with_reducible refine g_alloc ?_); refine s_allocS hE hS rfl rfl ?_; clear hE a hS; intro g a w hE hS)
      | ((with_reducible refine g_load ?_); (first | (refine s_loadW (k := 0) hS hE rfl rfl rfl rfl ?_) ); clear hE a; intro a hE)
      | ((with_reducible refine g_store ?_); (first | (refine s_storeW (k := 0) hS hE rfl rfl rfl rfl rfl (by first | assumption ) ?_) ); clear hS; intro w hS; simp only [List.set_cons_zero, List.set_cons_succ, Nat.add_zero] at hS)
      | ((with_reducible refine g_load ?_); refine s_elemR hE rfl (by (first | exact Rd.st (by assumption) hS )) (by first | exact hseg ) (by first | rfl ) (by rfl) rfl ?_; clear hE a; intro a hE))
    refine s_call (first := #[]) hE rfl rfl rfl (by simpa using nextOne x w) ?_
    rintro _ w ⟨rfl, hS1⟩; clear hE a; intro a hE; replace hS := hS.frame hS1; clear hS1; try simp only [List.cons_append, List.nil_append] at hS
    repeat' (first

      | (with_reducible refine c_region ?_)
      | (with_reducible refine wpList_nil ?_)
      | (with_reducible refine then_normal ?_)
      | (with_reducible refine block_normal ?_)
      | ((with_reducible refine g_move ?_); refine s_move hE rfl rfl ?_; clear hE a; intro a hE)
      | ((with_reducible refine g_assign ?_); refine s_assign hE rfl rfl ?_; clear hE a; intro a hE)
      | ((with_reducible refine g_bin .add ?_); refine s_add hE rfl rfl rfl (by first | exact wrap64_in (by omega) ) ?_; clear hE a; intro a hE)
      | ((with_reducible refine g_blt .max ?_); refine s_max hE rfl rfl rfl (by first | exact hmx ) ?_; clear hE a; intro a hE)
      )
    exact ⟨q - 1, by omega, k + 1, by omega, hS.nil, hE.sub ⟨rfl, rfl, rfl, rfl, rfl, trivial⟩⟩
  · obtain rfl : k = its.length := by omega
    rw [List.take_of_length_le (Nat.le_refl _)] at hE
    repeat' (first

      | (with_reducible refine wp_seq ?_)
      | (with_reducible refine c_region ?_)
      | (with_reducible refine wpList_nil ?_)
      | (with_reducible refine then_normal ?_)
      | (with_reducible refine wp_ret ?_)
      | (with_reducible refine wp_exit ?_)
      | (with_reducible refine then_exit ?_)
      | (with_reducible refine block_same ?_)
      | ((with_reducible refine g_move ?_); refine s_move hE rfl rfl ?_; clear hE a; intro a hE)
      | ((with_reducible refine g_assign ?_); refine s_assign hE rfl rfl ?_; clear hE a; intro a hE)
      | ((with_reducible refine g_bin .lss ?_); refine s_lss hE rfl rfl rfl ?_; clear hE a; intro a hE)
      | ((with_reducible refine g_cond ?_); refine c_dec hE rfl (fun hc => ?_) (fun hc => ?_) <;> try omega)
      )
    exact ret1 hE rfl rfl ⟨rfl, hS.nil⟩
theorem next (l : List Pg) (A : Option Addr) (c n : Nat) (hn : n = l.length) (w0 : World) (hl : l.length ≤ 100000) (hwf : ∀ p ∈ l, p.wf) (hr : Rd w0 A (l.flatMap Pg.cells)) (hrd : ∀ p ∈ l, p.rd w0) :
    Fn Try.prog 18 [.slice A n c] w0 fun v w' => v = .tuple #[.int .u32 ((nextM (l.map Pg.m)).1 : Int), .int .i64 (nextM (l.map Pg.m)).2] ∧ St w0 w' [] := by
  subst hn
  have hlt := topR_lt (itemsM_ok hwf)
  have hle := filterMap_le hwf hl
  refine enter 21 Try.func18 rfl rfl rfl ?_
  intro a hE
  have hS := St.start w0
  repeat' (first

    | (with_reducible refine wp_seq ?_)
    | (with_reducible refine c_region ?_)
    | (with_reducible refine wpList_nil ?_)
    | (with_reducible refine then_normal ?_)
    | ((with_reducible refine g_move ?_); refine s_move hE rfl rfl ?_; clear hE a; intro a hE)
    | ((with_reducible refine g_assign ?_); refine s_assign hE rfl rfl ?_; clear hE a; intro a hE)
    )
  refine s_call hE rfl rfl rfl (items l A c l.length rfl w0 hl hwf hr hrd) ?_
  rintro _ w ⟨A5, c5, rfl, hS1⟩; clear hE a; intro a hE; replace hS := hS.frame hS1; clear hS1; try simp only [List.cons_append, List.nil_append] at hS
  unfold nextM
  generalize itemsM (l.map Pg.m) = its at hE hS hlt hle ⊢
  generalize wrongM (l.map Pg.m) = e at hE ⊢
  by_cases he : e = 0
  · subst he
    rw [if_pos rfl]
    repeat' (first

      | (with_reducible refine wp_seq ?_)
      | (with_reducible refine c_region ?_)
      | (with_reducible refine wpList_nil ?_)
      | (with_reducible refine then_normal ?_)
      | (with_reducible refine wp_skip ?_)
      | ((with_reducible refine g_move ?_); refine s_move hE rfl rfl ?_; clear hE a; intro a hE)
      | ((with_reducible refine g_assign ?_); refine s_assign hE rfl rfl ?_; clear hE a; intro a hE)
      | ((with_reducible refine g_bin .neq ?_); refine s_neq hE rfl rfl rfl ?_; clear hE a; intro a hE)
      | ((with_reducible refine g_extract ?_); refine s_extract hE rfl rfl rfl ?_; clear hE a; intro a hE)
      | ((with_reducible refine g_cond ?_); refine c_false hE rfl ?_)
      )
    refine s_call hE rfl rfl rfl (greatest its A5 c5 its.length rfl w hle (hS.rdAt (k := 0) rfl)) ?_
    rintro _ w ⟨rfl, hS1⟩; clear hE a; intro a hE; replace hS := hS.frame hS1; clear hS1; try simp only [List.cons_append, List.nil_append] at hS
    generalize topR its = n at hE hlt ⊢
    by_cases hn : n = 4294967295
    · subst hn
      have e1 : IntKind.u32.wrap (((4294967295 : Nat) : Int) + 1) = 0 := by decide
      rw [if_pos rfl]
      repeat' (first

        | (with_reducible refine wp_seq ?_)
        | (with_reducible refine c_region ?_)
        | (with_reducible refine wpList_nil ?_)
        | (with_reducible refine then_normal ?_)
        | (with_reducible refine wp_ret ?_)
        | (with_reducible refine then_ret ?_)
        | ((with_reducible refine g_move ?_); refine s_move hE rfl rfl ?_; clear hE a; intro a hE)
        | ((with_reducible refine g_assign ?_); refine s_assign hE rfl rfl ?_; clear hE a; intro a hE)
        | ((with_reducible refine g_bin .eql ?_); refine s_eql hE rfl rfl rfl ?_; clear hE a; intro a hE)
        | ((with_reducible refine g_bin .add ?_); refine s_add hE rfl rfl rfl (by first | exact e1 ) ?_; clear hE a; intro a hE)
        | ((with_reducible refine g_cond ?_); refine c_true hE rfl ?_)
        )
      exact retG (vs := [_, _]) hE rfl ⟨rfl, rfl, trivial⟩ ⟨rfl, hS.nil⟩
    · have e1 : IntKind.u32.wrap ((n : Int) + 1) = ((n + 1 : Nat) : Int) := by rw [wrap_u32_in (by omega)]; rfl
      rw [if_neg hn]
      repeat' (first

        | (with_reducible refine wp_seq ?_)
        | (with_reducible refine c_region ?_)
        | (with_reducible refine wpList_nil ?_)
        | (with_reducible refine then_normal ?_)
        | (with_reducible refine wp_skip ?_)
        | (with_reducible refine wp_ret ?_)
        | ((with_reducible refine g_move ?_); refine s_move hE rfl rfl ?_; clear hE a; intro a hE)
        | ((with_reducible refine g_assign ?_); refine s_assign hE rfl rfl ?_; clear hE a; intro a hE)
        | ((with_reducible refine g_bin .eql ?_); refine s_eql hE rfl rfl rfl ?_; clear hE a; intro a hE)
        | ((with_reducible refine g_bin .add ?_); refine s_add hE rfl rfl rfl (by first | exact e1 ) ?_; clear hE a; intro a hE)
        | ((with_reducible refine g_cond ?_); refine c_false hE rfl ?_)
        )
      exact retG (vs := [_, _]) hE rfl ⟨rfl, rfl, trivial⟩ ⟨rfl, hS.nil⟩
  · rw [if_neg he]
    repeat' (first

      | (with_reducible refine wp_seq ?_)
      | (with_reducible refine c_region ?_)
      | (with_reducible refine wpList_nil ?_)
      | (with_reducible refine then_normal ?_)
      | (with_reducible refine wp_ret ?_)
      | (with_reducible refine then_ret ?_)
      | ((with_reducible refine g_move ?_); refine s_move hE rfl rfl ?_; clear hE a; intro a hE)
      | ((with_reducible refine g_assign ?_); refine s_assign hE rfl rfl ?_; clear hE a; intro a hE)
      | ((with_reducible refine g_bin .neq ?_); refine s_neq hE rfl rfl rfl ?_; clear hE a; intro a hE)
      | ((with_reducible refine g_extract ?_); refine s_extract hE rfl rfl rfl ?_; clear hE a; intro a hE)
      | ((with_reducible refine g_cond ?_); refine c_dec hE rfl (fun hc => ?_) (fun hc => ?_) <;> try omega)
      )
    exact retG (vs := [_, _]) hE rfl ⟨rfl, rfl, trivial⟩ ⟨rfl, hS.nil⟩
theorem versions (l : List Pg) (A : Option Addr) (c n : Nat) (hn : n = l.length) (r : Nat) (w0 : World) (hl : l.length ≤ 100000) (hwf : ∀ p ∈ l, p.wf) (hr : Rd w0 A (l.flatMap Pg.cells)) (hrd : ∀ p ∈ l, p.rd w0) :
    Fn Try.prog 19 [.slice A n c, .int .u32 (r : Int)] w0 fun v w' => ∃ (A' : Option Addr) (c' : Nat), v = .tuple #[.slice A' (verM (l.map Pg.m) r).length c', .int .i64 (wrongM (l.map Pg.m))] ∧ St w0 w' [hRow 56 10 A' (verM (l.map Pg.m) r).length c' ((verM (l.map Pg.m) r).flatMap stc)] := by
  subst hn
  have hle := filterMap_le hwf hl
  refine enter 34 Try.func19 rfl rfl rfl ?_
  intro a hE
  have hS := St.start w0
  repeat' (first

    | (with_reducible refine wp_seq ?_)
    | (with_reducible refine c_region ?_)
    | (with_reducible refine wpList_nil ?_)
    | (with_reducible refine then_normal ?_)
    | ((with_reducible refine g_move ?_); refine s_move hE rfl rfl ?_; clear hE a; intro a hE)
    | ((with_reducible refine g_assign ?_); refine s_assign hE rfl rfl ?_; clear hE a; intro a hE)
    )
  refine s_call hE rfl rfl rfl (items l A c l.length rfl w0 hl hwf hr hrd) ?_
  rintro _ w ⟨A5, c5, rfl, hS1⟩; clear hE a; intro a hE; replace hS := hS.frame hS1; clear hS1; try simp only [List.cons_append, List.nil_append] at hS
  unfold verM
  generalize itemsM (l.map Pg.m) = its at hE hS hle ⊢
  generalize wrongM (l.map Pg.m) = e at hE ⊢
  have hfl : (its.flatMap stc).length = its.length * 10 := flat_len fun x _ => stc_len x
  repeat' (first

    | (with_reducible refine wp_seq ?_)
    | (with_reducible refine c_region ?_)
    | (with_reducible refine wpList_nil ?_)
    | (with_reducible refine then_normal ?_)
    | (with_reducible refine wp_block ?_)
    | ((with_reducible refine g_move ?_); refine s_move hE rfl rfl ?_; clear hE a; intro a hE)
    | ((with_reducible refine g_assign ?_); refine s_assign hE rfl rfl ?_; clear hE a; intro a hE)
    | ((with_reducible refine g_blt .len ?_); refine s_len hE rfl rfl ?_; clear hE a; intro a hE)
    | ((with_reducible refine g_extract ?_); refine s_extract hE rfl rfl rfl ?_; clear hE a; intro a hE)
    )
  have hS2 : St w0 _ [hRow 56 10 none 0 0 [], hRow 56 10 A5 its.length c5 (its.flatMap stc)] := St.rowNil hS _ _
  refine wp_loop_ghost (fun q a w => ∃ (k : Nat) (ys : List StM) (A1 : Option Addr) (c1 : Nat), k + q = its.length ∧ ys = (its.take k).filter (fun x => decide (x.2.r = r)) ∧ St w0 w [hRow 56 10 A1 ys.length c1 (ys.flatMap stc), hRow 56 10 A5 its.length c5 (its.flatMap stc)] ∧ Env 34 [(1, .int .u32 (r : Int)), (7, .int .i64 e), (8, .slice A1 ys.length c1), (16, .slice A5 its.length c5), (17, .int .i64 (its.length : Int)), (18, .int .i64 (k : Int))] a) its.length ⟨0, [], none, 0, by omega, rfl, hS2, hE.sub ⟨rfl, rfl, rfl, rfl, rfl, rfl, trivial⟩⟩ ?_
  clear hE a hS hS2
  rintro q a w ⟨k, ys, A1, c1, hk, hys, hS, hE⟩
  by_cases hk1 : k < its.length
  · have hseg := flat_seg (c := stc) (size := 10) (l := its) (fun x _ => stc_len x) hk1
    have hst : (its.take (k + 1)).filter (fun x => decide (x.2.r = r)) = ys ++ [its[k]'hk1].filter (fun x => decide (x.2.r = r)) := by
      rw [List.take_succ_eq_append_getElem hk1, List.filter_append, ← hys]
    have hyl : ys.length ≤ k := by
      rw [hys]
      refine Nat.le_trans (List.length_filter_le ..) ?_
      rw [List.length_take]; omega
    generalize (its[k]'hk1) = x at hseg hst
    have hone := stc_one x
    have hcl := stc_len x
    by_cases hx : x.2.r = r
    · rw [List.filter_cons_of_pos (by simpa using hx), List.filter_nil] at hst
      repeat' (first

        | (with_reducible refine wp_seq ?_)
        | (with_reducible refine c_region ?_)
        | (with_reducible refine wpList_nil ?_)
        | (with_reducible refine then_normal ?_)
        | (with_reducible refine wp_skip ?_)
        | (with_reducible refine wp_block ?_)
        | ((with_reducible refine g_move ?_); refine s_move hE rfl rfl ?_; clear hE a; intro a hE)
        | ((with_reducible refine g_bin .lss ?_); refine s_lss hE rfl rfl rfl ?_; clear hE a; intro a hE)
        | ((with_reducible refine g_bin .eql ?_); refine s_eql hE rfl rfl rfl ?_; clear hE a; intro a hE)
        | ((with_reducible refine g_fa ?_); refine s_fieldL hE rfl rfl rfl ?_; clear hE a; intro a hE)
        | ((with_reducible refine g_cond ?_); refine c_dec hE rfl (fun hc => ?_) (fun hc => ?_) <;> try omega)
        | ((with_reducible refine g_ia ?_); refine s_idxR hE rfl rfl (by omega) (by omega) (by (first | exact hS.rdAt (k := 1) rfl )) (by first | omega ) rfl ?_; clear hE a; intro a hE)
        | ((with_reducible refine g_load ?_); (first | (refine s_loadB (k := 0) hS hE rfl rfl rfl rfl ?_) ); clear hE a; intro a hE)
        | ((with_reducible refine g_alloc ?_); refine s_allocS hE hS rfl rfl ?_; clear hE a hS; intro g a w hE hS)
        | ((with_reducible refine g_load ?_); (first | (refine s_loadW (k := 0) hS hE rfl rfl rfl rfl ?_) ); clear hE a; intro a hE)
        | ((with_reducible refine g_store ?_); (first | (refine s_storeW (k := 0) hS hE rfl rfl rfl rfl rfl (by first | assumption ) ?_) ); clear hS; intro w hS; simp only [List.set_cons_zero, List.set_cons_succ, Nat.add_zero] at hS)
        | ((with_reducible refine g_load ?_); refine s_elemR hE rfl (by (first | exact hS.rdAt (k := 1) rfl )) (by first | exact hseg ) (by first | rfl ) (by rfl) rfl ?_; clear hE a; intro a hE))
      refine s_litA (vs := stc x) hE hS rfl rfl rfl rfl rfl ?_
      clear hE a hS; intro gl a w hE hS
      refine s_appendAt (k := 2) (size := 10) (bytes := 80) hE hS rfl rfl rfl (hS.rdAt (k := 0) rfl) rfl (stc_one _) (by omega) rfl rfl rfl rfl ?_
      clear hE a hS; intro A6 c6 a w hE hS
      simp only [List.set_cons_succ, List.set_cons_zero] at hS
      have e2 : ys.flatMap stc ++ stc x = (ys ++ [x]).flatMap stc := by rw [List.flatMap_append]; simp
      have e3 : ys.length + 1 = (ys ++ [x]).length := by simp
      rw [e2, e3] at hS
      rw [e3] at hE
      repeat' (first

        | (with_reducible refine c_region ?_)
        | (with_reducible refine wpList_nil ?_)
        | (with_reducible refine then_normal ?_)
        | (with_reducible refine block_normal ?_)
        | ((with_reducible refine g_move ?_); refine s_move hE rfl rfl ?_; clear hE a; intro a hE)
        | ((with_reducible refine g_assign ?_); refine s_assign hE rfl rfl ?_; clear hE a; intro a hE)
        | ((with_reducible refine g_bin .add ?_); refine s_add hE rfl rfl rfl (by first  | exact wrap64_in (by omega) ) ?_; clear hE a; intro a hE)
        )
      exact ⟨q - 1, by omega, k + 1, ys ++ [x], A6, c6, by omega, hst.symm, (hS.drop 0).drop 0, hE.sub ⟨rfl, rfl, rfl, rfl, rfl, rfl, trivial⟩⟩
    · rw [List.filter_cons_of_neg (by simpa using hx), List.filter_nil, List.append_nil] at hst
      repeat' (first

        | (with_reducible refine wp_seq ?_)
        | (with_reducible refine c_region ?_)
        | (with_reducible refine wpList_nil ?_)
        | (with_reducible refine then_normal ?_)
        | (with_reducible refine wp_skip ?_)
        | (with_reducible refine wp_block ?_)
        | (with_reducible refine block_normal ?_)
        | ((with_reducible refine g_move ?_); refine s_move hE rfl rfl ?_; clear hE a; intro a hE)
        | ((with_reducible refine g_bin .lss ?_); refine s_lss hE rfl rfl rfl ?_; clear hE a; intro a hE)
        | ((with_reducible refine g_bin .eql ?_); refine s_eql hE rfl rfl rfl ?_; clear hE a; intro a hE)
        | ((with_reducible refine g_bin .add ?_); refine s_add hE rfl rfl rfl (by first | exact wrap64_in (by omega) ) ?_; clear hE a; intro a hE)
        | ((with_reducible refine g_fa ?_); refine s_fieldL hE rfl rfl rfl ?_; clear hE a; intro a hE)
        | ((with_reducible refine g_cond ?_); refine c_dec hE rfl (fun hc => ?_) (fun hc => ?_) <;> try omega)
        | ((with_reducible refine g_ia ?_); refine s_idxR hE rfl rfl (by omega) (by omega) (by (first | exact hS.rdAt (k := 1) rfl )) (by first | omega ) rfl ?_; clear hE a; intro a hE)
        | ((with_reducible refine g_load ?_); (first | (refine s_loadB (k := 0) hS hE rfl rfl rfl rfl ?_) ); clear hE a; intro a hE)
        | ((with_reducible refine g_alloc ?_); refine s_allocS hE hS rfl rfl ?_; clear hE a hS; intro g a w hE hS)
        | ((with_reducible refine g_store ?_); (first | (refine s_storeW (k := 0) hS hE rfl rfl rfl rfl rfl (by first | assumption ) ?_) ); clear hS; intro w hS; simp only [List.set_cons_zero, List.set_cons_succ, Nat.add_zero] at hS)
        | ((with_reducible refine g_load ?_); refine s_elemR hE rfl (by (first | exact hS.rdAt (k := 1) rfl )) (by first | exact hseg ) (by first | rfl ) (by rfl) rfl ?_; clear hE a; intro a hE))
      exact ⟨q - 1, by omega, k + 1, ys, A1, c1, by omega, hst.symm, hS.drop 0, hE.sub ⟨rfl, rfl, rfl, rfl, rfl, rfl, trivial⟩⟩
  · obtain rfl : k = its.length := by omega
    rw [List.take_of_length_le (Nat.le_refl _)] at hys
    subst hys
    repeat' (first

      | (with_reducible refine wp_seq ?_)
      | (with_reducible refine c_region ?_)
      | (with_reducible refine wpList_nil ?_)
      | (with_reducible refine then_normal ?_)
      | (with_reducible refine wp_ret ?_)
      | (with_reducible refine wp_exit ?_)
      | (with_reducible refine then_exit ?_)
      | (with_reducible refine block_same ?_)
      | ((with_reducible refine g_move ?_); refine s_move hE rfl rfl ?_; clear hE a; intro a hE)
      | ((with_reducible refine g_assign ?_); refine s_assign hE rfl rfl ?_; clear hE a; intro a hE)
      | ((with_reducible refine g_bin .lss ?_); refine s_lss hE rfl rfl rfl ?_; clear hE a; intro a hE)
      | ((with_reducible refine g_cond ?_); refine c_dec hE rfl (fun hc => ?_) (fun hc => ?_) <;> try omega)
      )
    exact retG (vs := [_, _]) hE rfl ⟨rfl, rfl, trivial⟩ ⟨A1, c1, rfl, hS.only 0 rfl⟩
end
end Go.Proofs.Ytaiahigeejodaaa
