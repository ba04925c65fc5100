/-
  Rows of bytes handed in; the law PageDecodes.
-/
import Derived.Test.YtmdfhhmnlplagaaGU
namespace Go.Proofs.Ytmdfhhmnlplagaa
open Go.RowKit
set_option linter.unusedVariables false
set_option linter.unusedSimpArgs false
attribute [local irreducible] Rd hRow hBlk hRd hRdr rowsP Fn hMarks

structure Rw where
  (n : Int) (A : Option Addr) (c : Nat) (b : List Nat)
abbrev Rw.cells (r : Rw) : List Value := [.int .i64 r.n, .slice r.A r.b.length r.c]
structure Rw.wf (r : Rw) : Prop where
  n : -9223372036854775808 ≤ r.n ∧ r.n ≤ 9223372036854775807
  l : r.b.length ≤ r.c ∧ r.b.length ≤ 140737488351232
  bs : Bs r.b
abbrev RowT := Int × BT × Unit
def RowT.cells (y : RowT) : List Value := [Value.int .i64 y.1] ++ ([Value.slice y.2.1.1 y.2.1.2.2.length y.2.1.2.1] ++ [])
def RowT.ok (W : World) (y : RowT) : Prop := (Lit.int .i64 y.1).wf = true ∧ BT.ok W y.2.1 ∧ True
def RowT.rw_ (y : RowT) : Rw := ⟨y.1, y.2.1.1, y.2.1.2.1, y.2.1.2.2.map Int.toNat⟩
theorem RowT.cells_rw (y : RowT) : y.cells = y.rw_.cells := by
  unfold RowT.cells RowT.rw_ Rw.cells
  dsimp only
  rw [List.length_map]
  rfl
abbrev LRT := Option Addr × Nat × List RowT
def LRT.ok (W : World) (q : LRT) : Prop := Rd W q.1 (q.2.2.flatMap RowT.cells) ∧ q.2.2.length ≤ q.2.1 ∧ q.2.1 ≤ maxLen ∧ q.2.2.length * 32 ≤ 140737488351232 ∧ ∀ y ∈ q.2.2, RowT.ok W y ∧ (RowT.cells y).length = 2
def LRT.rws (q : LRT) : List Rw := q.2.2.map RowT.rw_
theorem LRT.len (q : LRT) : q.rws.length = q.2.2.length := by simp [LRT.rws]
theorem LRT.rd {W : World} {q : LRT} (h : q.ok W) : Rd W q.1 (q.rws.flatMap Rw.cells) := by
  have h1 := h.1
  have : q.2.2.flatMap RowT.cells = q.rws.flatMap Rw.cells := by
    unfold LRT.rws
    rw [List.flatMap_map]
    exact congrArg (fun f => List.flatMap f q.2.2) (funext RowT.cells_rw)
  rw [this] at h1
  exact h1
theorem LRT.all {W : World} {q : LRT} (h : q.ok W) : ∀ r ∈ q.rws, r.wf ∧ Rd W r.A (bys r.b) := by
  intro r hr
  obtain ⟨y, hy, rfl⟩ := List.mem_map.1 hr
  obtain ⟨⟨h1, h2, _⟩, _⟩ := h.2.2.2.2 y hy
  have hb := BT.bs h2
  have hrd := BT.rd h2
  obtain ⟨a1, a2, a3, a4, a5⟩ := h2
  exact ⟨⟨wf_i64 h1, ⟨by show (y.2.1.2.2.map Int.toNat).length ≤ y.2.1.2.1; rw [List.length_map]; exact a2, by show (y.2.1.2.2.map Int.toNat).length ≤ _; rw [List.length_map]; omega⟩, hb⟩, hrd⟩
theorem rw_len (l : List Rw) : ∀ r ∈ l, (Rw.cells r).length = 2 := fun _ _ => rfl
theorem zero_rd2 (w : World) : Pg.zero.rd w := fun s hs => by
  have : s = nilS := by simp [Pg.zero] at hs; exact hs
  subst this
  exact Rd.nil
/-- the k-th sector of bytes -/
def blk (b : List Nat) (k : Nat) : List Nat := (b.drop (64 * k)).take 64
theorem blks_flat (b : List Nat) : ∀ k, ((List.range k).map (blk b)).flatten = b.take (64 * k)
  | 0 => rfl
  | k + 1 => by
    rw [List.range_succ, List.map_append, List.flatten_append, blks_flat b k]
    show b.take (64 * k) ++ (blk b k ++ []) = _
    rw [List.append_nil, show 64 * (k + 1) = 64 * k + 64 by omega, List.take_add]
    rfl
section
variable {H : List HP} {w0 w : World}
set_option maxHeartbeats 16000000
theorem law_PageDecodes (y : LRT) (w0 : World) (h : y.ok w0) : Fn Try.prog 3 [.slice y.1 y.2.2.length y.2.1] w0 fun v w' => v = .bool true ∧ St w0 w' [] := by
  rw [← LRT.len]
  have hr := LRT.rd h
  have hall := LRT.all h
  have hcap : y.rws.length ≤ y.2.1 := by rw [LRT.len]; exact h.2.1
  have hbig : y.rws.length ≤ 140737488351232 := by have := h.2.2.2.1; rw [LRT.len]; omega
  generalize y.rws = l at hr hall hcap hbig
  generalize y.1 = A at hr
  generalize y.2.1 = c at hcap
  have hfl : (l.flatMap Rw.cells).length = l.length * 2 := flat_len (rw_len l)
  refine enter 127 Try.func3 rfl rfl rfl ?_
  intro a hE
  have hS := St.start w0
  repeat' (first

    | (with_reducible refine wp_seq ?_)
    | (with_reducible refine c_region ?_)
    | (with_reducible refine wpList_nil ?_)
    | (with_reducible refine then_normal ?_)
    | ((with_reducible refine g_assign ?_); refine s_assign hE rfl rfl ?_; clear hE a; intro a hE)
    )
  refine s_call hE rfl rfl rfl (wakes w0) ?_
  rintro _ w ⟨rfl, hS1⟩; clear hE a; intro a hE; replace hS := hS.frame hS1; clear hS1; try simp only [List.cons_append, List.nil_append] at hS
  repeat' (first

    | (with_reducible refine wp_seq ?_)
    | (with_reducible refine c_region ?_)
    | (with_reducible refine wpList_nil ?_)
    | (with_reducible refine then_normal ?_)
    | (with_reducible refine wp_skip ?_)
    | (with_reducible refine wp_block ?_)
    | ((with_reducible refine g_move ?_); refine s_move hE rfl rfl ?_; clear hE a; intro a hE)
    | ((with_reducible refine g_un .not ?_); refine s_notb hE rfl rfl ?_; clear hE a; intro a hE)
    | ((with_reducible refine g_blt .len ?_); refine s_len hE rfl rfl ?_; clear hE a; intro a hE)
    | ((with_reducible refine g_cond ?_); refine c_false hE rfl ?_)
    )
  refine wp_loop_ghost (fun q a w => ∃ (k : Nat), k + q = l.length ∧ St w0 w [] ∧ Env 127 [(17, .slice A l.length c), (18, .int .i64 (l.length : Int)), (19, .int .i64 (k : Int))] a) l.length ⟨0, by omega, hS, hE.sub ⟨rfl, rfl, rfl, trivial⟩⟩ ?_
  clear hE a hS
  rintro q a w ⟨k, hk, hS, hE⟩
  by_cases hk1 : k < l.length
  · by_cases hk16 : k = 16
    · subst hk16
      have hseg := flat_seg (c := Rw.cells) (size := 2) (l := l) (rw_len l) hk1
      repeat' (first

        | (with_reducible refine wp_seq ?_)
        | (with_reducible refine c_region ?_)
        | (with_reducible refine wpList_nil ?_)
        | (with_reducible refine then_normal ?_)
        | (with_reducible refine wp_skip ?_)
        | (with_reducible refine wp_ret ?_)
        | (with_reducible refine wp_block ?_)
        | (with_reducible refine wp_exit ?_)
        | (with_reducible refine then_exit ?_)
        | (with_reducible refine block_same ?_)
        | ((with_reducible refine block_other ?_ ?_); rfl)
        | ((with_reducible refine g_move ?_); refine s_move hE rfl rfl ?_; clear hE a; intro a hE)
        | ((with_reducible refine g_assign ?_); refine s_assign hE rfl rfl ?_; clear hE a; intro a hE)
        | ((with_reducible refine g_bin .lss ?_); refine s_lss hE rfl rfl rfl ?_; clear hE a; intro a hE)
        | ((with_reducible refine g_bin .eql ?_); refine s_eql hE rfl rfl rfl ?_; clear hE a; intro a hE)
        | ((with_reducible refine g_cond ?_); refine c_true hE rfl ?_)
        | ((with_reducible refine g_cond ?_); refine c_dec hE rfl (fun hc => ?_) (fun hc => ?_) <;> try omega)
        | ((with_reducible refine g_ia ?_); refine s_idxR hE rfl rfl (by omega) (by omega) (by (first | exact Rd.st (by assumption) hS )) (by first | omega ) rfl ?_; clear hE a; intro a hE)
        | ((with_reducible refine g_alloc ?_); refine s_allocS hE hS rfl rfl ?_; clear hE a hS; intro g a w hE hS)
        | ((with_reducible refine g_store ?_); (first | (refine s_storeW (k := 0) hS hE rfl rfl rfl rfl rfl (by first | (simp [Value.oneCell']; done)) ?_) ); clear hS; intro w hS; simp only [List.set_cons_zero, List.set_cons_succ, Nat.add_zero] at hS)
        | ((with_reducible refine g_load ?_); refine s_elemR hE rfl (by (first | exact Rd.st (by assumption) hS )) (by first | exact hseg ) (by first | rfl ) (by rfl) rfl ?_; clear hE a; intro a hE))
      exact ret1 hE rfl rfl ⟨rfl, hS.nil⟩
    · have hseg := flat_seg (c := Rw.cells) (size := 2) (l := l) (rw_len l) hk1
      obtain ⟨⟨hx1, ⟨hx2, hx3⟩, hx4⟩, hxr⟩ := hall _ (List.getElem_mem hk1)
      generalize (l[k]'hk1) = x at hseg hx1 hx2 hx3 hx4 hxr
      have hmin : (if (300 : Int) < (x.b.length : Int) then (300 : Int) else (x.b.length : Int)) = ((x.b.take 300).length : Int) := by
        rw [List.length_take]; split <;> omega
      have hb300 : (x.b.take 300).length ≤ 300 ∧ (x.b.take 300).length ≤ x.b.length := by rw [List.length_take]; omega
      have hrb : Rd w0 x.A (bys (x.b.take 300)) := by
        have := hxr.take 300
        have e : bys (x.b.take 300) = (bys x.b).take 300 := List.map_take
        rw [e]; exact this
      have hbb : Bs (x.b.take 300) := fun c hc => hx4 c (List.mem_of_mem_take hc)
      have hbl1 : (bys (x.b.take 300)).length = (x.b.take 300).length * 1 := by rw [bys_length, Nat.mul_one]
      repeat' (first
        | ((with_reducible refine g_blt .append ?_); refine s_appendAt0 (k := 0) (size := 1) (bytes := 1) hE hS rfl rfl rfl (by first | exact hS.rdAt (k := 1) rfl | exact hrb.st hS) hbl1 (bys_one _) (by omega) rfl rfl rfl rfl ?_; clear hE a hS; intro A5 c5 a w hE hS; simp only [List.set_cons_zero] at hS)
        | (with_reducible refine wp_seq ?_)
        | (with_reducible refine c_region ?_)
        | (with_reducible refine wpList_nil ?_)
        | (with_reducible refine then_normal ?_)
        | (with_reducible refine wp_skip ?_)
        | (with_reducible refine wp_block ?_)
        | ((with_reducible refine g_move ?_); refine s_move hE rfl rfl ?_; clear hE a; intro a hE)
        | ((with_reducible refine g_assign ?_); refine s_assign hE rfl rfl ?_; clear hE a; intro a hE)
        | ((with_reducible refine g_bin .lss ?_); refine s_lss hE rfl rfl rfl ?_; clear hE a; intro a hE)
        | ((with_reducible refine g_bin .eql ?_); refine s_eql hE rfl rfl rfl ?_; clear hE a; intro a hE)
        | ((with_reducible refine g_blt .len ?_); refine s_len hE rfl rfl ?_; clear hE a; intro a hE)
        | ((with_reducible refine g_blt .min ?_); refine s_min hE rfl rfl rfl (by first | exact hmin ) ?_; clear hE a; intro a hE)
        | ((with_reducible refine g_fa ?_); refine s_fieldL hE rfl rfl rfl ?_; clear hE a; intro a hE)
        | ((with_reducible refine g_cond ?_); refine c_dec hE rfl (fun hc => ?_) (fun hc => ?_) <;> try omega)
        | ((with_reducible refine g_ia ?_); refine s_idxR hE rfl rfl (by omega) (by omega) (by (first | exact Rd.st (by assumption) hS )) (by first | omega ) rfl ?_; clear hE a; intro a hE)
        | ((with_reducible refine g_load ?_); (first | (refine s_loadB (k := 1) hS hE rfl rfl rfl rfl ?_) | (refine s_loadB (k := 2) hS hE rfl rfl rfl rfl ?_) ); clear hE a; intro a hE)
        | ((with_reducible refine g_lit ?_); refine s_lit hE hS rfl rfl rfl rfl rfl (by first | (simp [Value.oneCell']; done)) rfl ?_; clear hE a hS; intro g a w hE hS)
        | ((with_reducible refine g_alloc ?_); refine s_allocS hE hS rfl rfl ?_; clear hE a hS; intro g a w hE hS)
        | ((with_reducible refine g_store ?_); (first | (refine s_storeW (k := 0) hS hE rfl rfl rfl rfl rfl (by first | (simp [Value.oneCell']; done)) ?_) ); clear hS; intro w hS; simp only [List.set_cons_zero, List.set_cons_succ, Nat.add_zero] at hS)
        | ((with_reducible refine g_sliceH ?_); refine s_val hE rfl rfl rfl (r_cutH hE rfl rfl (by omega)) ?_; clear hE a; intro a hE)
        | ((with_reducible refine g_load ?_); refine s_elemR hE rfl (by (first | exact Rd.st (by assumption) hS )) (by first | exact hseg ) (by first | rfl ) (by rfl) rfl ?_; clear hE a; intro a hE))
      rename_i g4 _ _ _ _ A4 c4 _ _
      rw [Int.toNat_natCast] at hE hS
      generalize x.b.take 300 = b at hE hS hb300 hbb
      obtain ⟨_, hc0, _⟩ := hS.lenAt (k := 0) rfl
      obtain ⟨_, hc1, _⟩ := hS.lenAt (k := 1) rfl
      refine s_call hE rfl rfl rfl (decode x.n hx1 _ _ b (hS.rdAt (k := 0) rfl) hbb (by omega) hc0) ?_
      rintro _ w ⟨p, rfl, hpm, hpw, hS1⟩; clear hE a; intro a hE; replace hS := hS.frame hS1; clear hS1; try simp only [List.cons_append, List.nil_append] at hS
      have hcl : p.cells.length = 6 := by simp [hpw.s4]
      have hone := Pg.cells_one p
      obtain ⟨ga, rfl⟩ : ∃ x, x = g := ⟨g, rfl⟩
      repeat' (first

        | (with_reducible refine wp_seq ?_)
        | (with_reducible refine c_region ?_)
        | (with_reducible refine wpList_nil ?_)
        | (with_reducible refine then_normal ?_)
        | ((with_reducible refine g_move ?_); refine s_move hE rfl rfl ?_; clear hE a; intro a hE)
        | ((with_reducible refine g_assign ?_); refine s_assign hE rfl rfl ?_; clear hE a; intro a hE)
        | ((with_reducible refine g_extract ?_); refine s_extract hE rfl rfl rfl ?_; clear hE a; intro a hE)
        | ((with_reducible refine g_fa ?_); refine s_fieldL hE rfl rfl rfl ?_; clear hE a; intro a hE)
        | ((with_reducible refine g_load ?_); (first | (refine s_loadB (k := 4) hS hE rfl rfl rfl rfl ?_) ); clear hE a; intro a hE)
        | ((with_reducible refine g_alloc ?_); refine s_allocS hE hS rfl rfl ?_; clear hE a hS; intro g a w hE hS)
        | ((with_reducible refine g_store ?_); (first | (refine s_storeW (k := 0) hS hE rfl rfl rfl (by assumption) (by first | rfl ) (by first | assumption) ?_) ); clear hS; intro w hS; simp only [List.set_cons_zero, List.set_cons_succ, Nat.add_zero] at hS)
        )
      refine s_call hE rfl rfl rfl (rdecode x.n hx1 _ _ b b.length rfl (hS.rdAt (k := 3) rfl) hbb (by omega) hc1) ?_
      rintro _ w ⟨p2, rfl, hpm2, hpw2, hS1⟩; clear hE a; intro a hE; replace hS := hS.frame hS1; clear hS1; try simp only [List.cons_append, List.nil_append] at hS
      have hcl2 : p2.cells.length = 6 := by simp [hpw2.s4]
      have hone2 := Pg.cells_one p2
      obtain ⟨g7, rfl⟩ : ∃ x, x = g := ⟨g, rfl⟩
      repeat' (first

        | (with_reducible refine wp_seq ?_)
        | (with_reducible refine c_region ?_)
        | (with_reducible refine wpList_nil ?_)
        | (with_reducible refine then_normal ?_)
        | ((with_reducible refine g_move ?_); refine s_move hE rfl rfl ?_; clear hE a; intro a hE)
        | ((with_reducible refine g_assign ?_); refine s_assign hE rfl rfl ?_; clear hE a; intro a hE)
        | ((with_reducible refine g_bin .neq ?_); refine s_neq hE rfl rfl rfl ?_; clear hE a; intro a hE)
        | ((with_reducible refine g_extract ?_); refine s_extract hE rfl rfl rfl ?_; clear hE a; intro a hE)
        | ((with_reducible refine g_guard ?_); refine gd_yes hE rfl rfl rfl ?_)
        | ((with_reducible refine g_guard ?_); refine gd_dec hE rfl rfl (fun hc hE2 => ?_) (fun hc hE2 => ?_) <;> (try omega) <;> (replace hE := hE2; clear hE2))
        | ((with_reducible refine g_alloc ?_); refine s_allocS hE hS rfl rfl ?_; clear hE a hS; intro g a w hE hS)
        | ((with_reducible refine g_load ?_); (first | (refine s_loadW (k := 0) hS hE rfl rfl (by first | assumption ) rfl ?_) | (refine s_loadW (k := 2) hS hE rfl rfl (by first | assumption ) rfl ?_) ); clear hE a; intro a hE)
        | ((with_reducible refine g_store ?_); (first | (refine s_storeW (k := 0) hS hE rfl rfl rfl (by assumption) (by first | rfl ) (by first | assumption) ?_) ); clear hS; intro w hS; simp only [List.set_cons_zero, List.set_cons_succ, Nat.add_zero] at hS)
        )
      refine s_call hE rfl rfl rfl (rsameP p p2 hpw hpw2 (rowsP_rdAt hS (k := 3) rfl) (rowsP_rdAt hS (k := 1) rfl)) ?_
      rintro _ w ⟨rfl, hS1⟩; clear hE a; intro a hE; replace hS := hS.frame hS1; clear hS1; try simp only [List.cons_append, List.nil_append] at hS
      rw [decide_eq_true (hpm.trans hpm2.symm)] at hE
      repeat' (first

        | (with_reducible refine wp_seq ?_)
        | (with_reducible refine c_region ?_)
        | (with_reducible refine wpList_nil ?_)
        | (with_reducible refine then_normal ?_)
        | (with_reducible refine wp_skip ?_)
        | ((with_reducible refine g_un .not ?_); refine s_notb hE rfl rfl ?_; clear hE a; intro a hE)
        | ((with_reducible refine g_guard ?_); refine gd_yes hE rfl rfl rfl ?_)
        | ((with_reducible refine g_pick ?_); refine s_pickF hE rfl rfl rfl ?_; clear hE a; intro a hE)
        | ((with_reducible refine g_cond ?_); refine c_false hE rfl ?_)
        | ((with_reducible refine g_load ?_); (first | (refine s_loadW (k := 2) hS hE rfl rfl (by first | assumption ) rfl ?_) ); clear hE a; intro a hE)
        )
      obtain ⟨g9, rfl⟩ : ∃ x, x = g := ⟨g, rfl⟩
      refine s_call hE rfl rfl rfl (spoil p hpw (hS.focus (k := 3) rfl)) ?_
      rintro _ w hS; clear hE a; intro a hE
      simp only [List.eraseIdx_cons_succ, List.eraseIdx_cons_zero] at hS
      repeat' (first

        | (with_reducible refine wp_seq ?_)
        | (with_reducible refine c_region ?_)
        | (with_reducible refine wpList_nil ?_)
        | (with_reducible refine then_normal ?_)
        | ((with_reducible refine g_move ?_); refine s_move hE rfl rfl ?_; clear hE a; intro a hE)
        )
      refine s_call hE rfl rfl rfl (bequal _ _ _ _ b b b.length b.length w (hS.rdAt (k := 3) rfl) (hS.rdAt (k := 4) rfl) hbb hbb rfl rfl) ?_
      rintro _ w ⟨rfl, hS1⟩; clear hE a; intro a hE; replace hS := hS.frame hS1; clear hS1; try simp only [List.cons_append, List.nil_append] at hS
      rw [decide_eq_true rfl] at hE
      repeat' (first

        | (with_reducible refine wp_seq ?_)
        | (with_reducible refine c_region ?_)
        | (with_reducible refine wpList_nil ?_)
        | (with_reducible refine then_normal ?_)
        | (with_reducible refine wp_skip ?_)
        | (with_reducible refine wp_block ?_)
        | ((with_reducible refine g_assign ?_); refine s_assign hE rfl rfl ?_; clear hE a; intro a hE)
        | ((with_reducible refine g_un .not ?_); refine s_notb hE rfl rfl ?_; clear hE a; intro a hE)
        | ((with_reducible refine g_cond ?_); refine c_false hE rfl ?_)
        )
      replace hS := St.rowNil (((hS.drop 1).drop 1).drop 1) 39 64
      simp only [List.eraseIdx_cons_succ, List.eraseIdx_cons_zero] at hS
      refine wp_loop_ghost (fun q2 a w => ∃ (j : Nat) (A' : Option Addr) (c' : Nat), j + q2 = b.length / 64 ∧ St w0 w [hRow 39 64 A' j c' (((List.range j).map (blk b)).flatMap bys), hBlk g9 30 p2.cells, hRow 5 1 A4 b.length c4 (bys b), hBlk g4 26 x.cells] ∧ Env 127 [(12, .int .i64 (j : Int)), (11, .slice A' j c'), (4, .pointer (some ⟨g4, 0, none⟩)), (5, .slice A4 b.length c4), (9, .pointer (some ⟨g9, 0, none⟩)), (17, .slice A l.length c), (18, .int .i64 (l.length : Int)), (19, .int .i64 (k : Int))] a) (b.length / 64) ⟨0, none, 0, by omega, hS, hE.sub ⟨rfl, rfl, rfl, rfl, rfl, rfl, rfl, rfl, trivial⟩⟩ ?_
      clear hE a hS
      rintro q2 a w ⟨j, A', c', hj, hS, hE⟩
      by_cases hj1 : 64 * j + 64 ≤ b.length
      · have hbbl : (bys b).length = b.length := bys_length b
        obtain ⟨hA4, _⟩ := (hS.rdAt (k := 2) rfl).some (List.getElem?_eq_getElem (show 0 < (bys b).length by omega))
        obtain ⟨ad, had⟩ : ∃ ad, A4 = some ad := ⟨_, hA4⟩
        have hblk : (blk b j).length = 64 := by unfold blk; rw [List.length_take, List.length_drop]; omega
        have hbk2 : (bys (blk b j)).length = 64 := by rw [bys_length]; exact hblk
        have hbk1 : (bys (blk b j)).length = 1 * 64 := hbk2
        have hsegb : bys (blk b j) = ((bys b).drop (64 * j)).take 64 := by unfold blk bys; rw [List.map_take, List.map_drop]
        repeat' (first

          | (with_reducible refine wp_seq ?_)
          | (with_reducible refine c_region ?_)
          | (with_reducible refine wpList_nil ?_)
          | (with_reducible refine then_normal ?_)
          | (with_reducible refine wp_skip ?_)
          | (with_reducible refine wp_block ?_)
          | ((with_reducible refine g_move ?_); refine s_move hE rfl rfl ?_; clear hE a; intro a hE)
          | ((with_reducible refine g_bin .leq ?_); refine s_leq hE rfl rfl rfl ?_; clear hE a; intro a hE)
          | ((with_reducible refine g_bin .add ?_); refine s_add hE rfl rfl rfl (by first  | exact wrap64_in (by omega) ) ?_; clear hE a; intro a hE)
          | ((with_reducible refine g_bin .mul ?_); refine s_mul hE rfl rfl rfl (by first  | exact wrap64_in (by omega) ) ?_; clear hE a; intro a hE)
          | ((with_reducible refine g_blt .len ?_); refine s_len hE rfl rfl ?_; clear hE a; intro a hE)
          | ((with_reducible refine g_cond ?_); refine c_dec hE rfl (fun hc => ?_) (fun hc => ?_) <;> try omega)
          | ((with_reducible refine g_sliceLH ?_); refine s_val hE rfl rfl rfl (r_cutLH hE rfl rfl rfl (by omega) (by omega)) ?_; clear hE a; intro a hE)
          )
        have e1 : ((64 : Int) * (j : Int)).toNat = 64 * j := by omega
        have e2 : ((64 : Int) * (j : Int) + 64).toNat = 64 * j + 64 := by omega
        rw [e1, e2, if_neg (by omega), Nat.mul_one] at hE
        subst had
        refine s_val hE rfl rfl rfl (r_toArr hE rfl (by omega)) ?_
        clear hE a; intro a hE
        refine s_loadA (ad := ad.add (64 * j)) (cs := bys (blk b j)) hE rfl hbk2 (by rw [hsegb]; exact (hS.rdAt (k := 2) rfl).seg rfl (64 * j) 64) rfl ?_
        clear hE a; intro a hE
        refine s_litA (vs := bys (blk b j)) hE hS rfl hbk2 rfl rfl rfl ?_
        clear hE a hS; intro gl a w hE hS
        refine s_appendAt (k := 1) (size := 64) (bytes := 64) hE hS rfl rfl rfl (hS.rdAt (k := 0) rfl) hbk1 (bys_one _) (by omega) rfl rfl rfl rfl ?_
        clear hE a hS; intro A6 c6 a w hE hS
        simp only [List.set_cons_succ, List.set_cons_zero] at hS
        have est : ((List.range j).map (blk b)).flatMap bys ++ bys (blk b j) = ((List.range (j + 1)).map (blk b)).flatMap bys := by
          rw [List.range_succ, List.map_append, List.flatMap_append]
          show _ = _ ++ (bys (blk b j) ++ [])
          rw [List.append_nil]
        rw [est] at hS
        repeat' (first

          | (with_reducible refine c_region ?_)
          | (with_reducible refine wpList_nil ?_)
          | (with_reducible refine then_normal ?_)
          | (with_reducible refine block_normal ?_)
          | ((with_reducible refine g_move ?_); refine s_move hE rfl rfl ?_; clear hE a; intro a hE)
          | ((with_reducible refine g_assign ?_); refine s_assign hE rfl rfl ?_; clear hE a; intro a hE)
          | ((with_reducible refine g_bin .add ?_); refine s_add hE rfl rfl rfl (by first  | exact wrap64_in (by omega) ) ?_; clear hE a; intro a hE)
          )
        exact ⟨q2 - 1, by omega, j + 1, A6, c6, by omega, hS.tail, hE.sub ⟨rfl, rfl, rfl, rfl, rfl, rfl, rfl, rfl, trivial⟩⟩
      · have hj2 : j = b.length / 64 := by omega
        have hflat := blks_flat b j
        have htl : (b.take (64 * j)).length = 64 * j := by rw [List.length_take]; omega
        have hbt : Bs (b.take (64 * j)) := fun x hx => hbb x (List.mem_of_mem_take hx)
        repeat' (first

          | (with_reducible refine wp_seq ?_)
          | (with_reducible refine c_region ?_)
          | (with_reducible refine wpList_nil ?_)
          | (with_reducible refine then_normal ?_)
          | (with_reducible refine wp_exit ?_)
          | (with_reducible refine then_exit ?_)
          | (with_reducible refine block_same ?_)
          | ((with_reducible refine g_move ?_); refine s_move hE rfl rfl ?_; clear hE a; intro a hE)
          | ((with_reducible refine g_bin .leq ?_); refine s_leq hE rfl rfl rfl ?_; clear hE a; intro a hE)
          | ((with_reducible refine g_bin .add ?_); refine s_add hE rfl rfl rfl (by first  | exact wrap64_in (by omega) ) ?_; clear hE a; intro a hE)
          | ((with_reducible refine g_bin .mul ?_); refine s_mul hE rfl rfl rfl (by first  | exact wrap64_in (by omega) ) ?_; clear hE a; intro a hE)
          | ((with_reducible refine g_blt .len ?_); refine s_len hE rfl rfl ?_; clear hE a; intro a hE)
          | ((with_reducible refine g_fa ?_); refine s_fieldL hE rfl rfl rfl ?_; clear hE a; intro a hE)
          | ((with_reducible refine g_cond ?_); refine c_dec hE rfl (fun hc => ?_) (fun hc => ?_) <;> try omega)
          | ((with_reducible refine g_load ?_); (first | (refine s_loadB (k := 3) hS hE rfl rfl rfl rfl ?_) ); clear hE a; intro a hE)
          )
        refine s_call hE rfl rfl rfl (of_ x.n hx1 A' c' ((List.range j).map (blk b)) j (by rw [List.length_map, List.length_range]) hS.rd (fun y hy => by
          obtain ⟨i, hi, rfl⟩ := List.mem_map.1 hy
          rw [List.mem_range] at hi
          exact ⟨by unfold blk; rw [List.length_take, List.length_drop]; omega, fun x hx => hbb x (List.mem_of_mem_drop (List.mem_of_mem_take hx))⟩) (by rw [List.length_map, List.length_range]; omega)) ?_
        rintro _ w ⟨p3, rfl, hpm3, hpw3, hS1⟩; clear hE a; intro a hE; replace hS := hS.frame hS1; clear hS1; try simp only [List.cons_append, List.nil_append] at hS
        rw [hflat] at hE hpm3
        have hcl3 : p3.cells.length = 6 := by simp [hpw3.s4]
        have hone3 := Pg.cells_one p3
        have hcz : Pg.zero.cells.length = 6 := rfl
        have honez := Pg.cells_one Pg.zero
        have hzr := zero_rd2
        by_cases hnu : numd x.n
        · have hnu1 : 0 ≤ x.n := hnu.1
          have hnu2 : x.n < 32 := hnu.2
          by_cases hj4 : j = 4
          · subst hj4
            rw [show 64 * 4 = 256 from rfl] at hE hpm3 htl hbt
            have hr256 := fun w' (h : Rd w' A4 (bys b)) => (show Rd w' A4 (bys (b.take 256)) from by
              have h1 := h.take 256
              have e : bys (b.take 256) = (bys b).take 256 := List.map_take
              rw [e]; exact h1)
            repeat' (first

              | (with_reducible refine wp_seq ?_)
              | (with_reducible refine c_region ?_)
              | (with_reducible refine wpList_nil ?_)
              | (with_reducible refine then_normal ?_)
              | (with_reducible refine wp_block ?_)
              | ((with_reducible refine g_move ?_); refine s_move hE rfl rfl ?_; clear hE a; intro a hE)
              | ((with_reducible refine g_assign ?_); refine s_assign hE rfl rfl ?_; clear hE a; intro a hE)
              | ((with_reducible refine g_bin .lss ?_); refine s_lss hE rfl rfl rfl ?_; clear hE a; intro a hE)
              | ((with_reducible refine g_bin .geq ?_); refine s_geq hE rfl rfl rfl ?_; clear hE a; intro a hE)
              | ((with_reducible refine g_bin .neq ?_); refine s_neq hE rfl rfl rfl ?_; clear hE a; intro a hE)
              | ((with_reducible refine g_blt .len ?_); refine s_len hE rfl rfl ?_; clear hE a; intro a hE)
              | ((with_reducible refine g_extract ?_); refine s_extract hE rfl rfl rfl ?_; clear hE a; intro a hE)
              | ((with_reducible refine g_fa ?_); refine s_fieldL hE rfl rfl rfl ?_; clear hE a; intro a hE)
              | ((with_reducible refine g_guard ?_); refine gd_yes hE rfl rfl rfl ?_)
              | ((with_reducible refine g_guard ?_); refine gd_dec hE rfl rfl (fun hc hE2 => ?_) (fun hc hE2 => ?_) <;> (try omega) <;> (replace hE := hE2; clear hE2))
              | ((with_reducible refine g_pick ?_); refine s_pickF hE rfl rfl rfl ?_; clear hE a; intro a hE)
              | ((with_reducible refine g_cond ?_); refine c_false hE rfl ?_)
              | ((with_reducible refine g_cond ?_); refine c_dec hE rfl (fun hc => ?_) (fun hc => ?_) <;> try omega)
              | ((with_reducible refine g_load ?_); (first | (refine s_loadB (k := 5) hS hE rfl rfl rfl rfl ?_) ); clear hE a; intro a hE)
              | ((with_reducible refine g_alloc ?_); refine s_allocS hE hS rfl rfl ?_; clear hE a hS; intro g a w hE hS)
              | ((with_reducible refine g_store ?_); (first | (refine s_storeW (k := 0) hS hE rfl rfl rfl (by assumption) (by first | rfl ) (by first | assumption) ?_) ); clear hS; intro w hS; simp only [List.set_cons_zero, List.set_cons_succ, Nat.add_zero] at hS)
              )
            refine c_ordK hS 5 rfl 9 ((.rd 0 (.rd 1 (.rd 2 (.rd 3 (.ef 4 (.rd 5 (.rd 6 (.rd 7 (.ef 8 (.lt 9 .done))))))))))) mixed (by decide +kernel) ?_
            clear hS; intro w hF hS
            repeat' (first
              | (with_reducible refine o_rd rfl ?_)
              | ((with_reducible refine q_move ?_); refine d_val hE hS rfl (fun w hS => r_move hE rfl) ?_; clear hE a; intro a hE)
              | ((with_reducible refine q_fa ?_); refine d_val hE hS rfl (fun w hS => r_fieldL hE rfl rfl) ?_; clear hE a; intro a hE)
              | ((with_reducible refine q_load ?_); (first | (refine d_val hE hS rfl (fun w hS => r_loadB (k := 0) hS hE rfl rfl rfl) ?_) ); clear hE a; intro a hE)
              | ((with_reducible refine q_sliceH ?_); refine d_val hE hS rfl (fun w hS => r_cutH hE rfl rfl (by omega)) ?_; clear hE a; intro a hE)
              | ((with_reducible refine o_ef rfl ?_))
              )
            refine s_call hE rfl rfl rfl (rdecode x.n hx1 A4 c4 (b.take 256) 256 htl.symm (hr256 w (hF.rdAt (k := 4) rfl)) hbt (by omega) (by omega)) ?_
            rintro _ w ⟨p4, rfl, hpm4, hpw4, hS1⟩; clear hE a; intro a hE; replace hF := hF.frame hS1; clear hS1; simp only [List.cons_append, List.nil_append] at hF
            have hcl4 : p4.cells.length = 6 := by simp [hpw4.s4]
            have hone4 := Pg.cells_one p4
            refine wpList_nil ?_
            refine o_back _ (fun _ h => h) (hF.only 6 rfl) ?_
            clear hS; have hS := hF.only 6 rfl
            repeat' (first
              | (with_reducible refine o_rd rfl ?_)
              | ((with_reducible refine q_move ?_); refine d_val hE hS rfl (fun w hS => r_move hE rfl) ?_; clear hE a; intro a hE)
              | ((with_reducible refine q_extract ?_); refine d_val hE hS rfl (fun w hS => r_extract hE rfl rfl) ?_; clear hE a; intro a hE)
              | ((with_reducible refine o_ef rfl ?_))
              )
            refine g_store ?_
            refine s_storeW (k := 4) hF hE rfl rfl rfl hcl4 hcl2 hone4 ?_
            clear hF; intro w hF; simp only [List.set_cons_zero, List.set_cons_succ] at hF
            refine wpList_nil ?_
            refine o_back _ (fun _ h => h) (hF.only 6 rfl) ?_
            clear hS; have hS := hF; clear hF
            repeat' (first
              | ((with_reducible refine o_lt rfl ?_))
              )
            repeat' (first

              | (with_reducible refine wpList_nil ?_)
              | ((with_reducible refine g_assign ?_); refine s_assign hE rfl rfl ?_; clear hE a; intro a hE)
              )
            refine o_backL ?_
            repeat' (first
              | (with_reducible refine o_done ?_)
              )
            repeat' (first

              | (with_reducible refine wp_seq ?_)
              | (with_reducible refine c_region ?_)
              | (with_reducible refine then_normal ?_)
              | (with_reducible refine block_normal ?_)
              | ((with_reducible refine g_move ?_); refine s_move hE rfl rfl ?_; clear hE a; intro a hE)
              | ((with_reducible refine g_bin .neq ?_); refine s_neq hE rfl rfl rfl ?_; clear hE a; intro a hE)
              | ((with_reducible refine g_guard ?_); refine gd_yes hE rfl rfl rfl ?_)
              | ((with_reducible refine g_guard ?_); refine gd_dec hE rfl rfl (fun hc hE2 => ?_) (fun hc hE2 => ?_) <;> (try omega) <;> (replace hE := hE2; clear hE2))
              | ((with_reducible refine g_load ?_); (first | (refine s_loadW (k := 1) hS hE rfl rfl (by first | assumption ) rfl ?_) | (refine s_loadW (k := 4) hS hE rfl rfl (by first | assumption ) rfl ?_) ); clear hE a; intro a hE)
              )
            refine s_call hE rfl rfl rfl (rsameP p3 p4 hpw3 hpw4 (rowsP_rdAt hS (k := 2) rfl) (rowsP_rdAt hS (k := 0) rfl)) ?_
            rintro _ w ⟨rfl, hS1⟩; clear hE a; intro a hE; replace hS := hS.frame hS1; clear hS1; try simp only [List.cons_append, List.nil_append] at hS
            rw [decide_eq_true (hpm3.trans hpm4.symm)] at hE
            repeat' (first

              | (with_reducible refine c_region ?_)
              | (with_reducible refine wpList_nil ?_)
              | (with_reducible refine then_normal ?_)
              | (with_reducible refine wp_skip ?_)
              | (with_reducible refine block_normal ?_)
              | ((with_reducible refine g_move ?_); refine s_move hE rfl rfl ?_; clear hE a; intro a hE)
              | ((with_reducible refine g_bin .add ?_); refine s_add hE rfl rfl rfl (by first  | exact wrap64_in (by omega) ) ?_; clear hE a; intro a hE)
              | ((with_reducible refine g_un .not ?_); refine s_notb hE rfl rfl ?_; clear hE a; intro a hE)
              | ((with_reducible refine g_guard ?_); refine gd_yes hE rfl rfl rfl ?_)
              | ((with_reducible refine g_pick ?_); refine s_pickF hE rfl rfl rfl ?_; clear hE a; intro a hE)
              | ((with_reducible refine g_cond ?_); refine c_false hE rfl ?_)
              )
            exact ⟨q - 1, by omega, k + 1, by omega, hS.nil, hE.sub ⟨rfl, rfl, rfl, trivial⟩⟩
          · have ed : decP x.n (b.take (64 * j)) = (PM.zero, 160) := by
              unfold decP
              rw [if_neg (fun h => h hnu), if_pos (by rw [htl]; omega)]
            rw [ed] at hE hpm3
            repeat' (first

              | (with_reducible refine wp_seq ?_)
              | (with_reducible refine c_region ?_)
              | (with_reducible refine wpList_nil ?_)
              | (with_reducible refine then_normal ?_)
              | (with_reducible refine wp_block ?_)
              | (with_reducible refine block_normal ?_)
              | ((with_reducible refine g_move ?_); refine s_move hE rfl rfl ?_; clear hE a; intro a hE)
              | ((with_reducible refine g_assign ?_); refine s_assign hE rfl rfl ?_; clear hE a; intro a hE)
              | ((with_reducible refine g_bin .lss ?_); refine s_lss hE rfl rfl rfl ?_; clear hE a; intro a hE)
              | ((with_reducible refine g_bin .geq ?_); refine s_geq hE rfl rfl rfl ?_; clear hE a; intro a hE)
              | ((with_reducible refine g_bin .neq ?_); refine s_neq hE rfl rfl rfl ?_; clear hE a; intro a hE)
              | ((with_reducible refine g_blt .len ?_); refine s_len hE rfl rfl ?_; clear hE a; intro a hE)
              | ((with_reducible refine g_extract ?_); refine s_extract hE rfl rfl rfl ?_; clear hE a; intro a hE)
              | ((with_reducible refine g_fa ?_); refine s_fieldL hE rfl rfl rfl ?_; clear hE a; intro a hE)
              | ((with_reducible refine g_guard ?_); refine gd_yes hE rfl rfl rfl ?_)
              | ((with_reducible refine g_guard ?_); refine gd_dec hE rfl rfl (fun hc hE2 => ?_) (fun hc hE2 => ?_) <;> (try omega) <;> (replace hE := hE2; clear hE2))
              | ((with_reducible refine g_pick ?_); refine s_pickF hE rfl rfl rfl ?_; clear hE a; intro a hE)
              | ((with_reducible refine g_cond ?_); refine c_dec hE rfl (fun hc => ?_) (fun hc => ?_) <;> try omega)
              | ((with_reducible refine g_load ?_); (first | (refine s_loadB (k := 5) hS hE rfl rfl rfl rfl ?_) ); clear hE a; intro a hE)
              | ((with_reducible refine g_alloc ?_); refine s_allocS hE hS rfl rfl ?_; clear hE a hS; intro g a w hE hS)
              | ((with_reducible refine g_build ?_); refine s_build [_, _, _, _, _, _] hE rfl rfl rfl ?_; clear hE a; intro a hE)
              | ((with_reducible refine g_load ?_); (first | (refine s_loadW (k := 3) hS hE rfl rfl rfl rfl ?_) ); clear hE a; intro a hE)
              | ((with_reducible refine g_load ?_); (first | (refine s_loadW (k := 0) hS hE rfl rfl (by first | assumption ) rfl ?_) ); clear hE a; intro a hE)
              | ((with_reducible refine g_store ?_); (first | (refine s_storeW (k := 0) hS hE rfl rfl rfl (by assumption) (by first | rfl | assumption) (by first | assumption) ?_) | (refine s_storeW (k := 3) hS hE rfl rfl rfl (by assumption) (by first | assumption) (by first | assumption) ?_) ); clear hS; intro w hS; simp only [List.set_cons_zero, List.set_cons_succ, Nat.add_zero] at hS)
              )
            refine s_call hE rfl rfl rfl (rsameP p3 Pg.zero hpw3 Pg.zero_wf (rowsP_rdAt hS (k := 1) rfl) (zero_rd2 w)) ?_
            rintro _ w ⟨rfl, hS1⟩; clear hE a; intro a hE; replace hS := hS.frame hS1; clear hS1; try simp only [List.cons_append, List.nil_append] at hS
            rw [decide_eq_true (show p3.m = Pg.zero.m from hpm3)] at hE
            repeat' (first

              | (with_reducible refine c_region ?_)
              | (with_reducible refine wpList_nil ?_)
              | (with_reducible refine then_normal ?_)
              | (with_reducible refine wp_skip ?_)
              | (with_reducible refine block_normal ?_)
              | ((with_reducible refine g_move ?_); refine s_move hE rfl rfl ?_; clear hE a; intro a hE)
              | ((with_reducible refine g_bin .add ?_); refine s_add hE rfl rfl rfl (by first  | exact wrap64_in (by omega) ) ?_; clear hE a; intro a hE)
              | ((with_reducible refine g_un .not ?_); refine s_notb hE rfl rfl ?_; clear hE a; intro a hE)
              | ((with_reducible refine g_guard ?_); refine gd_yes hE rfl rfl rfl ?_)
              | ((with_reducible refine g_pick ?_); refine s_pickF hE rfl rfl rfl ?_; clear hE a; intro a hE)
              | ((with_reducible refine g_cond ?_); refine c_false hE rfl ?_)
              )
            exact ⟨q - 1, by omega, k + 1, by omega, hS.nil, hE.sub ⟨rfl, rfl, rfl, trivial⟩⟩
        · have hnu1 : ¬ (0 ≤ x.n ∧ x.n < 32) := hnu
          have ed : decP x.n (b.take (64 * j)) = (PM.zero, 2) := by
            unfold decP
            rw [if_pos hnu]
          rw [ed] at hE hpm3
          repeat' (first

            | (with_reducible refine wp_seq ?_)
            | (with_reducible refine c_region ?_)
            | (with_reducible refine wpList_nil ?_)
            | (with_reducible refine then_normal ?_)
            | (with_reducible refine wp_block ?_)
            | (with_reducible refine block_normal ?_)
            | ((with_reducible refine g_move ?_); refine s_move hE rfl rfl ?_; clear hE a; intro a hE)
            | ((with_reducible refine g_assign ?_); refine s_assign hE rfl rfl ?_; clear hE a; intro a hE)
            | ((with_reducible refine g_bin .lss ?_); refine s_lss hE rfl rfl rfl ?_; clear hE a; intro a hE)
            | ((with_reducible refine g_bin .geq ?_); refine s_geq hE rfl rfl rfl ?_; clear hE a; intro a hE)
            | ((with_reducible refine g_bin .neq ?_); refine s_neq hE rfl rfl rfl ?_; clear hE a; intro a hE)
            | ((with_reducible refine g_extract ?_); refine s_extract hE rfl rfl rfl ?_; clear hE a; intro a hE)
            | ((with_reducible refine g_fa ?_); refine s_fieldL hE rfl rfl rfl ?_; clear hE a; intro a hE)
            | ((with_reducible refine g_guard ?_); refine gd_yes hE rfl rfl rfl ?_)
            | ((with_reducible refine g_guard ?_); refine gd_no hE rfl rfl rfl rfl ?_; clear hE a; intro a hE)
            | ((with_reducible refine g_guard ?_); refine gd_dec hE rfl rfl (fun hc hE2 => ?_) (fun hc hE2 => ?_) <;> (try omega) <;> (replace hE := hE2; clear hE2))
            | ((with_reducible refine g_pick ?_); refine s_pickT hE rfl rfl rfl ?_; clear hE a; intro a hE)
            | ((with_reducible refine g_pick ?_); refine s_pickF hE rfl rfl rfl ?_; clear hE a; intro a hE)
            | ((with_reducible refine g_cond ?_); refine c_true hE rfl ?_)
            | ((with_reducible refine g_cond ?_); refine c_dec hE rfl (fun hc => ?_) (fun hc => ?_) <;> try omega)
            | ((with_reducible refine g_load ?_); (first | (refine s_loadB (k := 5) hS hE rfl rfl rfl rfl ?_) ); clear hE a; intro a hE)
            | ((with_reducible refine g_alloc ?_); refine s_allocS hE hS rfl rfl ?_; clear hE a hS; intro g a w hE hS)
            | ((with_reducible refine g_build ?_); refine s_build [_, _, _, _, _, _] hE rfl rfl rfl ?_; clear hE a; intro a hE)
            | ((with_reducible refine g_load ?_); (first | (refine s_loadW (k := 3) hS hE rfl rfl rfl rfl ?_) ); clear hE a; intro a hE)
            | ((with_reducible refine g_load ?_); (first | (refine s_loadW (k := 0) hS hE rfl rfl (by first | assumption ) rfl ?_) ); clear hE a; intro a hE)
            | ((with_reducible refine g_store ?_); (first | (refine s_storeW (k := 0) hS hE rfl rfl rfl (by assumption) (by first | rfl | assumption) (by first | assumption) ?_) | (refine s_storeW (k := 3) hS hE rfl rfl rfl (by assumption) (by first | assumption) (by first | assumption) ?_) ); clear hS; intro w hS; simp only [List.set_cons_zero, List.set_cons_succ, Nat.add_zero] at hS)
            )
          · refine s_call hE rfl rfl rfl (rsameP p3 Pg.zero hpw3 Pg.zero_wf (rowsP_rdAt hS (k := 1) rfl) (zero_rd2 w)) ?_
            rintro _ w ⟨rfl, hS1⟩; clear hE a; intro a hE; replace hS := hS.frame hS1; clear hS1; try simp only [List.cons_append, List.nil_append] at hS
            rw [decide_eq_true (show p3.m = Pg.zero.m from hpm3)] at hE
            repeat' (first

              | (with_reducible refine c_region ?_)
              | (with_reducible refine wpList_nil ?_)
              | (with_reducible refine then_normal ?_)
              | (with_reducible refine wp_skip ?_)
              | (with_reducible refine block_normal ?_)
              | ((with_reducible refine g_move ?_); refine s_move hE rfl rfl ?_; clear hE a; intro a hE)
              | ((with_reducible refine g_bin .add ?_); refine s_add hE rfl rfl rfl (by first  | exact wrap64_in (by omega) ) ?_; clear hE a; intro a hE)
              | ((with_reducible refine g_un .not ?_); refine s_notb hE rfl rfl ?_; clear hE a; intro a hE)
              | ((with_reducible refine g_guard ?_); refine gd_yes hE rfl rfl rfl ?_)
              | ((with_reducible refine g_pick ?_); refine s_pickF hE rfl rfl rfl ?_; clear hE a; intro a hE)
              | ((with_reducible refine g_cond ?_); refine c_false hE rfl ?_)
              )
            exact ⟨q - 1, by omega, k + 1, by omega, hS.nil, hE.sub ⟨rfl, rfl, rfl, trivial⟩⟩
          · refine s_call hE rfl rfl rfl (rsameP p3 Pg.zero hpw3 Pg.zero_wf (rowsP_rdAt hS (k := 1) rfl) (zero_rd2 w)) ?_
            rintro _ w ⟨rfl, hS1⟩; clear hE a; intro a hE; replace hS := hS.frame hS1; clear hS1; try simp only [List.cons_append, List.nil_append] at hS
            rw [decide_eq_true (show p3.m = Pg.zero.m from hpm3)] at hE
            repeat' (first

              | (with_reducible refine c_region ?_)
              | (with_reducible refine wpList_nil ?_)
              | (with_reducible refine then_normal ?_)
              | (with_reducible refine wp_skip ?_)
              | (with_reducible refine block_normal ?_)
              | ((with_reducible refine g_move ?_); refine s_move hE rfl rfl ?_; clear hE a; intro a hE)
              | ((with_reducible refine g_bin .add ?_); refine s_add hE rfl rfl rfl (by first  | exact wrap64_in (by omega) ) ?_; clear hE a; intro a hE)
              | ((with_reducible refine g_un .not ?_); refine s_notb hE rfl rfl ?_; clear hE a; intro a hE)
              | ((with_reducible refine g_guard ?_); refine gd_yes hE rfl rfl rfl ?_)
              | ((with_reducible refine g_pick ?_); refine s_pickF hE rfl rfl rfl ?_; clear hE a; intro a hE)
              | ((with_reducible refine g_cond ?_); refine c_false hE rfl ?_)
              )
            exact ⟨q - 1, by omega, k + 1, by omega, hS.nil, hE.sub ⟨rfl, rfl, rfl, trivial⟩⟩
  · obtain rfl : k = l.length := by omega
    repeat' (first

      | (with_reducible refine wp_seq ?_)
      | (with_reducible refine c_region ?_)
      | (with_reducible refine wpList_nil ?_)
      | (with_reducible refine then_normal ?_)
      | (with_reducible refine wp_ret ?_)
      | (with_reducible refine wp_exit ?_)
      | (with_reducible refine then_exit ?_)
      | (with_reducible refine block_same ?_)
      | ((with_reducible refine g_assign ?_); refine s_assign hE rfl rfl ?_; clear hE a; intro a hE)
      | ((with_reducible refine g_bin .lss ?_); refine s_lss hE rfl rfl rfl ?_; clear hE a; intro a hE)
      | ((with_reducible refine g_cond ?_); refine c_dec hE rfl (fun hc => ?_) (fun hc => ?_) <;> try omega)
      )
    exact ret1 hE rfl rfl ⟨rfl, hS.nil⟩
end
end Go.Proofs.Ytmdfhhmnlplagaa
