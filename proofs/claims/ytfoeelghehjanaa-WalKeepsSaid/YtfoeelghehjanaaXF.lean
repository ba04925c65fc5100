/-
  Wherever the power goes, what was told is found, and what was under way whole or not at all.
-/
import Derived.Test.YtfoeelghehjanaaXE
namespace Go.Proofs.Ytfoeelghehjanaa
open Go.RowKit
set_option linter.unusedVariables false
set_option linter.unusedSimpArgs false
def WM.next (W : WM) (o : WOp) : WM := if o.k = 1 then W.anew o.b else W.push o.b
theorem after_next {W : WM} (h : W.ok) (o : WOp) : afterP (W.list.headD []) W.list.tail o = ((W.next o).list.headD [], (W.next o).list.tail) := by
  unfold afterP WM.next
  split
  · rfl
  · have hne := h.ne
    unfold WM.push
    dsimp only
    generalize W.list = L at hne
    cases L with
    | nil => exact absurd hne (by decide)
    | cons b0 L => rfl
theorem cells_one (o : WOp) : ∀ v ∈ o.cells, v.oneCell' = true := by
  intro v hv
  unfold WOp.cells at hv
  simp only [List.mem_cons, List.not_mem_nil, or_false] at hv
  rcases hv with rfl | rfl | rfl | rfl <;> rfl
theorem cells_four (o : WOp) : o.cells.length = 4 := rfl
attribute [local irreducible] Rd hRow hBlk hRd hRdr wrP hDk hWl Fn FnD hMarks hStt hTs
section
set_option maxHeartbeats 16000000
set_option maxRecDepth 20000
theorem law_WalKeeps (y : LT) (z : OT) (y2 : LT) (w0 : World) (h : y.ok w0) (hz : OT.ok w0 z) (h2 : y2.ok w0) : Fn Try.prog 5 [.slice y.1 y.2.2.length y.2.1, .agg ⟨OT.cells z⟩, .slice y2.1 y2.2.2.length y2.2.1] w0 fun v w' => v = .bool true ∧ St w0 w' [] := by
  rw [← LT.len, ← LT.len]
  have hr := LT.rd h
  have hall := LT.all h
  obtain ⟨hcap, hbig⟩ := LT.cap h
  generalize y.wops = l at hr hall hcap hbig
  generalize y.1 = A at hr
  generalize y.2.1 = c at hcap
  have hr2 := LT.rd h2
  have hall2 := LT.all h2
  obtain ⟨hcap2, hbig2⟩ := LT.cap h2
  generalize y2.wops = l2 at hr2 hall2 hcap2 hbig2
  generalize y2.1 = A2 at hr2
  generalize y2.2.1 = c2 at hcap2
  have hzr := OT.wop_rd hz
  have hzw := OT.wop_wf hz
  rw [OT.cells_wop hz]
  generalize z.wop = o at hzr hzw
  clear h hz h2
  have hS := St.start w0
  have hvlo := cells_four o
  have honeo := cells_one o
  refine enter 162 Try.func5 rfl rfl rfl ?_
  intro a hE
  repeat' (first

    | (with_reducible refine wp_seq ?_)
    | (with_reducible refine c_region ?_)
    | (with_reducible refine wpList_nil ?_)
    | (with_reducible refine then_normal ?_)
    | ((with_reducible refine g_assign ?_); refine s_assign hE rfl rfl ?_; clear hE a; intro a hE)
    | ((with_reducible refine g_box ?_); refine s_boxS hE hS rfl rfl ?_; clear hE a hS; intro g a w hE hS)
    )
  obtain ⟨g4, rfl⟩ : ∃ x, x = g := ⟨_, rfl⟩
  refine s_call hE rfl rfl rfl (wakes w) ?_
  rintro _ w ⟨rfl, hS1⟩; clear hE a; intro a hE; replace hS := hS.frame hS1; clear hS1; try simp only [List.cons_append, List.nil_append] at hS
  repeat' (first

    | (with_reducible refine wp_seq ?_)
    | (with_reducible refine c_region ?_)
    | (with_reducible refine wpList_nil ?_)
    | (with_reducible refine then_normal ?_)
    | (with_reducible refine wp_skip ?_)
    | ((with_reducible refine g_un .not ?_); refine s_notb hE rfl rfl ?_; clear hE a; intro a hE)
    | ((with_reducible refine g_cond ?_); refine c_false hE rfl ?_)
    )
  refine s_call hE rfl rfl rfl (made 8 (by omega) w) ?_
  rintro _ w ⟨gd, gw, D, rfl, hcl, hp, hsf, hat, hS1⟩; clear hE a; intro a hE; replace hS := hS.frame hS1; clear hS1; try simp only [List.cons_append, List.nil_append] at hS
  have hL := (fmt_clean (a := 8) (by decide) hsf).laid
  have hsl : D.safe.length = 18 := by
    rw [hsf]
    have : (partsB 0 0 []).length = 1 := partsB_len ..
    simp [this]
  have hnl : ([Value.slice none 0 0, Value.slice none 0 0] : List Value).length = 2 := rfl
  repeat' (first

    | (with_reducible refine wp_seq ?_)
    | (with_reducible refine c_region ?_)
    | (with_reducible refine wpList_nil ?_)
    | (with_reducible refine then_normal ?_)
    | (with_reducible refine wp_skip ?_)
    | ((with_reducible refine g_move ?_); refine s_move hE rfl rfl ?_; clear hE a; intro a hE)
    | ((with_reducible refine g_assign ?_); refine s_assign hE rfl rfl ?_; clear hE a; intro a hE)
    | ((with_reducible refine g_extract ?_); refine s_extract hE rfl rfl rfl ?_; clear hE a; intro a hE)
    | ((with_reducible refine g_cond ?_); refine c_false hE rfl ?_)
    | ((with_reducible refine g_bin .eql ?_); refine s_val hE rfl rfl rfl (r_eqp hE rfl rfl) ?_; clear hE a; intro a hE)
    | ((with_reducible refine g_alloc ?_); refine s_allocS hE hS rfl rfl ?_; clear hE a hS; intro g a w hE hS)
    | ((with_reducible refine g_build ?_); refine s_build [_, _] hE rfl rfl rfl ?_; clear hE a; intro a hE)
    | ((with_reducible refine g_store ?_); (first | (refine s_storeW (k := 0) hS hE rfl rfl rfl rfl rfl (by first | (simp [Value.oneCell']; done)) ?_) ); clear hS; intro w hS; simp only [List.set_cons_zero, List.set_cons_succ, Nat.add_zero] at hS)
    )
  obtain ⟨g9, rfl⟩ : ∃ x, x = g := ⟨_, rfl⟩
  have hS2 : St w0 w [hBlk g9 37 [.slice none 0 0, .slice none 0 0], hStt (.slice none 0 0) (.slice none 0 0) [] [], hWl gw gd ⟨8, 0, [[]], 1, false⟩, hDk gd D, hBlk g4 33 o.cells] := by
    have h1 := wrP_nil (St.rowNil (St.rowNil hS 5 1).rowRd 34 1)
    have h3 := hStt_close (x := .slice none 0 0) (y := .slice none 0 0) (sb := []) (bs := []) (s := ⟨none, 0, []⟩) (A := none) (c := 0) (l := []) rfl rfl rfl rfl (St.selD [2, 1, 0, 0, 0, 0, 0] 0 h1)
    exact (St.selD [1, 0, 0, 0, 0] 0 h3)
  clear hS; have hS := hS2; clear hS2
  refine s_call hE rfl rfl rfl (few A l.length c w hcap hbig) ?_
  rintro _ w ⟨rfl, hS1⟩; clear hE a; intro a hE; replace hS := hS.frame hS1; clear hS1; try simp only [List.cons_append, List.nil_append] at hS
  repeat' (first

    | (with_reducible refine wpList_nil ?_)
    | (with_reducible refine then_normal ?_)
    | (with_reducible refine wp_block ?_)
    | ((with_reducible refine g_move ?_); refine s_move hE rfl rfl ?_; clear hE a; intro a hE)
    | ((with_reducible refine g_blt .len ?_); refine s_len hE rfl rfl ?_; clear hE a; intro a hE)
    )
  have hfl : (l.flatMap WOp.cells).length = l.length * 4 := flat_len (fun o _ => rfl)
  obtain ⟨mm, hmm⟩ : ∃ mm, mm = min l.length 40 := ⟨_, rfl⟩
  have hmm1 : mm ≤ l.length ∧ mm ≤ 40 := by omega
  rw [← hmm] at hE
  clear hmm
  refine wp_loop_ghost (fun q a w => ∃ (k : Nat) (W : WM) (D : DM) (sx sy : Value), k + q = mm ∧ W.broken = false ∧ W.turn ≤ k ∧ D.calm ∧ D.pend = [] ∧ Laid D.safe W ∧ D.safe.length = 18 ∧ D.atN (2100 + 20 * k) ∧
    St w0 w [hBlk g9 37 [sx, sy], hStt sx sy (W.list.headD []) W.list.tail, hWl gw gd W, hDk gd D, hBlk g4 33 o.cells] ∧
    Env 162 [(2, .slice A2 l2.length c2), (4, .pointer (some ⟨g4, 0, none⟩)), (7, .pointer (some ⟨gd, 0, none⟩)), (8, .pointer (some ⟨gw, 0, none⟩)), (9, .pointer (some ⟨g9, 0, none⟩)), (29, .slice A mm c), (30, .int .i64 (mm : Int)), (31, .int .i64 (k : Int))] a) mm
    ⟨0, ⟨8, 0, [[]], 1, false⟩, D, _, _, by omega, rfl, Nat.le_refl _, hcl, hp, hL, hsl, hat, hS, hE.sub ⟨rfl, rfl, rfl, rfl, rfl, rfl, rfl, rfl, trivial⟩⟩ ?_
  clear hE a hS hcl hp hsf hat hL hsl
  rintro q a w ⟨k, W, D, sx, sy, hkq, hWb, hWt, hcl, hp, hL, hsl, hat, hS, hE⟩
  have hxy : ∀ v ∈ [sx, sy], v.oneCell' = true := hStt_one hS.p1
  have hxyl : [sx, sy].length = 2 := rfl
  by_cases hk1 : k < mm
  · have hkl : k < l.length := by omega
    have hseg := flat_seg (c := WOp.cells) (size := 4) (l := l) (fun o _ => rfl) hkl
    obtain ⟨how, hord⟩ := hall _ (List.getElem_mem hkl)
    generalize l[k] = o2 at hseg how hord
    have hvl := cells_four o2
    have hone := cells_one o2
    have hrw := hr.st hS
    have hob := o2.b_bs
    have hol := o2.b_lt
    have hsn := secN_pos (n := o2.b.length) (by omega)
    have htl := tail_len hL.ok
    have hafn := after_next hL.ok o2
    repeat' (first

      | (with_reducible refine wp_seq ?_)
      | (with_reducible refine c_region ?_)
      | (with_reducible refine wpList_nil ?_)
      | (with_reducible refine then_normal ?_)
      | (with_reducible refine wp_skip ?_)
      | (with_reducible refine wp_block ?_)
      | ((with_reducible refine g_bin .lss ?_); refine s_lss hE rfl rfl rfl ?_; clear hE a; intro a hE)
      | ((with_reducible refine g_cond ?_); refine c_dec hE rfl (fun hc => ?_) (fun hc => ?_) <;> try omega)
      | ((with_reducible refine g_ia ?_); refine s_idxR hE rfl rfl (by omega) (by omega) (by (first | exact Rd.st (by assumption) hS )) (by first | omega ) rfl ?_; clear hE a; intro a hE)
      | ((with_reducible refine g_alloc ?_); refine s_allocS hE hS rfl rfl ?_; clear hE a hS; intro g a w hE hS)
      | ((with_reducible refine g_load ?_); (first | (refine s_loadW (k := 0) hS hE rfl rfl rfl rfl ?_) ); clear hE a; intro a hE)
      | ((with_reducible refine g_store ?_); (first | (refine s_storeW (k := 0) hS hE rfl rfl rfl rfl rfl (by first | assumption ) ?_) ); clear hS; intro w hS; simp only [List.set_cons_zero, List.set_cons_succ, Nat.add_zero] at hS)
      | ((with_reducible refine g_load ?_); refine s_elemR hE rfl (by (first | exact Rd.st (by assumption) hS )) (by first | exact hseg ) (by first | rfl ) (by rfl) rfl ?_; clear hE a; intro a hE))
    obtain ⟨g11, rfl⟩ : ∃ x, x = g := ⟨_, rfl⟩
    refine s_call hE rfl rfl rfl (kind o2 w) ?_
    rintro _ w ⟨rfl, hS1⟩; clear hE a; intro a hE; replace hS := hS.frame hS1; clear hS1; try simp only [List.cons_append, List.nil_append] at hS
    refine wpList_nil ?_
    refine then_normal ?_
    refine wp_mono (?_ : Code.wp _ _ (fun e a w => e = .normal ∧ ∃ (W' : WM) (D' : DM) (sx' sy' : Value), W'.broken = false ∧ W'.turn ≤ k + 1 ∧ D'.calm ∧ D'.pend = [] ∧ Laid D'.safe W' ∧ D'.safe.length = 18 ∧ D'.atN (2100 + 20 * (k + 1)) ∧
      St w0 w [hBlk g9 37 [sx', sy'], hStt sx' sy' (W'.list.headD []) W'.list.tail, hWl gw gd W', hDk gd D', hBlk g4 33 o.cells] ∧
      Env 162 [(2, .slice A2 l2.length c2), (4, .pointer (some ⟨g4, 0, none⟩)), (7, .pointer (some ⟨gd, 0, none⟩)), (8, .pointer (some ⟨gw, 0, none⟩)), (9, .pointer (some ⟨g9, 0, none⟩)), (29, .slice A mm c), (30, .int .i64 (mm : Int)), (31, .int .i64 (k : Int))] a) _ _) ?_
    · by_cases hk : o2.k = 1
      · rw [hk] at hE
        have hnx : W.next o2 = W.anew o2.b := if_pos hk
        repeat' (first

          | (with_reducible refine wp_seq ?_)
          | (with_reducible refine c_region ?_)
          | (with_reducible refine wpList_nil ?_)
          | (with_reducible refine then_normal ?_)
          | (with_reducible refine wp_block ?_)
          | ((with_reducible refine g_move ?_); refine s_move hE rfl rfl ?_; clear hE a; intro a hE)
          | ((with_reducible refine g_assign ?_); refine s_assign hE rfl rfl ?_; clear hE a; intro a hE)
          | ((with_reducible refine g_bin .eql ?_); refine s_eql hE rfl rfl rfl ?_; clear hE a; intro a hE)
          | ((with_reducible refine g_cond ?_); refine c_true hE rfl ?_)
          | ((with_reducible refine g_cond ?_); refine c_false hE rfl ?_)
          )
        refine s_val hE rfl rfl rfl (r_func (first := [.tmp 40]) hE rfl rfl) ?_
        clear hE a; intro a hE
        repeat' (first

          | (with_reducible refine wp_seq ?_)
          | (with_reducible refine c_region ?_)
          | (with_reducible refine wpList_nil ?_)
          | (with_reducible refine then_normal ?_)
          | ((with_reducible refine g_assign ?_); refine s_assign hE rfl rfl ?_; clear hE a; intro a hE)
          | ((with_reducible refine g_load ?_); (first | (refine s_loadW (k := 0) hS hE rfl rfl rfl rfl ?_) ); clear hE a; intro a hE)
          )
        refine s_call hE rfl rfl rfl (kind o2 w) ?_
        rintro _ w ⟨rfl, hS1⟩; clear hE a; intro a hE; replace hS := hS.frame hS1; clear hS1; try simp only [List.cons_append, List.nil_append] at hS
        rw [hk] at hE
        repeat' (first

          | (with_reducible refine c_region ?_)
          | (with_reducible refine wpList_nil ?_)
          | (with_reducible refine then_normal ?_)
          | ((with_reducible refine g_move ?_); refine s_move hE rfl rfl ?_; clear hE a; intro a hE)
          | ((with_reducible refine g_bin .eql ?_); refine s_eql hE rfl rfl rfl ?_; clear hE a; intro a hE)
          | ((with_reducible refine g_cond ?_); refine c_true hE rfl ?_)
          )
        refine s_val hE rfl rfl rfl (r_func (first := [.tmp 45]) hE rfl rfl) ?_
        clear hE a; intro a hE
        repeat' (first

          | (with_reducible refine wp_seq ?_)
          | (with_reducible refine c_region ?_)
          | (with_reducible refine wpList_nil ?_)
          | (with_reducible refine then_normal ?_)
          | ((with_reducible refine g_move ?_); refine s_move hE rfl rfl ?_; clear hE a; intro a hE)
          | ((with_reducible refine g_assign ?_); refine s_assign hE rfl rfl ?_; clear hE a; intro a hE)
          | ((with_reducible refine g_load ?_); (first | (refine s_loadW (k := 0) hS hE rfl rfl rfl rfl ?_) ); clear hE a; intro a hE)
          )
        refine s_call hE rfl rfl rfl (obytes o2 how w) ?_
        rintro _ w ⟨A5, c5, rfl, hS1⟩; clear hE a; intro a hE; replace hS := hS.frame hS1; clear hS1; try simp only [List.cons_append, List.nil_append] at hS
        obtain ⟨b0, b1, b2, b3, b4, b5⟩ := chk_keep (b := o2.b) hL hcl hp hWb (by omega) hob (by omega)
        have hat2 := chk_atN (W := W) hat hob (by omega)
        have hln := chk_len W D o2.b
        have hap := kchk (m := 2100 + 20 * k) (w0 := w0) (w := w) (H := [hRow 5 1 A5 o2.b.length c5 (bys o2.b), hBlk g11 33 o2.cells, hBlk g9 37 [sx, sy], hStt sx sy (W.list.headD []) W.list.tail, hBlk g4 33 o.cells]) gw gd W D o2.b A5 c5 hL.ok hob (by omega) (fun w' L h => (h.perm (List.perm_append_comm (l₁ := L))).rd) hat (by omega) (St.selD [4, 4, 0, 0, 0, 0, 0] 0 hS)
        refine s_call hE rfl rfl rfl hap ?_
        clear hap
        rintro _ w ⟨rfl, hS⟩; clear hE a; intro a hE
        generalize W.chk D o2.b = R at b0 b1 b2 b3 b4 b5 hat2 hln hE hS
        obtain ⟨W2, D2, ee⟩ := R
        dsimp only at b0 b1 b2 b3 b4 b5 hat2 hln hE hS
        rcases b0 with ⟨_, rfl, rfl⟩ | ⟨_, rfl, rfl⟩
        · repeat' (first

            | (with_reducible refine wpList_nil ?_)
            | (with_reducible refine then_normal ?_)
            | (with_reducible refine wp_skip ?_)
            | (with_reducible refine block_normal ?_)
            | ((with_reducible refine g_bin .eql ?_); refine s_eql hE rfl rfl rfl ?_; clear hE a; intro a hE)
            | ((with_reducible refine g_cond ?_); refine c_false hE rfl ?_)
            )
          exact ⟨rfl, _, D2, sx, sy, b1, by omega, b3, b4, b5, by omega, hat2.mono (by omega), (St.selD [4, 4, 0, 0, 2] 2 hS), hE.sub ⟨rfl, rfl, rfl, rfl, rfl, rfl, rfl, rfl, trivial⟩⟩
        · repeat' (first

            | (with_reducible refine c_region ?_)
            | (with_reducible refine wpList_nil ?_)
            | (with_reducible refine then_normal ?_)
            | ((with_reducible refine g_bin .eql ?_); refine s_eql hE rfl rfl rfl ?_; clear hE a; intro a hE)
            | ((with_reducible refine g_cond ?_); refine c_true hE rfl ?_)
            | ((with_reducible refine g_load ?_); (first | (refine s_loadW (k := 3) hS hE rfl rfl rfl rfl ?_) | (refine s_loadW (k := 4) hS hE rfl rfl rfl rfl ?_) ); clear hE a; intro a hE)
            )
          refine s_call hE rfl rfl rfl (after o2 how (by omega) (hS.focus (k := 5) rfl)) ?_
          rintro _ w ⟨x', y', rfl, hS⟩; clear hE a; intro a hE
          rw [hafn, hnx] at hS
          simp only [List.eraseIdx_cons_succ, List.eraseIdx_cons_zero] at hS
          have hxy' := hStt_one hS
          have hxyl' : [x', y'].length = 2 := rfl
          repeat' (first

            | (with_reducible refine wpList_nil ?_)
            | (with_reducible refine block_normal ?_)
            | ((with_reducible refine g_store ?_); (first | (refine s_storeW (k := 5) hS hE rfl rfl rfl rfl rfl (by first | assumption ) ?_) ); clear hS; intro w hS; simp only [List.set_cons_zero, List.set_cons_succ, Nat.add_zero] at hS)
            )
          exact ⟨rfl, _, D2, x', y', b1, by omega, b3, b4, b5, by omega, hat2.mono (by omega), (St.selD [5, 0, 0, 0, 2] 2 hS), hE.sub ⟨rfl, rfl, rfl, rfl, rfl, rfl, rfl, rfl, trivial⟩⟩
      · have hnx : W.next o2 = W.push o2.b := if_neg hk
        by_cases hk0 : o2.k = 0
        · rw [hk0] at hE
          repeat' (first

            | (with_reducible refine wp_seq ?_)
            | (with_reducible refine c_region ?_)
            | (with_reducible refine wpList_nil ?_)
            | (with_reducible refine then_normal ?_)
            | (with_reducible refine wp_skip ?_)
            | (with_reducible refine wp_block ?_)
            | ((with_reducible refine g_move ?_); refine s_move hE rfl rfl ?_; clear hE a; intro a hE)
            | ((with_reducible refine g_assign ?_); refine s_assign hE rfl rfl ?_; clear hE a; intro a hE)
            | ((with_reducible refine g_bin .eql ?_); refine s_eql hE rfl rfl rfl ?_; clear hE a; intro a hE)
            | ((with_reducible refine g_cond ?_); refine c_true hE rfl ?_)
            )
          refine s_val hE rfl rfl rfl (r_func (first := [.tmp 40]) hE rfl rfl) ?_
          clear hE a; intro a hE
          repeat' (first

            | (with_reducible refine wp_seq ?_)
            | (with_reducible refine c_region ?_)
            | (with_reducible refine wpList_nil ?_)
            | (with_reducible refine then_normal ?_)
            | ((with_reducible refine g_assign ?_); refine s_assign hE rfl rfl ?_; clear hE a; intro a hE)
            | ((with_reducible refine g_load ?_); (first | (refine s_loadW (k := 0) hS hE rfl rfl rfl rfl ?_) ); clear hE a; intro a hE)
            )
          refine s_call hE rfl rfl rfl (kind o2 w) ?_
          rintro _ w ⟨rfl, hS1⟩; clear hE a; intro a hE; replace hS := hS.frame hS1; clear hS1; try simp only [List.cons_append, List.nil_append] at hS
          rw [hk0] at hE
          repeat' (first

            | (with_reducible refine wp_seq ?_)
            | (with_reducible refine c_region ?_)
            | (with_reducible refine wpList_nil ?_)
            | (with_reducible refine then_normal ?_)
            | (with_reducible refine wp_skip ?_)
            | ((with_reducible refine g_move ?_); refine s_move hE rfl rfl ?_; clear hE a; intro a hE)
            | ((with_reducible refine g_bin .eql ?_); refine s_eql hE rfl rfl rfl ?_; clear hE a; intro a hE)
            | ((with_reducible refine g_cond ?_); refine c_false hE rfl ?_)
            | ((with_reducible refine g_load ?_); (first | (refine s_loadW (k := 0) hS hE rfl rfl rfl rfl ?_) ); clear hE a; intro a hE)
            )
          refine s_call hE rfl rfl rfl (obytes o2 how w) ?_
          rintro _ w ⟨A5, c5, rfl, hS1⟩; clear hE a; intro a hE; replace hS := hS.frame hS1; clear hS1; try simp only [List.cons_append, List.nil_append] at hS
          obtain ⟨b0, b1, b2, b3, b4, b5⟩ := app_keep (b := o2.b) hL hcl hp hWb hob (by omega)
          have hat2 := app_atN (W := W) hat hob (by omega)
          have hln := app_len W D o2.b
          have hap := kapp (m := 2100 + 20 * k) (w0 := w0) (w := w) (H := [hRow 5 1 A5 o2.b.length c5 (bys o2.b), hBlk g11 33 o2.cells, hBlk g9 37 [sx, sy], hStt sx sy (W.list.headD []) W.list.tail, hBlk g4 33 o.cells]) gw gd W D o2.b A5 c5 hL.ok hob (by omega) (fun w' L h => (h.perm (List.perm_append_comm (l₁ := L))).rd) hat (by omega) (St.selD [4, 4, 0, 0, 0, 0, 0] 0 hS)
          refine s_call hE rfl rfl rfl hap ?_
          clear hap
          rintro _ w ⟨rfl, hS⟩; clear hE a; intro a hE
          generalize W.app D o2.b = R at b0 b1 b2 b3 b4 b5 hat2 hln hE hS
          obtain ⟨W2, D2, ee⟩ := R
          dsimp only at b0 b1 b2 b3 b4 b5 hat2 hln hE hS
          rcases b0 with ⟨_, rfl, rfl⟩ | ⟨_, rfl, rfl⟩
          · repeat' (first

              | (with_reducible refine wpList_nil ?_)
              | (with_reducible refine then_normal ?_)
              | (with_reducible refine wp_skip ?_)
              | (with_reducible refine block_normal ?_)
              | ((with_reducible refine g_bin .eql ?_); refine s_eql hE rfl rfl rfl ?_; clear hE a; intro a hE)
              | ((with_reducible refine g_cond ?_); refine c_false hE rfl ?_)
              )
            exact ⟨rfl, _, D2, sx, sy, b1, by omega, b3, b4, b5, by omega, hat2.mono (by omega), (St.selD [4, 4, 0, 0, 2] 2 hS), hE.sub ⟨rfl, rfl, rfl, rfl, rfl, rfl, rfl, rfl, trivial⟩⟩
          · repeat' (first

              | (with_reducible refine c_region ?_)
              | (with_reducible refine wpList_nil ?_)
              | (with_reducible refine then_normal ?_)
              | ((with_reducible refine g_bin .eql ?_); refine s_eql hE rfl rfl rfl ?_; clear hE a; intro a hE)
              | ((with_reducible refine g_cond ?_); refine c_true hE rfl ?_)
              | ((with_reducible refine g_load ?_); (first | (refine s_loadW (k := 3) hS hE rfl rfl rfl rfl ?_) | (refine s_loadW (k := 4) hS hE rfl rfl rfl rfl ?_) ); clear hE a; intro a hE)
              )
            refine s_call hE rfl rfl rfl (after o2 how (by omega) (hS.focus (k := 5) rfl)) ?_
            rintro _ w ⟨x', y', rfl, hS⟩; clear hE a; intro a hE
            rw [hafn, hnx] at hS
            simp only [List.eraseIdx_cons_succ, List.eraseIdx_cons_zero] at hS
            have hxy' := hStt_one hS
            have hxyl' : [x', y'].length = 2 := rfl
            repeat' (first

              | (with_reducible refine wpList_nil ?_)
              | (with_reducible refine block_normal ?_)
              | ((with_reducible refine g_store ?_); (first | (refine s_storeW (k := 5) hS hE rfl rfl rfl rfl rfl (by first | assumption ) ?_) ); clear hS; intro w hS; simp only [List.set_cons_zero, List.set_cons_succ, Nat.add_zero] at hS)
              )
            exact ⟨rfl, _, D2, x', y', b1, by omega, b3, b4, b5, by omega, hat2.mono (by omega), (St.selD [5, 0, 0, 0, 2] 2 hS), hE.sub ⟨rfl, rfl, rfl, rfl, rfl, rfl, rfl, rfl, trivial⟩⟩
        · repeat' (first

            | (with_reducible refine wp_seq ?_)
            | (with_reducible refine c_region ?_)
            | (with_reducible refine wpList_nil ?_)
            | (with_reducible refine then_normal ?_)
            | (with_reducible refine wp_skip ?_)
            | (with_reducible refine wp_block ?_)
            | (with_reducible refine block_normal ?_)
            | ((with_reducible refine g_assign ?_); refine s_assign hE rfl rfl ?_; clear hE a; intro a hE)
            | ((with_reducible refine g_bin .eql ?_); refine s_eql hE rfl rfl rfl ?_; clear hE a; intro a hE)
            | ((with_reducible refine g_cond ?_); refine c_dec hE rfl (fun hc => ?_) (fun hc => ?_) <;> try omega)
            )
          exact ⟨rfl, W, D, sx, sy, hWb, by omega, hcl, hp, hL, hsl, hat.mono (by omega), (St.selD [1, 1, 1, 1, 1] 1 hS), hE.sub ⟨rfl, rfl, rfl, rfl, rfl, rfl, rfl, rfl, trivial⟩⟩
    · clear hE a hS
      rintro _ a w ⟨rfl, W', D', sx', sy', hWb', hWt', hcl', hp', hL', hsl', hat', hS, hE⟩
      have hxy' : ∀ v ∈ [sx', sy'], v.oneCell' = true := hStt_one hS.p1
      have hxyl' : [sx', sy'].length = 2 := rfl
      have hbsW := tail_bs hL'.ok
      have htlW := tail_len hL'.ok
      repeat' (first

        | (with_reducible refine wp_seq ?_)
        | (with_reducible refine then_normal ?_)
        )
      refine c_ordK hS 0 rfl 5 ((.rd 0 (.rd 2 (.ef 1 (.ef 3 (.rd 4 .done)))))) mixed (by decide +kernel) ?_
      clear hS; intro w hF hS
      repeat' (first
        | (with_reducible refine o_rd rfl ?_)
        | ((with_reducible refine q_move ?_); refine d_val hE hS rfl (fun w hS => r_move hE rfl) ?_; clear hE a; intro a hE)
        | ((with_reducible refine q_load ?_); (first | (refine d_val hE hS rfl (fun w hS => r_loadW (k := 0) hS hE rfl rfl rfl) ?_) ); clear hE a; intro a hE)
        | ((with_reducible refine o_ef rfl ?_))
        )
      refine s_call hE rfl rfl rfl (told hL'.ok (hF.focus (k := 2) rfl)) ?_
      rintro _ w ⟨x2, y2, rfl, hF⟩; clear hE a; intro a hE
      simp only [List.eraseIdx_cons_succ, List.eraseIdx_cons_zero] at hF
      refine wpList_nil ?_
      refine o_back _ (fun _ h => h) (hF.only 2 rfl) ?_
      clear hS; have hS := hF.only 2 rfl
      repeat' (first
        | ((with_reducible refine o_ef rfl ?_))
        )
      have hF2 := (St.selD [0, 2, 0, 0] 0 hF)
      refine s_call hE rfl rfl rfl (sameS hbsW hbsW (by omega) (by omega) hF2) ?_
      rintro _ w ⟨rfl, hS1⟩; clear hE a; intro a hE; replace hF := hF.frame hS1; clear hS1; simp only [List.nil_append] at hF
      rw [decide_eq_true (⟨rfl, rfl⟩ : W'.list.headD [] = W'.list.headD [] ∧ W'.list.tail = W'.list.tail)] at hE
      refine wpList_nil ?_
      refine o_back _ (fun _ h => h) (hF.only 2 rfl) ?_
      clear hS; have hS := hF.only 2 rfl
      repeat' (first
        | (with_reducible refine o_rd rfl ?_)
        | (with_reducible refine o_done ?_)
        | ((with_reducible refine q_un .not ?_); refine d_val hE hS rfl (fun w hS => r_notb hE rfl) ?_; clear hE a; intro a hE)
        )
      clear hS; have hS := hF; clear hF
      repeat' (first

        | (with_reducible refine c_region ?_)
        | (with_reducible refine wpList_nil ?_)
        | (with_reducible refine then_normal ?_)
        | (with_reducible refine wp_skip ?_)
        | (with_reducible refine block_normal ?_)
        | ((with_reducible refine g_move ?_); refine s_move hE rfl rfl ?_; clear hE a; intro a hE)
        | ((with_reducible refine g_bin .add ?_); refine s_add hE rfl rfl rfl (by first  | exact wrap64_in (by omega) ) ?_; clear hE a; intro a hE)
        | ((with_reducible refine g_cond ?_); refine c_false hE rfl ?_)
        )
      exact ⟨q - 1, by omega, k + 1, W', D', _, _, by omega, hWb', hWt', hcl', hp', hL', hsl', hat', (St.selD [2, 2, 1, 1, 1] 1 hS), hE.sub ⟨rfl, rfl, rfl, rfl, rfl, rfl, rfl, rfl, trivial⟩⟩
  · obtain rfl : k = mm := by omega
    repeat' (first

      | (with_reducible refine wp_seq ?_)
      | (with_reducible refine c_region ?_)
      | (with_reducible refine wpList_nil ?_)
      | (with_reducible refine then_normal ?_)
      | (with_reducible refine wp_exit ?_)
      | (with_reducible refine then_exit ?_)
      | (with_reducible refine block_same ?_)
      | ((with_reducible refine g_bin .lss ?_); refine s_lss hE rfl rfl rfl ?_; clear hE a; intro a hE)
      | ((with_reducible refine g_cond ?_); refine c_dec hE rfl (fun hc => ?_) (fun hc => ?_) <;> try omega)
      | ((with_reducible refine g_load ?_); (first | (refine s_loadW (k := 4) hS hE rfl rfl rfl rfl ?_) ); clear hE a; intro a hE)
      )
    refine s_call hE rfl rfl rfl (kind o w) ?_
    rintro _ w ⟨rfl, hS1⟩; clear hE a; intro a hE; replace hS := hS.frame hS1; clear hS1; try simp only [List.cons_append, List.nil_append] at hS
    refine s_neq hE rfl rfl rfl ?_
    clear hE a; intro a hE
    refine wpList_nil ?_
    refine then_normal ?_
    refine wp_mono (?_ : Code.wp _ _ (fun e a w => e = .normal ∧ ∃ o' : WOp, o'.wf ∧ o'.rd w0 ∧ (o'.k = 1 ∨ o'.k = 0) ∧
      St w0 w [hBlk g9 37 [sx, sy], hStt sx sy (W.list.headD []) W.list.tail, hWl gw gd W, hDk gd D, hBlk g4 33 o'.cells] ∧
      Env 162 [(2, .slice A2 l2.length c2), (4, .pointer (some ⟨g4, 0, none⟩)), (7, .pointer (some ⟨gd, 0, none⟩)), (8, .pointer (some ⟨gw, 0, none⟩)), (9, .pointer (some ⟨g9, 0, none⟩))] a) _ _) ?_
    · have ho4 : o.cells = [.int .i64 o.kind, .int .i64 o.n, .int .u8 (o.fill : Int), .slice o.K o.keep.length o.kc] := rfl
      by_cases hk : o.k = 1
      · repeat' (first

          | (with_reducible refine wp_skip ?_)
          | ((with_reducible refine g_cond ?_); refine c_dec hE rfl (fun hc => ?_) (fun hc => ?_) <;> try omega)
          )
        exact ⟨rfl, o, hzw, hzr, .inl hk, hS, hE.sub ⟨rfl, rfl, rfl, rfl, rfl, trivial⟩⟩
      · rw [ho4] at hS
        repeat' (first

          | (with_reducible refine c_region ?_)
          | (with_reducible refine wpList_nil ?_)
          | ((with_reducible refine g_fa ?_); refine s_fieldL hE rfl rfl rfl ?_; clear hE a; intro a hE)
          | ((with_reducible refine g_cond ?_); refine c_dec hE rfl (fun hc => ?_) (fun hc => ?_) <;> try omega)
          | ((with_reducible refine g_store ?_); (first | (refine s_storeB (k := 4) hS hE rfl rfl rfl rfl rfl rfl ?_) ); clear hS; intro w hS; simp only [List.set_cons_zero, List.set_cons_succ, Nat.add_zero] at hS)
          )
        exact ⟨rfl, ⟨0, o.n, o.fill, o.K, o.kc, o.keep⟩, ⟨by show (-9223372036854775808 : Int) ≤ 0 ∧ (0 : Int) ≤ 9223372036854775807; decide, hzw.n, hzw.fill, hzw.kl⟩, hzr, .inr rfl, hS, hE.sub ⟨rfl, rfl, rfl, rfl, rfl, trivial⟩⟩
    clear hE a hS hzw hzr hvlo honeo o
    rintro _ a w ⟨rfl, o, hzw, hzr, hok, hS, hE⟩
    have hvlo := cells_four o
    have honeo := cells_one o
    have hzk := hzw.kl
    have ho4 : o.cells = [.int .i64 o.kind, .int .i64 o.n, .int .u8 (o.fill : Int), .slice o.K o.keep.length o.kc] := rfl
    have hob := o.b_bs
    have hol := o.b_lt
    have hsn := secN_pos (n := o.b.length) (by omega)
    have htl := tail_len hL.ok
    have hafn := after_next hL.ok o
    have hk : (IntKind.u64.wrap o.n).tmod 25 = (((o.n % 18446744073709551616).toNat % 25 : Nat) : Int) := u64_rem o.n 25 (by decide)
    have hklt : (o.n % 18446744073709551616).toNat % 25 < 25 := Nat.mod_lt _ (by decide)
    generalize (o.n % 18446744073709551616).toNat % 25 = r at hk hklt
    have e1 : IntKind.i64.wrap ((r : Nat) : Int) = (r : Int) := wrap64_in (by omega)
    rw [ho4] at hS
    repeat' (first

      | (with_reducible refine wp_seq ?_)
      | (with_reducible refine c_region ?_)
      | (with_reducible refine then_normal ?_)
      | ((with_reducible refine g_move ?_); refine s_move hE rfl rfl ?_; clear hE a; intro a hE)
      | ((with_reducible refine g_bin .rem ?_); refine s_rem hE rfl rfl (by omega) rfl (by first | rfl) ?_; clear hE a; intro a hE)
      | ((with_reducible refine g_conv ?_); refine s_conv hE rfl rfl (by first | exact wrap64_in (by omega) | rfl) ?_; clear hE a; intro a hE)
      | ((with_reducible refine g_fa ?_); refine s_fieldL hE rfl rfl rfl ?_; clear hE a; intro a hE)
      | ((with_reducible refine g_load ?_); (first | (refine s_loadB (k := 4) hS hE rfl rfl rfl rfl ?_) ); clear hE a; intro a hE)
      )
    rw [hk] at hE
    obtain ⟨q1, q2, q3, q4⟩ := DM.arm_alive hcl.alive (r : Int)
    have q5 := arm_atN hat (i := (r : Int)) (by omega)
    refine s_call hE rfl rfl rfl (karm (r : Int) (by omega) (hS.focus (k := 3) rfl)) ?_
    rintro _ w ⟨rfl, hS⟩; clear hE a; intro a hE
    simp only [List.eraseIdx_cons_succ, List.eraseIdx_cons_zero] at hS
    generalize (D.arm (r : Int)).1 = D1 at q1 q2 q3 q4 q5 hS
    rw [hp] at q2
    rw [← q3] at hL hsl
    rw [← ho4] at hS
    repeat' (first

      | (with_reducible refine wp_seq ?_)
      | (with_reducible refine c_region ?_)
      | (with_reducible refine wpList_nil ?_)
      | (with_reducible refine then_normal ?_)
      | ((with_reducible refine g_assign ?_); refine s_assign hE rfl rfl ?_; clear hE a; intro a hE)
      | ((with_reducible refine g_load ?_); (first | (refine s_loadW (k := 4) hS hE rfl rfl rfl rfl ?_) ); clear hE a; intro a hE)
      )
    refine s_call hE rfl rfl rfl (kind o w) ?_
    rintro _ w ⟨rfl, hS1⟩; clear hE a; intro a hE; replace hS := hS.frame hS1; clear hS1; try simp only [List.cons_append, List.nil_append] at hS
    refine s_eql hE rfl rfl rfl ?_
    clear hE a; intro a hE
    refine wpList_nil ?_
    refine then_normal ?_
    refine wp_mono (?_ : Code.wp _ _ (fun e a w => e = .normal ∧ ∃ (ee : Int) (D2 : DM) (W' : WM), D2.atN (2100 + 20 * k + 40) ∧ D2.safe.length = 18 ∧ W'.broken = false ∧ LaidT (D2.crash o.keep).safe W' ∧
        ((ee = 6 ∧ W' = W) ∨ (ee = 0 ∧ W' = W.next o) ∨ (ee = 9 ∧ (W' = W ∨ W' = W.next o))) ∧
      St w0 w [hBlk g9 37 [sx, sy], hStt sx sy (W.list.headD []) W.list.tail, hDk gd D2, hBlk g4 33 o.cells] ∧
      Env 162 [(2, .slice A2 l2.length c2), (4, .pointer (some ⟨g4, 0, none⟩)), (7, .pointer (some ⟨gd, 0, none⟩)), (9, .pointer (some ⟨g9, 0, none⟩)), (13, .int .i64 ee)] a) _ _) ?_
    · by_cases hk : o.k = 1
      · have hnx : W.next o = W.anew o.b := if_pos hk
        repeat' (first

          | (with_reducible refine c_region ?_)
          | ((with_reducible refine g_move ?_); refine s_move hE rfl rfl ?_; clear hE a; intro a hE)
          | ((with_reducible refine g_cond ?_); refine c_dec hE rfl (fun hc => ?_) (fun hc => ?_) <;> try omega)
          | ((with_reducible refine g_load ?_); (first | (refine s_loadW (k := 4) hS hE rfl rfl rfl rfl ?_) ); clear hE a; intro a hE)
          )
        refine s_call hE rfl rfl rfl (obytes o hzw w) ?_
        rintro _ w ⟨A5, c5, rfl, hS1⟩; clear hE a; intro a hE; replace hS := hS.frame hS1; clear hS1; try simp only [List.cons_append, List.nil_append] at hS
        obtain ⟨W2, b1, b2, b3⟩ := chk_cut (b := o.b) hL q1 q2 hWb (by omega) hob (by omega) o.keep
        have hat2 := chk_atN (W := W) q5 hob (by omega)
        have hln := chk_len W D1 o.b
        have hap := kchk (m := 2100 + 20 * k) (w0 := w0) (w := w) (H := [hRow 5 1 A5 o.b.length c5 (bys o.b), hBlk g9 37 [sx, sy], hStt sx sy (W.list.headD []) W.list.tail, hBlk g4 33 o.cells]) gw gd W D1 o.b A5 c5 hL.ok hob (by omega) (fun w' L h => (h.perm (List.perm_append_comm (l₁ := L))).rd) q5 (by omega) (St.selD [4, 1, 0, 0, 0, 0] 0 hS)
        refine s_call hE rfl rfl rfl hap ?_
        clear hap
        rintro _ w ⟨rfl, hS⟩; clear hE a; intro a hE
        generalize W.chk D1 o.b = R at b2 b3 hat2 hln hE hS
        obtain ⟨_, D2, ee⟩ := R
        dsimp only at b2 b3 hat2 hln hE hS
        repeat' (first

          | (with_reducible refine wpList_nil ?_)
          | ((with_reducible refine g_assign ?_); refine s_assign hE rfl rfl ?_; clear hE a; intro a hE)
          )
        rw [hnx]
        exact ⟨rfl, ee, D2, W2, hat2.mono (by omega), by omega, b1, b2, b3, (St.selD [3, 3, 1, 2] 2 hS), hE.sub ⟨rfl, rfl, rfl, rfl, rfl, trivial⟩⟩
      · have hnx : W.next o = W.push o.b := if_neg hk
        repeat' (first

          | (with_reducible refine c_region ?_)
          | ((with_reducible refine g_move ?_); refine s_move hE rfl rfl ?_; clear hE a; intro a hE)
          | ((with_reducible refine g_cond ?_); refine c_dec hE rfl (fun hc => ?_) (fun hc => ?_) <;> try omega)
          | ((with_reducible refine g_load ?_); (first | (refine s_loadW (k := 4) hS hE rfl rfl rfl rfl ?_) ); clear hE a; intro a hE)
          )
        refine s_call hE rfl rfl rfl (obytes o hzw w) ?_
        rintro _ w ⟨A5, c5, rfl, hS1⟩; clear hE a; intro a hE; replace hS := hS.frame hS1; clear hS1; try simp only [List.cons_append, List.nil_append] at hS
        obtain ⟨W2, b1, b2, b3⟩ := app_cut (b := o.b) hL q1 q2 hWb hob (by omega) o.keep
        have hat2 := app_atN (W := W) q5 hob (by omega)
        have hln := app_len W D1 o.b
        have hap := kapp (m := 2100 + 20 * k) (w0 := w0) (w := w) (H := [hRow 5 1 A5 o.b.length c5 (bys o.b), hBlk g9 37 [sx, sy], hStt sx sy (W.list.headD []) W.list.tail, hBlk g4 33 o.cells]) gw gd W D1 o.b A5 c5 hL.ok hob (by omega) (fun w' L h => (h.perm (List.perm_append_comm (l₁ := L))).rd) q5 (by omega) (St.selD [4, 1, 0, 0, 0, 0] 0 hS)
        refine s_call hE rfl rfl rfl hap ?_
        clear hap
        rintro _ w ⟨rfl, hS⟩; clear hE a; intro a hE
        generalize W.app D1 o.b = R at b2 b3 hat2 hln hE hS
        obtain ⟨_, D2, ee⟩ := R
        dsimp only at b2 b3 hat2 hln hE hS
        repeat' (first

          | (with_reducible refine wpList_nil ?_)
          | ((with_reducible refine g_assign ?_); refine s_assign hE rfl rfl ?_; clear hE a; intro a hE)
          )
        rw [hnx]
        exact ⟨rfl, ee, D2, W2, hat2.mono (by omega), by omega, b1, b2, b3, (St.selD [3, 3, 1, 2] 2 hS), hE.sub ⟨rfl, rfl, rfl, rfl, rfl, trivial⟩⟩
    have hLW := hL.ok
    clear hE a hS hat hcl hp q1 q2 q3 q4 q5 hsl hL
    rintro _ a w ⟨rfl, ee, D2, W', hat, hsl, hWb', hL', hee, hS, hE⟩
    refine then_normal ?_
    refine wp_seq ?_
    refine wp_mono (?_ : Code.wp _ _ (fun e a w => e = .normal ∧ ∃ (Wn : WM) (sx sy : Value), Wn.ok ∧ (W' = Wn ∨ (ee = 9 ∧ Wn = W ∧ W' = W.next o)) ∧
      St w0 w [hBlk g9 37 [sx, sy], hStt sx sy (Wn.list.headD []) Wn.list.tail, hDk gd D2, hBlk g4 33 o.cells] ∧
      Env 162 [(2, .slice A2 l2.length c2), (4, .pointer (some ⟨g4, 0, none⟩)), (7, .pointer (some ⟨gd, 0, none⟩)), (9, .pointer (some ⟨g9, 0, none⟩)), (13, .int .i64 ee)] a) _ _) ?_
    · by_cases he : ee = 0
      · subst he
        obtain rfl : W' = W.next o := by
          rcases hee with ⟨h, _⟩ | ⟨_, h⟩ | ⟨h, _⟩
          · exact absurd h (by decide)
          · exact h
          · exact absurd h (by decide)
        repeat' (first

          | (with_reducible refine wp_seq ?_)
          | (with_reducible refine c_region ?_)
          | (with_reducible refine wpList_nil ?_)
          | (with_reducible refine then_normal ?_)
          | ((with_reducible refine g_move ?_); refine s_move hE rfl rfl ?_; clear hE a; intro a hE)
          | ((with_reducible refine g_bin .eql ?_); refine s_eql hE rfl rfl rfl ?_; clear hE a; intro a hE)
          | ((with_reducible refine g_cond ?_); refine c_true hE rfl ?_)
          | ((with_reducible refine g_load ?_); (first | (refine s_loadW (k := 0) hS hE rfl rfl rfl rfl ?_) | (refine s_loadW (k := 3) hS hE rfl rfl rfl rfl ?_) ); clear hE a; intro a hE)
          )
        refine s_call hE rfl rfl rfl (after o hzw (by omega) (hS.focus (k := 1) rfl)) ?_
        rintro _ w ⟨x', y', rfl, hS⟩; clear hE a; intro a hE
        rw [hafn] at hS
        simp only [List.eraseIdx_cons_succ, List.eraseIdx_cons_zero] at hS
        have hxy' := hStt_one hS
        have hxyl' : [x', y'].length = 2 := rfl
        repeat' (first

          | (with_reducible refine wpList_nil ?_)
          | ((with_reducible refine g_store ?_); (first | (refine s_storeW (k := 1) hS hE rfl rfl rfl rfl rfl (by first | assumption ) ?_) ); clear hS; intro w hS; simp only [List.set_cons_zero, List.set_cons_succ, Nat.add_zero] at hS)
          )
        exact ⟨rfl, W.next o, x', y', hL'.ok, .inl rfl, (St.selD [1, 0, 0, 0] 0 hS), hE.sub ⟨rfl, rfl, rfl, rfl, rfl, trivial⟩⟩
      · repeat' (first

          | (with_reducible refine wp_seq ?_)
          | (with_reducible refine c_region ?_)
          | (with_reducible refine wpList_nil ?_)
          | (with_reducible refine then_normal ?_)
          | (with_reducible refine wp_skip ?_)
          | ((with_reducible refine g_move ?_); refine s_move hE rfl rfl ?_; clear hE a; intro a hE)
          | ((with_reducible refine g_bin .eql ?_); refine s_eql hE rfl rfl rfl ?_; clear hE a; intro a hE)
          | ((with_reducible refine g_cond ?_); refine c_dec hE rfl (fun hc => ?_) (fun hc => ?_) <;> try omega)
          )
        refine ⟨rfl, W, sx, sy, hLW, ?_, hS, hE.sub ⟨rfl, rfl, rfl, rfl, rfl, trivial⟩⟩
        rcases hee with ⟨_, h⟩ | ⟨h, _⟩ | ⟨h, h2 | h2⟩
        · exact .inl h
        · exact absurd h he
        · exact .inl h2
        · exact .inr ⟨h, rfl, h2⟩
    clear hE a hS hxy hxyl
    rintro _ a w ⟨rfl, Wn, sx, sy, hWn, hWW, hS, hE⟩
    have hxy : ∀ v ∈ [sx, sy], v.oneCell' = true := hStt_one hS.p1
    have hxyl : [sx, sy].length = 2 := rfl
    rw [ho4] at hS
    repeat' (first

      | (with_reducible refine wp_seq ?_)
      | (with_reducible refine c_region ?_)
      | (with_reducible refine then_normal ?_)
      | ((with_reducible refine g_move ?_); refine s_move hE rfl rfl ?_; clear hE a; intro a hE)
      | ((with_reducible refine g_fa ?_); refine s_fieldL hE rfl rfl rfl ?_; clear hE a; intro a hE)
      | ((with_reducible refine g_load ?_); (first | (refine s_loadB (k := 4) hS hE rfl rfl rfl rfl ?_) ); clear hE a; intro a hE)
      | ((with_reducible refine g_lit ?_); refine s_lit hE hS rfl rfl rfl rfl rfl (by first | (simp [Value.oneCell']; done)) rfl ?_; clear hE a hS; intro g a w hE hS)
      )
    refine s_appendAt0 (k := 0) hE hS rfl rfl rfl (hzr.st hS) (by rw [List.length_map, Nat.mul_one]) (fun v hv => by obtain ⟨x, _, rfl⟩ := List.mem_map.1 hv; rfl) (by omega) rfl rfl rfl rfl ?_
    clear hS hE a; intro A8 c8 a w hE hS
    simp only [List.set_cons_zero, List.set_cons_succ] at hS
    refine s_call hE rfl rfl rfl (kcrash A8 c8 o.keep hat.ok (fun w' L h => (h.perm (List.perm_append_comm (l₁ := L))).rd) (by omega) (hS.focus (k := 3) rfl)) ?_
    rintro _ w ⟨rfl, hS⟩; clear hE a; intro a hE
    simp only [List.eraseIdx_cons_succ, List.eraseIdx_cons_zero] at hS
    obtain ⟨p1, p2, p3⟩ := crash_calm D2 o.keep
    have p4 := crash_atN hat o.keep
    have p5 : (D2.crash o.keep).safe.length = 18 := by rw [p3, lay_length]; omega
    generalize D2.crash o.keep = D3 at hL' p1 p2 p4 p5 hS
    replace hS := (St.selD [0, 1, 1, 1] 1 hS)
    rw [← ho4] at hS
    repeat' (first

      | (with_reducible refine wp_seq ?_)
      | (with_reducible refine c_region ?_)
      | (with_reducible refine wpList_nil ?_)
      | (with_reducible refine then_normal ?_)
      | (with_reducible refine wp_skip ?_)
      | ((with_reducible refine g_move ?_); refine s_move hE rfl rfl ?_; clear hE a; intro a hE)
      | ((with_reducible refine g_bin .neq ?_); refine s_neq hE rfl rfl rfl ?_; clear hE a; intro a hE)
      | ((with_reducible refine g_cond ?_); refine c_false hE rfl ?_)
      )
    refine s_call hE rfl rfl rfl (opened A2 c2 l2 W' hWb' hcap2 hbig2 hr2 hall2 hL' p1 p2 p4 (by omega) (by omega) hS) ?_
    rintro _ w ⟨gx, D4, rfl, x1, x2, x3, x4, x5, hS⟩; clear hE a; intro a hE
    rw [p5] at x5
    have hWk := x3.ok
    have hbsW := tail_bs hWk
    have htlW := tail_len hWk
    have hbsN := tail_bs hWn
    have htlN := tail_len hWn
    repeat' (first

      | (with_reducible refine wp_seq ?_)
      | (with_reducible refine c_region ?_)
      | (with_reducible refine wpList_nil ?_)
      | (with_reducible refine then_normal ?_)
      | (with_reducible refine wp_skip ?_)
      | ((with_reducible refine g_move ?_); refine s_move hE rfl rfl ?_; clear hE a; intro a hE)
      | ((with_reducible refine g_assign ?_); refine s_assign hE rfl rfl ?_; clear hE a; intro a hE)
      | ((with_reducible refine g_cond ?_); refine c_false hE rfl ?_)
      | ((with_reducible refine g_bin .eql ?_); refine s_val hE rfl rfl rfl (r_eqp hE rfl rfl) ?_; clear hE a; intro a hE)
      )
    refine s_call hE rfl rfl rfl (told hWk hS) ?_
    rintro _ w ⟨tx, ty, rfl, hS⟩; clear hE a; intro a hE
    have htxy := hStt_one hS
    have htxyl : [tx, ty].length = 2 := rfl
    repeat' (first

      | (with_reducible refine wp_seq ?_)
      | (with_reducible refine wpList_nil ?_)
      | (with_reducible refine then_normal ?_)
      | ((with_reducible refine g_alloc ?_); refine s_allocS hE hS rfl rfl ?_; clear hE a hS; intro g a w hE hS)
      | ((with_reducible refine g_store ?_); (first | (refine s_storeW (k := 0) hS hE rfl rfl rfl rfl rfl (by first | assumption ) ?_) ); clear hS; intro w hS; simp only [List.set_cons_zero, List.set_cons_succ, Nat.add_zero] at hS)
      )
    obtain ⟨g15, rfl⟩ : ∃ x, x = g := ⟨_, rfl⟩
    have hS2 : St w0 w [hBlk g15 37 [tx, ty], hBlk g9 37 [sx, sy], hBlk g4 33 o.cells, hStt tx ty (W'.list.headD []) W'.list.tail, hStt sx sy (Wn.list.headD []) Wn.list.tail, hWl gx gd W', hDk gd D4] := (St.selD [0, 3, 4, 0, 2, 0, 0] 0 hS)
    clear hS; have hS := hS2; clear hS2
    refine wp_mono (?_ : Code.wp _ _ (fun e a w => e = .normal ∧ St w0 w [hBlk g15 37 [tx, ty], hStt tx ty (W'.list.headD []) W'.list.tail, hWl gx gd W', hDk gd D4] ∧
      Env 162 [(7, .pointer (some ⟨gd, 0, none⟩)), (15, .pointer (some ⟨g15, 0, none⟩)), (117, .bool false)] a) _ _) ?_
    · refine c_ordH [hBlk g15 37 [tx, ty], hBlk g9 37 [sx, sy], hBlk g4 33 o.cells] hS (fun u hu => hu.keep3) 16 ((.rd 0 (.rd 1 (.ef 2 (.rd 3 (.rd 4 (.rd 5 (.rd 6 (.rd 7 (.rd 8 (.rd 9 (.rd 10 (.ef 11 (.ef 12 (.rd 13 (.rd 14 (.rd 15 .done))))))))))))))))) mixed (by decide +kernel) ?_
      clear hS; intro w hF hS
      repeat' (first
        | (with_reducible refine o_rd rfl ?_)
        | ((with_reducible refine q_load ?_); (first | (refine d_val hE hS rfl (fun w hS => r_loadW (k := 0) hS hE rfl rfl rfl) ?_) | (refine d_val hE hS rfl (fun w hS => r_loadW (k := 1) hS hE rfl rfl rfl) ?_) ); clear hE a; intro a hE)
        | ((with_reducible refine o_ef rfl ?_))
        )
      refine s_call hE rfl rfl rfl (sameS hbsW hbsN (by omega) (by omega) (St.selD [3, 3, 0, 0, 0, 0, 0] 0 hF)) ?_
      rintro _ w ⟨rfl, hS1⟩; clear hE a; intro a hE; replace hF := hF.frame hS1; clear hS1; simp only [List.nil_append] at hF
      refine wpList_nil ?_
      refine o_back _ (fun _ h => h) hF.keep3 ?_
      clear hS; have hS := hF.keep3
      by_cases hsm : W'.list.headD [] = Wn.list.headD [] ∧ W'.list.tail = Wn.list.tail
      · rw [decide_eq_true hsm] at hE
        repeat' (first
          | (with_reducible refine o_rd rfl ?_)
          | ((with_reducible refine q_move ?_); refine d_val hE hS rfl (fun w hS => r_move hE rfl) ?_; clear hE a; intro a hE)
          | ((with_reducible refine q_un .not ?_); refine d_val hE hS rfl (fun w hS => r_notb hE rfl) ?_; clear hE a; intro a hE)
          | ((with_reducible refine q_guard ?_); refine d_no hE hS rfl rfl rfl rfl ?_; clear hE a; intro a hE)
          | ((with_reducible refine q_guard ?_); refine d_un hE hS rfl rfl rfl ?_; clear hE a; intro a hE)
          | ((with_reducible refine o_ef rfl ?_))
          )
        refine gd_un hE rfl rfl rfl ?_
        clear hE a; intro a hE
        refine wpList_nil ?_
        refine o_back _ (fun _ h => h) hS ?_
        repeat' (first
          | ((with_reducible refine o_ef rfl ?_))
          )
        refine gd_un hE rfl rfl rfl ?_
        clear hE a; intro a hE
        refine wpList_nil ?_
        refine o_back _ (fun _ h => h) hS ?_
        repeat' (first
          | (with_reducible refine o_rd rfl ?_)
          | (with_reducible refine o_done ?_)
          | ((with_reducible refine q_guard ?_); refine d_no hE hS rfl rfl rfl rfl ?_; clear hE a; intro a hE)
          | ((with_reducible refine q_guard ?_); refine d_un hE hS rfl rfl rfl ?_; clear hE a; intro a hE)
          | ((with_reducible refine q_pick ?_); refine d_val hE hS rfl (fun w hS => r_pickF hE rfl rfl) ?_; clear hE a; intro a hE)
          )
        exact ⟨rfl, (St.selD [0, 2, 3, 3] 3 hF), hE.sub ⟨rfl, rfl, rfl, trivial⟩⟩
      · rw [decide_eq_false hsm] at hE
        obtain ⟨h9, hWn2, hW⟩ : ee = 9 ∧ Wn = W ∧ W' = W.next o := by
          rcases hWW with h | h
          · exact absurd ⟨by rw [h], by rw [h]⟩ hsm
          · exact h
        have hafm : afterP (Wn.list.headD []) Wn.list.tail o = (W'.list.headD [], W'.list.tail) := by rw [hWn2, hafn, hW]
        rw [h9] at hE
        repeat' (first
          | (with_reducible refine o_rd rfl ?_)
          | ((with_reducible refine q_move ?_); refine d_val hE hS rfl (fun w hS => r_move hE rfl) ?_; clear hE a; intro a hE)
          | ((with_reducible refine q_bin .neq ?_); refine d_val hE hS rfl (fun w hS => r_neq hE rfl rfl) ?_; clear hE a; intro a hE)
          | ((with_reducible refine q_un .not ?_); refine d_val hE hS rfl (fun w hS => r_notb hE rfl) ?_; clear hE a; intro a hE)
          | ((with_reducible refine q_guard ?_); refine d_yes hE rfl rfl rfl ?_)
          | ((with_reducible refine q_load ?_); (first | (refine d_val hE hS rfl (fun w hS => r_loadW (k := 0) hS hE rfl rfl rfl) ?_) | (refine d_val hE hS rfl (fun w hS => r_loadW (k := 1) hS hE rfl rfl rfl) ?_) | (refine d_val hE hS rfl (fun w hS => r_loadW (k := 2) hS hE rfl rfl rfl) ?_) ); clear hE a; intro a hE)
          | ((with_reducible refine o_ef rfl ?_))
          )
        refine gd_yes hE rfl rfl (by decide) ?_
        refine s_call hE rfl rfl rfl (after o hzw (by omega) (hF.focus (k := 4) rfl)) ?_
        rintro _ w ⟨x', y', rfl, hF⟩; clear hE a; intro a hE
        rw [hafm] at hF
        simp only [List.eraseIdx_cons_succ, List.eraseIdx_cons_zero] at hF
        refine wpList_nil ?_
        refine o_back _ (fun _ h => h) hF.tail.keep3 ?_
        clear hS; have hS := hF.tail.keep3
        repeat' (first
          | ((with_reducible refine o_ef rfl ?_))
          )
        refine gd_yes hE rfl rfl (by decide) ?_
        refine s_call hE rfl rfl rfl (sameS hbsW hbsW (by omega) (by omega) (St.selD [4, 0, 0, 0, 0, 0, 0] 0 hF)) ?_
        rintro _ w ⟨rfl, hS1⟩; clear hE a; intro a hE; replace hF := hF.frame hS1; clear hS1; simp only [List.nil_append] at hF
        rw [decide_eq_true (⟨rfl, rfl⟩ : W'.list.headD [] = W'.list.headD [] ∧ W'.list.tail = W'.list.tail)] at hE
        refine wpList_nil ?_
        refine o_back _ (fun _ h => h) hF.tail.keep3 ?_
        clear hS; have hS := hF.tail.keep3
        repeat' (first
          | (with_reducible refine o_rd rfl ?_)
          | (with_reducible refine o_done ?_)
          | ((with_reducible refine q_un .not ?_); refine d_val hE hS rfl (fun w hS => r_notb hE rfl) ?_; clear hE a; intro a hE)
          | ((with_reducible refine q_guard ?_); refine d_yes hE rfl rfl rfl ?_)
          | ((with_reducible refine q_pick ?_); refine d_val hE hS rfl (fun w hS => r_pickT hE rfl rfl) ?_; clear hE a; intro a hE)
          | ((with_reducible refine q_pick ?_); refine d_val hE hS rfl (fun w hS => r_pickF hE rfl rfl) ?_; clear hE a; intro a hE)
          )
        exact ⟨rfl, (St.selD [1, 3, 3, 3] 3 hF), hE.sub ⟨rfl, rfl, rfl, trivial⟩⟩
    clear hE a hS
    rintro _ a w ⟨rfl, hS, hE⟩
    repeat' (first

      | (with_reducible refine wp_seq ?_)
      | (with_reducible refine c_region ?_)
      | (with_reducible refine then_normal ?_)
      | (with_reducible refine wp_skip ?_)
      | ((with_reducible refine g_move ?_); refine s_move hE rfl rfl ?_; clear hE a; intro a hE)
      | ((with_reducible refine g_cond ?_); refine c_false hE rfl ?_)
      )
    obtain ⟨D5, y1, y2⟩ := opn_again x3 x1.alive x2 hWb'
    obtain ⟨z1, z2, _⟩ := opn_atN x4 (by omega) (by omega)
    rw [x5] at z1 z2
    have hopn := kopn x4 (by omega) (hS.focus (k := 3) rfl)
    rw [y2] at hopn z1 z2
    dsimp only at z1 z2
    refine s_call hE rfl rfl rfl hopn ?_
    clear hopn
    rintro _ w (⟨W4, gy, hW, _, rfl, hS⟩ | ⟨hW, _⟩)
    rotate_left
    · cases hW
    obtain rfl : W' = W4 := Option.some.inj hW
    clear hE a; intro a hE
    simp only [List.eraseIdx_cons_succ, List.eraseIdx_cons_zero] at hS
    have w1 : D5.calm := by rw [y1]; exact ⟨x1.dead, x1.armed, x1.fails⟩
    have w2 : D5.pend = [] := by rw [y1]; exact x2
    have w3 : Clean D5.safe W' := by rw [show D5.safe = D4.safe from by rw [y1]]; exact x3
    repeat' (first

      | (with_reducible refine wp_seq ?_)
      | (with_reducible refine wpList_nil ?_)
      | (with_reducible refine then_normal ?_)
      | ((with_reducible refine g_move ?_); refine s_move hE rfl rfl ?_; clear hE a; intro a hE)
      | ((with_reducible refine g_assign ?_); refine s_assign hE rfl rfl ?_; clear hE a; intro a hE)
      | ((with_reducible refine g_extract ?_); refine s_extract hE rfl rfl rfl ?_; clear hE a; intro a hE)
      )
    have hS2 : St w0 w [hBlk g15 37 [tx, ty], hStt tx ty (W'.list.headD []) W'.list.tail, hWl gy gd W', hDk gd D5] := (St.selD [2, 2, 0, 0] 1 hS)
    clear hS; have hS := hS2; clear hS2
    refine wp_mono (?_ : Code.wp _ _ (fun e a w => e = .normal ∧ St w0 w [hBlk g15 37 [tx, ty], hStt tx ty (W'.list.headD []) W'.list.tail, hWl gy gd W', hDk gd D5] ∧
      Env 162 [(7, .pointer (some ⟨gd, 0, none⟩)), (15, .pointer (some ⟨g15, 0, none⟩)), (16, .pointer (some ⟨gy, 0, none⟩)), (137, .bool false)] a) _ _) ?_
    · refine c_ordH [hBlk g15 37 [tx, ty]] hS (fun u hu => hu.only 0 rfl) 15 ((.rd 0 (.rd 1 (.rd 2 (.rd 3 (.rd 5 (.ef 4 (.ef 6 (.rd 7 (.rd 8 (.rd 9 (.rd 10 (.ef 11 (.rd 12 (.rd 13 (.rd 14 .done)))))))))))))))) mixed (by decide +kernel) ?_
      clear hS; intro w hF hS
      repeat' (first
        | (with_reducible refine o_rd rfl ?_)
        | ((with_reducible refine q_move ?_); refine d_val hE hS rfl (fun w hS => r_move hE rfl) ?_; clear hE a; intro a hE)
        | ((with_reducible refine q_bin .neq ?_); refine d_val hE hS rfl (fun w hS => r_neq hE rfl rfl) ?_; clear hE a; intro a hE)
        | ((with_reducible refine q_guard ?_); refine d_yes hE rfl rfl rfl ?_)
        | ((with_reducible refine q_load ?_); (first | (refine d_val hE hS rfl (fun w hS => r_loadW (k := 0) hS hE rfl rfl rfl) ?_) ); clear hE a; intro a hE)
        | ((with_reducible refine o_ef rfl ?_))
        )
      refine gd_yes hE rfl rfl (by decide) ?_
      refine s_call hE rfl rfl rfl (told hWk (hF.focus (k := 2) rfl)) ?_
      rintro _ w ⟨ux, uy, rfl, hF⟩; clear hE a; intro a hE
      simp only [List.eraseIdx_cons_succ, List.eraseIdx_cons_zero] at hF
      refine wpList_nil ?_
      refine o_back _ (fun _ h => h) (hF.only 2 rfl) ?_
      clear hS; have hS := hF.only 2 rfl
      repeat' (first
        | ((with_reducible refine o_ef rfl ?_))
        )
      refine gd_yes hE rfl rfl (by decide) ?_
      refine s_call hE rfl rfl rfl (sameS hbsW hbsW (by omega) (by omega) (St.selD [0, 2, 0, 0, 0] 0 hF)) ?_
      rintro _ w ⟨rfl, hS1⟩; clear hE a; intro a hE; replace hF := hF.frame hS1; clear hS1; simp only [List.nil_append] at hF
      rw [decide_eq_true (⟨rfl, rfl⟩ : W'.list.headD [] = W'.list.headD [] ∧ W'.list.tail = W'.list.tail)] at hE
      refine wpList_nil ?_
      refine o_back _ (fun _ h => h) (hF.only 2 rfl) ?_
      clear hS; have hS := hF.only 2 rfl
      repeat' (first
        | (with_reducible refine o_rd rfl ?_)
        | ((with_reducible refine q_move ?_); refine d_val hE hS rfl (fun w hS => r_move hE rfl) ?_; clear hE a; intro a hE)
        | ((with_reducible refine q_un .not ?_); refine d_val hE hS rfl (fun w hS => r_notb hE rfl) ?_; clear hE a; intro a hE)
        | ((with_reducible refine q_guard ?_); refine d_yes hE rfl rfl rfl ?_)
        | ((with_reducible refine q_pick ?_); refine d_val hE hS rfl (fun w hS => r_pickF hE rfl rfl) ?_; clear hE a; intro a hE)
        | ((with_reducible refine o_ef rfl ?_))
        )
      refine gd_yes hE rfl rfl (by decide) ?_
      refine s_call hE rfl rfl rfl (kpending z1 (hF.focus (k := 4) rfl)) ?_
      rintro _ w ⟨A9, c9, rfl, hF⟩; clear hE a; intro a hE
      rw [w2] at hE
      simp only [List.eraseIdx_cons_succ, List.eraseIdx_cons_zero] at hF
      refine wpList_nil ?_
      refine o_back _ (fun _ h => h) (hF.only 4 rfl) ?_
      clear hS; have hS := hF.only 4 rfl
      repeat' (first
        | (with_reducible refine o_rd rfl ?_)
        | (with_reducible refine o_done ?_)
        | ((with_reducible refine q_bin .neq ?_); refine d_val hE hS rfl (fun w hS => r_neq hE rfl rfl) ?_; clear hE a; intro a hE)
        | ((with_reducible refine q_blt .len ?_); refine d_val hE hS rfl (fun w hS => r_len hE rfl) ?_; clear hE a; intro a hE)
        | ((with_reducible refine q_guard ?_); refine d_yes hE rfl rfl rfl ?_)
        | ((with_reducible refine q_pick ?_); refine d_val hE hS rfl (fun w hS => r_pickF hE rfl rfl) ?_; clear hE a; intro a hE)
        )
      exact ⟨rfl, (St.selD [4, 4, 3, 1] 2 hF), hE.sub ⟨rfl, rfl, rfl, rfl, trivial⟩⟩
    clear hE a hS
    rintro _ a w ⟨rfl, hS, hE⟩
    repeat' (first

      | (with_reducible refine wp_seq ?_)
      | (with_reducible refine c_region ?_)
      | (with_reducible refine wpList_nil ?_)
      | (with_reducible refine then_normal ?_)
      | (with_reducible refine wp_skip ?_)
      | ((with_reducible refine g_move ?_); refine s_move hE rfl rfl ?_; clear hE a; intro a hE)
      | ((with_reducible refine g_cond ?_); refine c_false hE rfl ?_)
      | ((with_reducible refine g_alloc ?_); refine s_allocS hE hS rfl rfl ?_; clear hE a hS; intro g a w hE hS)
      | ((with_reducible refine g_build ?_); refine s_build [_, _, _, _] hE rfl rfl rfl ?_; clear hE a; intro a hE)
      | ((with_reducible refine g_load ?_); (first | (refine s_loadW (k := 0) hS hE rfl rfl rfl rfl ?_) ); clear hE a; intro a hE)
      | ((with_reducible refine g_store ?_); (first | (refine s_storeW (k := 0) hS hE rfl rfl rfl rfl rfl (by first | (simp [Value.oneCell']; done)) ?_) ); clear hS; intro w hS; simp only [List.set_cons_zero, List.set_cons_succ, Nat.add_zero] at hS)
      )
    obtain ⟨g17, rfl⟩ : ∃ x, x = g := ⟨_, rfl⟩
    obtain ⟨o5, ho5⟩ : ∃ o5 : WOp, o5 = ⟨0, 60, 9, none, 0, []⟩ := ⟨_, rfl⟩
    have hw5 : o5.wf := by
      rw [ho5]
      exact ⟨(by decide : (-9223372036854775808 : Int) ≤ 0 ∧ (0 : Int) ≤ 9223372036854775807), (by decide : (-9223372036854775808 : Int) ≤ 60 ∧ (60 : Int) ≤ 9223372036854775807), (by decide : 9 < 256), (by decide : (0 : Nat) ≤ 0 ∧ 0 ≤ 140737488351232)⟩
    have hk5 : ¬ o5.k = 1 := by rw [ho5]; decide
    have hc5 : [Value.int .i64 0, Value.int .i64 60, Value.int .u8 9, Value.slice none 0 0] = o5.cells := by rw [ho5]; rfl
    have ha5 : Value.agg #[Value.int .i64 0, Value.int .i64 60, Value.int .u8 9, Value.slice none 0 0] = .agg o5.cells.toArray := by rw [← hc5]
    rw [ha5] at hE
    rw [hc5] at hS
    have hnx : W'.next o5 = W'.push o5.b := if_neg hk5
    have hafn := after_next hWk o5
    have hvl5 := cells_four o5
    have hone5 := cells_one o5
    have hob5 := o5.b_bs
    have hol5 := o5.b_lt
    have hsn5 := secN_pos (n := o5.b.length) (by omega)
    clear ha5 hc5 ho5
    refine s_call hE rfl rfl rfl (obytes o5 hw5 w) ?_
    rintro _ w ⟨A5, c5, rfl, hS1⟩; clear hE a; intro a hE; replace hS := hS.frame hS1; clear hS1; try simp only [List.cons_append, List.nil_append] at hS
    obtain ⟨b0, b1, b2, b3, b4, b5⟩ := app_keep (b := o5.b) w3.laid w1 w2 hWb' hob5 (by omega)
    have hat2 := app_atN (W := W') z1 hob5 (by omega)
    have hln := app_len W' D5 o5.b
    have hap := kapp (w0 := w0) (w := w) (H := [hRow 5 1 A5 o5.b.length c5 (bys o5.b), hBlk g17 33 o5.cells, hBlk g15 37 [tx, ty], hStt tx ty (W'.list.headD []) W'.list.tail]) gy gd W' D5 o5.b A5 c5 hWk hob5 (by omega) (fun w' L h => (h.perm (List.perm_append_comm (l₁ := L))).rd) z1 (by omega) (St.selD [4, 4, 0, 0, 0, 0] 0 hS)
    refine s_call hE rfl rfl rfl hap ?_
    clear hap
    rintro _ w ⟨rfl, hS⟩; clear hE a; intro a hE
    generalize W'.app D5 o5.b = R at b0 b1 b2 b3 b4 b5 hat2 hln hE hS
    obtain ⟨W6, D6, e6⟩ := R
    dsimp only at b0 b1 b2 b3 b4 b5 hat2 hln hE hS
    refine s_eql hE rfl rfl rfl ?_
    clear hE a; intro a hE
    refine wpList_nil ?_
    refine then_normal ?_
    refine wp_mono (?_ : Code.wp _ _ (fun e a w => e = .normal ∧ ∃ tx ty : Value, St w0 w [hBlk g15 37 [tx, ty], hStt tx ty (W6.list.headD []) W6.list.tail, hDk gd D6] ∧
      Env 162 [(7, .pointer (some ⟨gd, 0, none⟩)), (15, .pointer (some ⟨g15, 0, none⟩))] a) _ _) ?_
    · rcases b0 with ⟨_, rfl, rfl⟩ | ⟨_, rfl, rfl⟩
      · repeat' (first

          | (with_reducible refine wp_skip ?_)
          | ((with_reducible refine g_cond ?_); refine c_false hE rfl ?_)
          )
        exact ⟨rfl, tx, ty, (St.selD [4, 4, 1] 3 hS), hE.sub ⟨rfl, rfl, trivial⟩⟩
      · repeat' (first

          | (with_reducible refine c_region ?_)
          | ((with_reducible refine g_cond ?_); refine c_true hE rfl ?_)
          | ((with_reducible refine g_load ?_); (first | (refine s_loadW (k := 3) hS hE rfl rfl rfl rfl ?_) | (refine s_loadW (k := 4) hS hE rfl rfl rfl rfl ?_) ); clear hE a; intro a hE)
          )
        refine s_call hE rfl rfl rfl (after o5 hw5 (by omega) (hS.focus (k := 5) rfl)) ?_
        rintro _ w ⟨x', y', rfl, hS⟩; clear hE a; intro a hE
        rw [hafn, hnx] at hS
        simp only [List.eraseIdx_cons_succ, List.eraseIdx_cons_zero] at hS
        have hxy' := hStt_one hS
        have hxyl' : [x', y'].length = 2 := rfl
        repeat' (first

          | (with_reducible refine wpList_nil ?_)
          | ((with_reducible refine g_store ?_); (first | (refine s_storeW (k := 5) hS hE rfl rfl rfl rfl rfl (by first | assumption ) ?_) ); clear hS; intro w hS; simp only [List.set_cons_zero, List.set_cons_succ, Nat.add_zero] at hS)
          )
        exact ⟨rfl, x', y', (St.selD [5, 0, 1] 3 hS), hE.sub ⟨rfl, rfl, trivial⟩⟩
    clear hE a hS htxy htxyl
    rintro _ a w ⟨rfl, tx, ty, hS, hE⟩
    have htxy : ∀ v ∈ [tx, ty], v.oneCell' = true := hStt_one hS.p1
    have htxyl : [tx, ty].length = 2 := rfl
    have hW6 := b5.ok
    have hbs6 := tail_bs hW6
    have htl6 := tail_len hW6
    repeat' (first

      | (with_reducible refine wp_seq ?_)
      | (with_reducible refine c_region ?_)
      | (with_reducible refine then_normal ?_)
      | ((with_reducible refine g_move ?_); refine s_move hE rfl rfl ?_; clear hE a; intro a hE)
      )
    refine s_call hE rfl rfl rfl (kcrash none 0 [] hat2.ok (fun w' L h => Rd.nil) (by decide) (hS.focus (k := 2) rfl)) ?_
    rintro _ w ⟨rfl, hS⟩; clear hE a; intro a hE
    simp only [List.eraseIdx_cons_succ, List.eraseIdx_cons_zero] at hS
    obtain ⟨v1, v2, _⟩ := crash_calm D6 []
    have v3 := crash_idle b4 []
    have v4 := crash_atN hat2 []
    rw [← v3] at b5
    have v5 : (D6.crash []).safe.length = 18 := by rw [v3]; omega
    generalize D6.crash [] = D7 at b5 v1 v2 v4 v5 hS
    repeat' (first

      | (with_reducible refine wp_seq ?_)
      | (with_reducible refine c_region ?_)
      | (with_reducible refine wpList_nil ?_)
      | (with_reducible refine then_normal ?_)
      | ((with_reducible refine g_move ?_); refine s_move hE rfl rfl ?_; clear hE a; intro a hE)
      )
    obtain ⟨⟨t1, t2, _⟩, _⟩ := opn_calm b5.torn v1 v2 b1
    refine s_call hE rfl rfl rfl (kopn v4 (by omega) hS) ?_
    rintro _ w (⟨W8, gz, hW, _, rfl, hS⟩ | ⟨hW, _⟩)
    rotate_left
    · rw [hW] at t1; cases t1
    obtain rfl : W6 = W8 := by rw [hW] at t1; exact (Option.some.inj t1).symm
    clear hE a; intro a hE
    repeat' (first

      | (with_reducible refine wp_seq ?_)
      | (with_reducible refine wpList_nil ?_)
      | (with_reducible refine then_normal ?_)
      | ((with_reducible refine g_move ?_); refine s_move hE rfl rfl ?_; clear hE a; intro a hE)
      | ((with_reducible refine g_assign ?_); refine s_assign hE rfl rfl ?_; clear hE a; intro a hE)
      | ((with_reducible refine g_extract ?_); refine s_extract hE rfl rfl rfl ?_; clear hE a; intro a hE)
      )
    refine c_ordK hS 2 rfl 8 ((.rd 0 (.rd 1 (.rd 2 (.rd 3 (.rd 5 (.ef 4 (.ef 6 (.rd 7 (.lt 8 .done)))))))))) mixed (by decide +kernel) ?_
    clear hS; intro w hF hS
    repeat' (first
      | (with_reducible refine o_rd rfl ?_)
      | ((with_reducible refine q_move ?_); refine d_val hE hS rfl (fun w hS => r_move hE rfl) ?_; clear hE a; intro a hE)
      | ((with_reducible refine q_bin .eql ?_); refine d_val hE hS rfl (fun w hS => r_eql hE rfl rfl) ?_; clear hE a; intro a hE)
      | ((with_reducible refine q_guard ?_); refine d_yes hE rfl rfl rfl ?_)
      | ((with_reducible refine q_load ?_); (first | (refine d_val hE hS rfl (fun w hS => r_loadW (k := 0) hS hE rfl rfl rfl) ?_) ); clear hE a; intro a hE)
      | ((with_reducible refine o_ef rfl ?_))
      )
    refine gd_yes hE rfl rfl (by decide) ?_
    refine s_call hE rfl rfl rfl (told hW6 hF) ?_
    rintro _ w ⟨ux, uy, rfl, hF⟩; clear hE a; intro a hE
    refine wpList_nil ?_
    refine o_back _ (fun _ h => h) (hF.only 3 rfl) ?_
    clear hS; have hS := hF.only 3 rfl
    repeat' (first
      | ((with_reducible refine o_ef rfl ?_))
      )
    refine gd_yes hE rfl rfl (by decide) ?_
    refine s_call hE rfl rfl rfl (sameS hbs6 hbs6 (by omega) (by omega) (St.selD [0, 3, 0, 0, 0] 0 hF)) ?_
    rintro _ w ⟨rfl, hS1⟩; clear hE a; intro a hE; replace hF := hF.frame hS1; clear hS1; simp only [List.nil_append] at hF
    rw [decide_eq_true (⟨rfl, rfl⟩ : W6.list.headD [] = W6.list.headD [] ∧ W6.list.tail = W6.list.tail)] at hE
    refine wpList_nil ?_
    refine o_back _ (fun _ h => h) (hF.only 3 rfl) ?_
    clear hS; have hS := hF.only 3 rfl
    repeat' (first
      | (with_reducible refine o_rd rfl ?_)
      | ((with_reducible refine q_pick ?_); refine d_val hE hS rfl (fun w hS => r_pickT hE rfl rfl) ?_; clear hE a; intro a hE)
      | ((with_reducible refine o_lt rfl ?_))
      )
    clear hS; have hS := hF; clear hF
    repeat' (first

      | (with_reducible refine wpList_nil ?_)
      | ((with_reducible refine g_assign ?_); refine s_assign hE rfl rfl ?_; clear hE a; intro a hE)
      )
    refine o_backL ?_
    repeat' (first
      | (with_reducible refine o_done ?_)
      )
    repeat' (first

      | (with_reducible refine then_normal ?_)
      | (with_reducible refine wp_ret ?_)
      )
    exact ret1 hE rfl rfl ⟨rfl, hS.nil⟩
end
end Go.Proofs.Ytfoeelghehjanaa
