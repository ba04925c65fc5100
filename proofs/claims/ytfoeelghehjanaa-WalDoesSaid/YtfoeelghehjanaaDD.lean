/-
  Contracts of disk: writes, syncs, crashes.
-/
import Derived.Test.YtfoeelghehjanaaDC
namespace Go.Proofs.Ytfoeelghehjanaa
open Go.RowKit
set_option linter.unusedVariables false
set_option linter.unusedSimpArgs false
attribute [local irreducible] Rd hRow hBlk hRd hAll Fn hMarks
attribute [local simp] Wr.cells

section
variable {g : Nat} {S : Option Addr} {c : Nat} {Q : Option Addr} {d : Nat} {D : DM} {H : List HP} {w0 w : World}
set_option maxHeartbeats 8000000
theorem sync11 (k : Int) (w0 : World) : Fn Try.prog 100 [.int .i64 k] w0 fun v w' => v = .bool true ∧ St w0 w' [] := by
  refine enter 3 Try.func100 rfl rfl rfl ?_
  intro a hE
  have hS := St.start w0
  repeat' (first

    | (with_reducible refine wp_seq ?_)
    | (with_reducible refine c_region ?_)
    | (with_reducible refine wpList_nil ?_)
    | (with_reducible refine then_normal ?_)
    | (with_reducible refine wp_ret ?_)
    | ((with_reducible refine g_assign ?_); refine s_assign hE rfl rfl ?_; clear hE a; intro a hE)
    )
  exact ret1 hE rfl rfl ⟨rfl, hS⟩
theorem sync1 (b : Nat) (hD : D.ok) (hS : St w0 w (dk g S c Q d D (hBlk b 25 [.pointer (some ⟨g, 0, none⟩)] :: H))) :
    Fn Try.prog 99 [.pointer (some ⟨b, 0, none⟩)] w fun _ w' => St w0 w' (dk g S c none 0 (D.settle fun _ => true) (hBlk b 25 [.pointer (some ⟨g, 0, none⟩)] :: H)) := by
  refine enter 3 Try.func99 rfl rfl rfl ?_
  intro a hE
  repeat' (first

    | (with_reducible refine c_region ?_)
    | ((with_reducible refine g_load ?_); (first | (refine s_loadB (k := 3) hS hE rfl rfl rfl rfl ?_) ); clear hE a; intro a hE)
    )
  refine s_call hE rfl rfl rfl (settle (fid := 100) (cap := []) (live := fun _ => true) hD hS fun k w L hk _ => sync11 k w) ?_
  intro v w hS; clear hE a; intro a hE
  repeat' (first

    | (with_reducible refine wpList_nil ?_)
    )
  exact end0 hE rfl hS
theorem sync (hD : D.ok) (ho : D.ops < 4611686018427387904) (hS : St w0 w (dk g S c Q d D H)) :
    Fn Try.prog 83 [.pointer (some ⟨g, 0, none⟩)] w fun v w' => v = .int .i64 D.sync.2 ∧ ∃ Q' d', St w0 w' (dk g S c Q' d' D.sync.1 H) := by
  refine enter 12 Try.func83 rfl rfl rfl ?_
  intro a hE
  have hro := ready_ok hD 0
  repeat' (first

    | (with_reducible refine wp_seq ?_)
    | (with_reducible refine c_region ?_)
    | (with_reducible refine wpList_nil ?_)
    | (with_reducible refine then_normal ?_)
    | ((with_reducible refine g_assign ?_); refine s_assign hE rfl rfl ?_; clear hE a; intro a hE)
    | ((with_reducible refine g_load ?_); (first | (refine s_loadB (k := 0) hS hE rfl rfl rfl rfl ?_) ); clear hE a; intro a hE)
    | ((with_reducible refine g_box ?_); refine s_box1 hE hS rfl rfl rfl ?_; clear hE a hS; intro g a w hE hS)
    )
  refine s_call hE rfl rfl rfl (ready hD 0 (hS.p3.p3.p3)) ?_
  rintro _ w ⟨rfl, hS⟩; clear hE a; intro a hE
  by_cases he : (D.ready 0).2 = 0
  · rw [he] at hE
    have hops := (ready_same D 0).1
    have hdo := do_ok hro (by omega)
    repeat' (first

      | (with_reducible refine wp_seq ?_)
      | (with_reducible refine c_region ?_)
      | (with_reducible refine wpList_nil ?_)
      | (with_reducible refine then_normal ?_)
      | (with_reducible refine wp_skip ?_)
      | ((with_reducible refine g_move ?_); refine s_move hE rfl rfl ?_; clear hE a; intro a hE)
      | ((with_reducible refine g_assign ?_); refine s_assign hE rfl rfl ?_; clear hE a; intro a hE)
      | ((with_reducible refine g_bin .neq ?_); refine s_neq hE rfl rfl rfl ?_; clear hE a; intro a hE)
      | ((with_reducible refine g_cond ?_); refine c_false hE rfl ?_)
      | ((with_reducible refine g_load ?_); (first | (refine s_loadB (k := 3) hS hE rfl rfl rfl rfl ?_) ); clear hE a; intro a hE)
      )
    refine s_val hE rfl rfl rfl (r_func (first := []) hE rfl rfl) ?_
    clear hE a; intro a hE
    refine s_call hE rfl rfl rfl (do_ (fid := 99) (cap := [.pointer (some ⟨g, 0, none⟩)]) hro hS fun w _ hS => sync1 g hdo hS) ?_
    rintro v w h; clear hE a; intro a hE
    rcases h with ⟨h1, rfl, hS⟩ | ⟨h1, rfl, hS⟩
    · repeat' (first

        | (with_reducible refine wpList_nil ?_)
        | (with_reducible refine then_normal ?_)
        | (with_reducible refine wp_ret ?_)
        | ((with_reducible refine g_assign ?_); refine s_assign hE rfl rfl ?_; clear hE a; intro a hE)
        )
      have e : D.sync = ((D.ready 0).1.do_.1.settle fun _ => true, 0) := by unfold DM.sync; rw [if_pos he, if_pos h1]
      rw [e]
      exact ret1 hE rfl rfl ⟨rfl, _, _, hS.drop 3⟩
    · repeat' (first

        | (with_reducible refine wpList_nil ?_)
        | (with_reducible refine then_normal ?_)
        | (with_reducible refine wp_ret ?_)
        | ((with_reducible refine g_assign ?_); refine s_assign hE rfl rfl ?_; clear hE a; intro a hE)
        )
      have e : D.sync = ((D.ready 0).1.do_.1, 9) := by unfold DM.sync; rw [if_pos he, if_neg (by rw [h1]; decide)]
      rw [e]
      exact ret1 hE rfl rfl ⟨rfl, _, _, hS.drop 3⟩
  · have e : D.sync = ((D.ready 0).1, (D.ready 0).2) := by unfold DM.sync; rw [if_neg he]
    rw [e]
    repeat' (first

      | (with_reducible refine wp_seq ?_)
      | (with_reducible refine c_region ?_)
      | (with_reducible refine wpList_nil ?_)
      | (with_reducible refine then_normal ?_)
      | (with_reducible refine wp_ret ?_)
      | (with_reducible refine then_ret ?_)
      | ((with_reducible refine g_move ?_); refine s_move hE rfl rfl ?_; clear hE a; intro a hE)
      | ((with_reducible refine g_assign ?_); refine s_assign hE rfl rfl ?_; clear hE a; intro a hE)
      | ((with_reducible refine g_bin .neq ?_); refine s_neq hE rfl rfl rfl ?_; clear hE a; intro a hE)
      | ((with_reducible refine g_cond ?_); refine c_dec hE rfl (fun hc => ?_) (fun hc => ?_) <;> try omega)
      )
    exact ret1 hE rfl rfl ⟨rfl, _, _, hS.drop 3⟩
theorem crash1 (b : Nat) (k : Nat) (K : Option Addr) (m : Nat) (keep : List Bool) (L H : List HP) (w0 w : World) (hS : St w0 w (L ++ hBlk b 31 [.slice K keep.length m] :: H)) (hr : Rd w K (keep.map .bool)) (hl : keep.length ≤ 9223372036854775806) :
    Fn Try.prog 66 [.int .i64 (k : Int), .pointer (some ⟨b, 0, none⟩)] w fun v w' => v = .bool (keep.getD k false) ∧ St w w' [] := by
  have hcell : w.cell? ⟨b, 0, none⟩ = some (.slice K keep.length m) := hS.cellAt (k := L.length) (g := b) (t := 31) (cs := [.slice K keep.length m]) (by simp) 0
  refine enter 14 Try.func66 rfl rfl rfl ?_
  intro a hE
  have hS := St.start w
  repeat' (first

    | (with_reducible refine wp_seq ?_)
    | (with_reducible refine c_region ?_)
    | (with_reducible refine wpList_nil ?_)
    | (with_reducible refine then_normal ?_)
    | ((with_reducible refine g_move ?_); refine s_move hE rfl rfl ?_; clear hE a; intro a hE)
    | ((with_reducible refine g_assign ?_); refine s_assign hE rfl rfl ?_; clear hE a; intro a hE)
    )
  refine s_load hE rfl hcell rfl ?_
  clear hE a; intro a hE
  have hml : (keep.map Value.bool).length = keep.length := List.length_map ..
  by_cases hk : k < keep.length
  · have hv : (keep.map Value.bool)[((k : Nat) : Int).toNat * 1]? = some (.bool keep[k]) := by
      rw [Int.toNat_natCast, Nat.mul_one, List.getElem?_map, List.getElem?_eq_getElem hk]; rfl
    have hg : keep.getD k false = keep[k] := by rw [List.getD_eq_getElem?_getD, List.getElem?_eq_getElem hk]; rfl
    repeat' (first

      | ((with_reducible refine g_move ?_); refine s_move hE rfl rfl ?_; clear hE a; intro a hE)
      | ((with_reducible refine g_bin .lss ?_); refine s_lss hE rfl rfl rfl ?_; clear hE a; intro a hE)
      | ((with_reducible refine g_blt .len ?_); refine s_len hE rfl rfl ?_; clear hE a; intro a hE)
      | ((with_reducible refine g_guard ?_); refine gd_yes hE rfl rfl rfl ?_)
      | ((with_reducible refine g_guard ?_); refine gd_dec hE rfl rfl (fun hc hE2 => ?_) (fun hc hE2 => ?_) <;> (try omega) <;> (replace hE := hE2; clear hE2))
      )
    refine s_load hE rfl hcell rfl ?_
    clear hE a; intro a hE
    repeat' (first

      | (with_reducible refine wpList_nil ?_)
      | (with_reducible refine then_normal ?_)
      | (with_reducible refine wp_ret ?_)
      | ((with_reducible refine g_move ?_); refine s_move hE rfl rfl ?_; clear hE a; intro a hE)
      | ((with_reducible refine g_assign ?_); refine s_assign hE rfl rfl ?_; clear hE a; intro a hE)
      | ((with_reducible refine g_guard ?_); refine gd_yes hE rfl rfl rfl ?_)
      | ((with_reducible refine g_pick ?_); refine s_pickT hE rfl rfl rfl ?_; clear hE a; intro a hE)
      | ((with_reducible refine g_ia ?_); refine s_idxR hE rfl rfl (by omega) (by omega) (by (first | exact Rd.st (by assumption) hS )) (by first | omega ) rfl ?_; clear hE a; intro a hE)
      | ((with_reducible refine g_load ?_); refine s_loadR hE rfl (by (first | exact Rd.st (by assumption) hS )) (by first | exact hv ) rfl ?_; clear hE a; intro a hE)
      )
    rw [hg]
    exact ret1 hE rfl rfl ⟨rfl, hS⟩
  · have hg : keep.getD k false = false := by rw [List.getD_eq_getElem?_getD, List.getElem?_eq_none (by omega)]; rfl
    repeat' (first

      | (with_reducible refine wpList_nil ?_)
      | (with_reducible refine then_normal ?_)
      | (with_reducible refine wp_ret ?_)
      | ((with_reducible refine g_move ?_); refine s_move hE rfl rfl ?_; clear hE a; intro a hE)
      | ((with_reducible refine g_assign ?_); refine s_assign hE rfl rfl ?_; clear hE a; intro a hE)
      | ((with_reducible refine g_bin .lss ?_); refine s_lss hE rfl rfl rfl ?_; clear hE a; intro a hE)
      | ((with_reducible refine g_blt .len ?_); refine s_len hE rfl rfl ?_; clear hE a; intro a hE)
      | ((with_reducible refine g_guard ?_); refine gd_no hE rfl rfl rfl rfl ?_; clear hE a; intro a hE)
      | ((with_reducible refine g_guard ?_); refine gd_dec hE rfl rfl (fun hc hE2 => ?_) (fun hc hE2 => ?_) <;> (try omega) <;> (replace hE := hE2; clear hE2))
      | ((with_reducible refine g_pick ?_); refine s_pickF hE rfl rfl rfl ?_; clear hE a; intro a hE)
      )
    rw [hg]
    exact ret1 hE rfl rfl ⟨rfl, hS⟩
theorem crash (K : Option Addr) (m : Nat) (keep : List Bool) (hD : D.ok) (hr : ∀ w' L, St w0 w' (L ++ H) → Rd w' K (keep.map .bool)) (hl : keep.length ≤ 9223372036854775806) (hS : St w0 w (dk g S c Q d D H)) :
    Fn Try.prog 32 [.pointer (some ⟨g, 0, none⟩), .slice K keep.length m] w fun v w' => v = .int .i64 0 ∧ ∃ Q' d', St w0 w' (dk g S c Q' d' (D.crash keep) H) := by
  refine enter 19 Try.func32 rfl rfl rfl ?_
  intro a hE
  repeat' (first

    | (with_reducible refine wp_seq ?_)
    | (with_reducible refine c_region ?_)
    | (with_reducible refine wpList_nil ?_)
    | (with_reducible refine then_normal ?_)
    | (with_reducible refine wp_skip ?_)
    | ((with_reducible refine g_move ?_); refine s_move hE rfl rfl ?_; clear hE a; intro a hE)
    | ((with_reducible refine g_assign ?_); refine s_assign hE rfl rfl ?_; clear hE a; intro a hE)
    | ((with_reducible refine g_cond ?_); refine c_false hE rfl ?_)
    | ((with_reducible refine g_bin .eql ?_); refine s_val hE rfl rfl rfl (r_eqp hE rfl rfl) ?_; clear hE a; intro a hE)
    | ((with_reducible refine g_box ?_); refine s_box1 hE hS rfl rfl rfl ?_; clear hE a hS; intro g a w hE hS)
    )
  obtain ⟨b, rfl⟩ : ∃ x, x = g := ⟨g, rfl⟩
  refine s_val hE rfl rfl rfl (r_func (first := []) hE rfl rfl) ?_
  clear hE a; intro a hE
  refine s_call hE rfl rfl rfl (settle (fid := 66) (cap := [.pointer (some ⟨b, 0, none⟩)]) (live := fun k => keep.getD k false) hD (hS.p3.p3.p3) fun k w L hk hS => crash1 b k K m keep L H w0 w hS (hr w (L ++ [hBlk b 31 [.slice K keep.length m]]) (by rw [List.append_assoc]; exact hS)) hl) ?_
  intro v w hS; clear hE a; intro a hE
  repeat' (first

    | (with_reducible refine wp_seq ?_)
    | (with_reducible refine c_region ?_)
    | (with_reducible refine wpList_nil ?_)
    | (with_reducible refine then_normal ?_)
    | (with_reducible refine wp_ret ?_)
    | ((with_reducible refine g_move ?_); refine s_move hE rfl rfl ?_; clear hE a; intro a hE)
    | ((with_reducible refine g_assign ?_); refine s_assign hE rfl rfl ?_; clear hE a; intro a hE)
    | ((with_reducible refine g_fa ?_); refine s_fieldL hE rfl rfl rfl ?_; clear hE a; intro a hE)
    | ((with_reducible refine g_nc ?_); refine s_nilCheck hE rfl rfl ?_; clear hE a; intro a hE)
    | ((with_reducible refine g_store ?_); (first | (refine s_storeB (k := 0) hS hE rfl rfl rfl rfl rfl rfl ?_) ); clear hS; intro w hS; simp only [List.set_cons_zero, List.set_cons_succ, Nat.add_zero] at hS)
    )
  exact ret1 hE rfl rfl ⟨rfl, _, _, hS.drop 3⟩
/-- what is written, laid behind the pending writes -/
theorem write1 (b3 b4 b5 : Nat) (i : Nat) (x : Blk) (hx : Blk.ok x) (hD : D.ok) (hS : St w0 w (dk g S c Q d D (hBlk b5 80 (bys x) :: hBlk b4 3 [.int .i64 (i : Int)] :: hBlk b3 25 [.pointer (some ⟨g, 0, none⟩)] :: H))) :
    Fn Try.prog 78 [.pointer (some ⟨b3, 0, none⟩), .pointer (some ⟨b4, 0, none⟩), .pointer (some ⟨b5, 0, none⟩)] w fun _ w' => ∃ Q' d', St w0 w' (dk g S c Q' d' { D with pend := D.pend ++ [⟨i, x⟩] } H) := by
  have hwl := wr_len hD
  have hpl := hD.plen
  refine enter 15 Try.func78 rfl rfl rfl ?_
  intro a hE
  have hfl : (D.pend.flatMap Wr.cells).length = D.pend.length * 65 := flat_len hwl
  have hxl : (bys x).length = 64 := by rw [bys_length]; exact hx.1
  refine c_ordH [hBlk g 109 [.slice S D.safe.length c, .slice Q D.pend.length d, .bool D.dead, .bool D.armed, .int .i64 D.left, .int .i64 D.fails, .int .i64 D.ops], hBlk b5 80 (bys x), hBlk b4 3 [.int .i64 (i : Int)], hBlk b3 25 [.pointer (some ⟨g, 0, none⟩)]] hS (fun u hu => ((hu.drop 1).drop 1).keep4) 10 ((.rd 0 (.rd 1 (.rd 2 (.rd 3 (.rd 4 (.rd 5 (.rd 6 (.rd 7 (.ef 8 (.ef 9 (.lt 10 (.lt 11 (.lt 12 .done)))))))))))))) mixed (by decide +kernel) ?_
  clear hS; intro w hF hS
  repeat' (first
    | (with_reducible refine o_rd rfl ?_)
    | ((with_reducible refine q_fa ?_); refine d_val hE hS rfl (fun w hS => r_fieldL hE rfl rfl) ?_; clear hE a; intro a hE)
    | ((with_reducible refine q_nc ?_); refine d_val hE hS rfl (fun w hS => r_nilCheck hE rfl) ?_; clear hE a; intro a hE)
    | ((with_reducible refine q_load ?_); (first | (refine d_val hE hS rfl (fun w hS => r_loadB (k := 0) hS hE rfl rfl rfl) ?_) | (refine d_val hE hS rfl (fun w hS => r_loadB (k := 2) hS hE rfl rfl rfl) ?_) | (refine d_val hE hS rfl (fun w hS => r_loadB (k := 3) hS hE rfl rfl rfl) ?_) ); clear hE a; intro a hE)
    | ((with_reducible refine q_load ?_); (first | (refine d_val hE hS rfl (fun w hS => r_loadW (k := 1) hS hE rfl rfl (by assumption)) ?_) ); clear hE a; intro a hE)
    )
  refine d_val hE hS rfl (fun w hS => r_build (.int .i64 (i : Int) :: bys x) hE rfl (wr_fill rfl hxl)) ?_; clear hE a; intro a hE
  repeat' (first
    | ((with_reducible refine o_ef rfl ?_))
    )
  have hone : ∀ v ∈ (.int .i64 (i : Int) :: bys x : List Value), v.oneCell' = true := by
    intro v hv
    rcases List.mem_cons.1 hv with rfl | hv
    · rfl
    · exact bys_one _ v hv
  refine s_litA (vs := .int .i64 (i : Int) :: bys x) hE hF rfl (by rw [List.length_cons, hxl]) rfl rfl rfl ?_
  clear hE a hF; intro g2 a w hE hF
  refine wpList_nil ?_
  refine o_back _ (fun _ h => h) (((hF.tail.drop 1).drop 1).keep4) ?_
  clear hS; have hS := ((hF.tail.drop 1).drop 1).keep4
  repeat' (first
    | ((with_reducible refine o_ef rfl ?_))
    )
  refine s_appendAt (k := 3) hE hF rfl rfl rfl hF.rd (by rw [List.length_cons, hxl]) hone (by omega) rfl rfl rfl rfl ?_
  clear hE a hF; intro A2 c2 a w hE hF
  simp only [List.set_cons_succ, List.set_cons_zero] at hF
  refine wpList_nil ?_
  refine o_back _ (fun _ h => h) (((hF.tail.drop 1).drop 1).keep4) ?_
  clear hS; have hS := ((hF.tail.drop 1).drop 1).keep4
  repeat' (first
    | ((with_reducible refine o_lt rfl ?_))
    )
  clear hS; have hS := hF; clear hF
  repeat' (first

    | (with_reducible refine wpList_nil ?_)
    | ((with_reducible refine g_nc ?_); refine s_nilCheck hE rfl rfl ?_; clear hE a; intro a hE)
    )
  refine o_backL ?_
  repeat' (first
    | ((with_reducible refine o_lt rfl ?_))
    )
  repeat' (first

    | (with_reducible refine wpList_nil ?_)
    | ((with_reducible refine g_fa ?_); refine s_fieldL hE rfl rfl rfl ?_; clear hE a; intro a hE)
    )
  refine o_backL ?_
  repeat' (first
    | ((with_reducible refine o_lt rfl ?_))
    )
  repeat' (first

    | (with_reducible refine wpList_nil ?_)
    | ((with_reducible refine g_store ?_); (first | (refine s_storeB (k := 1) hS hE rfl rfl rfl rfl rfl rfl ?_) ); clear hS; intro w hS; simp only [List.set_cons_zero, List.set_cons_succ, Nat.add_zero] at hS)
    )
  refine o_backL ?_
  repeat' (first
    | (with_reducible refine o_done ?_)
    )
  have e : D.pend.flatMap Wr.cells ++ (.int .i64 (i : Int) :: bys x) = (D.pend ++ [(⟨i, x⟩ : Wr)]).flatMap Wr.cells := by simp [Wr.cells]
  rw [e, show D.pend.length + 1 = (D.pend ++ [(⟨i, x⟩ : Wr)]).length by simp] at hS
  refine end0 hE rfl ⟨A2, c2, ?_⟩
  exact ((hS.tail.drop 3).drop 3).drop 3
theorem write (i : Int) (x : Blk) (hx : Blk.ok x) (hD : D.ok) (ho : D.ops < 4611686018427387904) (hS : St w0 w (dk g S c Q d D H)) :
    Fn Try.prog 48 [.pointer (some ⟨g, 0, none⟩), .int .i64 i, .agg (bys x).toArray] w fun v w' => v = .int .i64 (D.write i x).2 ∧ ∃ Q' d', St w0 w' (dk g S c Q' d' (D.write i x).1 H) := by
  refine enter 17 Try.func48 rfl rfl rfl ?_
  intro a hE
  have hro := ready_ok hD i
  refine wp_seq ?_
  refine c_region ?_
  refine s_box1 hE hS rfl rfl rfl ?_
  clear hE a hS; intro b3 a w hE hS
  refine s_box1 hE hS rfl rfl rfl ?_
  clear hE a hS; intro b4 a w hE hS
  refine s_boxS hE hS rfl rfl ?_
  clear hE a hS; intro b5 a w hE hS
  repeat' (first

    | (with_reducible refine wp_seq ?_)
    | (with_reducible refine c_region ?_)
    | (with_reducible refine wpList_nil ?_)
    | (with_reducible refine then_normal ?_)
    | ((with_reducible refine g_assign ?_); refine s_assign hE rfl rfl ?_; clear hE a; intro a hE)
    | ((with_reducible refine g_load ?_); (first | (refine s_loadB (k := 1) hS hE rfl rfl rfl rfl ?_) | (refine s_loadB (k := 2) hS hE rfl rfl rfl rfl ?_) ); clear hE a; intro a hE)
    )
  refine s_call hE rfl rfl rfl (ready hD i (St.perm (L' := dk g S c Q d D (hBlk b5 80 (bys x) :: hBlk b4 3 [.int .i64 i] :: hBlk b3 25 [.pointer (some ⟨g, 0, none⟩)] :: H)) hS ?_)) ?_
  · exact List.perm_append_comm (l₁ := [hBlk b5 80 (bys x), hBlk b4 3 [.int .i64 i], hBlk b3 25 [.pointer (some ⟨g, 0, none⟩)]]) (l₂ := dk g S c Q d D []) |>.append_right H
  rintro _ w ⟨rfl, hS⟩; clear hE a; intro a hE
  by_cases he : (D.ready i).2 = 0
  · rw [he] at hE
    have hin := ready_in he
    obtain ⟨hops, hpe, hsa⟩ := ready_same D i
    have hdo := do_ok hro (by omega)
    obtain ⟨n, rfl⟩ := Int.eq_ofNat_of_zero_le hin.1
    repeat' (first

      | (with_reducible refine wp_seq ?_)
      | (with_reducible refine c_region ?_)
      | (with_reducible refine wpList_nil ?_)
      | (with_reducible refine then_normal ?_)
      | (with_reducible refine wp_skip ?_)
      | ((with_reducible refine g_move ?_); refine s_move hE rfl rfl ?_; clear hE a; intro a hE)
      | ((with_reducible refine g_assign ?_); refine s_assign hE rfl rfl ?_; clear hE a; intro a hE)
      | ((with_reducible refine g_bin .neq ?_); refine s_neq hE rfl rfl rfl ?_; clear hE a; intro a hE)
      | ((with_reducible refine g_cond ?_); refine c_false hE rfl ?_)
      | ((with_reducible refine g_load ?_); (first | (refine s_loadB (k := 5) hS hE rfl rfl rfl rfl ?_) ); clear hE a; intro a hE)
      )
    refine s_val hE rfl rfl rfl (r_func (first := []) hE rfl rfl) ?_
    clear hE a; intro a hE
    refine s_call hE rfl rfl rfl (do_ (fid := 78) (cap := [.pointer (some ⟨b3, 0, none⟩), .pointer (some ⟨b4, 0, none⟩), .pointer (some ⟨b5, 0, none⟩)]) hro hS fun w _ hS => write1 b3 b4 b5 n x hx hdo hS) ?_
    rintro v w h; clear hE a; intro a hE
    rcases h with ⟨h1, rfl, Q', d', hS⟩ | ⟨h1, rfl, hS⟩
    · repeat' (first

        | (with_reducible refine wpList_nil ?_)
        | (with_reducible refine then_normal ?_)
        | (with_reducible refine wp_ret ?_)
        | ((with_reducible refine g_assign ?_); refine s_assign hE rfl rfl ?_; clear hE a; intro a hE)
        )
      have e : D.write (n : Int) x = ({ (D.ready (n : Int)).1.do_.1 with pend := D.pend ++ [⟨n, x⟩] }, 0) := by unfold DM.write; rw [if_pos he, if_pos h1]; rfl
      rw [e]
      rw [(do_same _).1, hpe] at hS
      exact ret1 hE rfl rfl ⟨rfl, _, _, hS⟩
    · repeat' (first

        | (with_reducible refine wpList_nil ?_)
        | (with_reducible refine then_normal ?_)
        | (with_reducible refine wp_ret ?_)
        | ((with_reducible refine g_assign ?_); refine s_assign hE rfl rfl ?_; clear hE a; intro a hE)
        )
      have e : D.write (n : Int) x = ((D.ready (n : Int)).1.do_.1, 9) := by unfold DM.write; rw [if_pos he, if_neg (by rw [h1]; decide)]
      rw [e]
      exact ret1 hE rfl rfl ⟨rfl, _, _, ((hS.drop 3).drop 3).drop 3⟩
  · have e : D.write i x = ((D.ready i).1, (D.ready i).2) := by unfold DM.write; rw [if_neg he]
    rw [e]
    repeat' (first

      | (with_reducible refine wp_seq ?_)
      | (with_reducible refine c_region ?_)
      | (with_reducible refine wpList_nil ?_)
      | (with_reducible refine then_normal ?_)
      | (with_reducible refine wp_ret ?_)
      | (with_reducible refine then_ret ?_)
      | ((with_reducible refine g_move ?_); refine s_move hE rfl rfl ?_; clear hE a; intro a hE)
      | ((with_reducible refine g_assign ?_); refine s_assign hE rfl rfl ?_; clear hE a; intro a hE)
      | ((with_reducible refine g_bin .neq ?_); refine s_neq hE rfl rfl rfl ?_; clear hE a; intro a hE)
      | ((with_reducible refine g_cond ?_); refine c_dec hE rfl (fun hc => ?_) (fun hc => ?_) <;> try omega)
      )
    exact ret1 hE rfl rfl ⟨rfl, _, _, ((hS.drop 3).drop 3).drop 3⟩
end
end Go.Proofs.Ytfoeelghehjanaa
