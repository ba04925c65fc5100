/-
  A tuple handed in as an argument; the law HeapBack.
-/
import Derived.Test.YtaiahigeejodaaaHJ
import Derived.Test.YtaiahigeejodaaaGK
import Derived.Test.YtaiahigeejodaaaKr
import Derived.Test.YtaiahigeejodaaaKp
namespace Go.Proofs.Ytaiahigeejodaaa
open Go.RowKit
set_option linter.unusedVariables false
set_option linter.unusedSimpArgs false
attribute [local irreducible] Rd hRow hBlk hRd hRdr rowsP Fn hMarks

abbrev KT := Int × Int × Int × Int × Unit
def KT.cells (y : KT) : List Value := [Value.int .i64 y.1] ++ ([Value.int .i64 y.2.1] ++ ([Value.int .i64 y.2.2.1] ++ ([Value.int .i64 y.2.2.2.1] ++ [])))
def KT.ok (y : KT) : Prop := (Lit.int .i64 y.1).wf = true ∧ (Lit.int .i64 y.2.1).wf = true ∧ (Lit.int .i64 y.2.2.1).wf = true ∧ (Lit.int .i64 y.2.2.2.1).wf = true ∧ True
abbrev TT := Int × Int × Int × KT × Int × Unit
def TT.cells (y : TT) : List Value := [Value.int .u32 y.1] ++ ([Value.int .u64 y.2.1] ++ ([Value.int .u64 y.2.2.1] ++ (KT.cells y.2.2.2.1 ++ ([Value.int .i64 y.2.2.2.2.1] ++ []))))
def TT.ok (W : World) (y : TT) : Prop := (Lit.int .u32 y.1).wf = true ∧ (Lit.int .u64 y.2.1).wf = true ∧ (Lit.int .u64 y.2.2.1).wf = true ∧ KT.ok y.2.2.2.1 ∧ (Lit.int .i64 y.2.2.2.2.1).wf = true ∧ True
def TT.tm (y : TT) : TM := ⟨y.1.toNat, y.2.1.toNat, y.2.2.1.toNat, y.2.2.2.1.1, y.2.2.2.1.2.1, y.2.2.2.1.2.2.1, y.2.2.2.1.2.2.2.1, y.2.2.2.2.1⟩
theorem TT.cells_tm {W : World} {y : TT} (h : y.ok W) : y.cells = y.tm.cells := by
  obtain ⟨h1, h2, h3, _⟩ := h
  have e1 := wf_u32 h1
  have e2 := wf_u64 h2
  have e3 := wf_u64 h3
  unfold TT.cells TT.tm TM.cells KT.cells
  dsimp only
  rw [Int.toNat_of_nonneg e1.1, Int.toNat_of_nonneg e2.1, Int.toNat_of_nonneg e3.1]
  rfl
theorem TT.tm_ok {W : World} {y : TT} (h : y.ok W) : y.tm.ok := by
  obtain ⟨h1, h2, h3, ⟨k1, k2, k3, k4, _⟩, h5, _⟩ := h
  have e1 := wf_u32 h1
  have e2 := wf_u64 h2
  have e3 := wf_u64 h3
  exact ⟨by show y.1.toNat < _; omega, by show y.2.1.toNat < _; omega, by show y.2.2.1.toNat < _; omega, wf_i64 k1, wf_i64 k2, wf_i64 k3, wf_i64 k4, wf_i64 h5⟩
/-- what follows is shown once, for whatever leads to it -/
theorem cutL {P : Program} {ops : Array Oper} {Q : Exit → Act → World → Prop} {rest : List Oper} {G : Prop} (M : Act → World → Prop) (main : (∀ a w, M a w → wpList P ops Q rest a w) → G) (tail : ∀ a w, M a w → wpList P ops Q rest a w) : G := main tail
section
variable {H : List HP} {w0 w : World}
set_option maxHeartbeats 8000000
theorem law_HeapBack (y : TT) (A : Option Addr) (c : Nat) (xs : List Nat) (w0 : World) (h : y.ok w0) (hrx : Rd w0 A (bys xs)) (hx : Bs xs) (hc : xs.length ≤ c) (hz : xs.length ≤ 140737488351232) :
    Fn Try.prog 4 [.agg y.cells.toArray, .slice A xs.length c] w0 fun v w' => v = .bool true ∧ St w0 w' [] := by
  rw [TT.cells_tm h]
  have hto := TT.tm_ok h
  generalize y.tm = t at hto
  have hone := TM.cells_one t
  have htl : t.cells.length = 8 := rfl
  have hmin : (if (60 : Int) < (xs.length : Int) then (60 : Int) else (xs.length : Int)) = ((xs.take 60).length : Int) := by
    rw [List.length_take]; split <;> omega
  have hb60 : (xs.take 60).length ≤ 60 ∧ (xs.take 60).length ≤ xs.length := by rw [List.length_take]; omega
  have hrb : Rd w0 A (bys (xs.take 60)) := by
    have := hrx.take 60
    have e : bys (xs.take 60) = (bys xs).take 60 := List.map_take
    rw [e]; exact this
  have hbb : Bs (xs.take 60) := fun c hc => hx c (List.mem_of_mem_take hc)
  refine enter 73 Try.func4 rfl rfl rfl ?_
  intro a hE
  have hS := St.start w0
  repeat' (first

    | (with_reducible refine wp_seq ?_)
    | (with_reducible refine c_region ?_)
    | (with_reducible refine wpList_nil ?_)
    | (with_reducible refine then_normal ?_)
    | ((with_reducible refine g_assign ?_); refine s_assign hE rfl rfl ?_; clear hE a; intro a hE)
    | ((with_reducible refine g_box ?_); refine s_boxS hE hS rfl rfl ?_; clear hE a hS; intro g a w hE hS)
    )
  refine s_call hE rfl rfl rfl (hwakes w) ?_
  rintro _ w ⟨rfl, hS1⟩; clear hE a; intro a hE; replace hS := hS.frame hS1; clear hS1; try simp only [List.cons_append, List.nil_append] at hS
  repeat' (first

    | (with_reducible refine wp_seq ?_)
    | (with_reducible refine c_region ?_)
    | (with_reducible refine wpList_nil ?_)
    | (with_reducible refine then_normal ?_)
    | (with_reducible refine wp_skip ?_)
    | ((with_reducible refine g_un .not ?_); refine s_notb hE rfl rfl ?_; clear hE a; intro a hE)
    | ((with_reducible refine g_cond ?_); refine c_false hE rfl ?_)
    | ((with_reducible refine g_load ?_); (first | (refine s_loadW (k := 0) hS hE rfl rfl rfl rfl ?_) ); clear hE a; intro a hE)
    )
  revert a w
  apply cutL (M := fun a w => St w0 w [] ∧ Env 73 [(43, .slice A (xs.take 60).length c), (1, .slice A (xs.take 60).length c)] a)
  · intro tail w hS a hE
    by_cases hri : t.right = true
    · refine s_call hE rfl rfl rfl (hencode_ok t hto hri w) ?_
      rintro _ w ⟨A5, c5, rfl, hS1⟩; clear hE a; intro a hE; replace hS := hS.frame hS1; clear hS1; try simp only [List.cons_append, List.nil_append] at hS
      have hl52 := tenc_len t
      have hdt := decT_enc hto hri
      have hdr : decR t.enc = t := by unfold decR; rw [hdt]; rfl
      repeat' (first

        | (with_reducible refine wp_seq ?_)
        | (with_reducible refine c_region ?_)
        | (with_reducible refine wpList_nil ?_)
        | (with_reducible refine then_normal ?_)
        | ((with_reducible refine g_move ?_); refine s_move hE rfl rfl ?_; clear hE a; intro a hE)
        | ((with_reducible refine g_assign ?_); refine s_assign hE rfl rfl ?_; clear hE a; intro a hE)
        | ((with_reducible refine g_bin .eql ?_); refine s_eql hE rfl rfl rfl ?_; clear hE a; intro a hE)
        | ((with_reducible refine g_extract ?_); refine s_extract hE rfl rfl rfl ?_; clear hE a; intro a hE)
        | ((with_reducible refine g_cond ?_); refine c_true hE rfl ?_)
        )
      refine s_call hE rfl rfl rfl (hdecode A5 c5 t.enc 52 hl52.symm (hS.rdAt (k := 0) rfl) (tenc_bs t) (by rw [hl52]; decide)) ?_
      rintro _ w ⟨rfl, hS1⟩; clear hE a; intro a hE; replace hS := hS.frame hS1; clear hS1; try simp only [List.cons_append, List.nil_append] at hS
      rw [hdr, hdt] at hE
      repeat' (first

        | (with_reducible refine wp_seq ?_)
        | (with_reducible refine c_region ?_)
        | (with_reducible refine wpList_nil ?_)
        | (with_reducible refine then_normal ?_)
        | ((with_reducible refine g_move ?_); refine s_move hE rfl rfl ?_; clear hE a; intro a hE)
        | ((with_reducible refine g_assign ?_); refine s_assign hE rfl rfl ?_; clear hE a; intro a hE)
        | ((with_reducible refine g_bin .neq ?_); refine s_neq hE rfl rfl rfl ?_; clear hE a; intro a hE)
        | ((with_reducible refine g_extract ?_); refine s_extract hE rfl rfl rfl ?_; clear hE a; intro a hE)
        | ((with_reducible refine g_guard ?_); refine gd_yes hE rfl rfl rfl ?_)
        | ((with_reducible refine g_alloc ?_); refine s_allocS hE hS rfl rfl ?_; clear hE a hS; intro g a w hE hS)
        | ((with_reducible refine g_load ?_); (first | (refine s_loadW (k := 0) hS hE rfl rfl rfl rfl ?_) | (refine s_loadW (k := 2) hS hE rfl rfl rfl rfl ?_) ); clear hE a; intro a hE)
        | ((with_reducible refine g_store ?_); (first | (refine s_storeW (k := 0) hS hE rfl rfl rfl rfl rfl (by first | assumption ) ?_) ); clear hS; intro w hS; simp only [List.set_cons_zero, List.set_cons_succ, Nat.add_zero] at hS)
        )
      refine s_val hE rfl rfl rfl (r_neT hE rfl rfl (eq_tuple 9997 t t)) ?_
      clear hE a; intro a hE
      rw [decide_eq_true rfl] at hE
      repeat' (first

        | (with_reducible refine wp_seq ?_)
        | (with_reducible refine c_region ?_)
        | (with_reducible refine wpList_nil ?_)
        | (with_reducible refine then_normal ?_)
        | (with_reducible refine wp_skip ?_)
        | ((with_reducible refine g_move ?_); refine s_move hE rfl rfl ?_; clear hE a; intro a hE)
        | ((with_reducible refine g_assign ?_); refine s_assign hE rfl rfl ?_; clear hE a; intro a hE)
        | ((with_reducible refine g_bin .neq ?_); refine s_neq hE rfl rfl rfl ?_; clear hE a; intro a hE)
        | ((with_reducible refine g_blt .len ?_); refine s_len hE rfl rfl ?_; clear hE a; intro a hE)
        | ((with_reducible refine g_blt .min ?_); refine s_min hE rfl rfl rfl (by first | exact hmin ) ?_; clear hE a; intro a hE)
        | ((with_reducible refine g_guard ?_); refine gd_yes hE rfl rfl rfl ?_)
        | ((with_reducible refine g_pick ?_); refine s_pickF hE rfl rfl rfl ?_; clear hE a; intro a hE)
        | ((with_reducible refine g_cond ?_); refine c_false hE rfl ?_)
        | ((with_reducible refine g_sliceH ?_); refine s_val hE rfl rfl rfl (r_cutH hE rfl rfl (by omega)) ?_; clear hE a; intro a hE)
        )
      exact tail _ _ ⟨hS.nil, hE.sub ⟨rfl, rfl, trivial⟩⟩
    · have hri : t.right = false := by simpa using hri
      refine s_call hE rfl rfl rfl (hencode_no t hri w) ?_
      rintro _ w ⟨rfl, hS1⟩; clear hE a; intro a hE; replace hS := hS.frame hS1; clear hS1; try simp only [List.cons_append, List.nil_append] at hS
      repeat' (first

        | (with_reducible refine wp_seq ?_)
        | (with_reducible refine c_region ?_)
        | (with_reducible refine wpList_nil ?_)
        | (with_reducible refine then_normal ?_)
        | (with_reducible refine wp_skip ?_)
        | ((with_reducible refine g_move ?_); refine s_move hE rfl rfl ?_; clear hE a; intro a hE)
        | ((with_reducible refine g_assign ?_); refine s_assign hE rfl rfl ?_; clear hE a; intro a hE)
        | ((with_reducible refine g_bin .eql ?_); refine s_eql hE rfl rfl rfl ?_; clear hE a; intro a hE)
        | ((with_reducible refine g_blt .len ?_); refine s_len hE rfl rfl ?_; clear hE a; intro a hE)
        | ((with_reducible refine g_blt .min ?_); refine s_min hE rfl rfl rfl (by first | exact hmin ) ?_; clear hE a; intro a hE)
        | ((with_reducible refine g_extract ?_); refine s_extract hE rfl rfl rfl ?_; clear hE a; intro a hE)
        | ((with_reducible refine g_cond ?_); refine c_false hE rfl ?_)
        | ((with_reducible refine g_sliceH ?_); refine s_val hE rfl rfl rfl (r_cutH hE rfl rfl (by omega)) ?_; clear hE a; intro a hE)
        )
      exact tail _ _ ⟨hS.nil, hE.sub ⟨rfl, rfl, trivial⟩⟩
  · clear hmin
    generalize xs.take 60 = b at hb60 hrb hbb
    rintro a w ⟨hS, hE⟩
    refine s_call hE rfl rfl rfl (hdecode A c b b.length rfl (hrb.st hS) hbb (by omega)) ?_
    rintro _ w ⟨rfl, hS1⟩; clear hE a; intro a hE; replace hS := hS.frame hS1; clear hS1; try simp only [List.cons_append, List.nil_append] at hS
    have hone := TM.cells_one (decR b)
    have htl : (decR b).cells.length = 8 := rfl
    cases hd : decT b with
    | none =>
      have hdr : decR b = TM.zero := by unfold decR; rw [hd]; rfl
      rw [hdr] at hE hone htl
      rw [hd] at hE
      repeat' (first

        | (with_reducible refine wp_seq ?_)
        | (with_reducible refine c_region ?_)
        | (with_reducible refine wpList_nil ?_)
        | (with_reducible refine then_normal ?_)
        | ((with_reducible refine g_move ?_); refine s_move hE rfl rfl ?_; clear hE a; intro a hE)
        | ((with_reducible refine g_assign ?_); refine s_assign hE rfl rfl ?_; clear hE a; intro a hE)
        | ((with_reducible refine g_bin .eql ?_); refine s_eql hE rfl rfl rfl ?_; clear hE a; intro a hE)
        | ((with_reducible refine g_bin .neq ?_); refine s_neq hE rfl rfl rfl ?_; clear hE a; intro a hE)
        | ((with_reducible refine g_extract ?_); refine s_extract hE rfl rfl rfl ?_; clear hE a; intro a hE)
        | ((with_reducible refine g_guard ?_); refine gd_yes hE rfl rfl rfl ?_)
        | ((with_reducible refine g_cond ?_); refine c_true hE rfl ?_)
        | ((with_reducible refine g_alloc ?_); refine s_allocS hE hS rfl rfl ?_; clear hE a hS; intro g a w hE hS)
        | ((with_reducible refine g_build ?_); refine s_build [_, _, _, _, _, _, _, _] hE rfl rfl rfl ?_; clear hE a; intro a hE)
        | ((with_reducible refine g_load ?_); (first | (refine s_loadW (k := 0) hS hE rfl rfl rfl rfl ?_) ); clear hE a; intro a hE)
        | ((with_reducible refine g_store ?_); (first | (refine s_storeW (k := 0) hS hE rfl rfl rfl rfl rfl (by first | assumption ) ?_) ); clear hS; intro w hS; simp only [List.set_cons_zero, List.set_cons_succ, Nat.add_zero] at hS)
        )
      refine s_val hE rfl rfl rfl (r_eqT hE rfl rfl (eq_tuple 9997 TM.zero TM.zero)) ?_
      clear hE a; intro a hE
      rw [decide_eq_true rfl] at hE
      repeat' (first

        | (with_reducible refine wpList_nil ?_)
        | (with_reducible refine then_normal ?_)
        | (with_reducible refine wp_ret ?_)
        | (with_reducible refine then_ret ?_)
        | ((with_reducible refine g_assign ?_); refine s_assign hE rfl rfl ?_; clear hE a; intro a hE)
        | ((with_reducible refine g_pick ?_); refine s_pickT hE rfl rfl rfl ?_; clear hE a; intro a hE)
        )
      exact ret1 hE rfl rfl ⟨rfl, hS.nil⟩
    | some t2 =>
      obtain ⟨h1, h2, h3, h4⟩ := decT_some hbb hd
      have hdr : decR b = t2 := by unfold decR; rw [hd]; rfl
      rw [hdr] at hE hone htl
      rw [hd] at hE
      repeat' (first

        | (with_reducible refine wp_seq ?_)
        | (with_reducible refine c_region ?_)
        | (with_reducible refine wpList_nil ?_)
        | (with_reducible refine then_normal ?_)
        | (with_reducible refine wp_skip ?_)
        | ((with_reducible refine g_move ?_); refine s_move hE rfl rfl ?_; clear hE a; intro a hE)
        | ((with_reducible refine g_assign ?_); refine s_assign hE rfl rfl ?_; clear hE a; intro a hE)
        | ((with_reducible refine g_bin .neq ?_); refine s_neq hE rfl rfl rfl ?_; clear hE a; intro a hE)
        | ((with_reducible refine g_extract ?_); refine s_extract hE rfl rfl rfl ?_; clear hE a; intro a hE)
        | ((with_reducible refine g_cond ?_); refine c_false hE rfl ?_)
        | ((with_reducible refine g_alloc ?_); refine s_allocS hE hS rfl rfl ?_; clear hE a hS; intro g a w hE hS)
        | ((with_reducible refine g_load ?_); (first | (refine s_loadW (k := 0) hS hE rfl rfl rfl rfl ?_) ); clear hE a; intro a hE)
        | ((with_reducible refine g_store ?_); (first | (refine s_storeW (k := 0) hS hE rfl rfl rfl rfl rfl (by first | assumption ) ?_) ); clear hS; intro w hS; simp only [List.set_cons_zero, List.set_cons_succ, Nat.add_zero] at hS)
        )
      refine s_call hE rfl rfl rfl (hencode_ok t2 h1 h2 w) ?_
      rintro _ w ⟨A6, c6, rfl, hS1⟩; clear hE a; intro a hE; replace hS := hS.frame hS1; clear hS1; try simp only [List.cons_append, List.nil_append] at hS
      repeat' (first

        | (with_reducible refine wp_seq ?_)
        | (with_reducible refine c_region ?_)
        | (with_reducible refine wpList_nil ?_)
        | (with_reducible refine then_normal ?_)
        | ((with_reducible refine g_move ?_); refine s_move hE rfl rfl ?_; clear hE a; intro a hE)
        | ((with_reducible refine g_assign ?_); refine s_assign hE rfl rfl ?_; clear hE a; intro a hE)
        | ((with_reducible refine g_bin .eql ?_); refine s_eql hE rfl rfl rfl ?_; clear hE a; intro a hE)
        | ((with_reducible refine g_extract ?_); refine s_extract hE rfl rfl rfl ?_; clear hE a; intro a hE)
        | ((with_reducible refine g_guard ?_); refine gd_yes hE rfl rfl rfl ?_)
        )
      refine s_call hE rfl rfl rfl (bequal A6 A c6 c t2.enc b 52 b.length w (hS.rdAt (k := 0) rfl) (hrb.st hS) (tenc_bs t2) hbb (tenc_len t2).symm rfl) ?_
      rintro _ w ⟨rfl, hS1⟩; clear hE a; intro a hE; replace hS := hS.frame hS1; clear hS1; try simp only [List.cons_append, List.nil_append] at hS
      rw [decide_eq_true h3] at hE
      repeat' (first

        | ((with_reducible refine g_move ?_); refine s_move hE rfl rfl ?_; clear hE a; intro a hE)
        | ((with_reducible refine g_guard ?_); refine gd_yes hE rfl rfl rfl ?_)
        | ((with_reducible refine g_pick ?_); refine s_pickT hE rfl rfl rfl ?_; clear hE a; intro a hE)
        | ((with_reducible refine g_load ?_); (first | (refine s_loadW (k := 1) hS hE rfl rfl rfl rfl ?_) ); clear hE a; intro a hE)
        )
      refine s_call hE rfl rfl rfl (tcheck t2 w) ?_
      rintro _ w ⟨rfl, hS1⟩; clear hE a; intro a hE; replace hS := hS.frame hS1; clear hS1; try simp only [List.cons_append, List.nil_append] at hS
      rw [h2, if_pos rfl] at hE
      repeat' (first

        | (with_reducible refine wpList_nil ?_)
        | (with_reducible refine then_normal ?_)
        | (with_reducible refine wp_ret ?_)
        | ((with_reducible refine g_assign ?_); refine s_assign hE rfl rfl ?_; clear hE a; intro a hE)
        | ((with_reducible refine g_bin .eql ?_); refine s_eql hE rfl rfl rfl ?_; clear hE a; intro a hE)
        | ((with_reducible refine g_guard ?_); refine gd_yes hE rfl rfl rfl ?_)
        | ((with_reducible refine g_pick ?_); refine s_pickT hE rfl rfl rfl ?_; clear hE a; intro a hE)
        )
      exact ret1 hE rfl rfl ⟨rfl, hS.nil⟩
end
end Go.Proofs.Ytaiahigeejodaaa
