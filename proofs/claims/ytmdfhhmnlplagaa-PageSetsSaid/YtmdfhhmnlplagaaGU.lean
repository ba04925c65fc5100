/-
  Contracts: the page of sectors; a page's sectors, by the program and by the document.
-/
import Derived.Test.YtmdfhhmnlplagaaGS
import Derived.Test.YtmdfhhmnlplagaaGT
namespace Go.Proofs.Ytmdfhhmnlplagaa
open Go.RowKit
set_option linter.unusedVariables false
set_option linter.unusedSimpArgs false
attribute [local irreducible] Rd hRow hBlk hRd hRdr rowsP Fn hMarks

theorem flat_bys : ∀ l : List (List Nat), l.flatMap bys = bys l.flatten
  | [] => rfl
  | x :: l => by
    rw [List.flatMap_cons, flat_bys l, List.flatten_cons]
    unfold bys
    rw [List.map_append]
theorem flat64 : ∀ {l : List (List Nat)}, (∀ b ∈ l, b.length = 64) → l.flatten.length = l.length * 64
  | [], _ => rfl
  | x :: l, h => by
    rw [List.flatten_cons, List.length_append, h x (by simp), flat64 fun y hy => h y (by simp [hy]), List.length_cons]
    omega
section
variable {H : List HP} {w0 w : World}
set_option maxHeartbeats 8000000
theorem of_ (n : Int) (hn : -9223372036854775808 ≤ n ∧ n ≤ 9223372036854775807) (A : Option Addr) (c : Nat) (bl : List (List Nat)) (m : Nat) (hm : m = bl.length) (hr : Rd w0 A (bl.flatMap bys)) (hb : ∀ b ∈ bl, b.length = 64 ∧ Bs b) (hl : bl.length ≤ 1000) :
    Fn Try.prog 15 [.int .i64 n, .slice A m c] w0 fun v w' => ∃ p : Pg, v = .tuple #[.agg p.cells.toArray, .int .i64 (decP n bl.flatten).2] ∧ p.m = (decP n bl.flatten).1 ∧ p.wf ∧ St w0 w' [rowsP p.s] := by
  subst hm
  have hsz : ∀ b ∈ bl, (bys b).length = 64 := fun b hb' => by rw [bys_length]; exact (hb b hb').1
  have hfl : (bl.flatMap bys).length = bl.length * 64 := flat_len hsz
  have hfb : Bs bl.flatten := fun x hx => by
    obtain ⟨b, hb1, hb2⟩ := List.mem_flatten.1 hx
    exact (hb b hb1).2 x hb2
  refine enter 24 Try.func15 rfl rfl rfl ?_
  intro a hE
  have hS := St.start w0
  refine wp_seq ?_
  refine c_region ?_
  refine s_allocS hE hS rfl rfl ?_
  clear hE a hS; intro b4 a w hE hS
  repeat' (first

    | (with_reducible refine wp_seq ?_)
    | (with_reducible refine c_region ?_)
    | (with_reducible refine wpList_nil ?_)
    | (with_reducible refine then_normal ?_)
    | (with_reducible refine wp_block ?_)
    | ((with_reducible refine g_move ?_); refine s_move hE rfl rfl ?_; clear hE a; intro a hE)
    | ((with_reducible refine g_assign ?_); refine s_assign hE rfl rfl ?_; clear hE a; intro a hE)
    | ((with_reducible refine g_blt .len ?_); refine s_len hE rfl rfl ?_; clear hE a; intro a hE)
    )
  have hS2 : St w0 w [hRow 5 1 none 0 0 (bys ([] : List (List Nat)).flatten), hBlk b4 30 Pg.zero.cells] := hS.rowNil _ _
  clear hS; have hS := hS2; clear hS2
  refine wp_loop_ghost (fun q a w => ∃ (k : Nat) (A' : Option Addr) (c' : Nat), k + q = bl.length ∧ St w0 w [hRow 5 1 A' (k * 64) c' (bys (bl.take k).flatten), hBlk b4 30 Pg.zero.cells] ∧ Env 24 [(0, .int .i64 n), (9, .slice A bl.length c), (10, .int .i64 (bl.length : Int)), (11, .int .i64 (k : Int)), (6, .slice A' (k * 64) c'), (4, .pointer (some ⟨b4, 0, none⟩))] a) bl.length ⟨0, none, 0, by omega, by rw [Nat.zero_mul]; exact hS, hE.sub ⟨rfl, rfl, rfl, rfl, by rw [Nat.zero_mul]; rfl, rfl, trivial⟩⟩ ?_
  clear hE a hS
  rintro q a w ⟨k, A', c', hk, hS, hE⟩
  by_cases hk1 : k < bl.length
  · have hseg := flat_seg (c := bys) (size := 64) (l := bl) hsz hk1
    have hbk := hb _ (List.getElem_mem hk1)
    have hst : (bl.take (k + 1)).flatten = (bl.take k).flatten ++ (bl[k]'hk1) := by
      rw [List.take_succ_eq_append_getElem hk1, List.flatten_append, List.flatten_singleton]
    generalize (bl[k]'hk1) = b at hseg hbk hst
    have hbl : (bys b).length = 64 := by rw [bys_length]; exact hbk.1
    have hbl1 : (bys b).length = 64 * 1 := hbl
    repeat' (first
      | ((with_reducible refine g_blt .append ?_); refine s_appendAt (k := 1) (size := 1) (bytes := 1) hE hS rfl rfl rfl (hS.blkRdAt (k := 0) (o := 0) rfl) hbl1 (bys_one _) (by omega) rfl rfl rfl rfl ?_; clear hE a hS; intro A5 c5 a w hE hS; simp only [List.set_cons_succ, List.set_cons_zero] at hS)
      | (with_reducible refine wp_seq ?_)
      | (with_reducible refine c_region ?_)
      | (with_reducible refine wpList_nil ?_)
      | (with_reducible refine then_normal ?_)
      | (with_reducible refine wp_skip ?_)
      | (with_reducible refine wp_block ?_)
      | (with_reducible refine block_normal ?_)
      | ((with_reducible refine g_move ?_); refine s_move hE rfl rfl ?_; clear hE a; intro a hE)
      | ((with_reducible refine g_assign ?_); refine s_assign hE rfl rfl ?_; clear hE a; intro a hE)
      | ((with_reducible refine g_bin .lss ?_); refine s_lss hE rfl rfl rfl ?_; clear hE a; intro a hE)
      | ((with_reducible refine g_bin .add ?_); refine s_add hE rfl rfl rfl (by first | exact wrap64_in (by omega) ) ?_; clear hE a; intro a hE)
      | ((with_reducible refine g_cond ?_); refine c_dec hE rfl (fun hc => ?_) (fun hc => ?_) <;> try omega)
      | ((with_reducible refine g_slice ?_); refine s_val hE rfl rfl rfl (r_sliceA hE rfl rfl) ?_; clear hE a; intro a hE)
      | ((with_reducible refine g_ia ?_); refine s_idxR hE rfl rfl (by omega) (by omega) (by (first | exact Rd.st (by assumption) hS )) (by first | omega ) rfl ?_; clear hE a; intro a hE)
      | ((with_reducible refine g_alloc ?_); refine s_allocS hE hS rfl rfl ?_; clear hE a hS; intro g a w hE hS)
      | ((with_reducible refine g_store ?_); (first | (refine s_storeW (k := 0) hS hE rfl rfl rfl (by assumption) (by first | rfl ) (by first | exact bys_one _ ) ?_) ); clear hS; intro w hS; simp only [List.set_cons_zero, List.set_cons_succ, Nat.add_zero] at hS)
      | ((with_reducible refine g_load ?_); refine s_elemR hE rfl (by (first | exact Rd.st (by assumption) hS )) (by first | exact hseg ) (by first | assumption) (by rfl) rfl ?_; clear hE a; intro a hE))
    rw [List.drop_zero, bys_app, ← hst] at hS
    rw [show k * 64 + 64 = (k + 1) * 64 by omega] at hS hE
    exact ⟨q - 1, by omega, k + 1, _, _, by omega, hS.tail, hE.sub ⟨rfl, rfl, rfl, rfl, rfl, rfl, trivial⟩⟩
  · obtain rfl : k = bl.length := by omega
    rw [List.take_length] at hS
    have hfl2 := flat64 fun b hb' => (hb b hb').1
    obtain ⟨_, hcap, _⟩ := hS.lenAt (k := 0) rfl
    have hde := fun w' h => decode n hn A' c' bl.flatten (w0 := w') h hfb (by omega) (by omega)
    rw [hfl2] at hde
    repeat' (first

      | (with_reducible refine wp_seq ?_)
      | (with_reducible refine c_region ?_)
      | (with_reducible refine wpList_nil ?_)
      | (with_reducible refine then_normal ?_)
      | (with_reducible refine wp_exit ?_)
      | (with_reducible refine then_exit ?_)
      | (with_reducible refine block_same ?_)
      | ((with_reducible refine g_move ?_); refine s_move hE rfl rfl ?_; clear hE a; intro a hE)
      | ((with_reducible refine g_bin .lss ?_); refine s_lss hE rfl rfl rfl ?_; clear hE a; intro a hE)
      | ((with_reducible refine g_cond ?_); refine c_dec hE rfl (fun hc => ?_) (fun hc => ?_) <;> try omega)
      )
    refine s_call hE rfl rfl rfl (hde w hS.rd) ?_
    rintro _ w ⟨p, rfl, hpm, hpw, hS1⟩; clear hE a; intro a hE; replace hS := hS.frame hS1; clear hS1; try simp only [List.cons_append, List.nil_append] at hS
    have hcl : p.cells.length = 6 := by simp [hpw.s4]
    have hone := Pg.cells_one p
    repeat' (first

      | (with_reducible refine wpList_nil ?_)
      | (with_reducible refine then_normal ?_)
      | (with_reducible refine wp_ret ?_)
      | ((with_reducible refine g_assign ?_); refine s_assign hE rfl rfl ?_; clear hE a; intro a hE)
      | ((with_reducible refine g_extract ?_); refine s_extract hE rfl rfl rfl ?_; clear hE a; intro a hE)
      | ((with_reducible refine g_store ?_); (first | (refine s_storeW (k := 2) hS hE rfl rfl rfl (by assumption) (by first | rfl ) (by first | assumption) ?_) ); clear hS; intro w hS; simp only [List.set_cons_zero, List.set_cons_succ, Nat.add_zero] at hS)
      )
    exact retG (vs := [_, _]) hE rfl ⟨⟨_, rfl, res_W (k := 2) hS rfl hcl⟩, rfl, trivial⟩ ⟨p, rfl, hpm, hpw, hS.only 0 rfl⟩
end
end Go.Proofs.Ytmdfhhmnlplagaa
