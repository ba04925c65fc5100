/-
  Contracts of disk: writes, and what makes them safe.
-/
import Derived.Test.YtfoeelghehjanaaDB
import Derived.Test.YtfoeelghehjanaaK2
namespace Go.Proofs.Ytfoeelghehjanaa
open Go.RowKit
set_option linter.unusedVariables false
set_option linter.unusedSimpArgs false
attribute [local irreducible] Rd hRow hBlk hRd hAll Fn hMarks
attribute [local simp] Wr.cells

theorem lay_snoc (x : Wr) : ∀ (l : List Wr) (s : List Blk) (live : Nat → Bool) (j : Nat), lay s (l ++ [x]) live j = (if live (j + l.length) then (lay s l live j).set x.at_ x.b else lay s l live j)
  | [], s, live, j => by simp [lay]
  | y :: l, s, live, j => by
    rw [List.cons_append]
    show lay _ (l ++ [x]) live (j + 1) = _
    rw [lay_snoc x l, List.length_cons, show j + 1 + l.length = j + (l.length + 1) by omega]
    rfl
theorem wr_len {D : DM} (hD : D.ok) : ∀ x ∈ D.pend, x.cells.length = 65 := fun x hx => by
  have := (hD.pend x hx).1.1
  simp [Wr.cells, bys_length, this]
theorem blk_len {s : List Blk} (h : ∀ b ∈ s, Blk.ok b) : ∀ b ∈ s, (bys b).length = 64 := fun b hb => by
  rw [bys_length]; exact (h b hb).1
/-- one block of a row, written -/
theorem splice_set : ∀ {s : List Blk} (h : ∀ b ∈ s, Blk.ok b) {k : Nat} (hk : k < s.length) {b : Blk} (hb : b.length = 64), splice (s.flatMap bys) (k * 64) (bys b) = (s.set k b).flatMap bys
  | [], h, k, hk, b, hb => by simp at hk
  | x :: s, h, 0, hk, b, hb => by
    have hx : (bys x).length = 64 := by rw [bys_length]; exact (h x (List.mem_cons_self ..)).1
    have hb' : (bys b).length = 64 := by rw [bys_length]; exact hb
    rw [List.set_cons_zero, List.flatMap_cons, List.flatMap_cons]
    unfold splice
    rw [Nat.zero_mul, List.take_zero, Nat.zero_add, hb', List.drop_left' hx]
    rfl
  | x :: s, h, k + 1, hk, b, hb => by
    have hx : (bys x).length = 64 := by rw [bys_length]; exact (h x (List.mem_cons_self ..)).1
    have ih := splice_set (s := s) (fun c hc => h c (List.mem_cons_of_mem _ hc)) (k := k) (by simpa using hk) hb
    rw [List.set_cons_succ, List.flatMap_cons, List.flatMap_cons, ← ih]
    unfold splice
    have e : (k + 1) * 64 = (bys x).length + k * 64 := by rw [hx]; omega
    rw [e, List.take_length_add_append, Nat.add_assoc, List.drop_length_add_append, List.append_assoc, List.append_assoc, List.append_assoc]
section
variable {g : Nat} {S : Option Addr} {c : Nat} {Q : Option Addr} {d : Nat} {D : DM} {H : List HP} {w0 w : World}
set_option maxHeartbeats 8000000
theorem settle {fid : FuncId} {cap : List Value} [TyFn Try.prog fid] (hD : D.ok) {live : Nat → Bool} (hS : St w0 w (dk g S c Q d D H))
    (hL : ∀ (k : Nat) (w : World) (L : List HP), k < D.pend.length → St w0 w (L ++ H) → Fn Try.prog fid (.int .i64 (k : Int) :: cap) w fun v w' => v = .bool (live k) ∧ St w w' []) :
    Fn Try.prog 65 [.pointer (some ⟨g, 0, none⟩), .func (.func fid) #[] cap.toArray] w fun _ w' => St w0 w' (dk g S c none 0 (D.settle live) H) := by
  have hwl := wr_len hD
  have hpl := hD.plen
  have hsl := hD.len
  refine enter 32 Try.func65 rfl rfl rfl ?_
  intro a hE
  have hfl : (D.pend.flatMap Wr.cells).length = D.pend.length * 65 := flat_len hwl
  repeat' (first

    | (with_reducible refine wp_seq ?_)
    | (with_reducible refine c_region ?_)
    | (with_reducible refine wpList_nil ?_)
    | (with_reducible refine then_normal ?_)
    | (with_reducible refine wp_block ?_)
    | ((with_reducible refine g_move ?_); refine s_move hE rfl rfl ?_; clear hE a; intro a hE)
    | ((with_reducible refine g_blt .len ?_); refine s_len hE rfl rfl ?_; clear hE a; intro a hE)
    | ((with_reducible refine g_fa ?_); refine s_fieldL hE rfl rfl rfl ?_; clear hE a; intro a hE)
    | ((with_reducible refine g_nc ?_); refine s_nilCheck hE rfl rfl ?_; clear hE a; intro a hE)
    | ((with_reducible refine g_load ?_); (first | (refine s_loadB (k := 0) hS hE rfl rfl rfl rfl ?_) ); clear hE a; intro a hE)
    )
  refine wp_loop_ghost (fun q a w => ∃ (k : Nat), k + q = D.pend.length ∧ St w0 w (dk g S c Q d { D with safe := lay D.safe (D.pend.take k) live 0 } H) ∧ Env 32 [(0, .pointer (some ⟨g, 0, none⟩)), (1, .func (.func fid) #[] cap.toArray), (9, .slice Q D.pend.length d), (10, .int .i64 (D.pend.length : Int)), (11, .int .i64 (k : Int))] a) D.pend.length ⟨0, by omega, hS, hE.sub ⟨rfl, rfl, rfl, rfl, rfl, trivial⟩⟩ ?_
  clear hE a hS
  rintro q a w ⟨k, hk, hS, hE⟩
  have hln := lay_length (D.pend.take k) D.safe live 0
  have hlo := lay_ok (D.pend.take k) D.safe live 0 hD.safe fun x hx => (hD.pend x (List.mem_of_mem_take hx)).1
  by_cases hk1 : k < D.pend.length
  · have hseg := flat_seg (c := Wr.cells) (size := 65) (l := D.pend) hwl hk1
    have hxk := hD.pend _ (List.getElem_mem hk1)
    have hxl := hwl _ (List.getElem_mem hk1)
    generalize hs : lay D.safe (D.pend.take k) live 0 = s at hS hln hlo
    dsimp only [dk] at hS
    have hfs : (s.flatMap bys).length = s.length * 64 := flat_len (blk_len hlo)
    have hone : ∀ v ∈ D.pend[k].cells, v.oneCell' = true := by
      intro v hv
      rcases List.mem_cons.1 hv with rfl | hv
      · rfl
      · exact bys_one _ v hv
    repeat' (first

      | (with_reducible refine wp_seq ?_)
      | (with_reducible refine c_region ?_)
      | (with_reducible refine wpList_nil ?_)
      | (with_reducible refine then_normal ?_)
      | (with_reducible refine wp_skip ?_)
      | (with_reducible refine wp_block ?_)
      | ((with_reducible refine g_move ?_); refine s_move hE rfl rfl ?_; clear hE a; intro a hE)
      | ((with_reducible refine g_assign ?_); refine s_assign hE rfl rfl ?_; clear hE a; intro a hE)
      | ((with_reducible refine g_bin .lss ?_); refine s_lss hE rfl rfl rfl ?_; clear hE a; intro a hE)
      | ((with_reducible refine g_cond ?_); refine c_dec hE rfl (fun hc => ?_) (fun hc => ?_) <;> try omega)
      | ((with_reducible refine g_ia ?_); refine s_idxR hE rfl rfl (by omega) (by omega) (by (first | exact hS.rdAt (k := 2) rfl )) (by first | omega ) rfl ?_; clear hE a; intro a hE)
      | ((with_reducible refine g_alloc ?_); refine s_allocS hE hS rfl rfl ?_; clear hE a hS; intro g a w hE hS)
      | ((with_reducible refine g_store ?_); (first | (refine s_storeW (k := 0) hS hE rfl rfl rfl (by assumption) (by first | rfl ) (by first | assumption) ?_) ); clear hS; intro w hS; simp only [List.set_cons_zero, List.set_cons_succ, Nat.add_zero] at hS)
      | ((with_reducible refine g_load ?_); refine s_elemR hE rfl (by (first | exact hS.rdAt (k := 2) rfl )) (by first | exact hseg ) (by first | assumption) (by rfl) rfl ?_; clear hE a; intro a hE))
    obtain ⟨g5, rfl⟩ : ∃ x, x = g := ⟨g, rfl⟩
    refine s_call (first := #[]) hE rfl rfl rfl (by simpa using hL k w [_, _, _, _] hk1 hS) ?_
    rintro _ w ⟨rfl, hS1⟩; clear hE a; intro a hE; replace hS := hS.frame hS1; clear hS1; try simp only [List.cons_append, List.nil_append] at hS
    have hb : (D.pend[k].cells.drop (0 + 1)).take 64 = bys D.pend[k].b := by
      show (bys D.pend[k].b).take 64 = bys D.pend[k].b
      exact List.take_of_length_le (by rw [bys_length, hxk.1.1]; exact Nat.le_refl _)
    have hst : lay D.safe (D.pend.take (k + 1)) live 0 = if live k then s.set D.pend[k].at_ D.pend[k].b else s := by
      rw [List.take_succ_eq_append_getElem hk1, lay_snoc, hs, List.length_take, Nat.min_eq_left (by omega), Nat.zero_add]
    cases hlv : live k
    · rw [hlv] at hE hst
      repeat' (first

        | (with_reducible refine c_region ?_)
        | (with_reducible refine wpList_nil ?_)
        | (with_reducible refine then_normal ?_)
        | (with_reducible refine wp_skip ?_)
        | (with_reducible refine block_normal ?_)
        | ((with_reducible refine g_move ?_); refine s_move hE rfl rfl ?_; clear hE a; intro a hE)
        | ((with_reducible refine g_bin .add ?_); refine s_add hE rfl rfl rfl (by first  | exact wrap64_in (by omega) ) ?_; clear hE a; intro a hE)
        | ((with_reducible refine g_cond ?_); refine c_false hE rfl ?_)
        )
      refine ⟨q - 1, by omega, k + 1, by omega, ?_, hE.sub ⟨rfl, rfl, rfl, rfl, rfl, trivial⟩⟩
      rw [hst]
      exact hS.tail
    · rw [hlv] at hE hst
      repeat' (first

        | (with_reducible refine wpList_nil ?_)
        | (with_reducible refine then_normal ?_)
        | ((with_reducible refine g_cond ?_); refine c_true hE rfl ?_)
        )
      refine c_ordS hS 8 ((.rd 0 (.rd 1 (.rd 2 (.rd 3 (.rd 4 (.rd 5 (.rd 6 (.rd 7 (.lt 8 (.lt 9 .done))))))))))) mixed (by decide +kernel) ?_
      clear hS; intro w hS
      repeat' (first
        | (with_reducible refine o_rd rfl ?_)
        | ((with_reducible refine q_move ?_); refine d_val hE hS rfl (fun w hS => r_move hE rfl) ?_; clear hE a; intro a hE)
        | ((with_reducible refine q_fa ?_); refine d_val hE hS rfl (fun w hS => r_fieldL hE rfl rfl) ?_; clear hE a; intro a hE)
        | ((with_reducible refine q_nc ?_); refine d_val hE hS rfl (fun w hS => r_nilCheck hE rfl) ?_; clear hE a; intro a hE)
        | ((with_reducible refine q_load ?_); (first | (refine d_val hE hS rfl (fun w hS => r_loadB (k := 0) hS hE rfl rfl rfl) ?_) | (refine d_val hE hS rfl (fun w hS => r_loadB (k := 1) hS hE rfl rfl rfl) ?_) ); clear hE a; intro a hE)
        | ((with_reducible refine o_lt rfl ?_))
        | ((with_reducible refine q_load ?_); (first | (refine d_val hE hS rfl (fun w hS => r_loadBs (k := 0) hS hE rfl rfl (by first | exact hb) (by omega)) ?_) ); clear hE a; intro a hE)
        )
      repeat' (first

        | (with_reducible refine wpList_nil ?_)
        | ((with_reducible refine g_ia ?_); refine s_idxR hE rfl rfl (by omega) (by omega) (by (first | exact hS.rdAt (k := 2) rfl )) (by first | omega ) rfl ?_; clear hE a; intro a hE)
        )
      refine o_backL ?_
      repeat' (first
        | ((with_reducible refine o_lt rfl ?_))
        )
      refine s_storeRs (k := 2) hS hE rfl rfl rfl (by rw [bys_length]; exact hxk.1.1) rfl (by omega) (bys_one _) ?_
      clear hS; intro w hS; simp only [List.set_cons_zero, List.set_cons_succ] at hS
      rw [Int.toNat_natCast, splice_set hlo (by omega) hxk.1.1] at hS
      refine wpList_nil ?_
      refine o_backL ?_
      repeat' (first
        | (with_reducible refine o_done ?_)
        )
      repeat' (first

        | (with_reducible refine c_region ?_)
        | (with_reducible refine wpList_nil ?_)
        | (with_reducible refine then_normal ?_)
        | (with_reducible refine block_normal ?_)
        | ((with_reducible refine g_move ?_); refine s_move hE rfl rfl ?_; clear hE a; intro a hE)
        | ((with_reducible refine g_bin .add ?_); refine s_add hE rfl rfl rfl (by first  | exact wrap64_in (by omega) ) ?_; clear hE a; intro a hE)
        )
      refine ⟨q - 1, by omega, k + 1, by omega, ?_, hE.sub ⟨rfl, rfl, rfl, rfl, rfl, trivial⟩⟩
      rw [hst, if_pos rfl]
      have hS2 := hS.tail
      rw [show s.length = (s.set D.pend[k].at_ D.pend[k].b).length from List.length_set.symm] at hS2
      exact hS2
  · obtain rfl : k = D.pend.length := by omega
    rw [List.take_length] at hS
    repeat' (first

      | (with_reducible refine wp_seq ?_)
      | (with_reducible refine c_region ?_)
      | (with_reducible refine wpList_nil ?_)
      | (with_reducible refine then_normal ?_)
      | (with_reducible refine wp_exit ?_)
      | (with_reducible refine then_exit ?_)
      | (with_reducible refine block_same ?_)
      | ((with_reducible refine g_move ?_); refine s_move hE rfl rfl ?_; clear hE a; intro a hE)
      | ((with_reducible refine g_bin .lss ?_); refine s_lss hE rfl rfl rfl ?_; clear hE a; intro a hE)
      | ((with_reducible refine g_fa ?_); refine s_fieldL hE rfl rfl rfl ?_; clear hE a; intro a hE)
      | ((with_reducible refine g_nc ?_); refine s_nilCheck hE rfl rfl ?_; clear hE a; intro a hE)
      | ((with_reducible refine g_cond ?_); refine c_dec hE rfl (fun hc => ?_) (fun hc => ?_) <;> try omega)
      | ((with_reducible refine g_store ?_); (first | (refine s_storeB (k := 0) hS hE rfl rfl rfl rfl rfl rfl ?_) ); clear hS; intro w hS; simp only [List.set_cons_zero, List.set_cons_succ, Nat.add_zero] at hS)
      )
    exact end0 hE rfl (St.p2 (St.p2 (St.rowNil (St.drop 2 hS) _ _)))
end
end Go.Proofs.Ytfoeelghehjanaa
