/-
  Contracts: a page's slots written over; the page of sectors.
-/
import Derived.Test.YtmdfhhmnlplagaaGK
namespace Go.Proofs.Ytmdfhhmnlplagaa
open Go.RowKit
set_option linter.unusedVariables false
set_option linter.unusedSimpArgs false
attribute [local irreducible] Rd hRow hBlk hRd hRdr Fn hMarks

section
variable {H : List HP} {w0 w : World}
set_option maxHeartbeats 8000000
theorem spoil (p : Pg) (hp : p.wf) (hS : St w0 w (rowsP p.s :: H)) : Fn Try.prog 13 [.agg p.cells.toArray] w fun _ w' => St w0 w' H := by
  have hsl := Pg.slots hp
  obtain ⟨h1, h2, h3, h4⟩ := hp
  have hcl : p.cells.length = 6 := by simp [h1]
  refine enter 23 Try.func13 rfl rfl rfl ?_
  intro a hE
  repeat' (first

    | (with_reducible refine wp_seq ?_)
    | (with_reducible refine c_region ?_)
    | (with_reducible refine wpList_nil ?_)
    | (with_reducible refine then_normal ?_)
    | (with_reducible refine wp_block ?_)
    | ((with_reducible refine g_move ?_); refine s_move hE rfl rfl ?_; clear hE a; intro a hE)
    | ((with_reducible refine g_fa ?_); refine s_fieldL hE rfl rfl rfl ?_; clear hE a; intro a hE)
    | ((with_reducible refine g_box ?_); refine s_boxS hE hS rfl rfl ?_; clear hE a hS; intro g a w hE hS)
    | ((with_reducible refine g_load ?_); (first | (refine s_loadBs (k := 0) hS hE rfl rfl (by first | exact hsl ) (by omega) rfl ?_) ); clear hE a; intro a hE)
    )
  have hS2 : St w0 w (p.s.map Sl.row ++ (hBlk g 30 p.cells :: H)) := St.open_ hS.p1
  clear hS; have hS := hS2; clear hS2
  refine wp_loop_ghost (fun q a w => ∃ (k : Nat) (sl : List Sl), k + q = 4 ∧ sl.map Sl.v = p.s.map Sl.v ∧ (∀ s ∈ sl, s.b.length ≤ 140737488351232 ∧ Bs s.b) ∧ St w0 w (sl.map Sl.row ++ (hBlk g 30 p.cells :: H)) ∧ Env 23 [(6, .agg (p.s.map Sl.v).toArray), (7, .int .i64 (k : Int))] a) 4 ⟨0, p.s, by omega, rfl, fun s hs => (h4 s hs).2, hS, hE.sub ⟨rfl, rfl, trivial⟩⟩ ?_
  clear hE a hS
  rintro q a w ⟨k, sl, hk, hsv, hsb, hS, hE⟩
  have hsl4 : sl.length = 4 := by have := congrArg List.length hsv; rw [List.length_map, List.length_map, h1] at this; exact this
  by_cases hk1 : k < 4
  · have hks : k < sl.length := by omega
    have hv : (p.s.map Sl.v)[((k : Nat) : Int).toNat * 1]? = some (sl[k]'hks).v := by
      rw [← hsv, Int.toNat_natCast, Nat.mul_one, List.getElem?_map, List.getElem?_eq_getElem hks]; rfl
    have hL : (sl.map Sl.row ++ (hBlk g 30 p.cells :: H))[k]? = some (sl[k]'hks).row := by
      rw [List.getElem?_append_left (by rw [List.length_map]; exact hks), List.getElem?_map, List.getElem?_eq_getElem hks]; rfl
    have hsk := hsb _ (List.getElem_mem hks)
    have hset : ∀ s' : Sl, s'.v = (sl[k]'hks).v → (sl.set k s').map Sl.v = p.s.map Sl.v := by
      intro s' hs'
      rw [List.map_set, hs', ← hsv]
      have e : (sl[k]'hks).v = (sl.map Sl.v)[k]'(by rw [List.length_map]; exact hks) := (List.getElem_map ..).symm
      rw [e, List.set_getElem_self]
    have hun : ∀ (s' : Sl) (w' : World), St w0 w' (s'.row :: (sl.map Sl.row ++ (hBlk g 30 p.cells :: H)).eraseIdx k) → St w0 w' ((sl.set k s').map Sl.row ++ (hBlk g 30 p.cells :: H)) := by
      intro s' w' h
      have h3 := St.unfocus hL h
      rw [List.set_append_left _ _ (by rw [List.length_map]; exact hks)] at h3
      rw [List.map_set]
      exact h3
    have hS2 := hS.focus hL
    clear hS; have hS := hS2; clear hS2
    generalize (sl.map Sl.row ++ (hBlk g 30 p.cells :: H)).eraseIdx k = R at hS hun
    have hmem : ∀ s' : Sl, (s'.b.length ≤ 140737488351232 ∧ Bs s'.b) → ∀ s ∈ sl.set k s', s.b.length ≤ 140737488351232 ∧ Bs s.b := by
      intro s' hs' s hs
      rcases List.mem_or_eq_of_mem_set hs with hs | hs
      · exact hsb s hs
      · subst hs; exact hs'
    generalize hse : (sl[k]'hks) = s at hv hsk hset hS
    obtain ⟨A, c, b⟩ := s
    dsimp only at hsk
    repeat' (first

      | (with_reducible refine wp_seq ?_)
      | (with_reducible refine c_region ?_)
      | (with_reducible refine wpList_nil ?_)
      | (with_reducible refine then_normal ?_)
      | (with_reducible refine wp_skip ?_)
      | (with_reducible refine wp_block ?_)
      | ((with_reducible refine g_move ?_); refine s_move hE rfl rfl ?_; clear hE a; intro a hE)
      | ((with_reducible refine g_assign ?_); refine s_assign hE rfl rfl ?_; clear hE a; intro a hE)
      | ((with_reducible refine g_bin .lss ?_); refine s_lss hE rfl rfl rfl ?_; clear hE a; intro a hE)
      | ((with_reducible refine g_blt .len ?_); refine s_len hE rfl rfl ?_; clear hE a; intro a hE)
      | ((with_reducible refine g_cond ?_); refine c_dec hE rfl (fun hc => ?_) (fun hc => ?_) <;> try omega)
      | ((with_reducible refine g_index ?_); refine s_val hE rfl rfl rfl (r_index1 hE rfl rfl (by omega) (by omega) (by assumption)) ?_; clear hE a; intro a hE)
      )
    refine wp_loop_ghost (fun q2 a w => ∃ (i : Nat) (ys : List Nat), i + q2 = b.length ∧ ys.length = b.length ∧ Bs ys ∧ St w0 w (hRow 5 1 A b.length c (bys ys) :: R) ∧ Env 23 [(3, .slice A b.length c), (11, .int .i64 (b.length : Int)), (12, .int .i64 (i : Int)), (6, .agg (p.s.map Sl.v).toArray), (7, .int .i64 (k : Int))] a) b.length ⟨0, b, by omega, rfl, hsk.2, hS, hE.sub ⟨rfl, rfl, rfl, rfl, rfl, trivial⟩⟩ ?_
    clear hE a hS
    rintro q2 a w ⟨i, ys, hi, hyl, hyb, hS, hE⟩
    have hbl : (bys ys).length = b.length := by rw [bys_length, hyl]
    by_cases hi1 : i < b.length
    · have hiy : i < ys.length := by omega
      have hg := bys_getM hiy
      have hxb := hyb.get hiy
      have exo := xor_u8 (b := 238) hxb (by decide)
      repeat' (first

        | (with_reducible refine wp_seq ?_)
        | (with_reducible refine c_region ?_)
        | (with_reducible refine wpList_nil ?_)
        | (with_reducible refine then_normal ?_)
        | (with_reducible refine wp_skip ?_)
        | (with_reducible refine wp_block ?_)
        | (with_reducible refine block_normal ?_)
        | ((with_reducible refine g_move ?_); refine s_move hE rfl rfl ?_; clear hE a; intro a hE)
        | ((with_reducible refine g_assign ?_); refine s_assign hE rfl rfl ?_; clear hE a; intro a hE)
        | ((with_reducible refine g_bin .lss ?_); refine s_lss hE rfl rfl rfl ?_; clear hE a; intro a hE)
        | ((with_reducible refine g_bin .add ?_); refine s_add hE rfl rfl rfl (by first | exact wrap64_in (by omega) ) ?_; clear hE a; intro a hE)
        | ((with_reducible refine g_bin .xor ?_); refine s_xor hE rfl rfl rfl (by first | exact exo ) ?_; clear hE a; intro a hE)
        | ((with_reducible refine g_cond ?_); refine c_dec hE rfl (fun hc => ?_) (fun hc => ?_) <;> try omega)
        | ((with_reducible refine g_ia ?_); refine s_idxR hE rfl rfl (by omega) (by omega) (by (first | exact hS.rd )) (by first | omega ) rfl ?_; clear hE a; intro a hE)
        | ((with_reducible refine g_load ?_); refine s_loadR hE rfl (by (first | exact hS.rd )) (by first | exact hg ) rfl ?_; clear hE a; intro a hE)
        | ((with_reducible refine g_store ?_); (first | (refine s_storeR1 (k := 0) hS hE rfl rfl rfl rfl (by first | omega ) rfl ?_) ); clear hS; intro w hS; simp only [List.set_cons_zero, List.set_cons_succ, Nat.add_zero] at hS)
        )
      rw [Int.toNat_natCast, Nat.mul_one, bys_set] at hS
      refine ⟨q2 - 1, by omega, i + 1, ys.set i (ys[i] ^^^ 238), by omega, by rw [List.length_set]; exact hyl, ?_, hS, hE.sub ⟨rfl, rfl, rfl, rfl, rfl, trivial⟩⟩
      intro x hx
      rcases List.mem_or_eq_of_mem_set hx with hx | hx
      · exact hyb x hx
      · subst hx
        exact Nat.xor_lt_two_pow (n := 8) hxb (by decide)
    · repeat' (first

        | (with_reducible refine wp_seq ?_)
        | (with_reducible refine c_region ?_)
        | (with_reducible refine wpList_nil ?_)
        | (with_reducible refine then_normal ?_)
        | (with_reducible refine block_normal ?_)
        | (with_reducible refine wp_exit ?_)
        | (with_reducible refine then_exit ?_)
        | (with_reducible refine block_same ?_)
        | ((with_reducible refine g_move ?_); refine s_move hE rfl rfl ?_; clear hE a; intro a hE)
        | ((with_reducible refine g_bin .lss ?_); refine s_lss hE rfl rfl rfl ?_; clear hE a; intro a hE)
        | ((with_reducible refine g_bin .add ?_); refine s_add hE rfl rfl rfl (by first  | exact wrap64_in (by omega) ) ?_; clear hE a; intro a hE)
        | ((with_reducible refine g_cond ?_); refine c_dec hE rfl (fun hc => ?_) (fun hc => ?_) <;> try omega)
        )
      refine ⟨q - 1, by omega, k + 1, sl.set k ⟨A, c, ys⟩, by omega, hset ⟨A, c, ys⟩ (by show Value.slice A ys.length c = Value.slice A b.length c; rw [hyl]), hmem ⟨A, c, ys⟩ ⟨by show ys.length ≤ _; omega, hyb⟩, hun ⟨A, c, ys⟩ w (by show St w0 w (hRow 5 1 A ys.length c (bys ys) :: R); rw [hyl]; exact hS), hE.sub ⟨rfl, rfl, trivial⟩⟩
  · obtain rfl : k = 4 := by omega
    repeat' (first

      | (with_reducible refine wp_seq ?_)
      | (with_reducible refine c_region ?_)
      | (with_reducible refine wpList_nil ?_)
      | (with_reducible refine then_normal ?_)
      | (with_reducible refine wp_exit ?_)
      | (with_reducible refine then_exit ?_)
      | (with_reducible refine block_same ?_)
      | ((with_reducible refine g_bin .lss ?_); refine s_lss hE rfl rfl rfl ?_; clear hE a; intro a hE)
      | ((with_reducible refine g_cond ?_); refine c_false hE rfl ?_)
      )
    have hS2 := St.close_ (M := sl.map Sl.row) hS
    exact end0 hE rfl hS2.tail.tail
end
end Go.Proofs.Ytmdfhhmnlplagaa
