/-
  Contracts: a page of one's own with such a slot; what is set in a slot, and told of it.
-/
import Derived.Test.YtaiahigeejodaaaGK
namespace Go.Proofs.Ytaiahigeejodaaa
open Go.RowKit
set_option linter.unusedVariables false
set_option linter.unusedSimpArgs false
attribute [local irreducible] Rd hRow hBlk hRd hRdr Fn hMarks

section
variable {H : List HP} {w0 w : World} {l : List Sl}
theorem rowsP_set {s : Sl} {i : Nat} (hi : i < l.length) (hS : St w0 w (s.row :: rowsP l :: H)) : St w0 w (rowsP (l.set i s) :: H) := by
  have h := St.open_ hS.p1
  have h2 : St w0 w (s.row :: (l.map Sl.row ++ H)) := St.perm h (List.perm_middle)
  have hd := h2.drop (i + 1)
  rw [List.eraseIdx_cons_succ] at hd
  have hk : (l.map Sl.row ++ H)[i]? = some (l[i]'hi).row := by
    rw [List.getElem?_append_left (by rw [List.length_map]; exact hi), List.getElem?_map, List.getElem?_eq_getElem hi]; rfl
  have h3 := St.unfocus hk hd
  rw [List.set_append_left _ _ (by rw [List.length_map]; exact hi)] at h3
  unfold rowsP
  rw [List.map_set]
  exact St.close_ h3
theorem rowsP_one {i : Nat} (hi : i < l.length) (hS : St w0 w (rowsP l :: H)) : St w0 w [(l[i]'hi).row] := by
  have h := St.open_ hS
  refine h.only i ?_
  rw [List.getElem?_append_left (by rw [List.length_map]; exact hi), List.getElem?_map, List.getElem?_eq_getElem hi]
  rfl
attribute [local irreducible] rowsP
set_option maxHeartbeats 8000000
theorem at_no (p : Pg) (hp : p.wf) (i : Int) (h : p.m.right = false ∨ i < 0 ∨ 4 ≤ i) (w0 : World) :
    Fn Try.prog 46 [.agg p.cells.toArray, .int .i64 i] w0 fun v w' => v = .tuple #[.agg Pg.zero.cells.toArray, .int .i64 (if p.m.right then 2 else 160)] ∧ St w0 w' [] := by
  have hcl : p.cells.length = 6 := by simp [hp.s4]
  refine enter 34 Try.func46 rfl rfl rfl ?_
  intro a hE
  have hS := St.start w0
  repeat' (first

    | (with_reducible refine wp_seq ?_)
    | (with_reducible refine c_region ?_)
    | (with_reducible refine wpList_nil ?_)
    | (with_reducible refine then_normal ?_)
    | (with_reducible refine wp_block ?_)
    | ((with_reducible refine g_assign ?_); refine s_assign hE rfl rfl ?_; clear hE a; intro a hE)
    | ((with_reducible refine g_alloc ?_); refine s_allocS hE hS rfl rfl ?_; clear hE a hS; intro g a w hE hS)
    | ((with_reducible refine g_box ?_); refine s_boxS hE hS rfl rfl ?_; clear hE a hS; intro g a w hE hS)
    | ((with_reducible refine g_load ?_); (first | (refine s_loadW (k := 1) hS hE rfl rfl (by first | assumption ) rfl ?_) ); clear hE a; intro a hE)
    )
  refine s_call hE rfl rfl rfl (check p hp w) ?_
  rintro _ w ⟨rfl, hS1⟩; clear hE a; intro a hE; replace hS := hS.frame hS1; clear hS1; try simp only [List.cons_append, List.nil_append] at hS
  cases hri : p.m.right
  · rw [hri] at hE
    repeat' (first

      | (with_reducible refine wp_seq ?_)
      | (with_reducible refine c_region ?_)
      | (with_reducible refine wpList_nil ?_)
      | (with_reducible refine then_normal ?_)
      | (with_reducible refine wp_ret ?_)
      | (with_reducible refine then_ret ?_)
      | (with_reducible refine block_ret ?_)
      | ((with_reducible refine g_assign ?_); refine s_assign hE rfl rfl ?_; clear hE a; intro a hE)
      | ((with_reducible refine g_bin .neq ?_); refine s_neq hE rfl rfl rfl ?_; clear hE a; intro a hE)
      | ((with_reducible refine g_cond ?_); refine c_true hE rfl ?_)
      | ((with_reducible refine g_build ?_); refine s_build [_, _, _, _, _, _] hE rfl rfl rfl ?_; clear hE a; intro a hE)
      | ((with_reducible refine g_store ?_); (first | (refine s_storeW (k := 0) hS hE rfl rfl rfl rfl rfl (by first | (simp [Value.oneCell']; done)) ?_) ); clear hS; intro w hS; simp only [List.set_cons_zero, List.set_cons_succ, Nat.add_zero] at hS)
      )
    exact retG (vs := [_, _]) hE rfl ⟨⟨_, rfl, res_W (k := 0) hS rfl rfl⟩, rfl, trivial⟩ ⟨rfl, hS.nil⟩
  · rw [hri] at hE
    have h2 : i < 0 ∨ 4 ≤ i := by
      rcases h with h | h
      · rw [hri] at h; cases h
      · exact h
    repeat' (first

      | (with_reducible refine wp_seq ?_)
      | (with_reducible refine c_region ?_)
      | (with_reducible refine wpList_nil ?_)
      | (with_reducible refine then_normal ?_)
      | (with_reducible refine wp_ret ?_)
      | (with_reducible refine then_ret ?_)
      | (with_reducible refine block_ret ?_)
      | ((with_reducible refine g_move ?_); refine s_move hE rfl rfl ?_; clear hE a; intro a hE)
      | ((with_reducible refine g_assign ?_); refine s_assign hE rfl rfl ?_; clear hE a; intro a hE)
      | ((with_reducible refine g_bin .lss ?_); refine s_lss hE rfl rfl rfl ?_; clear hE a; intro a hE)
      | ((with_reducible refine g_bin .geq ?_); refine s_geq hE rfl rfl rfl ?_; clear hE a; intro a hE)
      | ((with_reducible refine g_bin .neq ?_); refine s_neq hE rfl rfl rfl ?_; clear hE a; intro a hE)
      | ((with_reducible refine g_guard ?_); refine gd_yes hE rfl rfl rfl ?_)
      | ((with_reducible refine g_guard ?_); refine gd_no hE rfl rfl rfl rfl ?_; clear hE a; intro a hE)
      | ((with_reducible refine g_guard ?_); refine gd_dec hE rfl rfl (fun hc hE2 => ?_) (fun hc hE2 => ?_) <;> (try omega) <;> (replace hE := hE2; clear hE2))
      | ((with_reducible refine g_pick ?_); refine s_pickT hE rfl rfl rfl ?_; clear hE a; intro a hE)
      | ((with_reducible refine g_pick ?_); refine s_pickF hE rfl rfl rfl ?_; clear hE a; intro a hE)
      | ((with_reducible refine g_cond ?_); refine c_true hE rfl ?_)
      | ((with_reducible refine g_cond ?_); refine c_false hE rfl ?_)
      | ((with_reducible refine g_cond ?_); refine c_dec hE rfl (fun hc => ?_) (fun hc => ?_) <;> try omega)
      | ((with_reducible refine g_build ?_); refine s_build [_, _, _, _, _, _] hE rfl rfl rfl ?_; clear hE a; intro a hE)
      | ((with_reducible refine g_store ?_); (first | (refine s_storeW (k := 0) hS hE rfl rfl rfl rfl rfl (by first | (simp [Value.oneCell']; done)) ?_) ); clear hS; intro w hS; simp only [List.set_cons_zero, List.set_cons_succ, Nat.add_zero] at hS)
      )
    all_goals exact retG (vs := [_, _]) hE rfl ⟨⟨_, rfl, res_W (k := 0) hS rfl rfl⟩, rfl, trivial⟩ ⟨rfl, hS.nil⟩
theorem at_ok (p : Pg) (hp : p.wf) (hr : p.rd w0) (i : Int) (hri : p.m.right = true) (hi : 0 ≤ i ∧ i < 4) :
    Fn Try.prog 46 [.agg p.cells.toArray, .int .i64 i] w0 fun v w' => ∃ p' : Pg, v = .tuple #[.agg p'.cells.toArray, .int .i64 0] ∧ p'.m = p.m ∧ p'.wf ∧ St w0 w' [rowsP p'.s] := by
  have hp0 := hp
  have hsl := Pg.slots hp
  obtain ⟨h1, h2, h3, h4⟩ := hp
  have hcl : p.cells.length = 6 := by simp [h1]
  refine enter 34 Try.func46 rfl rfl rfl ?_
  intro a hE
  have hS := St.start w0
  refine wp_seq ?_
  refine c_region ?_
  refine s_boxS hE hS rfl rfl ?_
  clear hE a hS; intro b2 a w hE hS
  refine s_allocS hE hS rfl rfl ?_
  clear hE a hS; intro b4 a w hE hS
  repeat' (first

    | (with_reducible refine wp_seq ?_)
    | (with_reducible refine c_region ?_)
    | (with_reducible refine wpList_nil ?_)
    | (with_reducible refine then_normal ?_)
    | (with_reducible refine wp_block ?_)
    | ((with_reducible refine g_assign ?_); refine s_assign hE rfl rfl ?_; clear hE a; intro a hE)
    | ((with_reducible refine g_load ?_); (first | (refine s_loadW (k := 1) hS hE rfl rfl (by first | assumption ) rfl ?_) ); clear hE a; intro a hE)
    )
  refine s_call hE rfl rfl rfl (check p hp0 w) ?_
  rintro _ w ⟨rfl, hS1⟩; clear hE a; intro a hE; replace hS := hS.frame hS1; clear hS1; try simp only [List.cons_append, List.nil_append] at hS
  rw [hri] at hE
  repeat' (first

    | (with_reducible refine wp_seq ?_)
    | (with_reducible refine c_region ?_)
    | (with_reducible refine wpList_nil ?_)
    | (with_reducible refine then_normal ?_)
    | (with_reducible refine wp_skip ?_)
    | (with_reducible refine wp_block ?_)
    | (with_reducible refine block_normal ?_)
    | ((with_reducible refine g_move ?_); refine s_move hE rfl rfl ?_; clear hE a; intro a hE)
    | ((with_reducible refine g_assign ?_); refine s_assign hE rfl rfl ?_; clear hE a; intro a hE)
    | ((with_reducible refine g_bin .lss ?_); refine s_lss hE rfl rfl rfl ?_; clear hE a; intro a hE)
    | ((with_reducible refine g_bin .geq ?_); refine s_geq hE rfl rfl rfl ?_; clear hE a; intro a hE)
    | ((with_reducible refine g_bin .neq ?_); refine s_neq hE rfl rfl rfl ?_; clear hE a; intro a hE)
    | ((with_reducible refine g_fa ?_); refine s_fieldL hE rfl rfl rfl ?_; clear hE a; intro a hE)
    | ((with_reducible refine g_guard ?_); refine gd_yes hE rfl rfl rfl ?_)
    | ((with_reducible refine g_guard ?_); refine gd_dec hE rfl rfl (fun hc hE2 => ?_) (fun hc hE2 => ?_) <;> (try omega) <;> (replace hE := hE2; clear hE2))
    | ((with_reducible refine g_pick ?_); refine s_pickF hE rfl rfl rfl ?_; clear hE a; intro a hE)
    | ((with_reducible refine g_cond ?_); refine c_false hE rfl ?_)
    | ((with_reducible refine g_cond ?_); refine c_dec hE rfl (fun hc => ?_) (fun hc => ?_) <;> try omega)
    | ((with_reducible refine g_load ?_); (first | (refine s_loadBs (k := 1) hS hE rfl rfl (by first | exact hsl ) (by omega) rfl ?_) ); clear hE a; intro a hE)
    )
  have hS2 : St w0 w [rowsP [], hBlk b4 74 Pg.zero.cells, hBlk b2 74 (Pg.cells ⟨p.n, p.l, [] ++ p.s.drop 0⟩)] := rowsP_nil hS
  clear hS; have hS := hS2; clear hS2
  refine wp_loop_ghost (fun q a w => ∃ (k : Nat) (sl : List Sl), k + q = 4 ∧ sl.length = k ∧ sl.map Sl.b = (p.s.map Sl.b).take k ∧ St w0 w [rowsP sl, hBlk b4 74 Pg.zero.cells, hBlk b2 74 (Pg.cells ⟨p.n, p.l, sl ++ p.s.drop k⟩)] ∧ Env 34 [(22, .agg (p.s.map Sl.v).toArray), (23, .int .i64 (k : Int)), (2, .pointer (some ⟨b2, 0, none⟩)), (4, .pointer (some ⟨b4, 0, none⟩))] a) 4
    ⟨0, [], by omega, rfl, rfl, hS, hE.sub ⟨rfl, rfl, rfl, rfl, trivial⟩⟩ ?_
  clear hE a hS
  rintro q a w ⟨k, sl, hk, hsk, hsm, hS, hE⟩
  by_cases hk1 : k < 4
  · have hks : k < p.s.length := by omega
    have hv := Pg.slot hks
    have hrk := hr _ (List.getElem_mem hks)
    have h4k := h4 _ (List.getElem_mem hks)
    have hcl2 : (Pg.cells ⟨p.n, p.l, sl ++ p.s.drop k⟩).length = 6 := cells_len (by rw [List.length_append, List.length_drop]; omega)
    have hst : (p.s.map Sl.b).take (k + 1) = (p.s.map Sl.b).take k ++ [(p.s[k]'hks).b] := by
      rw [List.take_succ_eq_append_getElem (by rw [List.length_map]; exact hks), List.getElem_map]
    generalize (p.s[k]'hks) = s at hv hrk h4k hst
    repeat' (first

      | (with_reducible refine wp_seq ?_)
      | (with_reducible refine c_region ?_)
      | (with_reducible refine wpList_nil ?_)
      | (with_reducible refine then_normal ?_)
      | (with_reducible refine wp_skip ?_)
      | (with_reducible refine wp_block ?_)
      | ((with_reducible refine g_move ?_); refine s_move hE rfl rfl ?_; clear hE a; intro a hE)
      | ((with_reducible refine g_assign ?_); refine s_assign hE rfl rfl ?_; clear hE a; intro a hE)
      | ((with_reducible refine g_bin .lss ?_); refine s_lss hE rfl rfl rfl ?_; clear hE a; intro a hE)
      | ((with_reducible refine g_cond ?_); refine c_dec hE rfl (fun hc => ?_) (fun hc => ?_) <;> try omega)
      | ((with_reducible refine g_index ?_); refine s_val hE rfl rfl rfl (r_index1 hE rfl rfl (by omega) (by omega) (by assumption)) ?_; clear hE a; intro a hE)
      )
    refine s_call hE rfl rfl rfl (bclone s.A s.c s.b w (hrk.st hS) (by omega)) ?_
    rintro _ w ⟨A', c', rfl, hS1⟩; clear hE a; intro a hE; replace hS := hS.frame hS1; clear hS1; try simp only [List.cons_append, List.nil_append] at hS
    repeat' (first

      | ((with_reducible refine g_fa ?_); refine s_fieldL hE rfl rfl rfl ?_; clear hE a; intro a hE)
      | ((with_reducible refine g_ia ?_); refine s_val hE rfl rfl rfl (r_idxP hE rfl rfl (by omega) (by omega)) ?_; clear hE a; intro a hE)
      )
    refine s_storeB (k := 3) hS hE rfl rfl rfl rfl (by rw [hcl2, Nat.blt_eq]; omega) rfl ?_
    clear hS; intro w hS
    simp only [List.set_cons_zero, List.set_cons_succ] at hS
    rw [show 0 + 2 + ((k : Nat) : Int).toNat * 1 = 2 + k by omega] at hS
    rw [cells_set hsk hks ⟨A', c', s.b⟩] at hS
    repeat' (first

      | (with_reducible refine c_region ?_)
      | (with_reducible refine wpList_nil ?_)
      | (with_reducible refine then_normal ?_)
      | (with_reducible refine block_normal ?_)
      | ((with_reducible refine g_move ?_); refine s_move hE rfl rfl ?_; clear hE a; intro a hE)
      | ((with_reducible refine g_bin .add ?_); refine s_add hE rfl rfl rfl (by first  | exact wrap64_in (by omega) ) ?_; clear hE a; intro a hE)
      )
    exact ⟨q - 1, by omega, k + 1, sl ++ [⟨A', c', s.b⟩], by omega, by rw [List.length_append, hsk]; rfl, by rw [List.map_append, hsm, hst]; rfl, rowsP_add (s := ⟨A', c', s.b⟩) hS, hE.sub ⟨rfl, rfl, rfl, rfl, trivial⟩⟩
  · obtain rfl : k = 4 := by omega
    rw [List.drop_eq_nil_of_le (by omega), List.append_nil] at hS
    have hm : sl.map Sl.b = p.s.map Sl.b := by rw [hsm, List.take_of_length_le (by rw [List.length_map]; omega)]
    have hlen := rowsP_len hS
    have hcl2 := cells_len (n := p.n) (l := p.l) hsk
    have hone := Pg.cells_one ⟨p.n, p.l, sl⟩
    have hpw : Pg.wf ⟨p.n, p.l, sl⟩ := ⟨hsk, h2, h3, fun s hs => by
      have hb : s.b ∈ p.s.map Sl.b := by rw [← hm]; exact List.mem_map_of_mem hs
      obtain ⟨s', hs', e⟩ := List.mem_map.1 hb
      have := h4 s' hs'
      rw [e] at this
      exact ⟨(hlen s hs).1, this.2⟩⟩
    repeat' (first

      | (with_reducible refine wp_seq ?_)
      | (with_reducible refine c_region ?_)
      | (with_reducible refine wpList_nil ?_)
      | (with_reducible refine then_normal ?_)
      | (with_reducible refine wp_ret ?_)
      | (with_reducible refine wp_exit ?_)
      | (with_reducible refine then_exit ?_)
      | (with_reducible refine block_same ?_)
      | ((with_reducible refine g_assign ?_); refine s_assign hE rfl rfl ?_; clear hE a; intro a hE)
      | ((with_reducible refine g_bin .lss ?_); refine s_lss hE rfl rfl rfl ?_; clear hE a; intro a hE)
      | ((with_reducible refine g_cond ?_); refine c_false hE rfl ?_)
      | ((with_reducible refine g_load ?_); (first | (refine s_loadW (k := 2) hS hE rfl rfl (by first | assumption ) rfl ?_) ); clear hE a; intro a hE)
      | ((with_reducible refine g_store ?_); (first | (refine s_storeW (k := 1) hS hE rfl rfl rfl (by assumption) (by first | rfl ) (by first | assumption) ?_) ); clear hS; intro w hS; simp only [List.set_cons_zero, List.set_cons_succ, Nat.add_zero] at hS)
      )
    exact retG (vs := [_, _]) hE rfl ⟨⟨_, rfl, res_W (k := 1) hS rfl hcl2⟩, rfl, trivial⟩ ⟨⟨p.n, p.l, sl⟩, rfl, by unfold Pg.m; rw [hm], hpw, hS.only 0 rfl⟩
/-- a slot of it is put another one in the place of -/
theorem cells_put {n : Int} {l0 : Nat} {sl : List Sl} {i : Nat} (hi : i < sl.length) (s : Sl) : (Pg.cells ⟨n, l0, sl⟩).set (2 + i) s.v = Pg.cells ⟨n, l0, sl.set i s⟩ := by
  show (Value.int .i64 n :: .int .u64 (l0 : Int) :: sl.map Sl.v).set (2 + i) s.v = Value.int .i64 n :: .int .u64 (l0 : Int) :: (sl.set i s).map Sl.v
  rw [Nat.add_comm 2 i, List.set_cons_succ, List.set_cons_succ, List.map_set]
end
end Go.Proofs.Ytaiahigeejodaaa
