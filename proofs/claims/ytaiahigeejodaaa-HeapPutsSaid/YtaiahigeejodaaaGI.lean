/-
  Contracts: a page copied, cut short; are two pages the same?
-/
import Derived.Test.YtaiahigeejodaaaGH
namespace Go.Proofs.Ytaiahigeejodaaa
open Go.RowKit
set_option linter.unusedVariables false
set_option linter.unusedSimpArgs false
attribute [local irreducible] Rd hRow hBlk hRd hRdr rowsP Fn hMarks

theorem cells_set {n : Int} {l : Nat} {sl r : List Sl} {k : Nat} (hk : sl.length = k) (h : k < r.length) (s : Sl) : (Pg.cells ⟨n, l, sl ++ r.drop k⟩).set (2 + k) s.v = Pg.cells ⟨n, l, (sl ++ [s]) ++ r.drop (k + 1)⟩ := by
  have key : ((sl ++ r.drop k).map Sl.v).set k s.v = ((sl ++ [s]) ++ r.drop (k + 1)).map Sl.v := by
    rw [List.drop_eq_getElem_cons h, List.map_append, List.set_append_right _ _ (by rw [List.length_map]; omega), List.length_map, hk, Nat.sub_self, List.map_cons, List.set_cons_zero]
    simp
  show (Value.int .i64 n :: .int .u64 (l : Int) :: (sl ++ r.drop k).map Sl.v).set (2 + k) s.v = Value.int .i64 n :: .int .u64 (l : Int) :: ((sl ++ [s]) ++ r.drop (k + 1)).map Sl.v
  rw [Nat.add_comm 2 k, List.set_cons_succ, List.set_cons_succ, key]
theorem cells_len {n : Int} {l : Nat} {sl : List Sl} (h : sl.length = 4) : (Pg.cells ⟨n, l, sl⟩).length = 6 := by simp [h]
def PM.short (p : PM) : PM := ⟨p.n, p.l, p.s.map (List.take 53)⟩
section
variable {H : List HP} {w0 w : World}
set_option maxHeartbeats 8000000
theorem rcopy (p : Pg) (hp : p.wf) (hr : p.rd w0) : Fn Try.prog 39 [.agg p.cells.toArray] w0 fun v w' => ∃ p' : Pg, v = .agg p'.cells.toArray ∧ p'.m = p.m ∧ p'.wf ∧ St w0 w' [rowsP p'.s] := by
  have hsl := Pg.slots hp
  obtain ⟨h1, h2, h3, h4⟩ := hp
  have hcl : p.cells.length = 6 := by simp [h1]
  refine enter 19 Try.func39 rfl rfl rfl ?_
  intro a hE
  have hS := St.start w0
  refine wp_seq ?_
  refine c_region ?_
  refine s_boxS hE hS rfl rfl ?_
  clear hE a hS; intro b1 a w hE hS
  refine s_allocS hE hS rfl rfl ?_
  clear hE a hS; intro b2 a w hE hS
  repeat' (first

    | (with_reducible refine wp_seq ?_)
    | (with_reducible refine c_region ?_)
    | (with_reducible refine wpList_nil ?_)
    | (with_reducible refine then_normal ?_)
    | (with_reducible refine wp_block ?_)
    | ((with_reducible refine g_move ?_); refine s_move hE rfl rfl ?_; clear hE a; intro a hE)
    | ((with_reducible refine g_fa ?_); refine s_fieldL hE rfl rfl rfl ?_; clear hE a; intro a hE)
    | ((with_reducible refine g_load ?_); (first | (refine s_loadBs (k := 1) hS hE rfl rfl (by first | exact hsl ) (by omega) rfl ?_) ); clear hE a; intro a hE)
    )
  have hS2 : St w0 w [rowsP [], hBlk b2 74 Pg.zero.cells, hBlk b1 74 (Pg.cells ⟨p.n, p.l, [] ++ p.s.drop 0⟩)] := rowsP_nil hS
  clear hS; have hS := hS2; clear hS2
  refine wp_loop_ghost (fun q a w => ∃ (k : Nat) (sl : List Sl), k + q = 4 ∧ sl.length = k ∧ sl.map Sl.b = (p.s.map Sl.b).take k ∧ St w0 w [rowsP sl, hBlk b2 74 Pg.zero.cells, hBlk b1 74 (Pg.cells ⟨p.n, p.l, sl ++ p.s.drop k⟩)] ∧ Env 19 [(6, .agg (p.s.map Sl.v).toArray), (7, .int .i64 (k : Int)), (1, .pointer (some ⟨b1, 0, none⟩)), (2, .pointer (some ⟨b2, 0, none⟩))] a) 4
    ⟨0, [], by omega, rfl, rfl, hS, hE.sub ⟨rfl, rfl, rfl, rfl, trivial⟩⟩ ?_
  clear hE a hS
  rintro q a w ⟨k, sl, hk, hsk, hsm, hS, hE⟩
  by_cases hk1 : k < 4
  · have hks : k < p.s.length := by omega
    have hv := Pg.slot hks
    have hrk := hr _ (List.getElem_mem hks)
    have h4k := h4 _ (List.getElem_mem hks)
    have hcl2 : (Pg.cells ⟨p.n, p.l, sl ++ p.s.drop k⟩).length = 6 := cells_len (by rw [List.length_append, List.length_drop]; omega)
    have hst : (p.s.map Sl.b).take (k + 1) = (p.s.map Sl.b).take k ++ [(p.s[k]'hks).b] := by
      rw [List.take_succ_eq_append_getElem (by rw [List.length_map]; exact hks), List.getElem_map]
    generalize (p.s[k]'hks) = s at hv hrk h4k hst
    repeat' (first
      | ((with_reducible refine g_blt .append ?_); refine s_appendAt0 (k := 0) (size := 1) (bytes := 1) hE hS rfl rfl rfl (hrk.st hS) (by rw [bys_length, Nat.mul_one]) (bys_one _) (by omega) rfl rfl rfl rfl ?_; clear hE a hS; intro A' c' a w hE hS; simp only [List.set_cons_zero] at hS)
      | (with_reducible refine wp_seq ?_)
      | (with_reducible refine c_region ?_)
      | (with_reducible refine wpList_nil ?_)
      | (with_reducible refine then_normal ?_)
      | (with_reducible refine wp_skip ?_)
      | (with_reducible refine wp_block ?_)
      | ((with_reducible refine g_move ?_); refine s_move hE rfl rfl ?_; clear hE a; intro a hE)
      | ((with_reducible refine g_assign ?_); refine s_assign hE rfl rfl ?_; clear hE a; intro a hE)
      | ((with_reducible refine g_bin .lss ?_); refine s_lss hE rfl rfl rfl ?_; clear hE a; intro a hE)
      | ((with_reducible refine g_fa ?_); refine s_fieldL hE rfl rfl rfl ?_; clear hE a; intro a hE)
      | ((with_reducible refine g_cond ?_); refine c_dec hE rfl (fun hc => ?_) (fun hc => ?_) <;> try omega)
      | ((with_reducible refine g_index ?_); refine s_val hE rfl rfl rfl (r_index1 hE rfl rfl (by omega) (by omega) (by assumption)) ?_; clear hE a; intro a hE)
      | ((with_reducible refine g_ia ?_); refine s_val hE rfl rfl rfl (r_idxP hE rfl rfl (by omega) (by omega)) ?_; clear hE a; intro a hE)
      | ((with_reducible refine g_lit ?_); refine s_lit hE hS rfl rfl rfl rfl rfl (by first | (simp [Value.oneCell']; done)) rfl ?_; clear hE a hS; intro g a w hE hS)
      )
    refine s_storeB (k := 3) hS hE rfl rfl rfl rfl (by rw [hcl2, Nat.blt_eq]; omega) rfl ?_
    clear hS; intro w hS
    simp only [List.set_cons_zero, List.set_cons_succ] at hS
    rw [show 0 + 2 + ((k : Nat) : Int).toNat * 1 = 2 + k by omega] at hS
    rw [cells_set hsk hks ⟨A', c', s.b⟩] at hS
    repeat' (first

      | (with_reducible refine c_region ?_)
      | (with_reducible refine wpList_nil ?_)
      | (with_reducible refine then_normal ?_)
      | (with_reducible refine block_normal ?_)
      | ((with_reducible refine g_move ?_); refine s_move hE rfl rfl ?_; clear hE a; intro a hE)
      | ((with_reducible refine g_bin .add ?_); refine s_add hE rfl rfl rfl (by first  | exact wrap64_in (by omega) ) ?_; clear hE a; intro a hE)
      )
    exact ⟨q - 1, by omega, k + 1, sl ++ [⟨A', c', s.b⟩], by omega, by rw [List.length_append, hsk]; rfl, by rw [List.map_append, hsm, hst]; rfl, rowsP_add (s := ⟨A', c', s.b⟩) hS, hE.sub ⟨rfl, rfl, rfl, rfl, trivial⟩⟩
  · obtain rfl : k = 4 := by omega
    rw [List.drop_eq_nil_of_le (by omega), List.append_nil] at hS
    have hm : sl.map Sl.b = p.s.map Sl.b := by rw [hsm, List.take_of_length_le (by rw [List.length_map]; omega)]
    have hlen := rowsP_len hS
    have hcl2 := cells_len (n := p.n) (l := p.l) hsk
    have hone := Pg.cells_one ⟨p.n, p.l, sl⟩
    have hpw : Pg.wf ⟨p.n, p.l, sl⟩ := ⟨hsk, h2, h3, fun s hs => by
      have hb : s.b ∈ p.s.map Sl.b := by rw [← hm]; exact List.mem_map_of_mem hs
      obtain ⟨s', hs', e⟩ := List.mem_map.1 hb
      have := h4 s' hs'
      rw [e] at this
      exact ⟨(hlen s hs).1, this.2⟩⟩
    repeat' (first

      | (with_reducible refine wp_seq ?_)
      | (with_reducible refine c_region ?_)
      | (with_reducible refine wpList_nil ?_)
      | (with_reducible refine then_normal ?_)
      | (with_reducible refine wp_ret ?_)
      | (with_reducible refine wp_exit ?_)
      | (with_reducible refine then_exit ?_)
      | (with_reducible refine block_same ?_)
      | ((with_reducible refine g_bin .lss ?_); refine s_lss hE rfl rfl rfl ?_; clear hE a; intro a hE)
      | ((with_reducible refine g_cond ?_); refine c_false hE rfl ?_)
      | ((with_reducible refine g_load ?_); (first | (refine s_loadW (k := 2) hS hE rfl rfl (by first | assumption ) rfl ?_) ); clear hE a; intro a hE)
      | ((with_reducible refine g_store ?_); (first | (refine s_storeW (k := 1) hS hE rfl rfl rfl (by assumption) (by first | rfl ) (by first | assumption) ?_) ); clear hS; intro w hS; simp only [List.set_cons_zero, List.set_cons_succ, Nat.add_zero] at hS)
      )
    exact retG (vs := [_]) hE rfl ⟨⟨_, rfl, res_W (k := 1) hS rfl hcl2⟩, trivial⟩ ⟨⟨p.n, p.l, sl⟩, rfl, by unfold Pg.m; rw [hm], hpw, hS.only 0 rfl⟩
end
end Go.Proofs.Ytaiahigeejodaaa
