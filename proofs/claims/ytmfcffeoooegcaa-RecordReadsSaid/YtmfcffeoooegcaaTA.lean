/-
  Contracts of record's laws: records in memory of their own.
-/
import Derived.Test.YtmfcffeoooegcaaRY
import Derived.Test.YtmfcffeoooegcaaRN
namespace Go.Proofs.Ytmfcffeoooegcaa
open Go.RowKit
set_option linter.unusedVariables false
set_option linter.unusedSimpArgs false

/-- records whose bytes can be read -/
def hRcs (rs : List Rc) : HP where
  at_ S w := ∀ r ∈ rs, (hRd r.A (bys r.o)).at_ S w ∧ (hRd r.B (bys r.w)).at_ S w
  keep := fun h hk r hr => ⟨(hRd r.A (bys r.o)).keep (h r hr).1 hk, (hRd r.B (bys r.w)).keep (h r hr).2 hk⟩
theorem hRd_more {A : Option Addr} {cs : List Value} {S S' : Nat → Prop} {w : World} (h : (hRd A cs).at_ S w) (hs : ∀ k, S k → S' k) : (hRd A cs).at_ S' w := ⟨fun ad e => hs _ (h.1 ad e), h.2⟩
theorem St.rcs0 {w0 w : World} {H : List HP} (hS : St w0 w H) : St w0 w (hRcs [] :: H) :=
  hS.new (Below.refl _ _) (fun _ => False) (fun _ h => h.elim) (fun r hr => by cases hr)
theorem St.rcsSnoc {w0 w : World} {H : List HP} {r : Rc} {rs : List Rc} (hS : St w0 w (hRd r.A (bys r.o) :: hRd r.B (bys r.w) :: hRcs rs :: H)) : St w0 w (hRcs (rs ++ [r]) :: H) := by
  obtain ⟨hb, S, h1, h2, S2, h3, h4, S3, h5, h6, q⟩ := hS
  refine ⟨hb, fun k => S k ∨ S2 k ∨ S3 k, fun k hk => ?_, fun x hx => ?_, Sep.mono (fun k hk => ⟨hk.1.1.1, fun h => ?_⟩) q⟩
  · rcases hk with hk | hk | hk
    · exact h1 k hk
    · exact (h3 k hk).1
    · exact (h5 k hk).1.1
  · rcases List.mem_append.1 hx with hx | hx
    · exact ⟨hRd_more (h6 x hx).1 fun k hk => .inr (.inr hk), hRd_more (h6 x hx).2 fun k hk => .inr (.inr hk)⟩
    · rw [List.mem_singleton] at hx
      subst hx
      exact ⟨hRd_more h2 fun k hk => .inl hk, hRd_more h4 fun k hk => .inr (.inl hk)⟩
  · rcases h with h | h | h
    · exact hk.1.1.2 h
    · exact hk.1.2 h
    · exact hk.2 h
theorem St.rcs {w0 w : World} {H : List HP} {rs : List Rc} {k : Nat} (hS : St w0 w H) (hk : H[k]? = some (hRcs rs)) : ∀ r ∈ rs, r.rd w := by
  obtain ⟨_, _, h⟩ := (hS.focus hk).head
  exact fun r hr => ⟨(h r hr).1.2, (h r hr).2.2⟩
/-- what a record says -/
def Rc.core (r : Rc) : Rc := r.at_ none 0 none 0
theorem core_len {rs ls : List Rc} (h : ls.map Rc.core = rs.map Rc.core) : ls.length = rs.length := by simpa using congrArg List.length h
theorem getD_core (rs : List Rc) (i : Nat) : (rs.map Rc.core).getD i Rc.zero = (rs.getD i Rc.zero).core := by
  rw [List.getD_eq_getElem?_getD, List.getD_eq_getElem?_getD, List.getElem?_map]
  cases rs[i]? <;> rfl
theorem aheadM_core (rs : List Rc) (k t : Nat) : aheadM (rs.map Rc.core) k t = (aheadM rs k t).map Rc.core := by
  unfold aheadM
  rw [← List.map_take, List.map_reverse, List.filter_map]
  rfl
theorem okAt_core (rs : List Rc) (i : Nat) : okAt (rs.map Rc.core) i ↔ okAt rs i := by
  unfold okAt prevOk backOk
  rw [getD_core, getD_core, getD_core, aheadM_core]
  have e : ((aheadM rs i (rs.getD i Rc.zero).core.t).map Rc.core).head?.map Rc.l = (aheadM rs i (rs.getD i Rc.zero).t).head?.map Rc.l := by
    show ((aheadM rs i (rs.getD i Rc.zero).t).map Rc.core).head?.map Rc.l = _
    rw [List.head?_map]
    cases (aheadM rs i (rs.getD i Rc.zero).t).head? <;> rfl
  rw [e]
  exact Iff.rfl
theorem rowOk_core (rs : List Rc) : rowOk (rs.map Rc.core) ↔ rowOk rs := by
  unfold rowOk
  rw [List.length_map]
  exact ⟨fun h i hi => (okAt_core rs i).1 (h i hi), fun h i hi => (okAt_core rs i).2 (h i hi)⟩
theorem rowOk_of_core {rs ls : List Rc} (h : ls.map Rc.core = rs.map Rc.core) : rowOk ls ↔ rowOk rs := by
  rw [← rowOk_core ls, h, rowOk_core]
theorem rowE_of_core {rs ls : List Rc} (h : ls.map Rc.core = rs.map Rc.core) : rowE ls = rowE rs := by
  unfold rowE
  rw [core_len h]
  simp only [rowOk_of_core h]
/-- the bytes of a row -/
def rowEnc (rs : List Rc) : List Nat := beb 2 rs.length ++ rs.flatMap Rc.enc
theorem rowEnc_of_core {rs ls : List Rc} (h : ls.map Rc.core = rs.map Rc.core) : rowEnc ls = rowEnc rs := by
  have e : ∀ l : List Rc, l.flatMap Rc.enc = (l.map Rc.core).flatMap Rc.enc := fun l => by rw [List.flatMap_map]; rfl
  unfold rowEnc
  rw [core_len h, e ls, e rs, h]
theorem cells_one {rs : List Rc} : ∀ u ∈ rs.flatMap Rc.cells, u.oneCell' = true := by
  intro u hu
  obtain ⟨r, _, hr⟩ := List.mem_flatMap.1 hu
  simp only [Rc.cells, List.mem_cons, List.not_mem_nil, or_false] at hr
  rcases hr with rfl | rfl | rfl | rfl | rfl | rfl | rfl | rfl | rfl <;> rfl
attribute [local irreducible] Rd hRow hBlk hRd hAll Fn hRdr hMarks hRcs
attribute [local simp] Rc.cells
set_option maxHeartbeats 8000000 in
theorem all_ (A : Option Addr) (c : Nat) (rs : List Rc) (w0 : World) (hr : Rd w0 A (rs.flatMap Rc.cells)) (hl : rs.length ≤ 1000) (hrd : ∀ r ∈ rs, r.rd w0) (hwf : ∀ r ∈ rs, r.wf) :
    Fn Try.prog 22 [.slice A rs.length c] w0 fun v w' => ∃ A' c' ls, v = .slice A' ls.length c' ∧ ls.map Rc.core = rs.map Rc.core ∧ (∀ r ∈ ls, r.wf) ∧
      St w0 w' [hRow 25 9 A' ls.length c' (ls.flatMap Rc.cells), hRcs ls] := by
  refine enter 19 Try.func22 rfl rfl rfl ?_
  intro a hE
  have hS := St.start w0
  have hfl : (rs.flatMap Rc.cells).length = rs.length * 9 := flat_len (fun _ _ => rfl)
  repeat' (first
    | (with_reducible refine wp_seq ?_)
    | (with_reducible refine c_region ?_)
    | (with_reducible refine wpList_nil ?_)
    | (with_reducible refine then_normal ?_)
    | (with_reducible refine wp_block ?_)
    | ((with_reducible refine g_move ?_); refine s_move hE rfl rfl ?_; clear hE a; intro a hE)
    | ((with_reducible refine g_assign ?_); refine s_assign hE rfl rfl ?_; clear hE a; intro a hE)
    | ((with_reducible refine g_blt .len ?_); refine s_len hE rfl rfl ?_; clear hE a; intro a hE)
    )
  refine wp_loop_ghost (fun q a w => ∃ (k : Nat) (A' : Option Addr) (c' : Nat) (ls : List Rc), k + q = rs.length ∧ ls.length = k ∧ ls.map Rc.core = (rs.take k).map Rc.core ∧ (∀ r ∈ ls, r.wf) ∧ St w0 w [hRow 25 9 A' k c' (ls.flatMap Rc.cells), hRcs ls] ∧
    Env 19 [(6, .slice A rs.length c), (7, .int .i64 (rs.length : Int)), (8, .int .i64 (k : Int)), (3, .slice A' k c')] a) rs.length ⟨0, none, 0, [], by omega, rfl, by simp, fun r hr => (by cases hr), hS.rcs0.rowNil _ _, hE.sub ⟨rfl, rfl, rfl, rfl, trivial⟩⟩ ?_
  clear hE a hS
  rintro q a w ⟨k, A', c', ls, hk, hlen, hcp, hw, hS, hE⟩
  by_cases hk1 : k < rs.length
  · have hseg := flat_seg (c := Rc.cells) (size := 9) (l := rs) (fun _ _ => rfl) hk1
    have hrk := hrd _ (List.getElem_mem hk1)
    have hwk := hwf _ (List.getElem_mem hk1)
    repeat' (first
      | (with_reducible refine wp_seq ?_)
      | (with_reducible refine c_region ?_)
      | (with_reducible refine wpList_nil ?_)
      | (with_reducible refine then_normal ?_)
      | (with_reducible refine wp_skip ?_)
      | (with_reducible refine wp_block ?_)
      | ((with_reducible refine g_move ?_); refine s_move hE rfl rfl ?_; clear hE a; intro a hE)
      | ((with_reducible refine g_bin .lss ?_); refine s_lss hE rfl rfl rfl ?_; clear hE a; intro a hE)
      | ((with_reducible refine g_cond ?_); refine c_dec hE rfl (fun hc => ?_) (fun hc => ?_) <;> try omega)
      | ((with_reducible refine g_ia ?_); refine s_idxR hE rfl rfl (by omega) (by omega) (by (first | exact Rd.st (by assumption) hS )) (by first | omega ) rfl ?_; clear hE a; intro a hE)
      | ((with_reducible refine g_alloc ?_); refine s_allocS hE hS rfl rfl ?_; clear hE a hS; intro g a w hE hS)
      | ((with_reducible refine g_load ?_); (first | (refine s_loadW (k := 0) hS hE rfl rfl rfl rfl ?_) ); clear hE a; intro a hE)
      | ((with_reducible refine g_store ?_); (first | (refine s_storeW (k := 0) hS hE rfl rfl rfl rfl rfl (by simp [Value.oneCell']) ?_) ); clear hS; intro w hS; simp only [List.set_cons_zero, List.set_cons_succ, Nat.add_zero] at hS)
      | ((with_reducible refine g_load ?_); refine s_elemR hE rfl (by (first | exact Rd.st (by assumption) hS )) (by first | exact hseg ) (by rfl) (by rfl) rfl ?_; clear hE a; intro a hE))
    refine s_call hE rfl rfl rfl (copied rs[k] w (Rc.rd_st hrk hS) hwk) ?_
    rintro _ w ⟨A1, c1, B1, d1, rfl, hS1⟩; clear hE a; intro a hE; replace hS := hS.frame hS1; clear hS1; try simp only [List.cons_append, List.nil_append] at hS
    skip
    refine s_litA hE hS rfl rfl rfl rfl rfl ?_
    clear hE a hS; intro g2 a w hE hS
    refine s_appendAt (k := 4) hE hS rfl rfl rfl hS.rd rfl (cells_one (rs := [rs[k].at_ A1 c1 B1 d1]) ) (by omega) rfl rfl rfl rfl ?_
    clear hE a hS; intro A2 c2 a w hE hS
    repeat' (first
      | (with_reducible refine c_region ?_)
      | (with_reducible refine wpList_nil ?_)
      | (with_reducible refine then_normal ?_)
      | (with_reducible refine block_normal ?_)
      | ((with_reducible refine g_move ?_); refine s_move hE rfl rfl ?_; clear hE a; intro a hE)
      | ((with_reducible refine g_assign ?_); refine s_assign hE rfl rfl ?_; clear hE a; intro a hE)
      | ((with_reducible refine g_bin .add ?_); refine s_add hE rfl rfl rfl (by first  | exact wrap64_in (by omega) ) ?_; clear hE a; intro a hE)
      )
    simp only [List.set_cons_succ, List.set_cons_zero] at hS
    have hwl : (rs[k].at_ A1 c1 B1 d1).wf := Rc.at_wf hwk (hS.lenAt (k := 1) rfl).2.1 (hS.lenAt (k := 2) rfl).2.1
    have hS2 := ((hS.focus (k := 5) rfl).focus (k := 3) rfl).focus (k := 3) rfl
    have hS3 := hS2.rowRd.p1.rowRd.p1
    have hS4 := St.rcsSnoc (r := rs[k].at_ A1 c1 B1 d1) hS3
    have hS5 := hS4.only2 0 2 rfl rfl
    have e2 : ls.flatMap Rc.cells ++ (rs[k].at_ A1 c1 B1 d1).cells = (ls ++ [rs[k].at_ A1 c1 B1 d1]).flatMap Rc.cells := by simp
    rw [e2] at hS5
    refine ⟨q - 1, by omega, k + 1, A2, c2, ls ++ [rs[k].at_ A1 c1 B1 d1], by omega, by simp [hlen], ?_, ?_, hS5, hE.sub ⟨rfl, rfl, rfl, rfl, trivial⟩⟩
    · rw [List.take_succ_eq_append_getElem hk1, List.map_append, List.map_append, hcp]
      rfl
    · intro r hr
      rcases List.mem_append.1 hr with hr | hr
      · exact hw r hr
      · rw [List.mem_singleton] at hr
        subst hr
        exact hwl
  · obtain rfl : k = rs.length := by omega
    repeat' (first
      | (with_reducible refine wp_seq ?_)
      | (with_reducible refine c_region ?_)
      | (with_reducible refine wpList_nil ?_)
      | (with_reducible refine then_normal ?_)
      | (with_reducible refine wp_ret ?_)
      | (with_reducible refine wp_exit ?_)
      | (with_reducible refine then_exit ?_)
      | (with_reducible refine block_same ?_)
      | ((with_reducible refine g_move ?_); refine s_move hE rfl rfl ?_; clear hE a; intro a hE)
      | ((with_reducible refine g_assign ?_); refine s_assign hE rfl rfl ?_; clear hE a; intro a hE)
      | ((with_reducible refine g_bin .lss ?_); refine s_lss hE rfl rfl rfl ?_; clear hE a; intro a hE)
      | ((with_reducible refine g_cond ?_); refine c_dec hE rfl (fun hc => ?_) (fun hc => ?_) <;> try omega)
      )
    rw [List.take_length] at hcp
    refine ret1 hE rfl rfl ⟨A', c', ls, by rw [hlen], hcp, hw, by rw [hlen]; exact hS⟩
end Go.Proofs.Ytmfcffeoooegcaa
