/-
  Contracts: sectors written and synced: a head, noughts, a frame.
-/
import Derived.Test.YtfoeelghehjanaaWD
import Derived.Test.YtfoeelghehjanaaDM
namespace Go.Proofs.Ytfoeelghehjanaa
open Go.RowKit
set_option linter.unusedVariables false
set_option linter.unusedSimpArgs false
attribute [local irreducible] Rd hRow hBlk hRd hRdr rowsP hDk Fn hMarks

theorem ws_atN {l : List (Int × Blk)} : ∀ {D : DM} {m : Nat}, D.atN m → (∀ x ∈ l, Blk.ok x.2) → m + l.length ≤ 90000 → (D.ws l).atN (m + l.length) := by
  induction l with
  | nil => intro D m h _ _; exact h
  | cons x l ih =>
    intro D m h hb hl
    rw [List.length_cons] at hl ⊢
    have h1 := write_atN h (by omega) x.1 (hb x (List.mem_cons_self ..))
    have h2 := ih h1 (fun y hy => hb y (List.mem_cons_of_mem _ hy)) (by omega)
    rw [ws_cons, show m + (l.length + 1) = m + 1 + l.length by omega]
    exact h2
theorem wss_atN {l : List (Int × Blk)} : ∀ {D : DM} {m : Nat}, D.atN m → (∀ x ∈ l, Blk.ok x.2) → m + l.length ≤ 90000 → (D.wss l).1.atN (m + l.length + 1) := by
  induction l with
  | nil => intro D m h _ hl; exact sync_atN h (by simpa using hl)
  | cons x l ih =>
    intro D m h hb hl
    rw [List.length_cons] at hl ⊢
    have h1 := write_atN h (by omega) x.1 (hb x (List.mem_cons_self ..))
    rw [wss_cons]
    split
    · exact (ih h1 (fun y hy => hb y (List.mem_cons_of_mem _ hy)) (by omega)).mono (by omega)
    · exact h1.mono (by omega)
abbrev cvP (at_ : Int) (x : Nat × Blk) : Int × Blk := (at_ + (x.1 : Int), x.2)
theorem fullP_cv (at_ : Int) (t n : Nat) (b : List Nat) : (fullP t n b).map (cvP at_) = atW at_ (partsB t n b) := by
  unfold fullP atW partsB
  rw [List.zipIdx_map, List.map_map, List.map_map]
  have key : ∀ m k, (List.range' k m).zipIdx k = (List.range' k m).map fun i => (i, i) := by
    intro m
    induction m with
    | zero => intro k; rfl
    | succ m ih => intro k; rw [List.range'_succ, List.zipIdx_cons, List.map_cons, ih]
  rw [List.range_eq_range', key _ 0, List.map_map]
  rfl
theorem fullP_ok {t n : Nat} {b : List Nat} (hb : Bs b) (hl : b.length ≤ 40000) : ∀ x ∈ fullP t n b, Blk.ok x.2 := by
  intro x hx
  obtain ⟨k, hk, rfl⟩ := List.mem_map.1 hx
  exact partB_ok hb hl (List.mem_range.1 hk)
theorem map_atI {α : Type} (f : α → Value) {l : List α} {k : Nat} (hk : k < l.length) : (l.map f)[((k : Nat) : Int).toNat * 1]? = some (f (l[k]'hk)) := by
  rw [Int.toNat_natCast, Nat.mul_one, List.getElem?_map, List.getElem?_eq_getElem hk]; rfl
section
variable {g : Nat} {D : DM} {H : List HP} {w0 w : World} {m : Nat}
set_option maxHeartbeats 8000000
theorem kput (t ar : Nat) (ht : t < 4294967296) (ha : ar < 4294967296) (hD : D.atN m) (hm : m ≤ 80000) (hS : St w0 w (hDk g D :: H)) :
    Fn Try.prog 54 [.pointer (some ⟨g, 0, none⟩), .int .u32 (t : Int), .int .i64 (ar : Int)] w fun v w' => v = .int .i64 (D.wrs ((t % 2 : Nat) : Int) [headB t ar]).2 ∧ St w0 w' (hDk g (D.wrs ((t % 2 : Nat) : Int) [headB t ar]).1 :: H) := by
  have hho := headB_ok t ar
  have e1 : (t : Int).tmod 2 = ((t % 2 : Nat) : Int) := tmod_nat t 2
  have e2 : IntKind.i64.wrap ((t % 2 : Nat) : Int) = ((t % 2 : Nat) : Int) := wrap64_in (by omega)
  have hW : D.wrs ((t % 2 : Nat) : Int) [headB t ar] = if (D.write ((t % 2 : Nat) : Int) (headB t ar)).2 = 0 then (D.write ((t % 2 : Nat) : Int) (headB t ar)).1.sync else D.write ((t % 2 : Nat) : Int) (headB t ar) := by
    show (if (D.write (((t % 2 : Nat) : Int) + ((0 : Nat) : Int)) (headB t ar)).2 = 0 then (D.write (((t % 2 : Nat) : Int) + ((0 : Nat) : Int)) (headB t ar)).1.sync else D.write (((t % 2 : Nat) : Int) + ((0 : Nat) : Int)) (headB t ar)) = _
    rw [show ((t % 2 : Nat) : Int) + ((0 : Nat) : Int) = ((t % 2 : Nat) : Int) by omega]
  rw [hW]
  refine enter 21 Try.func54 rfl rfl rfl ?_
  intro a hE
  generalize t % 2 = tt at e1 e2 hW
  repeat' (first

    | (with_reducible refine wp_seq ?_)
    | (with_reducible refine c_region ?_)
    | (with_reducible refine wpList_nil ?_)
    | (with_reducible refine then_normal ?_)
    | ((with_reducible refine g_move ?_); refine s_move hE rfl rfl ?_; clear hE a; intro a hE)
    | ((with_reducible refine g_assign ?_); refine s_assign hE rfl rfl ?_; clear hE a; intro a hE)
    | ((with_reducible refine g_bin .rem ?_); refine s_rem hE rfl rfl (by omega) rfl (by first | exact e1 ) ?_; clear hE a; intro a hE)
    | ((with_reducible refine g_conv ?_); refine s_conv hE rfl rfl (by first | exact e2 ) ?_; clear hE a; intro a hE)
    )
  refine s_call hE rfl rfl rfl (head t ar ht ha w) ?_
  rintro _ w ⟨rfl, hS1⟩; clear hE a; intro a hE; replace hS := hS.frame hS1; clear hS1; try simp only [List.cons_append, List.nil_append] at hS
  refine s_call hE rfl rfl rfl (kwrite (tt : Int) (headB t ar) hho hD (by omega) hS) ?_
  rintro _ w ⟨rfl, hS⟩; clear hE a; intro a hE
  have hD1 := write_atN hD (by omega) (tt : Int) hho
  by_cases he : (D.write (tt : Int) (headB t ar)).2 = 0
  · rw [if_pos he]
    rw [he] at hE
    repeat' (first

      | (with_reducible refine wp_seq ?_)
      | (with_reducible refine c_region ?_)
      | (with_reducible refine wpList_nil ?_)
      | (with_reducible refine then_normal ?_)
      | (with_reducible refine wp_skip ?_)
      | ((with_reducible refine g_move ?_); refine s_move hE rfl rfl ?_; clear hE a; intro a hE)
      | ((with_reducible refine g_assign ?_); refine s_assign hE rfl rfl ?_; clear hE a; intro a hE)
      | ((with_reducible refine g_bin .neq ?_); refine s_neq hE rfl rfl rfl ?_; clear hE a; intro a hE)
      | ((with_reducible refine g_cond ?_); refine c_false hE rfl ?_)
      )
    refine s_call hE rfl rfl rfl (ksync hD1 (by omega) hS) ?_
    rintro _ w ⟨rfl, hS⟩; clear hE a; intro a hE
    repeat' (first

      | (with_reducible refine wpList_nil ?_)
      | (with_reducible refine then_normal ?_)
      | (with_reducible refine wp_ret ?_)
      | ((with_reducible refine g_assign ?_); refine s_assign hE rfl rfl ?_; clear hE a; intro a hE)
      )
    exact ret1 hE rfl rfl ⟨rfl, hS⟩
  · rw [if_neg he]
    generalize (D.write (tt : Int) (headB t ar)).2 = e at hE he
    repeat' (first

      | (with_reducible refine wp_seq ?_)
      | (with_reducible refine c_region ?_)
      | (with_reducible refine wpList_nil ?_)
      | (with_reducible refine then_normal ?_)
      | (with_reducible refine wp_ret ?_)
      | (with_reducible refine then_ret ?_)
      | ((with_reducible refine g_move ?_); refine s_move hE rfl rfl ?_; clear hE a; intro a hE)
      | ((with_reducible refine g_assign ?_); refine s_assign hE rfl rfl ?_; clear hE a; intro a hE)
      | ((with_reducible refine g_bin .neq ?_); refine s_neq hE rfl rfl rfl ?_; clear hE a; intro a hE)
      | ((with_reducible refine g_cond ?_); refine c_dec hE rfl (fun hc => ?_) (fun hc => ?_) <;> try omega)
      )
    exact ret1 hE rfl rfl ⟨rfl, hS⟩
abbrev izs (l : List Int) : List Value := l.map fun i : Int => Value.int .i64 i
set_option maxRecDepth 20000 in
theorem kwipe (l : List Int) (A : Option Addr) (c : Nat) (hl : l.length ≤ 4000) (hD : D.atN m) (hm : m ≤ 80000) (hS : St w0 w (hDk g D :: hRow 3 1 A l.length c (izs l) :: H)) :
    Fn Try.prog 58 [.pointer (some ⟨g, 0, none⟩), .slice A l.length c] w fun v w' => v = .int .i64 (D.wipe l).2 ∧ St w0 w' (hDk g (D.wipe l).1 :: hRow 3 1 A l.length c (izs l) :: H) := by
  unfold DM.wipe
  have hml : (izs l).length = l.length := List.length_map ..
  refine enter 24 Try.func58 rfl rfl rfl ?_
  intro a hE
  repeat' (first

    | (with_reducible refine wp_seq ?_)
    | (with_reducible refine c_region ?_)
    | (with_reducible refine wpList_nil ?_)
    | (with_reducible refine then_normal ?_)
    | (with_reducible refine wp_block ?_)
    | ((with_reducible refine g_move ?_); refine s_move hE rfl rfl ?_; clear hE a; intro a hE)
    | ((with_reducible refine g_assign ?_); refine s_assign hE rfl rfl ?_; clear hE a; intro a hE)
    | ((with_reducible refine g_blt .len ?_); refine s_len hE rfl rfl ?_; clear hE a; intro a hE)
    )
  refine wp_loop_ghost (fun q a w => ∃ (k : Nat), k + q = l.length ∧ okw D ((l.take k).map fun i => (i, noughts)) ∧ St w0 w (hDk g (D.ws ((l.take k).map fun i => (i, noughts))) :: hRow 3 1 A l.length c (izs l) :: H) ∧ Env 24 [(0, .pointer (some ⟨g, 0, none⟩)), (8, .slice A l.length c), (9, .int .i64 (l.length : Int)), (10, .int .i64 (k : Int))] a) l.length ⟨0, by omega, trivial, hS, hE.sub ⟨rfl, rfl, rfl, rfl, trivial⟩⟩ ?_
  clear hE a hS
  rintro q a w ⟨k, hk, hok, hS, hE⟩
  have hDw := ws_atN (l := (l.take k).map fun i => (i, noughts)) hD (fun x hx => by
    obtain ⟨i, _, rfl⟩ := List.mem_map.1 hx
    exact noughts_ok) (by rw [List.length_map, List.length_take]; omega)
  have hkl : ((l.take k).map fun i : Int => (i, noughts)).length ≤ 4000 := by rw [List.length_map, List.length_take]; omega
  by_cases hk1 : k < l.length
  · have hg := map_atI (fun i : Int => Value.int .i64 i) hk1
    have hst : ((l.take (k + 1)).map fun i : Int => (i, noughts)) = ((l.take k).map fun i : Int => (i, noughts)) ++ [((l[k]'hk1), noughts)] := by
      rw [List.take_succ_eq_append_getElem hk1, List.map_append]; rfl
    have hall : (l.map fun i : Int => (i, noughts)) = ((l.take k).map fun i : Int => (i, noughts)) ++ ((l[k]'hk1), noughts) :: ((l.drop (k + 1)).map fun i : Int => (i, noughts)) := by
      rw [← List.map_cons (f := fun i : Int => (i, noughts)), ← List.drop_eq_getElem_cons hk1, ← List.map_append, List.take_append_drop]
    generalize (l[k]'hk1) = i at hg hst hall
    generalize ((l.take k).map fun i : Int => (i, noughts)) = pre at hok hS hDw hst hall hkl
    have hnl : (bys noughts).length = 64 := by rw [bys_length]; exact noughts_ok.1
    repeat' (first

      | (with_reducible refine wp_seq ?_)
      | (with_reducible refine c_region ?_)
      | (with_reducible refine wpList_nil ?_)
      | (with_reducible refine then_normal ?_)
      | (with_reducible refine wp_skip ?_)
      | (with_reducible refine wp_block ?_)
      | ((with_reducible refine g_move ?_); refine s_move hE rfl rfl ?_; clear hE a; intro a hE)
      | ((with_reducible refine g_assign ?_); refine s_assign hE rfl rfl ?_; clear hE a; intro a hE)
      | ((with_reducible refine g_bin .lss ?_); refine s_lss hE rfl rfl rfl ?_; clear hE a; intro a hE)
      | ((with_reducible refine g_cond ?_); refine c_dec hE rfl (fun hc => ?_) (fun hc => ?_) <;> try omega)
      | ((with_reducible refine g_ia ?_); refine s_idxR hE rfl rfl (by omega) (by omega) (by (first | exact hS.rdAt (k := 1) rfl )) (by first | omega ) rfl ?_; clear hE a; intro a hE)
      | ((with_reducible refine g_load ?_); refine s_loadR hE rfl (by (first | exact hS.rdAt (k := 1) rfl )) (by first | exact hg ) rfl ?_; clear hE a; intro a hE)
      )
    refine s_val hE rfl rfl rfl (r_build (parts := []) (vs := []) (bys noughts) hE rfl rfl) ?_
    clear hE a; intro a hE
    refine s_call hE rfl rfl rfl (kwrite i noughts noughts_ok hDw (by omega) hS) ?_
    rintro _ w ⟨rfl, hS⟩; clear hE a; intro a hE
    by_cases he : ((D.ws pre).write i noughts).2 = 0
    · rw [he] at hE
      rw [← ws_snoc D pre (i, noughts), ← hst] at hS
      repeat' (first

        | (with_reducible refine wp_seq ?_)
        | (with_reducible refine c_region ?_)
        | (with_reducible refine wpList_nil ?_)
        | (with_reducible refine then_normal ?_)
        | (with_reducible refine wp_skip ?_)
        | (with_reducible refine block_normal ?_)
        | ((with_reducible refine g_move ?_); refine s_move hE rfl rfl ?_; clear hE a; intro a hE)
        | ((with_reducible refine g_assign ?_); refine s_assign hE rfl rfl ?_; clear hE a; intro a hE)
        | ((with_reducible refine g_bin .neq ?_); refine s_neq hE rfl rfl rfl ?_; clear hE a; intro a hE)
        | ((with_reducible refine g_bin .add ?_); refine s_add hE rfl rfl rfl (by first  | exact wrap64_in (by omega) ) ?_; clear hE a; intro a hE)
        | ((with_reducible refine g_cond ?_); refine c_false hE rfl ?_)
        )
      exact ⟨q - 1, by omega, k + 1, by omega, by rw [hst]; exact okw_snoc hok he, hS, hE.sub ⟨rfl, rfl, rfl, rfl, trivial⟩⟩
    · rw [hall, wss_stop hok he]
      generalize ((D.ws pre).write i noughts).2 = e at hE he
      repeat' (first

        | (with_reducible refine wp_seq ?_)
        | (with_reducible refine c_region ?_)
        | (with_reducible refine wpList_nil ?_)
        | (with_reducible refine then_normal ?_)
        | (with_reducible refine wp_ret ?_)
        | (with_reducible refine then_ret ?_)
        | (with_reducible refine block_ret ?_)
        | ((with_reducible refine g_move ?_); refine s_move hE rfl rfl ?_; clear hE a; intro a hE)
        | ((with_reducible refine g_assign ?_); refine s_assign hE rfl rfl ?_; clear hE a; intro a hE)
        | ((with_reducible refine g_bin .neq ?_); refine s_neq hE rfl rfl rfl ?_; clear hE a; intro a hE)
        | ((with_reducible refine g_cond ?_); refine c_dec hE rfl (fun hc => ?_) (fun hc => ?_) <;> try omega)
        )
      exact ret1 hE rfl rfl ⟨rfl, hS⟩
  · obtain rfl : k = l.length := by omega
    rw [List.take_of_length_le (Nat.le_refl _)] at hok hS hDw hkl
    rw [wss_done hok]
    repeat' (first

      | (with_reducible refine wp_seq ?_)
      | (with_reducible refine c_region ?_)
      | (with_reducible refine wpList_nil ?_)
      | (with_reducible refine then_normal ?_)
      | (with_reducible refine wp_exit ?_)
      | (with_reducible refine then_exit ?_)
      | (with_reducible refine block_same ?_)
      | ((with_reducible refine g_move ?_); refine s_move hE rfl rfl ?_; clear hE a; intro a hE)
      | ((with_reducible refine g_bin .lss ?_); refine s_lss hE rfl rfl rfl ?_; clear hE a; intro a hE)
      | ((with_reducible refine g_cond ?_); refine c_dec hE rfl (fun hc => ?_) (fun hc => ?_) <;> try omega)
      )
    refine s_call hE rfl rfl rfl (ksync hDw (by omega) hS) ?_
    rintro _ w ⟨rfl, hS⟩; clear hE a; intro a hE
    repeat' (first

      | (with_reducible refine wpList_nil ?_)
      | (with_reducible refine then_normal ?_)
      | (with_reducible refine wp_ret ?_)
      | ((with_reducible refine g_assign ?_); refine s_assign hE rfl rfl ?_; clear hE a; intro a hE)
      )
    exact ret1 hE rfl rfl ⟨rfl, hS⟩
end
end Go.Proofs.Ytfoeelghehjanaa
