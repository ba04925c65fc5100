/-
  Rows of slots; contracts: encoding a page, and the first half of decoding one.
-/
import Derived.Test.YtmdfhhmnlplagaaGE
namespace Go.Proofs.Ytmdfhhmnlplagaa
open Go.RowKit
set_option linter.unusedVariables false
set_option linter.unusedSimpArgs false
attribute [local irreducible] Rd hRow hBlk hRd Fn hMarks

abbrev Sl.row (s : Sl) : HP := hRow 5 1 s.A s.b.length s.c (bys s.b)
/-- slots of one's own -/
def rowsP (l : List Sl) : HP := hAll (l.map Sl.row)
def nilS : Sl := ⟨none, 0, []⟩
def pcells (n : Int) (l : Nat) (sl : List Sl) : List Value := .int .i64 n :: .int .u64 (l : Int) :: (sl.map Sl.v ++ List.replicate (4 - sl.length) (.slice none 0 0))
theorem pcells_full {n : Int} {l : Nat} {sl : List Sl} (h : sl.length = 4) : pcells n l sl = Pg.cells ⟨n, l, sl⟩ := by
  unfold pcells
  rw [h, Nat.sub_self, List.replicate_zero, List.append_nil]
theorem pcells_set {n : Int} {l : Nat} {sl : List Sl} {k : Nat} (hk : sl.length = k) (h : k < 4) (s : Sl) : (pcells n l sl).set (2 + k) s.v = pcells n l (sl ++ [s]) := by
  unfold pcells
  have e : 4 - sl.length = (4 - (sl ++ [s]).length) + 1 := by rw [List.length_append, List.length_singleton]; omega
  rw [e, List.replicate_succ, Nat.add_comm 2 k, List.set_cons_succ, List.set_cons_succ, List.set_append_right _ _ (by rw [List.length_map]; omega), List.length_map, hk, Nat.sub_self, List.set_cons_zero, List.map_append, List.append_assoc]
  rfl
theorem pcells_one (n : Int) (l : Nat) (sl : List Sl) : ∀ v ∈ pcells n l sl, v.oneCell' = true := by
  intro v hv
  rcases List.mem_cons.1 hv with rfl | hv
  · rfl
  · rcases List.mem_cons.1 hv with rfl | hv
    · rfl
    · rcases List.mem_append.1 hv with hv | hv
      · obtain ⟨s, _, rfl⟩ := List.mem_map.1 hv
        rfl
      · rw [List.eq_of_mem_replicate hv]; rfl
theorem Pg.cells_one (p : Pg) : ∀ v ∈ p.cells, v.oneCell' = true := by
  intro v hv
  rcases List.mem_cons.1 hv with rfl | hv
  · rfl
  · rcases List.mem_cons.1 hv with rfl | hv
    · rfl
    · obtain ⟨s, _, rfl⟩ := List.mem_map.1 hv
      rfl
theorem pcells_len {n : Int} {l : Nat} {sl : List Sl} (h : sl.length ≤ 4) : (pcells n l sl).length = 6 := by
  unfold pcells
  simp only [List.length_cons, List.length_append, List.length_map, List.length_replicate]
  omega
section
variable {H : List HP} {w0 w : World} {l : List Sl}
theorem rowsP_nil (hS : St w0 w H) : St w0 w (rowsP [] :: H) := St.close_ (M := []) hS
theorem rowsP_add {s : Sl} (hS : St w0 w (s.row :: rowsP l :: H)) : St w0 w (rowsP (l ++ [s]) :: H) := by
  have h := St.open_ hS.p1
  unfold rowsP
  rw [List.map_append]
  exact St.close_ (M := l.map Sl.row ++ [s.row]) (by rw [List.append_assoc]; exact h)
theorem rowsP_rd (hS : St w0 w (rowsP l :: H)) : ∀ s ∈ l, Rd w s.A (bys s.b) := by
  intro s hs
  have h := St.open_ hS
  obtain ⟨k, hk, rfl⟩ := List.getElem_of_mem hs
  refine h.rdAt (k := k) (e := 5) (size := 1) (m := l[k].b.length) (c := l[k].c) ?_
  rw [List.getElem?_append_left (by rw [List.length_map]; exact hk), List.getElem?_map, List.getElem?_eq_getElem hk]
  rfl
theorem rowsP_len (hS : St w0 w (rowsP l :: H)) : ∀ s ∈ l, s.b.length ≤ s.c ∧ s.c ≤ maxLen := by
  intro s hs
  have h := St.open_ hS
  obtain ⟨k, hk, rfl⟩ := List.getElem_of_mem hs
  refine (h.lenAt (k := k) (e := 5) (size := 1) (A := l[k].A) (m := l[k].b.length) (c := l[k].c) (cs := bys l[k].b) ?_).2
  rw [List.getElem?_append_left (by rw [List.length_map]; exact hk), List.getElem?_map, List.getElem?_eq_getElem hk]
  rfl
theorem rowsP_nil4 (hS : St w0 w H) : St w0 w (rowsP [nilS, nilS, nilS, nilS] :: H) :=
  rowsP_add (l := [nilS, nilS, nilS]) (s := nilS) (St.rowNil (rowsP_add (l := [nilS, nilS]) (s := nilS) (St.rowNil (rowsP_add (l := [nilS]) (s := nilS) (St.rowNil (rowsP_add (l := []) (s := nilS) (St.rowNil (rowsP_nil hS) _ _)) _ _)) _ _)) _ _)
/-- a page of noughts -/
def Pg.zero : Pg := ⟨0, 0, [nilS, nilS, nilS, nilS]⟩
theorem Pg.zero_wf : Pg.zero.wf := ⟨rfl, by show -9223372036854775808 ≤ (0 : Int) ∧ (0 : Int) ≤ _; decide, by show 0 < _; decide, fun s hs => by
  have : s = nilS := by simp [Pg.zero] at hs; exact hs
  subst this
  exact ⟨Nat.le_refl _, Nat.zero_le _, fun c hc => by cases hc⟩⟩
set_option maxHeartbeats 8000000
theorem encode_ok (p : Pg) (hp : p.wf) (hr : p.rd w0) (h : p.m.right = true) :
    Fn Try.prog 17 [.agg p.cells.toArray] w0 fun v w' => ∃ A c, v = .tuple #[.slice A 256 c, .int .i64 0] ∧ St w0 w' [hRow 5 1 A 256 c (bys p.m.enc)] := by
  have hri := (right_iff p.m).1 h
  have hcl : p.cells.length = 6 := by simp [hp.s4]
  refine enter 12 Try.func17 rfl rfl rfl ?_
  intro a hE
  have hS := St.start w0
  repeat' (first

    | (with_reducible refine wp_seq ?_)
    | (with_reducible refine c_region ?_)
    | (with_reducible refine wpList_nil ?_)
    | (with_reducible refine then_normal ?_)
    | ((with_reducible refine g_assign ?_); refine s_assign hE rfl rfl ?_; clear hE a; intro a hE)
    | ((with_reducible refine g_box ?_); refine s_boxS hE hS rfl rfl ?_; clear hE a hS; intro g a w hE hS)
    | ((with_reducible refine g_load ?_); (first | (refine s_loadW (k := 0) hS hE rfl rfl (by first | assumption ) rfl ?_) ); clear hE a; intro a hE)
    )
  refine s_call hE rfl rfl rfl (check p hp w) ?_
  rintro _ w ⟨rfl, hS1⟩; clear hE a; intro a hE; replace hS := hS.frame hS1; clear hS1; try simp only [List.cons_append, List.nil_append] at hS
  rw [h] at hE
  repeat' (first

    | (with_reducible refine wp_seq ?_)
    | (with_reducible refine c_region ?_)
    | (with_reducible refine wpList_nil ?_)
    | (with_reducible refine then_normal ?_)
    | (with_reducible refine wp_skip ?_)
    | ((with_reducible refine g_move ?_); refine s_move hE rfl rfl ?_; clear hE a; intro a hE)
    | ((with_reducible refine g_assign ?_); refine s_assign hE rfl rfl ?_; clear hE a; intro a hE)
    | ((with_reducible refine g_bin .neq ?_); refine s_neq hE rfl rfl rfl ?_; clear hE a; intro a hE)
    | ((with_reducible refine g_cond ?_); refine c_false hE rfl ?_)
    | ((with_reducible refine g_load ?_); (first | (refine s_loadW (k := 0) hS hE rfl rfl (by first | assumption ) rfl ?_) ); clear hE a; intro a hE)
    )
  refine s_call hE rfl rfl rfl (laid p hp hri.1 (fun s hs => hri.2 _ (List.mem_map_of_mem hs)) w (hr.st hS)) ?_
  rintro _ w ⟨A, c, rfl, hS1⟩; clear hE a; intro a hE; replace hS := hS.frame hS1; clear hS1; try simp only [List.cons_append, List.nil_append] at hS
  repeat' (first

    | (with_reducible refine wpList_nil ?_)
    | (with_reducible refine then_normal ?_)
    | (with_reducible refine wp_ret ?_)
    | ((with_reducible refine g_assign ?_); refine s_assign hE rfl rfl ?_; clear hE a; intro a hE)
    )
  exact ret2 hE rfl rfl rfl ⟨A, c, rfl, hS.only 0 rfl⟩
theorem encode_no (p : Pg) (hp : p.wf) (h : p.m.right = false) (w0 : World) :
    Fn Try.prog 17 [.agg p.cells.toArray] w0 fun v w' => v = .tuple #[.slice none 0 0, .int .i64 160] ∧ St w0 w' [] := by
  have hcl : p.cells.length = 6 := by simp [hp.s4]
  refine enter 12 Try.func17 rfl rfl rfl ?_
  intro a hE
  have hS := St.start w0
  repeat' (first

    | (with_reducible refine wp_seq ?_)
    | (with_reducible refine c_region ?_)
    | (with_reducible refine wpList_nil ?_)
    | (with_reducible refine then_normal ?_)
    | ((with_reducible refine g_assign ?_); refine s_assign hE rfl rfl ?_; clear hE a; intro a hE)
    | ((with_reducible refine g_box ?_); refine s_boxS hE hS rfl rfl ?_; clear hE a hS; intro g a w hE hS)
    | ((with_reducible refine g_load ?_); (first | (refine s_loadW (k := 0) hS hE rfl rfl (by first | assumption ) rfl ?_) ); clear hE a; intro a hE)
    )
  refine s_call hE rfl rfl rfl (check p hp w) ?_
  rintro _ w ⟨rfl, hS1⟩; clear hE a; intro a hE; replace hS := hS.frame hS1; clear hS1; try simp only [List.cons_append, List.nil_append] at hS
  rw [h] at hE
  repeat' (first

    | (with_reducible refine wp_seq ?_)
    | (with_reducible refine c_region ?_)
    | (with_reducible refine wpList_nil ?_)
    | (with_reducible refine then_normal ?_)
    | (with_reducible refine wp_ret ?_)
    | (with_reducible refine then_ret ?_)
    | ((with_reducible refine g_move ?_); refine s_move hE rfl rfl ?_; clear hE a; intro a hE)
    | ((with_reducible refine g_assign ?_); refine s_assign hE rfl rfl ?_; clear hE a; intro a hE)
    | ((with_reducible refine g_bin .neq ?_); refine s_neq hE rfl rfl rfl ?_; clear hE a; intro a hE)
    | ((with_reducible refine g_cond ?_); refine c_true hE rfl ?_)
    )
  exact ret2 hE rfl rfl rfl ⟨rfl, hS.nil⟩
theorem bcloneN (A : Option Addr) (c : Nat) (xs : List Nat) (n : Nat) (w0 : World) (hr : Rd w0 A (bys xs)) (hl : xs.length ≤ 140737488355328) (hn : n = xs.length) :
    Fn Try.prog 35 [.slice A n c] w0 fun v w' => ∃ A' c', v = .slice A' n c' ∧ St w0 w' [hRow 5 1 A' n c' (bys xs)] := by
  subst hn
  exact bclone A c xs w0 hr hl
theorem wrong (e : Int) (w0 : World) : Fn Try.prog 29 [.int .i64 e] w0 fun v w' => v = .tuple #[.agg Pg.zero.cells.toArray, .int .i64 e] ∧ St w0 w' [] := by
  refine enter 6 Try.func29 rfl rfl rfl ?_
  intro a hE
  have hS := St.start w0
  repeat' (first

    | (with_reducible refine wp_seq ?_)
    | (with_reducible refine c_region ?_)
    | (with_reducible refine wpList_nil ?_)
    | (with_reducible refine then_normal ?_)
    | (with_reducible refine wp_ret ?_)
    | ((with_reducible refine g_move ?_); refine s_move hE rfl rfl ?_; clear hE a; intro a hE)
    | ((with_reducible refine g_assign ?_); refine s_assign hE rfl rfl ?_; clear hE a; intro a hE)
    | ((with_reducible refine g_alloc ?_); refine s_allocS hE hS rfl rfl ?_; clear hE a hS; intro g a w hE hS)
    | ((with_reducible refine g_build ?_); refine s_build [_, _, _, _, _, _] hE rfl rfl rfl ?_; clear hE a; intro a hE)
    | ((with_reducible refine g_store ?_); (first | (refine s_storeW (k := 0) hS hE rfl rfl rfl rfl rfl (by first | (simp [Value.oneCell']; done)) ?_) ); clear hS; intro w hS; simp only [List.set_cons_zero, List.set_cons_succ, Nat.add_zero] at hS)
    )
  exact retG (vs := [_, _]) hE rfl ⟨⟨_, rfl, res_W (k := 0) hS rfl rfl⟩, rfl, trivial⟩ ⟨rfl, hS.nil⟩
end
theorem bnum_one {b : List Nat} {i : Nat} (h : i < b.length) : bnum 0 ((b.drop i).take 1) = b.getD i 0 := by
  rw [List.drop_eq_getElem_cons h, List.getD_eq_getElem?_getD, List.getElem?_eq_getElem h]
  show bnum 0 [b[i]] = b[i]
  simp [bnum]
theorem takeM_in {xs : List Nat} {p n : Nat} (h : p + n ≤ xs.length) : takeM xs p 0 (n : Int) = ((xs.drop p).take n, p + n, 0) := by
  unfold takeM
  rw [if_neg (by decide), if_neg (by omega), if_neg (by omega), Int.toNat_natCast]
end Go.Proofs.Ytmdfhhmnlplagaa
