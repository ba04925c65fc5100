/-
  Rows of slots; contracts: encoding a page, and the first half of decoding one.
-/
import Derived.Test.YtfoeelghehjanaaGE
namespace Go.Proofs.Ytfoeelghehjanaa
open Go.RowKit
set_option linter.unusedVariables false
set_option linter.unusedSimpArgs false
attribute [local irreducible] Rd hRow hBlk hRd Fn hMarks

abbrev Sl.row (s : Sl) : HP := hRow 5 1 s.A s.b.length s.c (bys s.b)
/-- slots of one's own -/
def rowsP (l : List Sl) : HP := hAll (l.map Sl.row)
def nilS : Sl := ⟨none, 0, []⟩
def pcells (n : Int) (l : Nat) (sl : List Sl) : List Value := .int .i64 n :: .int .u64 (l : Int) :: (sl.map Sl.v ++ List.replicate (4 - sl.length) (.slice none 0 0))
theorem pcells_full {n : Int} {l : Nat} {sl : List Sl} (h : sl.length = 4) : pcells n l sl = Pg.cells ⟨n, l, sl⟩ := by
  unfold pcells
  rw [h, Nat.sub_self, List.replicate_zero, List.append_nil]
theorem pcells_set {n : Int} {l : Nat} {sl : List Sl} {k : Nat} (hk : sl.length = k) (h : k < 4) (s : Sl) : (pcells n l sl).set (2 + k) s.v = pcells n l (sl ++ [s]) := by
  unfold pcells
  have e : 4 - sl.length = (4 - (sl ++ [s]).length) + 1 := by rw [List.length_append, List.length_singleton]; omega
  rw [e, List.replicate_succ, Nat.add_comm 2 k, List.set_cons_succ, List.set_cons_succ, List.set_append_right _ _ (by rw [List.length_map]; omega), List.length_map, hk, Nat.sub_self, List.set_cons_zero, List.map_append, List.append_assoc]
  rfl
theorem pcells_one (n : Int) (l : Nat) (sl : List Sl) : ∀ v ∈ pcells n l sl, v.oneCell' = true := by
  intro v hv
  rcases List.mem_cons.1 hv with rfl | hv
  · rfl
  · rcases List.mem_cons.1 hv with rfl | hv
    · rfl
    · rcases List.mem_append.1 hv with hv | hv
      · obtain ⟨s, _, rfl⟩ := List.mem_map.1 hv
        rfl
      · rw [List.eq_of_mem_replicate hv]; rfl
theorem Pg.cells_one (p : Pg) : ∀ v ∈ p.cells, v.oneCell' = true := by
  intro v hv
  rcases List.mem_cons.1 hv with rfl | hv
  · rfl
  · rcases List.mem_cons.1 hv with rfl | hv
    · rfl
    · obtain ⟨s, _, rfl⟩ := List.mem_map.1 hv
      rfl
theorem pcells_len {n : Int} {l : Nat} {sl : List Sl} (h : sl.length ≤ 4) : (pcells n l sl).length = 6 := by
  unfold pcells
  simp only [List.length_cons, List.length_append, List.length_map, List.length_replicate]
  omega
section
variable {H : List HP} {w0 w : World} {l : List Sl}
theorem rowsP_nil (hS : St w0 w H) : St w0 w (rowsP [] :: H) := St.close_ (M := []) hS
theorem rowsP_add {s : Sl} (hS : St w0 w (s.row :: rowsP l :: H)) : St w0 w (rowsP (l ++ [s]) :: H) := by
  have h := St.open_ hS.p1
  unfold rowsP
  rw [List.map_append]
  exact St.close_ (M := l.map Sl.row ++ [s.row]) (by rw [List.append_assoc]; exact h)
theorem rowsP_rd (hS : St w0 w (rowsP l :: H)) : ∀ s ∈ l, Rd w s.A (bys s.b) := by
  intro s hs
  have h := St.open_ hS
  obtain ⟨k, hk, rfl⟩ := List.getElem_of_mem hs
  refine h.rdAt (k := k) (e := 5) (size := 1) (m := l[k].b.length) (c := l[k].c) ?_
  rw [List.getElem?_append_left (by rw [List.length_map]; exact hk), List.getElem?_map, List.getElem?_eq_getElem hk]
  rfl
theorem rowsP_len (hS : St w0 w (rowsP l :: H)) : ∀ s ∈ l, s.b.length ≤ s.c ∧ s.c ≤ maxLen := by
  intro s hs
  have h := St.open_ hS
  obtain ⟨k, hk, rfl⟩ := List.getElem_of_mem hs
  refine (h.lenAt (k := k) (e := 5) (size := 1) (A := l[k].A) (m := l[k].b.length) (c := l[k].c) (cs := bys l[k].b) ?_).2
  rw [List.getElem?_append_left (by rw [List.length_map]; exact hk), List.getElem?_map, List.getElem?_eq_getElem hk]
  rfl
theorem rowsP_nil4 (hS : St w0 w H) : St w0 w (rowsP [nilS, nilS, nilS, nilS] :: H) :=
  rowsP_add (l := [nilS, nilS, nilS]) (s := nilS) (St.rowNil (rowsP_add (l := [nilS, nilS]) (s := nilS) (St.rowNil (rowsP_add (l := [nilS]) (s := nilS) (St.rowNil (rowsP_add (l := []) (s := nilS) (St.rowNil (rowsP_nil hS) _ _)) _ _)) _ _)) _ _)
/-- a page of noughts -/
def Pg.zero : Pg := ⟨0, 0, [nilS, nilS, nilS, nilS]⟩
theorem Pg.zero_wf : Pg.zero.wf := ⟨rfl, by show -9223372036854775808 ≤ (0 : Int) ∧ (0 : Int) ≤ _; decide, by show 0 < _; decide, fun s hs => by
  have : s = nilS := by simp [Pg.zero] at hs; exact hs
  subst this
  exact ⟨Nat.le_refl _, Nat.zero_le _, fun c hc => by cases hc⟩⟩
set_option maxHeartbeats 8000000
theorem bcloneN (A : Option Addr) (c : Nat) (xs : List Nat) (n : Nat) (w0 : World) (hr : Rd w0 A (bys xs)) (hl : xs.length ≤ 140737488355328) (hn : n = xs.length) :
    Fn Try.prog 55 [.slice A n c] w0 fun v w' => ∃ A' c', v = .slice A' n c' ∧ St w0 w' [hRow 5 1 A' n c' (bys xs)] := by
  subst hn
  exact bclone A c xs w0 hr hl
end
theorem bnum_one {b : List Nat} {i : Nat} (h : i < b.length) : bnum 0 ((b.drop i).take 1) = b.getD i 0 := by
  rw [List.drop_eq_getElem_cons h, List.getD_eq_getElem?_getD, List.getElem?_eq_getElem h]
  show bnum 0 [b[i]] = b[i]
  simp [bnum]
theorem takeM_in {xs : List Nat} {p n : Nat} (h : p + n ≤ xs.length) : takeM xs p 0 (n : Int) = ((xs.drop p).take n, p + n, 0) := by
  unfold takeM
  rw [if_neg (by decide), if_neg (by omega), if_neg (by omega), Int.toNat_natCast]
end Go.Proofs.Ytfoeelghehjanaa
