/-
  Contract: sectors are read.
-/
import Derived.Test.YtfoeelghehjanaaWJ
namespace Go.Proofs.Ytfoeelghehjanaa
open Go.RowKit
set_option linter.unusedVariables false
set_option linter.unusedSimpArgs false
attribute [local irreducible] Rd hRow hBlk hRd hRdr wrP hDk hWl Fn FnD hMarks

/-- sectors read one by one -/
def DM.rdl : DM → List Int → DM × List Blk × Int
  | D, [] => (D, [], 0)
  | D, i :: l => if (D.read i).2.2 = 0 then (((D.read i).1.rdl l).1, (D.read i).2.1 :: ((D.read i).1.rdl l).2.1, ((D.read i).1.rdl l).2.2) else ((D.read i).1, [], (D.read i).2.2)
def fromL (at_ : Int) (k n : Nat) : List Int := (List.range' k n).map fun j : Nat => at_ + (j : Int)
/-- so many from a place on -/
def DM.rds (D : DM) (at_ : Int) (n : Nat) : DM × List Blk × Int := D.rdl (fromL at_ 0 n)
theorem holds_ok {D : DM} (h : D.ok) (i : Nat) : Blk.ok (D.holds i) := by
  unfold DM.holds
  have h1 : ∀ l : List Wr, (∀ x ∈ l, Blk.ok x.b) → ∀ b, lastOf l i = some b → Blk.ok b := by
    intro l
    induction l with
    | nil => intro _ b hb; cases hb
    | cons x l ih =>
      intro hx b hb
      unfold lastOf at hb
      cases h2 : lastOf l i with
      | some c =>
        rw [h2] at hb
        obtain rfl : c = b := Option.some.inj hb
        exact ih (fun y hy => hx y (List.mem_cons_of_mem _ hy)) c h2
      | none =>
        rw [h2] at hb
        dsimp only at hb
        split at hb
        · obtain rfl := Option.some.inj hb
          exact hx x (List.mem_cons_self ..)
        · cases hb
  cases h2 : lastOf D.pend i with
  | some b => exact h1 D.pend (fun x hx => (h.pend x hx).1) b h2
  | none =>
    rw [Option.getD_none, List.getD_eq_getElem?_getD]
    cases h3 : D.safe[i]? with
    | none => exact noughts_ok
    | some b => exact h.safe b (List.mem_of_getElem? h3)
theorem read_blk {D : DM} (h : D.ok) (i : Int) : Blk.ok (D.read i).2.1 := by
  unfold DM.read
  split
  · exact holds_ok h _
  · exact noughts_ok
theorem rdl_atN : ∀ {l : List Int} {D : DM} {m : Nat}, D.atN m → m + l.length ≤ 90000 → (D.rdl l).1.atN (m + l.length)
  | [], D, m, h, _ => h
  | i :: l, D, m, h, hm => by
    have h1 := read_atN h (by omega) i
    unfold DM.rdl
    rw [List.length_cons] at hm ⊢
    split
    · exact (rdl_atN h1 (by omega)).mono (by omega)
    · exact h1.mono (by omega)
theorem rdl_ok : ∀ {l : List Int} {D : DM} {m : Nat}, D.atN m → m + l.length ≤ 90000 → ∀ b ∈ (D.rdl l).2.1, Blk.ok b
  | [], D, m, h, _ => fun b hb => by cases hb
  | i :: l, D, m, h, hm => by
    have h1 := read_atN h (by omega) i
    unfold DM.rdl
    rw [List.length_cons] at hm
    split
    · intro b hb
      rcases List.mem_cons.1 hb with rfl | hb
      · exact read_blk h.ok i
      · exact rdl_ok h1 (by omega) b hb
    · intro b hb; cases hb
theorem rdl_len : ∀ {l : List Int} {D : DM}, (D.rdl l).2.2 = 0 → (D.rdl l).2.1.length = l.length
  | [], D, _ => rfl
  | i :: l, D, h => by
    unfold DM.rdl at h ⊢
    split
    · rename_i h1
      rw [if_pos h1] at h
      rw [List.length_cons, List.length_cons, rdl_len h]
    · rename_i h1
      rw [if_neg h1] at h
      exact absurd h h1
theorem fromL_len (at_ : Int) (k n : Nat) : (fromL at_ k n).length = n := by simp [fromL]
theorem fromL_cons (at_ : Int) (k n : Nat) : fromL at_ k (n + 1) = (at_ + (k : Int)) :: fromL at_ (k + 1) n := by
  unfold fromL
  rw [List.range'_succ]
  rfl
section
variable {H : List HP} {w0 w : World} {g m : Nat}
set_option maxHeartbeats 8000000
theorem krd (D : DM) (at_ n : Nat) (hat : at_ ≤ 3000) (hn : n ≤ 1000) (hD : D.atN m) (hm : m ≤ 80000) (hS : St w0 w (hDk g D :: H)) :
    Fn Try.prog 59 [.pointer (some ⟨g, 0, none⟩), .int .i64 (at_ : Int), .int .i64 (n : Int)] w fun v w' =>
      ((D.rds at_ n).2.2 = 0 ∧ ∃ A c, v = .tuple #[.slice A (D.rds at_ n).2.1.length c, .int .i64 0] ∧ St w0 w' (hRow 80 64 A (D.rds at_ n).2.1.length c ((D.rds at_ n).2.1.flatMap bys) :: hDk g (D.rds at_ n).1 :: H)) ∨
      ((D.rds at_ n).2.2 ≠ 0 ∧ v = .tuple #[.slice none 0 0, .int .i64 (D.rds at_ n).2.2] ∧ St w0 w' (hDk g (D.rds at_ n).1 :: H)) := by
  refine enter 33 Try.func59 rfl rfl rfl ?_
  intro a hE
  repeat' (first

    | (with_reducible refine wp_seq ?_)
    | (with_reducible refine c_region ?_)
    | (with_reducible refine wpList_nil ?_)
    | (with_reducible refine then_normal ?_)
    | (with_reducible refine wp_block ?_)
    | ((with_reducible refine g_move ?_); refine s_move hE rfl rfl ?_; clear hE a; intro a hE)
    | ((with_reducible refine g_assign ?_); refine s_assign hE rfl rfl ?_; clear hE a; intro a hE)
    )
  replace hS := St.rowNil hS 80 64
  refine wp_loop_ghost (fun q a w => ∃ (k : Nat) (Dk : DM) (bs : List Blk) (A : Option Addr) (c : Nat), k + q = n ∧ bs.length = k ∧ Dk.atN (m + k) ∧ (∀ b ∈ bs, Blk.ok b) ∧ D.rds at_ n = ((Dk.rdl (fromL at_ k (n - k))).1, bs ++ (Dk.rdl (fromL at_ k (n - k))).2.1, (Dk.rdl (fromL at_ k (n - k))).2.2) ∧
      St w0 w (hRow 80 64 A k c (bs.flatMap bys) :: hDk g Dk :: H) ∧ Env 33 [(0, .pointer (some ⟨g, 0, none⟩)), (1, .int .i64 (at_ : Int)), (8, .slice A k c), (12, .int .i64 (n : Int)), (13, .int .i64 (k : Int))] a) n ⟨0, D, [], none, 0, by omega, rfl, hD, (fun b hb => by cases hb), rfl, hS, hE.sub ⟨rfl, rfl, rfl, rfl, rfl, trivial⟩⟩ ?_
  clear hE a hS
  rintro q a w ⟨k, Dk, bs, A, c, hk, hbl, hDa, hbs, hrd, hS, hE⟩
  by_cases hk1 : k < n
  · have e1 : IntKind.i64.wrap ((at_ : Int) + (k : Int)) = (at_ : Int) + (k : Int) := wrap64_in (by omega)
    rw [show n - k = (n - (k + 1)) + 1 by omega, fromL_cons] at hrd
    repeat' (first

      | (with_reducible refine wp_seq ?_)
      | (with_reducible refine c_region ?_)
      | (with_reducible refine wpList_nil ?_)
      | (with_reducible refine then_normal ?_)
      | (with_reducible refine wp_skip ?_)
      | (with_reducible refine wp_block ?_)
      | ((with_reducible refine g_move ?_); refine s_move hE rfl rfl ?_; clear hE a; intro a hE)
      | ((with_reducible refine g_assign ?_); refine s_assign hE rfl rfl ?_; clear hE a; intro a hE)
      | ((with_reducible refine g_bin .lss ?_); refine s_lss hE rfl rfl rfl ?_; clear hE a; intro a hE)
      | ((with_reducible refine g_bin .add ?_); refine s_add hE rfl rfl rfl (by first | exact e1 ) ?_; clear hE a; intro a hE)
      | ((with_reducible refine g_cond ?_); refine c_dec hE rfl (fun hc => ?_) (fun hc => ?_) <;> try omega)
      )
    refine s_call hE rfl rfl rfl (kread ((at_ : Int) + (k : Int)) hDa (by omega) hS.p1) ?_
    rintro _ w ⟨rfl, hS⟩; clear hE a; intro a hE
    have hrb := read_blk hDa.ok ((at_ : Int) + (k : Int))
    have hra := read_atN hDa (by omega) ((at_ : Int) + (k : Int))
    have hrl : (bys (Dk.read ((at_ : Int) + (k : Int))).2.1).length = 64 := by rw [bys_length]; exact hrb.1
    unfold DM.rdl at hrd
    generalize Dk.read ((at_ : Int) + (k : Int)) = r at hE hS hrb hra hrl hrd
    obtain ⟨D2, x, e⟩ := r
    dsimp only at hE hS hrb hra hrl hrd
    have hbo := bys_one x
    by_cases he : e = 0
    · subst he
      rw [if_pos rfl] at hrd
      dsimp only at hrd
      repeat' (first

        | (with_reducible refine wp_seq ?_)
        | (with_reducible refine c_region ?_)
        | (with_reducible refine wpList_nil ?_)
        | (with_reducible refine then_normal ?_)
        | (with_reducible refine wp_skip ?_)
        | ((with_reducible refine g_move ?_); refine s_move hE rfl rfl ?_; clear hE a; intro a hE)
        | ((with_reducible refine g_assign ?_); refine s_assign hE rfl rfl ?_; clear hE a; intro a hE)
        | ((with_reducible refine g_bin .neq ?_); refine s_neq hE rfl rfl rfl ?_; clear hE a; intro a hE)
        | ((with_reducible refine g_extract ?_); refine s_extract hE rfl rfl rfl ?_; clear hE a; intro a hE)
        | ((with_reducible refine g_cond ?_); refine c_false hE rfl ?_)
        | ((with_reducible refine g_alloc ?_); refine s_allocS hE hS rfl rfl ?_; clear hE a hS; intro g a w hE hS)
        | ((with_reducible refine g_load ?_); (first | (refine s_loadW (k := 0) hS hE rfl rfl (by first | assumption ) rfl ?_) ); clear hE a; intro a hE)
        | ((with_reducible refine g_store ?_); (first | (refine s_storeW (k := 0) hS hE rfl rfl rfl (by assumption) (by first | rfl ) (by first | exact bys_one _ ) ?_) ); clear hS; intro w hS; simp only [List.set_cons_zero, List.set_cons_succ, Nat.add_zero] at hS)
        )
      refine s_litA hE hS rfl hrl rfl rfl rfl ?_
      clear hE a hS; intro g7 a w hE hS
      refine s_appendAt (k := 3) hE hS rfl rfl rfl hS.rd hrl hbo (by omega) rfl rfl rfl rfl ?_
      clear hS hE a; intro A3 c3 a w hE hS
      simp only [List.set_cons_zero, List.set_cons_succ] at hS
      repeat' (first

        | (with_reducible refine c_region ?_)
        | (with_reducible refine wpList_nil ?_)
        | (with_reducible refine then_normal ?_)
        | (with_reducible refine block_normal ?_)
        | ((with_reducible refine g_move ?_); refine s_move hE rfl rfl ?_; clear hE a; intro a hE)
        | ((with_reducible refine g_assign ?_); refine s_assign hE rfl rfl ?_; clear hE a; intro a hE)
        | ((with_reducible refine g_bin .add ?_); refine s_add hE rfl rfl rfl (by first  | exact wrap64_in (by omega) ) ?_; clear hE a; intro a hE)
        )
      refine ⟨q - 1, by omega, k + 1, D2, bs ++ [x], A3, c3, by omega, by rw [List.length_append, hbl]; rfl, hra.mono (by omega), ?_, ?_, ?_, hE.sub ⟨rfl, rfl, rfl, rfl, rfl, trivial⟩⟩
      · intro b hb
        rcases List.mem_append.1 hb with h | h
        · exact hbs b h
        · rw [List.mem_singleton] at h; subst h; exact hrb
      · rw [hrd, List.append_assoc]; rfl
      · rw [List.flatMap_append, List.flatMap_singleton]
        exact (St.selD [3, 2] 2 hS)
    · rw [if_neg he] at hrd
      dsimp only at hrd
      rw [hrd]
      dsimp only
      repeat' (first

        | (with_reducible refine wp_seq ?_)
        | (with_reducible refine c_region ?_)
        | (with_reducible refine wpList_nil ?_)
        | (with_reducible refine then_normal ?_)
        | (with_reducible refine wp_ret ?_)
        | (with_reducible refine then_ret ?_)
        | (with_reducible refine block_ret ?_)
        | ((with_reducible refine g_move ?_); refine s_move hE rfl rfl ?_; clear hE a; intro a hE)
        | ((with_reducible refine g_assign ?_); refine s_assign hE rfl rfl ?_; clear hE a; intro a hE)
        | ((with_reducible refine g_bin .neq ?_); refine s_neq hE rfl rfl rfl ?_; clear hE a; intro a hE)
        | ((with_reducible refine g_extract ?_); refine s_extract hE rfl rfl rfl ?_; clear hE a; intro a hE)
        | ((with_reducible refine g_cond ?_); refine c_dec hE rfl (fun hc => ?_) (fun hc => ?_) <;> try omega)
        | ((with_reducible refine g_alloc ?_); refine s_allocS hE hS rfl rfl ?_; clear hE a hS; intro g a w hE hS)
        | ((with_reducible refine g_store ?_); (first | (refine s_storeW (k := 0) hS hE rfl rfl rfl (by assumption) (by first | rfl ) (by first | exact bys_one _ ) ?_) ); clear hS; intro w hS; simp only [List.set_cons_zero, List.set_cons_succ, Nat.add_zero] at hS)
        )
      exact ret2 hE rfl rfl rfl (.inr ⟨he, rfl, (St.selD [1] 2 hS)⟩)
  · obtain rfl : k = n := by omega
    rw [Nat.sub_self] at hrd
    have hrd2 : D.rds (at_ : Int) k = (Dk, bs, 0) := by rw [hrd]; unfold fromL DM.rdl; simp
    rw [hrd2]
    dsimp only
    rw [hbl]
    repeat' (first

      | (with_reducible refine wp_seq ?_)
      | (with_reducible refine c_region ?_)
      | (with_reducible refine wpList_nil ?_)
      | (with_reducible refine then_normal ?_)
      | (with_reducible refine wp_ret ?_)
      | (with_reducible refine wp_exit ?_)
      | (with_reducible refine then_exit ?_)
      | (with_reducible refine block_same ?_)
      | ((with_reducible refine g_move ?_); refine s_move hE rfl rfl ?_; clear hE a; intro a hE)
      | ((with_reducible refine g_assign ?_); refine s_assign hE rfl rfl ?_; clear hE a; intro a hE)
      | ((with_reducible refine g_bin .lss ?_); refine s_lss hE rfl rfl rfl ?_; clear hE a; intro a hE)
      | ((with_reducible refine g_cond ?_); refine c_dec hE rfl (fun hc => ?_) (fun hc => ?_) <;> try omega)
      )
    exact ret2 hE rfl rfl rfl (.inl ⟨rfl, A, c, rfl, hS⟩)
end
end Go.Proofs.Ytfoeelghehjanaa
