/-
  Contracts: what a disk holds behind a crash; two disks held against each other.
-/
import Derived.Test.YtfoeelghehjanaaY2
import Derived.Test.YtfoeelghehjanaaX1
namespace Go.Proofs.Ytfoeelghehjanaa
open Go.RowKit
set_option linter.unusedVariables false
set_option linter.unusedSimpArgs false
section
variable {g : Nat} {D : DM} {H : List HP} {w0 w : World}
theorem kcopy (hD : D.ok) (hS : St w0 w (hDk g D :: H)) : Fn Try.prog 90 [.pointer (some ⟨g, 0, none⟩)] w fun v w' => ∃ g2, v = .pointer (some ⟨g2, 0, none⟩) ∧ St w0 w' (hDk g2 D :: hDk g D :: H) := by
  obtain ⟨S, c, Q, d, h⟩ := hDk_open hS
  refine Fn.mono (copy hD h) fun v w' ⟨g2, S2, c2, Q2, d2, e, h2⟩ => ⟨g2, e, ?_⟩
  have h3 := hDk_close h2
  exact (hDk_close (h3.focus (k := 3) rfl |>.focus (k := 3) rfl |>.focus (k := 3) rfl)).p1
end
attribute [local irreducible] Rd hRow hBlk hRd hRdr wrP hDk hWl hMl Fn FnD hMarks
def heldS (D : DM) (all : Bool) : List Blk := (D.crash (List.replicate D.pend.length all)).safe
theorem heldS_len (D : DM) (all : Bool) : (heldS D all).length = D.safe.length := by
  unfold heldS
  rw [(crash_calm _ _).2.2, lay_length]
theorem heldS_ok {D : DM} (h : D.ok) (all : Bool) : ∀ b ∈ heldS D all, Blk.ok b := by
  unfold heldS
  rw [(crash_calm _ _).2.2]
  exact lay_ok _ _ _ _ h.safe fun x hx => (h.pend x hx).1
section
variable {g ga gb m : Nat} {D : DM} {H : List HP} {w0 w : World}
set_option maxHeartbeats 8000000
set_option maxRecDepth 20000
theorem rheld (all : Bool) (hD : D.atN m) (hm : m ≤ 80000) (hS : St w0 w (hDk g D :: H)) :
    Fn Try.prog 73 [.pointer (some ⟨g, 0, none⟩), .bool all] w fun v w' => ∃ A c, v = .slice A D.safe.length c ∧ St w0 w' (hRow 80 64 A D.safe.length c ((heldS D all).flatMap bys) :: hDk g D :: H) := by
  have hpl := hD.pend
  have hsl := hD.ok.len
  refine enter 51 Try.func73 rfl rfl rfl ?_
  intro a hE
  repeat' (first
 | (with_reducible refine wp_seq ?_)
 | (with_reducible refine c_region ?_)
 | (with_reducible refine wpList_nil ?_)
 | (with_reducible refine then_normal ?_)
 | ((with_reducible refine g_move ?_); refine s_move hE rfl rfl ?_; clear hE a; intro a hE)
 | ((with_reducible refine g_assign ?_); refine s_assign hE rfl rfl ?_; clear hE a; intro a hE))
  refine s_call hE rfl rfl rfl (kcopy hD.ok hS) ?_
  rintro _ w ⟨g2, rfl, hS⟩; clear hE a; intro a hE
  repeat' (first
 | (with_reducible refine wp_seq ?_)
 | (with_reducible refine c_region ?_)
 | (with_reducible refine wpList_nil ?_)
 | (with_reducible refine then_normal ?_)
 | ((with_reducible refine g_move ?_); refine s_move hE rfl rfl ?_; clear hE a; intro a hE)
 | ((with_reducible refine g_assign ?_); refine s_assign hE rfl rfl ?_; clear hE a; intro a hE))
  refine s_call hE rfl rfl rfl (kpending hD hS) ?_
  rintro _ w ⟨A1, c1, rfl, hS⟩; clear hE a; intro a hE
  replace hS := hS.tail
  repeat' (first
 | ((with_reducible refine g_blt .len ?_); refine s_len hE rfl rfl ?_; clear hE a; intro a hE))
  refine s_make hE hS rfl rfl (by omega) (by omega) (by omega) (by omega) rfl ?_
  clear hE a hS; intro gm a w hE hS
  rw [Int.toNat_natCast] at hE hS
  obtain ⟨n, hn⟩ : ∃ n, n = D.pend.length := ⟨_, rfl⟩
  rw [← hn] at hE hS hpl
  rw [show ((madeCells (Value.bool false).cells (n * 1)).toList.take (n * 1)) = List.replicate 0 (Value.bool all) ++ List.replicate (n - 0) (Value.bool false) from by
    have := made_rep n 0 (Value.bool false) (Value.bool false).cells rfl
    rw [Nat.zero_add] at this
    rw [this, Nat.mul_one]
    rfl] at hS
  repeat' (first
 | (with_reducible refine wp_seq ?_)
 | (with_reducible refine c_region ?_)
 | (with_reducible refine wpList_nil ?_)
 | (with_reducible refine then_normal ?_)
 | (with_reducible refine wp_block ?_)
 | ((with_reducible refine g_move ?_); refine s_move hE rfl rfl ?_; clear hE a; intro a hE)
 | ((with_reducible refine g_assign ?_); refine s_assign hE rfl rfl ?_; clear hE a; intro a hE)
 | ((with_reducible refine g_blt .len ?_); refine s_len hE rfl rfl ?_; clear hE a; intro a hE))
  refine wp_loop_ghost (fun q a w => ∃ (k : Nat), k + q = n ∧ St w0 w (hRow 4 1 (some ⟨gm, 0, none⟩) n n (List.replicate k (Value.bool all) ++ List.replicate (n - k) (Value.bool false)) :: hDk g2 D :: hDk g D :: H) ∧ Env 51 [(1, .bool all), (5, .pointer (some ⟨g2, 0, none⟩)), (6, .slice (some ⟨gm, 0, none⟩) n n), (19, .int .i64 (n : Int)), (20, .int .i64 (k : Int))] a) n ⟨0, by omega, hS, hE.sub ⟨rfl, rfl, rfl, rfl, rfl, trivial⟩⟩ ?_
  clear hE a hS
  rintro q a w ⟨k, hk, hS, hE⟩
  have hkl : (List.replicate k (Value.bool all) ++ List.replicate (n - k) (Value.bool false)).length = n := by
    rw [List.length_append, List.length_replicate, List.length_replicate]; omega
  by_cases hk1 : k < n
  · have hset : (List.replicate k (Value.bool all) ++ List.replicate (n - k) (Value.bool false)).set k (.bool all) = List.replicate (k + 1) (Value.bool all) ++ List.replicate (n - (k + 1)) (Value.bool false) := by
      rw [List.set_append_right _ _ (by rw [List.length_replicate]; omega), List.length_replicate, Nat.sub_self, show n - k = (n - (k + 1)) + 1 by omega, List.replicate_succ, List.set_cons_zero, List.replicate_succ', List.append_assoc]
      rfl
    generalize List.replicate k (Value.bool all) ++ List.replicate (n - k) (Value.bool false) = cs at hS hkl hset
    repeat' (first
 | (with_reducible refine wp_seq ?_)
 | (with_reducible refine c_region ?_)
 | (with_reducible refine wpList_nil ?_)
 | (with_reducible refine then_normal ?_)
 | (with_reducible refine wp_skip ?_)
 | (with_reducible refine wp_block ?_)
 | (with_reducible refine block_normal ?_)
 | ((with_reducible refine g_move ?_); refine s_move hE rfl rfl ?_; clear hE a; intro a hE)
 | ((with_reducible refine g_assign ?_); refine s_assign hE rfl rfl ?_; clear hE a; intro a hE)
 | ((with_reducible refine g_bin .lss ?_); refine s_lss hE rfl rfl rfl ?_; clear hE a; intro a hE)
 | ((with_reducible refine g_bin .add ?_); refine s_add hE rfl rfl rfl (by first  | exact wrap64_in (by omega) ) ?_; clear hE a; intro a hE)
 | ((with_reducible refine g_cond ?_); refine c_dec hE rfl (fun hc => ?_) (fun hc => ?_) <;> try omega)
 | ((with_reducible refine g_ia ?_); refine s_idxR hE rfl rfl (by omega) (by omega) (by (first | exact hS.rd )) (by first | omega ) rfl ?_; clear hE a; intro a hE)
 | ((with_reducible refine g_store ?_); (first | (refine s_storeR1 (k := 0) hS hE rfl rfl rfl rfl (by first | omega ) rfl ?_) ); clear hS; intro w hS; simp only [List.set_cons_zero, List.set_cons_succ, Nat.add_zero] at hS))
    rw [show ((k : Nat) : Int).toNat * 1 = k by omega, hset] at hS
    skip
    exact ⟨q - 1, by omega, k + 1, by omega, hS, hE.sub ⟨rfl, rfl, rfl, rfl, rfl, trivial⟩⟩
  obtain rfl : k = n := by omega
  rw [Nat.sub_self, List.replicate_zero, List.append_nil] at hS
  repeat' (first
 | (with_reducible refine wp_seq ?_)
 | (with_reducible refine c_region ?_)
 | (with_reducible refine wpList_nil ?_)
 | (with_reducible refine then_normal ?_)
 | (with_reducible refine wp_exit ?_)
 | (with_reducible refine then_exit ?_)
 | (with_reducible refine block_same ?_)
 | ((with_reducible refine g_move ?_); refine s_move hE rfl rfl ?_; clear hE a; intro a hE)
 | ((with_reducible refine g_bin .lss ?_); refine s_lss hE rfl rfl rfl ?_; clear hE a; intro a hE)
 | ((with_reducible refine g_cond ?_); refine c_dec hE rfl (fun hc => ?_) (fun hc => ?_) <;> try omega))
  have hcr := kcrash (w0 := w0) (w := w) (gd := g2) (D := D) (H := hRow 4 1 (some ⟨gm, 0, none⟩) k k (List.replicate k (Value.bool all)) :: hDk g D :: H) (some ⟨gm, 0, none⟩) k (List.replicate k all) hD.ok (fun w' L h => by
    rw [List.map_replicate]
    exact (h.perm (List.perm_append_comm (l₁ := L))).rd) (by rw [List.length_replicate]; omega) hS.p1
  rw [List.length_replicate] at hcr
  refine s_call hE rfl rfl rfl hcr ?_
  clear hcr
  rintro _ w ⟨rfl, hS⟩; clear hE a; intro a hE
  obtain ⟨x1, x2, x3⟩ := crash_calm D (List.replicate k all)
  have x4 := crash_atN hD (List.replicate k all)
  have hh : heldS D all = (D.crash (List.replicate k all)).safe := by unfold heldS; rw [hn]
  rw [hh]
  have hhl := heldS_len D all
  have hho := heldS_ok hD.ok all
  rw [hh] at hhl hho
  clear hh x3
  generalize D.crash (List.replicate k all) = D1 at x1 x2 x4 hS hhl hho ⊢
  rw [← hhl] at hsl ⊢
  repeat' (first
 | (with_reducible refine wp_seq ?_)
 | (with_reducible refine c_region ?_)
 | (with_reducible refine wpList_nil ?_)
 | (with_reducible refine then_normal ?_)
 | (with_reducible refine wp_skip ?_)
 | ((with_reducible refine g_move ?_); refine s_move hE rfl rfl ?_; clear hE a; intro a hE)
 | ((with_reducible refine g_assign ?_); refine s_assign hE rfl rfl ?_; clear hE a; intro a hE)
 | ((with_reducible refine g_bin .neq ?_); refine s_neq hE rfl rfl rfl ?_; clear hE a; intro a hE)
 | ((with_reducible refine g_cond ?_); refine c_false hE rfl ?_))
  refine s_call hE rfl rfl rfl (klen hS) ?_
  rintro _ w ⟨rfl, hS⟩; clear hE a; intro a hE
  repeat' (first
 | (with_reducible refine wpList_nil ?_)
 | (with_reducible refine then_normal ?_)
 | (with_reducible refine wp_block ?_)
 | ((with_reducible refine g_move ?_); refine s_move hE rfl rfl ?_; clear hE a; intro a hE))
  have hS2 : St w0 w (hRow 80 64 none 0 0 ((D1.safe.take 0).flatMap bys) :: hDk g2 D1 :: hDk g D :: H) := St.rowNil (St.selD [0, 1] 1 hS) _ _
  clear hS; have hS := hS2; clear hS2
  obtain ⟨S, hSS⟩ : ∃ S, S = D1.safe := ⟨_, rfl⟩
  rw [← hSS] at hS hsl hho ⊢
  have hSS2 := hSS.symm
  rw [hSS2] at hE
  refine wp_loop_ghost (fun q a w => ∃ (k : Nat) (A : Option Addr) (c : Nat) (Dk : DM), k + q = S.length ∧ Dk.calm ∧ Dk.pend = [] ∧ Dk.safe = S ∧ Dk.atN (m + k) ∧ St w0 w (hRow 80 64 A k c ((S.take k).flatMap bys) :: hDk g2 Dk :: hDk g D :: H) ∧ Env 51 [(5, .pointer (some ⟨g2, 0, none⟩)), (8, .slice A k c), (33, .int .i64 (S.length : Int)), (34, .int .i64 (k : Int))] a) S.length ⟨0, none, 0, D1, by omega, x1, x2, hSS2, x4, hS, hE.sub ⟨rfl, rfl, rfl, rfl, trivial⟩⟩ ?_
  clear hE a hS x1 x2 x4 hSS hSS2 hhl
  rintro q a w ⟨j, A, c, Dk, hj, x1, x2, x3, x4, hS, hE⟩
  by_cases hj1 : j < S.length
  · have hrd := read_calm (i := (j : Int)) x1 x2 (by omega) (by rw [x3]; omega)
    have hra := read_atN x4 (by omega) (j : Int)
    have htk : S.take (j + 1) = S.take j ++ [S[j]] := List.take_succ_eq_append_getElem hj1
    have hxo := hho _ (List.getElem_mem hj1)
    rw [Int.toNat_natCast, x3, List.getD_eq_getElem?_getD, List.getElem?_eq_getElem hj1, Option.getD_some] at hrd
    generalize S[j] = x at hrd htk hxo
    have hxl : (bys x).length = 64 := by rw [bys_length]; exact hxo.1
    have hbo := bys_one x
    repeat' (first
 | (with_reducible refine wp_seq ?_)
 | (with_reducible refine c_region ?_)
 | (with_reducible refine wpList_nil ?_)
 | (with_reducible refine then_normal ?_)
 | (with_reducible refine wp_skip ?_)
 | (with_reducible refine wp_block ?_)
 | ((with_reducible refine g_move ?_); refine s_move hE rfl rfl ?_; clear hE a; intro a hE)
 | ((with_reducible refine g_assign ?_); refine s_assign hE rfl rfl ?_; clear hE a; intro a hE)
 | ((with_reducible refine g_bin .lss ?_); refine s_lss hE rfl rfl rfl ?_; clear hE a; intro a hE)
 | ((with_reducible refine g_cond ?_); refine c_dec hE rfl (fun hc => ?_) (fun hc => ?_) <;> try omega))
    have hkr := kread (w0 := w0) (w := w) (g := g2) (H := hRow 80 64 A j c ((S.take j).flatMap bys) :: hDk g D :: H) (j : Int) x4 (by omega) hS.p1
    rw [hrd] at hkr hra
    refine s_call hE rfl rfl rfl hkr ?_
    clear hkr
    rintro _ w ⟨rfl, hS⟩; clear hE a; intro a hE
    dsimp only at hE hS hra
    repeat' (first
 | (with_reducible refine wp_seq ?_)
 | (with_reducible refine c_region ?_)
 | (with_reducible refine wpList_nil ?_)
 | (with_reducible refine then_normal ?_)
 | (with_reducible refine wp_skip ?_)
 | ((with_reducible refine g_move ?_); refine s_move hE rfl rfl ?_; clear hE a; intro a hE)
 | ((with_reducible refine g_assign ?_); refine s_assign hE rfl rfl ?_; clear hE a; intro a hE)
 | ((with_reducible refine g_bin .neq ?_); refine s_neq hE rfl rfl rfl ?_; clear hE a; intro a hE)
 | ((with_reducible refine g_extract ?_); refine s_extract hE rfl rfl rfl ?_; clear hE a; intro a hE)
 | ((with_reducible refine g_cond ?_); refine c_false hE rfl ?_)
 | ((with_reducible refine g_alloc ?_); refine s_allocS hE hS rfl rfl ?_; clear hE a hS; intro g a w hE hS)
 | ((with_reducible refine g_load ?_); (first | (refine s_loadW (k := 0) hS hE rfl rfl (by first | assumption ) rfl ?_) ); clear hE a; intro a hE)
 | ((with_reducible refine g_store ?_); (first | (refine s_storeW (k := 0) hS hE rfl rfl rfl (by assumption) (by first | rfl ) (by first | exact bys_one _ ) ?_) ); clear hS; intro w hS; simp only [List.set_cons_zero, List.set_cons_succ, Nat.add_zero] at hS))
    refine s_litA hE hS rfl hxl rfl rfl rfl ?_
    clear hE a hS; intro g7 a w hE hS
    refine s_appendAt (k := 3) hE hS rfl rfl rfl hS.rd hxl hbo (by omega) rfl rfl rfl rfl ?_
    clear hS hE a; intro A3 c3 a w hE hS
    simp only [List.set_cons_zero, List.set_cons_succ] at hS
    repeat' (first
 | (with_reducible refine c_region ?_)
 | (with_reducible refine wpList_nil ?_)
 | (with_reducible refine then_normal ?_)
 | (with_reducible refine block_normal ?_)
 | ((with_reducible refine g_move ?_); refine s_move hE rfl rfl ?_; clear hE a; intro a hE)
 | ((with_reducible refine g_assign ?_); refine s_assign hE rfl rfl ?_; clear hE a; intro a hE)
 | ((with_reducible refine g_bin .add ?_); refine s_add hE rfl rfl rfl (by first  | exact wrap64_in (by omega) ) ?_; clear hE a; intro a hE))
    refine ⟨q - 1, by omega, j + 1, A3, c3, { Dk with safe := S, ops := Dk.ops + 1 }, by omega, ⟨x1.dead, x1.armed, x1.fails⟩, x2, rfl, hra.mono (by omega), ?_, hE.sub ⟨rfl, rfl, rfl, rfl, trivial⟩⟩
    rw [htk, List.flatMap_append, List.flatMap_singleton]
    exact (St.selD [3, 2, 2] 2 hS)
  · obtain rfl : j = S.length := by omega
    rw [List.take_length] at hS
    repeat' (first
 | (with_reducible refine wp_seq ?_)
 | (with_reducible refine c_region ?_)
 | (with_reducible refine wpList_nil ?_)
 | (with_reducible refine then_normal ?_)
 | (with_reducible refine wp_ret ?_)
 | (with_reducible refine wp_exit ?_)
 | (with_reducible refine then_exit ?_)
 | (with_reducible refine block_same ?_)
 | ((with_reducible refine g_move ?_); refine s_move hE rfl rfl ?_; clear hE a; intro a hE)
 | ((with_reducible refine g_assign ?_); refine s_assign hE rfl rfl ?_; clear hE a; intro a hE)
 | ((with_reducible refine g_bin .lss ?_); refine s_lss hE rfl rfl rfl ?_; clear hE a; intro a hE)
 | ((with_reducible refine g_cond ?_); refine c_dec hE rfl (fun hc => ?_) (fun hc => ?_) <;> try omega))
    exact ret1 hE rfl rfl ⟨A, c, rfl, hS.p1.tail⟩
theorem ralike (hD : D.atN m) (hm : m ≤ 80000) (hS : St w0 w (hDk ga D :: hDk gb D :: H)) :
    Fn Try.prog 40 [.pointer (some ⟨ga, 0, none⟩), .pointer (some ⟨gb, 0, none⟩)] w fun v w' => v = .bool true ∧ St w0 w' (hDk ga D :: hDk gb D :: H) := by
  have hsl := hD.ok.len
  refine enter 67 Try.func40 rfl rfl rfl ?_
  intro a hE
  repeat' (first
 | (with_reducible refine wp_seq ?_)
 | (with_reducible refine c_region ?_)
 | (with_reducible refine wpList_nil ?_)
 | (with_reducible refine then_normal ?_)
 | ((with_reducible refine g_move ?_); refine s_move hE rfl rfl ?_; clear hE a; intro a hE)
 | ((with_reducible refine g_assign ?_); refine s_assign hE rfl rfl ?_; clear hE a; intro a hE))
  refine s_call hE rfl rfl rfl (kdead hS) ?_
  rintro _ w ⟨rfl, hS⟩; clear hE a; intro a hE
  repeat' (first
 | ((with_reducible refine g_move ?_); refine s_move hE rfl rfl ?_; clear hE a; intro a hE))
  refine s_call hE rfl rfl rfl (kdead (hS.focus (k := 1) rfl)) ?_
  rintro _ w ⟨rfl, hS⟩; clear hE a; intro a hE
  simp only [List.eraseIdx_cons_succ, List.eraseIdx_cons_zero] at hS
  have hne : (D.dead != D.dead) = false := by simp
  refine s_neb hE rfl rfl rfl ?_
  clear hE a; intro a hE
  rw [hne] at hE
  repeat' (first
 | ((with_reducible refine g_move ?_); refine s_move hE rfl rfl ?_; clear hE a; intro a hE)
 | ((with_reducible refine g_guard ?_); refine gd_yes hE rfl rfl rfl ?_))
  refine s_call hE rfl rfl rfl (kops (hS.focus (k := 1) rfl)) ?_
  rintro _ w ⟨rfl, hS⟩; clear hE a; intro a hE
  simp only [List.eraseIdx_cons_succ, List.eraseIdx_cons_zero] at hS
  repeat' (first
 | ((with_reducible refine g_move ?_); refine s_move hE rfl rfl ?_; clear hE a; intro a hE)
 | ((with_reducible refine g_guard ?_); refine gd_yes hE rfl rfl rfl ?_))
  refine s_call hE rfl rfl rfl (kops (hS.focus (k := 1) rfl)) ?_
  rintro _ w ⟨rfl, hS⟩; clear hE a; intro a hE
  simp only [List.eraseIdx_cons_succ, List.eraseIdx_cons_zero] at hS
  repeat' (first
 | ((with_reducible refine g_move ?_); refine s_move hE rfl rfl ?_; clear hE a; intro a hE)
 | ((with_reducible refine g_bin .neq ?_); refine s_neq hE rfl rfl rfl ?_; clear hE a; intro a hE)
 | ((with_reducible refine g_guard ?_); refine gd_yes hE rfl rfl rfl ?_)
 | ((with_reducible refine g_guard ?_); refine gd_dec hE rfl rfl (fun hc hE2 => ?_) (fun hc hE2 => ?_) <;> (try omega) <;> (replace hE := hE2; clear hE2))
 | ((with_reducible refine g_pick ?_); refine s_pickF hE rfl rfl rfl ?_; clear hE a; intro a hE))
  refine s_call hE rfl rfl rfl (kpending hD (hS.focus (k := 1) rfl)) ?_
  rintro _ w ⟨A1, c1, rfl, hS⟩; clear hE a; intro a hE
  replace hS := hS.tail
  simp only [List.eraseIdx_cons_succ, List.eraseIdx_cons_zero] at hS
  repeat' (first
 | ((with_reducible refine g_move ?_); refine s_move hE rfl rfl ?_; clear hE a; intro a hE)
 | ((with_reducible refine g_blt .len ?_); refine s_len hE rfl rfl ?_; clear hE a; intro a hE)
 | ((with_reducible refine g_guard ?_); refine gd_yes hE rfl rfl rfl ?_))
  refine s_call hE rfl rfl rfl (kpending hD (hS.focus (k := 1) rfl)) ?_
  rintro _ w ⟨A2, c2, rfl, hS⟩; clear hE a; intro a hE
  replace hS := hS.tail
  simp only [List.eraseIdx_cons_succ, List.eraseIdx_cons_zero] at hS
  repeat' (first
 | (with_reducible refine wp_seq ?_)
 | (with_reducible refine c_region ?_)
 | (with_reducible refine wpList_nil ?_)
 | (with_reducible refine then_normal ?_)
 | (with_reducible refine wp_skip ?_)
 | (with_reducible refine wp_block ?_)
 | ((with_reducible refine g_move ?_); refine s_move hE rfl rfl ?_; clear hE a; intro a hE)
 | ((with_reducible refine g_bin .neq ?_); refine s_neq hE rfl rfl rfl ?_; clear hE a; intro a hE)
 | ((with_reducible refine g_blt .len ?_); refine s_len hE rfl rfl ?_; clear hE a; intro a hE)
 | ((with_reducible refine g_guard ?_); refine gd_yes hE rfl rfl rfl ?_)
 | ((with_reducible refine g_pick ?_); refine s_pickF hE rfl rfl rfl ?_; clear hE a; intro a hE)
 | ((with_reducible refine g_cond ?_); refine c_dec hE rfl (fun hc => ?_) (fun hc => ?_) <;> try omega)
 | ((with_reducible refine g_build ?_); refine s_build [_, _] hE rfl rfl rfl ?_; clear hE a; intro a hE))
  have hS2 : St w0 w (hDk ga D :: hDk gb D :: H) := hS.p1
  clear hS; have hS := hS2; clear hS2
  refine wp_loop_ghost (fun q a w => ∃ (j : Nat), j + q = 2 ∧ St w0 w (hDk ga D :: hDk gb D :: H) ∧ Env 67 [(0, .pointer (some ⟨ga, 0, none⟩)), (1, .pointer (some ⟨gb, 0, none⟩)), (31, .agg #[.bool false, .bool true]), (32, .int .i64 (j : Int))] a) 2 ⟨0, by omega, hS, hE.sub ⟨rfl, rfl, rfl, rfl, trivial⟩⟩ ?_
  clear hE a hS
  rintro q a w ⟨j, hj, hS, hE⟩
  by_cases hj1 : j < 2
  · obtain ⟨all, hall⟩ : ∃ all : Bool, all = decide (j = 1) := ⟨_, rfl⟩
    have hv : ([.bool false, .bool true] : List Value)[((j : Nat) : Int).toNat * 1]? = some (.bool all) := by
      rw [hall]
      rcases (by omega : j = 0 ∨ j = 1) with rfl | rfl <;> rfl
    repeat' (first
 | (with_reducible refine wp_seq ?_)
 | (with_reducible refine c_region ?_)
 | (with_reducible refine wpList_nil ?_)
 | (with_reducible refine then_normal ?_)
 | (with_reducible refine wp_skip ?_)
 | (with_reducible refine wp_block ?_)
 | ((with_reducible refine g_move ?_); refine s_move hE rfl rfl ?_; clear hE a; intro a hE)
 | ((with_reducible refine g_assign ?_); refine s_assign hE rfl rfl ?_; clear hE a; intro a hE)
 | ((with_reducible refine g_bin .lss ?_); refine s_lss hE rfl rfl rfl ?_; clear hE a; intro a hE)
 | ((with_reducible refine g_cond ?_); refine c_dec hE rfl (fun hc => ?_) (fun hc => ?_) <;> try omega)
 | ((with_reducible refine g_index ?_); refine s_val hE rfl rfl rfl (r_index1 hE rfl rfl (by omega) (by omega) (by assumption)) ?_; clear hE a; intro a hE))
    refine s_call hE rfl rfl rfl (rheld all hD hm hS) ?_
    rintro _ w ⟨A3, c3, rfl, hS⟩; clear hE a; intro a hE
    repeat' (first
 | ((with_reducible refine g_move ?_); refine s_move hE rfl rfl ?_; clear hE a; intro a hE))
    refine s_call hE rfl rfl rfl (rheld all hD hm (hS.focus (k := 2) rfl)) ?_
    rintro _ w ⟨A4, c4, rfl, hS⟩; clear hE a; intro a hE
    simp only [List.eraseIdx_cons_succ, List.eraseIdx_cons_zero] at hS
    have hhl := heldS_len D all
    have hho := heldS_ok hD.ok all
    generalize heldS D all = S at hS hhl hho
    rw [← hhl] at hS hE hsl
    have hfl : (S.flatMap bys).length = S.length * 64 := flat_bys hho
    repeat' (first
 | (with_reducible refine wp_seq ?_)
 | (with_reducible refine c_region ?_)
 | (with_reducible refine wpList_nil ?_)
 | (with_reducible refine then_normal ?_)
 | (with_reducible refine wp_skip ?_)
 | (with_reducible refine wp_block ?_)
 | ((with_reducible refine g_move ?_); refine s_move hE rfl rfl ?_; clear hE a; intro a hE)
 | ((with_reducible refine g_assign ?_); refine s_assign hE rfl rfl ?_; clear hE a; intro a hE)
 | ((with_reducible refine g_bin .eql ?_); refine s_eql hE rfl rfl rfl ?_; clear hE a; intro a hE)
 | ((with_reducible refine g_bin .neq ?_); refine s_neq hE rfl rfl rfl ?_; clear hE a; intro a hE)
 | ((with_reducible refine g_blt .len ?_); refine s_len hE rfl rfl ?_; clear hE a; intro a hE)
 | ((with_reducible refine g_guard ?_); refine gd_yes hE rfl rfl rfl ?_)
 | ((with_reducible refine g_guard ?_); refine gd_dec hE rfl rfl (fun hc hE2 => ?_) (fun hc hE2 => ?_) <;> (try omega) <;> (replace hE := hE2; clear hE2))
 | ((with_reducible refine g_pick ?_); refine s_pickF hE rfl rfl rfl ?_; clear hE a; intro a hE)
 | ((with_reducible refine g_cond ?_); refine c_dec hE rfl (fun hc => ?_) (fun hc => ?_) <;> try omega))
    have hS2 : St w0 w (hRow 80 64 A3 S.length c3 (S.flatMap bys) :: hRow 80 64 A4 S.length c4 (S.flatMap bys) :: hDk ga D :: hDk gb D :: H) := (St.selD [2, 0, 1, 0] 0 hS)
    clear hS; have hS := hS2; clear hS2
    refine wp_loop_ghost (fun q a w => ∃ (k : Nat), k + q = S.length ∧ St w0 w (hRow 80 64 A3 S.length c3 (S.flatMap bys) :: hRow 80 64 A4 S.length c4 (S.flatMap bys) :: hDk ga D :: hDk gb D :: H) ∧ Env 67 [(0, .pointer (some ⟨ga, 0, none⟩)), (1, .pointer (some ⟨gb, 0, none⟩)), (7, .slice A3 S.length c3), (8, .slice A4 S.length c4), (31, .agg #[.bool false, .bool true]), (32, .int .i64 (j : Int)), (52, .int .i64 (S.length : Int)), (53, .int .i64 (k : Int))] a) S.length ⟨0, by omega, hS, hE.sub ⟨rfl, rfl, rfl, rfl, rfl, rfl, rfl, rfl, trivial⟩⟩ ?_
    clear hE a hS
    rintro q2 a w ⟨k, hk, hS, hE⟩
    by_cases hk1 : k < S.length
    · have hseg := flat_seg (c := bys) (size := 64) (l := S) (blk_len hho) hk1
      have hxo := hho _ (List.getElem_mem hk1)
      generalize S[k] = x at hseg hxo
      have hxl : (bys x).length = 64 := by rw [bys_length]; exact hxo.1
      repeat' (first
 | (with_reducible refine wp_seq ?_)
 | (with_reducible refine c_region ?_)
 | (with_reducible refine wpList_nil ?_)
 | (with_reducible refine then_normal ?_)
 | (with_reducible refine wp_skip ?_)
 | (with_reducible refine wp_block ?_)
 | ((with_reducible refine g_move ?_); refine s_move hE rfl rfl ?_; clear hE a; intro a hE)
 | ((with_reducible refine g_assign ?_); refine s_assign hE rfl rfl ?_; clear hE a; intro a hE)
 | ((with_reducible refine g_bin .lss ?_); refine s_lss hE rfl rfl rfl ?_; clear hE a; intro a hE)
 | ((with_reducible refine g_cond ?_); refine c_dec hE rfl (fun hc => ?_) (fun hc => ?_) <;> try omega))
      refine c_ordS hS 9 ((.rd 0 (.rd 1 (.rd 2 (.rd 3 (.rd 4 (.rd 5 (.rd 6 (.rd 7 (.rd 8 .done)))))))))) mixed (by decide +kernel) ?_
      clear hS; intro w hS
      repeat' (first
 | (with_reducible refine o_rd rfl ?_)
 | ((with_reducible refine q_move ?_); refine d_val hE hS rfl (fun w hS => r_move hE rfl) ?_; clear hE a; intro a hE)
 | ((with_reducible refine q_ia ?_); refine d_val hE hS rfl (fun w hS => r_idxR hE rfl rfl (by omega) (by omega) (by (first | exact hS.rd | exact hS.rdAt (k := 1) rfl )) (by first | omega )) ?_; clear hE a; intro a hE)
 | ((with_reducible refine q_load ?_); refine d_val hE hS rfl (fun w hS => r_elemR hE rfl (by first | exact hS.rd | exact hS.rdAt (k := 1) rfl ) (by first | exact hseg) (by first | assumption) rfl) ?_; clear hE a; intro a hE))
      refine d_val hE hS rfl (fun w hS => r_neA hE rfl rfl hxo.1 hxo.1) ?_; clear hE a; intro a hE
      rw [decide_eq_false (show ¬ (x ≠ x) from fun h => h rfl)] at hE
      repeat' (first
 | (with_reducible refine o_done ?_))
      repeat' (first
 | (with_reducible refine c_region ?_)
 | (with_reducible refine wpList_nil ?_)
 | (with_reducible refine then_normal ?_)
 | (with_reducible refine wp_skip ?_)
 | (with_reducible refine block_normal ?_)
 | ((with_reducible refine g_move ?_); refine s_move hE rfl rfl ?_; clear hE a; intro a hE)
 | ((with_reducible refine g_bin .add ?_); refine s_add hE rfl rfl rfl (by first  | exact wrap64_in (by omega) ) ?_; clear hE a; intro a hE)
 | ((with_reducible refine g_cond ?_); refine c_false hE rfl ?_))
      exact ⟨q2 - 1, by omega, k + 1, by omega, hS, hE.sub ⟨rfl, rfl, rfl, rfl, rfl, rfl, rfl, rfl, trivial⟩⟩
    · obtain rfl : k = S.length := by omega
      repeat' (first
 | (with_reducible refine wp_seq ?_)
 | (with_reducible refine c_region ?_)
 | (with_reducible refine wpList_nil ?_)
 | (with_reducible refine then_normal ?_)
 | (with_reducible refine block_normal ?_)
 | (with_reducible refine wp_exit ?_)
 | (with_reducible refine then_exit ?_)
 | (with_reducible refine block_same ?_)
 | ((with_reducible refine g_move ?_); refine s_move hE rfl rfl ?_; clear hE a; intro a hE)
 | ((with_reducible refine g_bin .lss ?_); refine s_lss hE rfl rfl rfl ?_; clear hE a; intro a hE)
 | ((with_reducible refine g_bin .add ?_); refine s_add hE rfl rfl rfl (by first  | exact wrap64_in (by omega) ) ?_; clear hE a; intro a hE)
 | ((with_reducible refine g_cond ?_); refine c_dec hE rfl (fun hc => ?_) (fun hc => ?_) <;> try omega))
      exact ⟨q - 1, by omega, j + 1, by omega, hS.tail.tail, hE.sub ⟨rfl, rfl, rfl, rfl, trivial⟩⟩
  · obtain rfl : j = 2 := by omega
    repeat' (first
 | (with_reducible refine wp_seq ?_)
 | (with_reducible refine c_region ?_)
 | (with_reducible refine wpList_nil ?_)
 | (with_reducible refine then_normal ?_)
 | (with_reducible refine wp_ret ?_)
 | (with_reducible refine wp_exit ?_)
 | (with_reducible refine then_exit ?_)
 | (with_reducible refine block_same ?_)
 | ((with_reducible refine g_assign ?_); refine s_assign hE rfl rfl ?_; clear hE a; intro a hE)
 | ((with_reducible refine g_bin .lss ?_); refine s_lss hE rfl rfl rfl ?_; clear hE a; intro a hE)
 | ((with_reducible refine g_cond ?_); refine c_false hE rfl ?_))
    exact ret1 hE rfl rfl ⟨rfl, hS⟩
end
end Go.Proofs.Ytfoeelghehjanaa
