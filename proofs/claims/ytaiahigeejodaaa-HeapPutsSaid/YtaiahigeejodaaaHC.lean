/-
  Contracts: a tuple's bytes.
-/
import Derived.Test.YtaiahigeejodaaaHB
namespace Go.Proofs.Ytaiahigeejodaaa
open Go.RowKit
set_option linter.unusedVariables false
set_option linter.unusedSimpArgs false
attribute [local irreducible] Rd hRow hBlk hRd hRdr Fn hMarks

theorem fm_take {α : Type} (f : α → List Nat) {l : List α} {k : Nat} (hk : k < l.length) : (l.take (k + 1)).flatMap f = (l.take k).flatMap f ++ f (l[k]'hk) := by
  rw [List.take_succ_eq_append_getElem hk, List.flatMap_append]
  simp
theorem fm_len {α : Type} (f : α → List Nat) (n : Nat) (hf : ∀ x, (f x).length = n) : ∀ l : List α, (l.flatMap f).length = l.length * n
  | [] => by simp
  | x :: l => by rw [List.flatMap_cons, List.length_append, hf, fm_len f n hf l, List.length_cons, Nat.add_mul]; omega
theorem map_at {α : Type} (f : α → Value) {l : List α} {k : Nat} (hk : k < l.length) : (l.map f)[((k : Nat) : Int).toNat * 1]? = some (f (l[k]'hk)) := by
  rw [Int.toNat_natCast, Nat.mul_one, List.getElem?_map, List.getElem?_eq_getElem hk]; rfl
section
variable {H : List HP} {w0 w : World}
set_option maxHeartbeats 8000000
theorem hshort (B : Option Addr) (d : Nat) (l : List Nat) (m : Nat) (hm : m = l.length) (hr : Rd w0 B (l.map fun n : Nat => Value.int .u64 (n : Int))) (hl : ∀ x ∈ l, x < 4294967296) (hlen : l.length ≤ 100) :
    Fn Try.prog 31 [.slice none 0 0, .slice B m d] w0 fun v w' => ∃ A c, v = .slice A (l.flatMap (beb 4)).length c ∧ St w0 w' [hRow 5 1 A (l.flatMap (beb 4)).length c (bys (l.flatMap (beb 4)))] := by
  subst hm
  have hml : (l.map fun n : Nat => Value.int .u64 (n : Int)).length = l.length := List.length_map ..
  refine enter 19 Try.func31 rfl rfl rfl ?_
  intro a hE
  have hS := St.start w0
  repeat' (first

    | (with_reducible refine wp_seq ?_)
    | (with_reducible refine c_region ?_)
    | (with_reducible refine wpList_nil ?_)
    | (with_reducible refine then_normal ?_)
    | (with_reducible refine wp_block ?_)
    | ((with_reducible refine g_move ?_); refine s_move hE rfl rfl ?_; clear hE a; intro a hE)
    | ((with_reducible refine g_assign ?_); refine s_assign hE rfl rfl ?_; clear hE a; intro a hE)
    | ((with_reducible refine g_blt .len ?_); refine s_len hE rfl rfl ?_; clear hE a; intro a hE)
    )
  have hS2 : St w0 _ [hRow 5 1 none 0 0 []] := St.rowNil hS _ _
  refine wp_loop_ghost (fun q a w => ∃ (k : Nat) (A : Option Addr) (c : Nat), k + q = l.length ∧ St w0 w [hRow 5 1 A ((l.take k).flatMap (beb 4)).length c (bys ((l.take k).flatMap (beb 4)))] ∧ Env 19 [(7, .slice B l.length d), (8, .int .i64 (l.length : Int)), (9, .int .i64 (k : Int)), (0, .slice A ((l.take k).flatMap (beb 4)).length c)] a) l.length ⟨0, none, 0, by omega, hS2, hE.sub ⟨rfl, rfl, rfl, rfl, trivial⟩⟩ ?_
  clear hE a hS hS2
  rintro q a w ⟨k, A, c, hk, hS, hE⟩
  by_cases hk1 : k < l.length
  · have hg := map_at (fun n : Nat => Value.int .u64 (n : Int)) hk1
    have hx := hl _ (List.getElem_mem hk1)
    have hst := fm_take (beb 4) hk1
    have hfl := fm_len (beb 4) 4 (beb_length 4) (l.take k)
    have htl : (l.take k).length ≤ 100 := by rw [List.length_take]; omega
    generalize (l[k]'hk1) = x at hg hx hst
    generalize (l.take k).flatMap (beb 4) = ys at hS hE hst hfl
    repeat' (first

      | (with_reducible refine wp_seq ?_)
      | (with_reducible refine c_region ?_)
      | (with_reducible refine wpList_nil ?_)
      | (with_reducible refine then_normal ?_)
      | (with_reducible refine wp_skip ?_)
      | (with_reducible refine wp_block ?_)
      | (with_reducible refine block_normal ?_)
      | ((with_reducible refine g_move ?_); refine s_move hE rfl rfl ?_; clear hE a; intro a hE)
      | ((with_reducible refine g_assign ?_); refine s_assign hE rfl rfl ?_; clear hE a; intro a hE)
      | ((with_reducible refine g_bin .lss ?_); refine s_lss hE rfl rfl rfl ?_; clear hE a; intro a hE)
      | ((with_reducible refine g_bin .add ?_); refine s_add hE rfl rfl rfl (by first | exact wrap64_in (by omega) ) ?_; clear hE a; intro a hE)
      | ((with_reducible refine g_conv ?_); refine s_conv hE rfl rfl (by first | exact wrap_u32_in (by omega) ) ?_; clear hE a; intro a hE)
      | ((with_reducible refine g_cond ?_); refine c_dec hE rfl (fun hc => ?_) (fun hc => ?_) <;> try omega)
      | ((with_reducible refine g_call (f := 49) ?_); refine s_call hE rfl rfl rfl (put32 _ _ _ _ (by first | omega ) _ (by first | exact hS.rd ) (by first | omega )) ?_; rintro _ w ⟨_, _, rfl, hS1⟩; clear hE a; intro a hE; replace hS := hS.frame hS1; clear hS1; try simp only [List.cons_append, List.nil_append] at hS)
      | ((with_reducible refine g_ia ?_); refine s_idxR hE rfl rfl (by omega) (by omega) (by (first | exact Rd.st (by assumption) hS )) (by first | omega ) rfl ?_; clear hE a; intro a hE)
      | ((with_reducible refine g_load ?_); refine s_loadR hE rfl (by (first | exact Rd.st (by assumption) hS )) (by first | exact hg ) rfl ?_; clear hE a; intro a hE)
      )
    rw [← hst] at hE hS
    exact ⟨q - 1, by omega, k + 1, _, _, by omega, hS.only 0 rfl, hE.sub ⟨rfl, rfl, rfl, rfl, trivial⟩⟩
  · obtain rfl : k = l.length := by omega
    rw [List.take_length] at hS hE
    repeat' (first

      | (with_reducible refine wp_seq ?_)
      | (with_reducible refine c_region ?_)
      | (with_reducible refine wpList_nil ?_)
      | (with_reducible refine then_normal ?_)
      | (with_reducible refine wp_ret ?_)
      | (with_reducible refine wp_exit ?_)
      | (with_reducible refine then_exit ?_)
      | (with_reducible refine block_same ?_)
      | ((with_reducible refine g_move ?_); refine s_move hE rfl rfl ?_; clear hE a; intro a hE)
      | ((with_reducible refine g_assign ?_); refine s_assign hE rfl rfl ?_; clear hE a; intro a hE)
      | ((with_reducible refine g_bin .lss ?_); refine s_lss hE rfl rfl rfl ?_; clear hE a; intro a hE)
      | ((with_reducible refine g_cond ?_); refine c_dec hE rfl (fun hc => ?_) (fun hc => ?_) <;> try omega)
      )
    exact ret1 hE rfl rfl ⟨A, c, rfl, hS⟩
theorem hlong (A : Option Addr) (c : Nat) (xs : List Nat) (n : Nat) (hn : n = xs.length) (hrx : Rd w0 A (bys xs)) (hxl : xs.length ≤ 1000) (B : Option Addr) (d : Nat) (l : List Int) (m : Nat) (hm : m = l.length) (hr : Rd w0 B (l.map fun n => Value.int .i64 n)) (hl : ∀ x ∈ l, iR x) (hlen : l.length ≤ 100) (h0 : 0 < l.length) :
    Fn Try.prog 30 [.slice A n c, .slice B m d] w0 fun v w' => ∃ A' c', v = .slice A' (xs ++ longB l).length c' ∧ St w0 w' [hRow 5 1 A' (xs ++ longB l).length c' (bys (xs ++ longB l))] := by
  subst hm hn
  have hml : (l.map fun n => Value.int .i64 n).length = l.length := List.length_map ..
  refine enter 19 Try.func30 rfl rfl rfl ?_
  intro a hE
  have hS := St.start w0
  repeat' (first

    | (with_reducible refine wp_seq ?_)
    | (with_reducible refine c_region ?_)
    | (with_reducible refine wpList_nil ?_)
    | (with_reducible refine then_normal ?_)
    | (with_reducible refine wp_block ?_)
    | ((with_reducible refine g_move ?_); refine s_move hE rfl rfl ?_; clear hE a; intro a hE)
    | ((with_reducible refine g_assign ?_); refine s_assign hE rfl rfl ?_; clear hE a; intro a hE)
    | ((with_reducible refine g_blt .len ?_); refine s_len hE rfl rfl ?_; clear hE a; intro a hE)
    )
  refine wp_loop_ghost (fun q a w => ∃ (k : Nat) (A' : Option Addr) (c' : Nat) (R : List HP), k + q = l.length ∧ St w0 w R ∧ Rd w A' (bys (xs ++ longB (l.take k))) ∧ (0 < k → R = [hRow 5 1 A' (xs ++ longB (l.take k)).length c' (bys (xs ++ longB (l.take k)))]) ∧ Env 19 [(7, .slice B l.length d), (8, .int .i64 (l.length : Int)), (9, .int .i64 (k : Int)), (0, .slice A' (xs ++ longB (l.take k)).length c')] a) l.length ⟨0, A, c, [], by omega, hS, by rw [List.take_zero]; unfold longB; rw [List.flatMap_nil, List.append_nil]; exact hrx.st hS, fun h => absurd h (by decide), hE.sub ⟨rfl, rfl, rfl, by rw [List.take_zero]; unfold longB; rw [List.flatMap_nil, List.append_nil]; rfl, trivial⟩⟩ ?_
  clear hE a hS
  rintro q a w ⟨k, A', c', R, hk, hS, hrA, hR, hE⟩
  by_cases hk1 : k < l.length
  · have hg := map_at (fun n : Int => Value.int .i64 n) hk1
    have hx := hl _ (List.getElem_mem hk1)
    have hst : xs ++ longB (l.take (k + 1)) = (xs ++ longB (l.take k)) ++ beb 8 (uN (l[k]'hk1)) := by
      unfold longB
      rw [fm_take (fun x => beb 8 (uN x)) hk1, List.append_assoc]
    have hfl : (longB (l.take k)).length = (l.take k).length * 8 := fm_len (fun x => beb 8 (uN x)) 8 (fun x => beb_length 8 _) (l.take k)
    have htl : (l.take k).length ≤ 100 := by rw [List.length_take]; omega
    have hyl : (xs ++ longB (l.take k)).length ≤ 2000 := by rw [List.length_append]; omega
    generalize (l[k]'hk1) = x at hg hx hst
    generalize xs ++ longB (l.take k) = ys at hS hE hst hyl hrA hR
    have hw := wrap_u64_u x
    have hu := u64_lt x
    repeat' (first

      | (with_reducible refine wp_seq ?_)
      | (with_reducible refine c_region ?_)
      | (with_reducible refine wpList_nil ?_)
      | (with_reducible refine then_normal ?_)
      | (with_reducible refine wp_skip ?_)
      | (with_reducible refine wp_block ?_)
      | ((with_reducible refine g_move ?_); refine s_move hE rfl rfl ?_; clear hE a; intro a hE)
      | ((with_reducible refine g_assign ?_); refine s_assign hE rfl rfl ?_; clear hE a; intro a hE)
      | ((with_reducible refine g_bin .lss ?_); refine s_lss hE rfl rfl rfl ?_; clear hE a; intro a hE)
      | ((with_reducible refine g_conv ?_); refine s_conv hE rfl rfl (by first | exact hw ) ?_; clear hE a; intro a hE)
      | ((with_reducible refine g_cond ?_); refine c_dec hE rfl (fun hc => ?_) (fun hc => ?_) <;> try omega)
      | ((with_reducible refine g_ia ?_); refine s_idxR hE rfl rfl (by omega) (by omega) (by (first | exact Rd.st (by assumption) hS )) (by first | omega ) rfl ?_; clear hE a; intro a hE)
      | ((with_reducible refine g_load ?_); refine s_loadR hE rfl (by (first | exact Rd.st (by assumption) hS )) (by first | exact hg ) rfl ?_; clear hE a; intro a hE)
      )
    refine s_call hE rfl rfl rfl (put64 A' c' ys (uN x) hu w hrA (by omega)) ?_
    rintro _ w ⟨A2, c2, rfl, hS1⟩; clear hE a; intro a hE; replace hS := hS.frame hS1; clear hS1; try simp only [List.cons_append, List.nil_append] at hS
    repeat' (first

      | (with_reducible refine c_region ?_)
      | (with_reducible refine wpList_nil ?_)
      | (with_reducible refine then_normal ?_)
      | (with_reducible refine block_normal ?_)
      | ((with_reducible refine g_move ?_); refine s_move hE rfl rfl ?_; clear hE a; intro a hE)
      | ((with_reducible refine g_assign ?_); refine s_assign hE rfl rfl ?_; clear hE a; intro a hE)
      | ((with_reducible refine g_bin .add ?_); refine s_add hE rfl rfl rfl (by first  | exact wrap64_in (by omega) ) ?_; clear hE a; intro a hE)
      )
    rw [← hst] at hE hS
    exact ⟨q - 1, by omega, k + 1, A2, c2, _, by omega, hS.only 0 rfl, (hS.only 0 rfl).rd, fun _ => rfl, hE.sub ⟨rfl, rfl, rfl, rfl, trivial⟩⟩
  · obtain rfl : k = l.length := by omega
    rw [List.take_length] at hE hR
    have hR := hR h0
    subst hR
    repeat' (first

      | (with_reducible refine wp_seq ?_)
      | (with_reducible refine c_region ?_)
      | (with_reducible refine wpList_nil ?_)
      | (with_reducible refine then_normal ?_)
      | (with_reducible refine wp_ret ?_)
      | (with_reducible refine wp_exit ?_)
      | (with_reducible refine then_exit ?_)
      | (with_reducible refine block_same ?_)
      | ((with_reducible refine g_move ?_); refine s_move hE rfl rfl ?_; clear hE a; intro a hE)
      | ((with_reducible refine g_assign ?_); refine s_assign hE rfl rfl ?_; clear hE a; intro a hE)
      | ((with_reducible refine g_bin .lss ?_); refine s_lss hE rfl rfl rfl ?_; clear hE a; intro a hE)
      | ((with_reducible refine g_cond ?_); refine c_dec hE rfl (fun hc => ?_) (fun hc => ?_) <;> try omega)
      )
    exact ret1 hE rfl rfl ⟨A', c', rfl, hS⟩
end
end Go.Proofs.Ytaiahigeejodaaa
