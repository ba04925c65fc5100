/-
  A log in memory; contract: a disk is formatted.
-/
import Derived.Test.YtfoeelghehjanaaWF
namespace Go.Proofs.Ytfoeelghehjanaa
open Go.RowKit
set_option linter.unusedVariables false
set_option linter.unusedSimpArgs false
section
variable {w0 w : World} {H : List HP} {l : List Sl}
/-- rows that are only read -/
def wrP (l : List Sl) : HP := hAll (l.map fun s => hRd s.A (bys s.b))
theorem wrP_nil (hS : St w0 w H) : St w0 w (wrP [] :: H) := St.close_ (M := []) hS
theorem wrP_addR {s : Sl} (hS : St w0 w (hRd s.A (bys s.b) :: wrP l :: H)) : St w0 w (wrP (l ++ [s]) :: H) := by
  have h := St.open_ hS.p1
  unfold wrP
  rw [List.map_append]
  exact St.close_ (M := l.map (fun s => hRd s.A (bys s.b)) ++ [hRd s.A (bys s.b)]) (by rw [List.append_assoc]; exact h)
theorem wrP_add {s : Sl} (hS : St w0 w (s.row :: wrP l :: H)) : St w0 w (wrP (l ++ [s]) :: H) :=
  wrP_addR (hS.conv fun S h => ⟨h.1, rd_of_own h.2⟩)
theorem wrP_rd (hS : St w0 w (wrP l :: H)) : ∀ s ∈ l, Rd w s.A (bys s.b) := by
  intro s hs
  have h := St.open_ hS
  obtain ⟨k, hk, rfl⟩ := List.getElem_of_mem hs
  have h2 : (l.map (fun s => hRd s.A (bys s.b)) ++ H)[k]? = some (hRd l[k].A (bys l[k].b)) := by
    rw [List.getElem?_append_left (by rw [List.length_map]; exact hk), List.getElem?_map, List.getElem?_eq_getElem hk]
    rfl
  obtain ⟨S, _, h3⟩ := h.at h2
  exact h3.2
end
attribute [local irreducible] Rd hRow hBlk hRd hRdr wrP hDk Fn hMarks

abbrev wlL (g gd : Nat) (W : WM) (A : Option Addr) (c : Nat) (sls : List Sl) : List HP :=
  [hBlk g 89 [.pointer (some ⟨gd, 0, none⟩), .int .i64 (W.area : Int), .int .u32 (W.turn : Int), .slice A sls.length c, .int .i64 (W.fin : Int), .bool W.broken],
   hRow 34 1 A sls.length c (sls.map Sl.v), wrP sls, hPure (sls.map Sl.b = W.list)]
/-- a log, wherever its rows lie -/
def hWl (g gd : Nat) (W : WM) : HP := hEx fun p : (Option Addr × Nat) × List Sl => hAll (wlL g gd W p.1.1 p.1.2 p.2)
section
variable {g gd : Nat} {W : WM} {H : List HP} {w0 w : World}
theorem hWl_open (hS : St w0 w (hWl g gd W :: H)) : ∃ A c sls, sls.map Sl.b = W.list ∧ St w0 w (hBlk g 89 [.pointer (some ⟨gd, 0, none⟩), .int .i64 (W.area : Int), .int .u32 (W.turn : Int), .slice A sls.length c, .int .i64 (W.fin : Int), .bool W.broken] :: hRow 34 1 A sls.length c (sls.map Sl.v) :: wrP sls :: H) := by
  obtain ⟨p, h⟩ := St.ex hS
  have h1 := St.open_ h
  simp only [wlL, List.cons_append, List.nil_append] at h1
  exact ⟨p.1.1, p.1.2, p.2, (h1.focus (k := 3) rfl).pure, h1.drop 3⟩
theorem hWl_close {A : Option Addr} {c : Nat} {sls : List Sl} (hl : sls.map Sl.b = W.list) (hS : St w0 w (hBlk g 89 [.pointer (some ⟨gd, 0, none⟩), .int .i64 (W.area : Int), .int .u32 (W.turn : Int), .slice A sls.length c, .int .i64 (W.fin : Int), .bool W.broken] :: hRow 34 1 A sls.length c (sls.map Sl.v) :: wrP sls :: H)) : St w0 w (hWl g gd W :: H) := by
  have h1 := (hS.pureI hl).p1.focus (k := 2) rfl
  have h2 : St w0 w (wlL g gd W A c sls ++ H) := by
    have h3 := (hS.pureI (p := sls.map Sl.b = W.list) hl)
    exact h3.perm ((List.perm_append_comm (l₁ := [hPure (sls.map Sl.b = W.list)]) (l₂ := [hBlk g 89 [.pointer (some ⟨gd, 0, none⟩), .int .i64 (W.area : Int), .int .u32 (W.turn : Int), .slice A sls.length c, .int .i64 (W.fin : Int), .bool W.broken], hRow 34 1 A sls.length c (sls.map Sl.v), wrP sls])).append_right H)
  exact St.exI ((A, c), sls) (St.close_ h2)
end
attribute [local irreducible] hWl
def izl (n : Nat) : List Int := (List.range n).map fun i : Nat => (i : Int)
def fmtR (D : DM) (a N : Nat) : DM × Option WM × Int :=
  let r1 := D.wipe (izl N)
  let r2 := if r1.2 = 0 then r1.1.wrs 2 (partsB 0 0 []) else r1
  let r3 := if r2.2 = 0 then r2.1.wrs 0 [headB 0 a] else r2
  if r3.2 = 0 then (r3.1, some ⟨a, 0, [[]], 1, false⟩, 0) else (r3.1, none, r3.2)
section
variable {g : Nat} {D : DM} {H : List HP} {w0 w : World} {m : Nat}
set_option maxHeartbeats 8000000
theorem kfmt (ar : Int) (har : -9223372036854775808 ≤ ar ∧ ar ≤ 9223372036854775807) (hD : D.atN m) (hm : m ≤ 70000) (hS : St w0 w (hDk g D :: H)) :
    Fn Try.prog 23 [.pointer (some ⟨g, 0, none⟩), .int .i64 ar] w fun v w' =>
      (∃ W gw, (D.fmt ar).2.1 = some W ∧ (D.fmt ar).2.2 = 0 ∧ v = .tuple #[.pointer (some ⟨gw, 0, none⟩), .int .i64 0] ∧ St w0 w' (hWl gw g W :: hDk g (D.fmt ar).1 :: H)) ∨
      ((D.fmt ar).2.1 = none ∧ (D.fmt ar).2.2 ≠ 0 ∧ v = .tuple #[.pointer none, .int .i64 (D.fmt ar).2.2] ∧ St w0 w' (hDk g (D.fmt ar).1 :: H)) := by
  have hlen := hD.ok.len
  refine enter 58 Try.func23 rfl rfl rfl ?_
  intro a hE
  repeat' (first

    | (with_reducible refine wp_seq ?_)
    | (with_reducible refine c_region ?_)
    | (with_reducible refine wpList_nil ?_)
    | (with_reducible refine then_normal ?_)
    | (with_reducible refine wp_block ?_)
    | ((with_reducible refine g_move ?_); refine s_move hE rfl rfl ?_; clear hE a; intro a hE)
    | ((with_reducible refine g_assign ?_); refine s_assign hE rfl rfl ?_; clear hE a; intro a hE)
    | ((with_reducible refine g_cond ?_); refine c_false hE rfl ?_)
    | ((with_reducible refine g_bin .eql ?_); refine s_val hE rfl rfl rfl (r_eqp hE rfl rfl) ?_; clear hE a; intro a hE)
    )
  refine s_call hE rfl rfl rfl (sized ar w) ?_
  rintro _ w ⟨rfl, hS1⟩; clear hE a; intro a hE; replace hS := hS.frame hS1; clear hS1; try simp only [List.cons_append, List.nil_append] at hS
  by_cases hsz : 4 ≤ ar ∧ ar ≤ 1000
  · rw [decide_eq_true hsz] at hE
    have e1 : IntKind.i64.wrap (2 * ar) = 2 * ar := wrap64_in (by omega)
    have e2 : IntKind.i64.wrap (2 + 2 * ar) = 2 + 2 * ar := wrap64_in (by omega)
    repeat' (first

      | ((with_reducible refine g_move ?_); refine s_move hE rfl rfl ?_; clear hE a; intro a hE)
      | ((with_reducible refine g_un .not ?_); refine s_notb hE rfl rfl ?_; clear hE a; intro a hE)
      | ((with_reducible refine g_guard ?_); refine gd_yes hE rfl rfl rfl ?_)
      )
    refine s_call hE rfl rfl rfl (klen hS) ?_
    rintro _ w ⟨rfl, hS⟩; clear hE a; intro a hE
    by_cases hfit : (D.safe.length : Int) < 2 + 2 * ar
    · have hf : D.fmt ar = (D, none, 2) := if_pos (by omega)
      rw [hf]
      repeat' (first

        | (with_reducible refine wp_seq ?_)
        | (with_reducible refine c_region ?_)
        | (with_reducible refine wpList_nil ?_)
        | (with_reducible refine then_normal ?_)
        | (with_reducible refine wp_ret ?_)
        | (with_reducible refine then_ret ?_)
        | (with_reducible refine block_ret ?_)
        | ((with_reducible refine g_move ?_); refine s_move hE rfl rfl ?_; clear hE a; intro a hE)
        | ((with_reducible refine g_assign ?_); refine s_assign hE rfl rfl ?_; clear hE a; intro a hE)
        | ((with_reducible refine g_bin .lss ?_); refine s_lss hE rfl rfl rfl ?_; clear hE a; intro a hE)
        | ((with_reducible refine g_bin .add ?_); refine s_add hE rfl rfl rfl (by first | exact e2 ) ?_; clear hE a; intro a hE)
        | ((with_reducible refine g_bin .mul ?_); refine s_mul hE rfl rfl rfl (by first | exact e1 ) ?_; clear hE a; intro a hE)
        | ((with_reducible refine g_guard ?_); refine gd_yes hE rfl rfl rfl ?_)
        | ((with_reducible refine g_pick ?_); refine s_pickF hE rfl rfl rfl ?_; clear hE a; intro a hE)
        | ((with_reducible refine g_cond ?_); refine c_dec hE rfl (fun hc => ?_) (fun hc => ?_) <;> try omega)
        )
      exact ret2 hE rfl rfl rfl (.inr ⟨rfl, (by decide : (2 : Int) ≠ 0), rfl, hS⟩)
    · obtain ⟨N, hN⟩ : ∃ N : Nat, (N : Int) = 2 + 2 * ar := ⟨(2 + 2 * ar).toNat, by omega⟩
      repeat' (first

        | (with_reducible refine wp_seq ?_)
        | (with_reducible refine c_region ?_)
        | (with_reducible refine wpList_nil ?_)
        | (with_reducible refine then_normal ?_)
        | (with_reducible refine wp_skip ?_)
        | (with_reducible refine block_normal ?_)
        | ((with_reducible refine g_move ?_); refine s_move hE rfl rfl ?_; clear hE a; intro a hE)
        | ((with_reducible refine g_assign ?_); refine s_assign hE rfl rfl ?_; clear hE a; intro a hE)
        | ((with_reducible refine g_bin .lss ?_); refine s_lss hE rfl rfl rfl ?_; clear hE a; intro a hE)
        | ((with_reducible refine g_bin .add ?_); refine s_add hE rfl rfl rfl (by first | exact e2 ) ?_; clear hE a; intro a hE)
        | ((with_reducible refine g_bin .mul ?_); refine s_mul hE rfl rfl rfl (by first | exact e1 ) ?_; clear hE a; intro a hE)
        | ((with_reducible refine g_guard ?_); refine gd_yes hE rfl rfl rfl ?_)
        | ((with_reducible refine g_pick ?_); refine s_pickF hE rfl rfl rfl ?_; clear hE a; intro a hE)
        | ((with_reducible refine g_cond ?_); refine c_dec hE rfl (fun hc => ?_) (fun hc => ?_) <;> try omega)
        )
      rw [← hN] at hE
      obtain ⟨aN, rfl⟩ : ∃ aN : Nat, ar = (aN : Int) := ⟨ar.toNat, by omega⟩
      have hNa : N = 2 + 2 * aN := by omega
      have hil : (izl N).length = N := by unfold izl; simp
      have hf : D.fmt (aN : Int) = fmtR D aN N := by
        unfold DM.fmt fmtR
        rw [if_neg (by omega), Int.toNat_natCast, hNa]
        rfl
      rw [hf]
      clear hf
      refine s_make hE hS rfl rfl (by omega) (by omega) (by omega) (by omega) rfl ?_
      clear hE a hS; intro gm a w hE hS
      rw [Int.toNat_natCast] at hE hS
      rw [show ((madeCells (Value.int .i64 0).cells (N * 1)).toList.take (N * 1)) = izs (izl 0) ++ List.replicate (N - 0) (Value.int .i64 0) from by
        have := made_rep N 0 (Value.int .i64 0) (Value.int .i64 0).cells rfl
        rw [Nat.zero_add] at this
        rw [this, Nat.mul_one]
        rfl] at hS
      repeat' (first

        | (with_reducible refine wp_seq ?_)
        | (with_reducible refine c_region ?_)
        | (with_reducible refine wpList_nil ?_)
        | (with_reducible refine then_normal ?_)
        | (with_reducible refine wp_block ?_)
        | ((with_reducible refine g_move ?_); refine s_move hE rfl rfl ?_; clear hE a; intro a hE)
        | ((with_reducible refine g_assign ?_); refine s_assign hE rfl rfl ?_; clear hE a; intro a hE)
        | ((with_reducible refine g_blt .len ?_); refine s_len hE rfl rfl ?_; clear hE a; intro a hE)
        )
      refine wp_mono (?_ : Code.wp _ _ (fun e a w => e = .exit 1 ∧ St w0 w (hRow 3 1 (some ⟨gm, 0, none⟩) N N (izs (izl N)) :: hDk g D :: H) ∧ Env 58 [(0, .pointer (some ⟨g, 0, none⟩)), (1, .int .i64 (aN : Int)), (6, .slice (some ⟨gm, 0, none⟩) N N)] a) _ _) ?_
      · refine wp_loop_ghost (fun q a w => ∃ (k : Nat), k + q = N ∧ St w0 w (hRow 3 1 (some ⟨gm, 0, none⟩) N N (izs (izl k) ++ List.replicate (N - k) (Value.int .i64 0)) :: hDk g D :: H) ∧ Env 58 [(0, .pointer (some ⟨g, 0, none⟩)), (1, .int .i64 (aN : Int)), (6, .slice (some ⟨gm, 0, none⟩) N N), (29, .int .i64 (N : Int)), (30, .int .i64 (k : Int))] a) N ⟨0, by omega, hS, hE.sub ⟨rfl, rfl, rfl, rfl, rfl, trivial⟩⟩ ?_
        clear hE a hS
        rintro q a w ⟨k, hk, hS, hE⟩
        have hkl : (izs (izl k) ++ List.replicate (N - k) (Value.int .i64 0)).length = N := by
          unfold izs izl
          rw [List.length_append, List.length_map, List.length_map, List.length_range, List.length_replicate]; omega
        by_cases hk1 : k < N
        · have hset : (izs (izl k) ++ List.replicate (N - k) (Value.int .i64 0)).set k (.int .i64 (k : Int)) = izs (izl (k + 1)) ++ List.replicate (N - (k + 1)) (Value.int .i64 0) := by
            have hl1 : (izs (izl k)).length = k := by unfold izs izl; simp
            rw [List.set_append_right _ _ (by omega), hl1, Nat.sub_self, show N - k = (N - (k + 1)) + 1 by omega, List.replicate_succ, List.set_cons_zero]
            unfold izs izl
            rw [List.range_succ, List.map_append, List.map_append, List.append_assoc]
            rfl
          generalize izs (izl k) ++ List.replicate (N - k) (Value.int .i64 0) = cs at hS hkl hset
          repeat' (first

            | (with_reducible refine wp_seq ?_)
            | (with_reducible refine c_region ?_)
            | (with_reducible refine wpList_nil ?_)
            | (with_reducible refine then_normal ?_)
            | (with_reducible refine wp_skip ?_)
            | (with_reducible refine wp_block ?_)
            | (with_reducible refine block_normal ?_)
            | ((with_reducible refine g_move ?_); refine s_move hE rfl rfl ?_; clear hE a; intro a hE)
            | ((with_reducible refine g_assign ?_); refine s_assign hE rfl rfl ?_; clear hE a; intro a hE)
            | ((with_reducible refine g_bin .lss ?_); refine s_lss hE rfl rfl rfl ?_; clear hE a; intro a hE)
            | ((with_reducible refine g_bin .add ?_); refine s_add hE rfl rfl rfl (by first  | exact wrap64_in (by omega) ) ?_; clear hE a; intro a hE)
            | ((with_reducible refine g_cond ?_); refine c_dec hE rfl (fun hc => ?_) (fun hc => ?_) <;> try omega)
            | ((with_reducible refine g_ia ?_); refine s_idxR hE rfl rfl (by omega) (by omega) (by (first | exact hS.rd )) (by first | omega ) rfl ?_; clear hE a; intro a hE)
            | ((with_reducible refine g_store ?_); (first | (refine s_storeR1 (k := 0) hS hE rfl rfl rfl rfl (by first | omega ) rfl ?_) ); clear hS; intro w hS; simp only [List.set_cons_zero, List.set_cons_succ, Nat.add_zero] at hS)
            )
          rw [show ((k : Nat) : Int).toNat * 1 = k by omega, hset] at hS
          skip
          exact ⟨q - 1, by omega, k + 1, by omega, hS, hE.sub ⟨rfl, rfl, rfl, rfl, rfl, trivial⟩⟩
        · obtain rfl : k = N := by omega
          rw [Nat.sub_self, List.replicate_zero, List.append_nil] at hS
          repeat' (first

            | (with_reducible refine wp_seq ?_)
            | (with_reducible refine c_region ?_)
            | (with_reducible refine wpList_nil ?_)
            | (with_reducible refine then_normal ?_)
            | (with_reducible refine wp_exit ?_)
            | (with_reducible refine then_exit ?_)
            | ((with_reducible refine g_bin .lss ?_); refine s_lss hE rfl rfl rfl ?_; clear hE a; intro a hE)
            | ((with_reducible refine g_cond ?_); refine c_dec hE rfl (fun hc => ?_) (fun hc => ?_) <;> try omega)
            )
          exact ⟨rfl, hS, hE.sub ⟨rfl, rfl, rfl, trivial⟩⟩
      clear hE a hS
      rintro _ a w ⟨rfl, hS, hE⟩
      repeat' (first

        | (with_reducible refine wp_seq ?_)
        | (with_reducible refine c_region ?_)
        | (with_reducible refine then_normal ?_)
        | (with_reducible refine block_same ?_)
        | ((with_reducible refine g_move ?_); refine s_move hE rfl rfl ?_; clear hE a; intro a hE)
        )
      have hw := kwipe (izl N) (some ⟨gm, 0, none⟩) N (by omega) hD (by omega) (H := H) (w0 := w0) (w := w) (g := g) (by rw [hil]; exact hS.p1)
      rw [hil] at hw
      refine s_call hE rfl rfl rfl hw ?_
      clear hw
      rintro _ w ⟨rfl, hS⟩; clear hE a; intro a hE
      have hD1 : (D.wipe (izl N)).1.atN (m + 2100) := (wss_atN (l := (izl N).map fun i => (i, noughts)) hD (fun x hx => by
        obtain ⟨i, _, rfl⟩ := List.mem_map.1 hx
        exact noughts_ok) (by rw [List.length_map, hil]; omega)).mono (by rw [List.length_map, hil]; omega)
      unfold fmtR
      generalize D.wipe (izl N) = r1 at hE hS hD1 ⊢
      obtain ⟨D1, e1'⟩ := r1
      dsimp only at hE hS hD1 ⊢
      replace hS := hS.drop 1
      simp only [List.eraseIdx_cons_succ, List.eraseIdx_cons_zero] at hS
      by_cases h1 : e1' = 0
      · subst h1
        rw [if_pos rfl]
        repeat' (first

          | (with_reducible refine wp_seq ?_)
          | (with_reducible refine c_region ?_)
          | (with_reducible refine wpList_nil ?_)
          | (with_reducible refine then_normal ?_)
          | ((with_reducible refine g_move ?_); refine s_move hE rfl rfl ?_; clear hE a; intro a hE)
          | ((with_reducible refine g_assign ?_); refine s_assign hE rfl rfl ?_; clear hE a; intro a hE)
          | ((with_reducible refine g_bin .eql ?_); refine s_eql hE rfl rfl rfl ?_; clear hE a; intro a hE)
          | ((with_reducible refine g_cond ?_); refine c_true hE rfl ?_)
          )
        have hlay := klay 2 0 0 (by decide) (by decide) (by decide) [] none 0 (fun c hc => by cases hc) (by decide) (fun w' L h => Rd.nil) hD1 (by omega) hS
        refine s_call hE rfl rfl rfl hlay ?_
        clear hlay
        rintro _ w ⟨rfl, hS⟩; clear hE a; intro a hE
        have hD2 : (D1.wrs ((2 : Nat) : Int) (partsB 0 0 [])).1.atN (m + 3000) := (wss_atN (l := atW ((2 : Nat) : Int) (partsB 0 0 [])) hD1 (fun x hx => by
          rw [← fullP_cv] at hx
          obtain ⟨y, hy, rfl⟩ := List.mem_map.1 hx
          exact fullP_ok (t := 0) (n := 0) (b := []) (fun c hc => by cases hc) (by decide) y hy) (by rw [← fullP_cv, List.length_map, fullP_len]; have := secN_le ([] : List Nat).length; omega)).mono (by rw [← fullP_cv, List.length_map, fullP_len]; have := secN_le ([] : List Nat).length; omega)
        rw [show (D1.wrs 2 (partsB 0 0 [])) = D1.wrs ((2 : Nat) : Int) (partsB 0 0 []) from rfl]
        generalize D1.wrs ((2 : Nat) : Int) (partsB 0 0 []) = r2 at hE hS hD2 ⊢
        obtain ⟨D2, e2'⟩ := r2
        dsimp only at hE hS hD2 ⊢
        by_cases h2 : e2' = 0
        · subst h2
          rw [if_pos rfl]
          repeat' (first

            | (with_reducible refine wp_seq ?_)
            | (with_reducible refine c_region ?_)
            | (with_reducible refine wpList_nil ?_)
            | (with_reducible refine then_normal ?_)
            | ((with_reducible refine g_move ?_); refine s_move hE rfl rfl ?_; clear hE a; intro a hE)
            | ((with_reducible refine g_assign ?_); refine s_assign hE rfl rfl ?_; clear hE a; intro a hE)
            | ((with_reducible refine g_bin .eql ?_); refine s_eql hE rfl rfl rfl ?_; clear hE a; intro a hE)
            | ((with_reducible refine g_cond ?_); refine c_true hE rfl ?_)
            )
          refine s_call hE rfl rfl rfl (kput 0 aN (by decide) (by omega) hD2 (by omega) hS) ?_
          rintro _ w ⟨rfl, hS⟩; clear hE a; intro a hE
          rw [show (D2.wrs 0 [headB 0 aN]) = D2.wrs ((0 % 2 : Nat) : Int) [headB 0 aN] from rfl]
          generalize D2.wrs ((0 % 2 : Nat) : Int) [headB 0 aN] = r3 at hE hS ⊢
          obtain ⟨D3, e3'⟩ := r3
          dsimp only at hE hS ⊢
          by_cases h3 : e3' = 0
          · subst h3
            rw [if_pos rfl]
            repeat' (first

              | (with_reducible refine wp_seq ?_)
              | (with_reducible refine c_region ?_)
              | (with_reducible refine wpList_nil ?_)
              | (with_reducible refine then_normal ?_)
              | (with_reducible refine wp_skip ?_)
              | (with_reducible refine wp_ret ?_)
              | ((with_reducible refine g_move ?_); refine s_move hE rfl rfl ?_; clear hE a; intro a hE)
              | ((with_reducible refine g_assign ?_); refine s_assign hE rfl rfl ?_; clear hE a; intro a hE)
              | ((with_reducible refine g_bin .neq ?_); refine s_neq hE rfl rfl rfl ?_; clear hE a; intro a hE)
              | ((with_reducible refine g_cond ?_); refine c_false hE rfl ?_)
              | ((with_reducible refine g_lit ?_); refine s_lit hE hS rfl rfl rfl rfl rfl (by first | (simp [Value.oneCell']; done)) rfl ?_; clear hE a hS; intro g a w hE hS)
              | ((with_reducible refine g_box ?_); refine s_boxS hE hS rfl rfl ?_; clear hE a hS; intro g a w hE hS)
              | ((with_reducible refine g_build ?_); refine s_build [_, _, _, _, _, _] hE rfl rfl rfl ?_; clear hE a; intro a hE)
              )
            have hS2 := ((wrP_add (l := []) (s := nilS) (St.rowNil (wrP_nil hS) _ _)).p1.focus (k := 2) rfl).p1
            simp only [List.nil_append] at hS2
            exact ret2 hE rfl rfl rfl (.inl ⟨_, _, rfl, rfl, rfl, hWl_close (sls := [nilS]) (W := ⟨aN, 0, [[]], 1, false⟩) rfl hS2⟩)
          · rw [if_neg h3]
            repeat' (first

              | (with_reducible refine wp_seq ?_)
              | (with_reducible refine c_region ?_)
              | (with_reducible refine wpList_nil ?_)
              | (with_reducible refine then_normal ?_)
              | (with_reducible refine wp_ret ?_)
              | (with_reducible refine then_ret ?_)
              | ((with_reducible refine g_move ?_); refine s_move hE rfl rfl ?_; clear hE a; intro a hE)
              | ((with_reducible refine g_assign ?_); refine s_assign hE rfl rfl ?_; clear hE a; intro a hE)
              | ((with_reducible refine g_bin .neq ?_); refine s_neq hE rfl rfl rfl ?_; clear hE a; intro a hE)
              | ((with_reducible refine g_cond ?_); refine c_dec hE rfl (fun hc => ?_) (fun hc => ?_) <;> try omega)
              )
            exact ret2 hE rfl rfl rfl (.inr ⟨rfl, h3, rfl, hS⟩)
        · rw [if_neg h2, if_neg h2]
          repeat' (first

            | (with_reducible refine wp_seq ?_)
            | (with_reducible refine c_region ?_)
            | (with_reducible refine wpList_nil ?_)
            | (with_reducible refine then_normal ?_)
            | (with_reducible refine wp_skip ?_)
            | (with_reducible refine wp_ret ?_)
            | (with_reducible refine then_ret ?_)
            | ((with_reducible refine g_move ?_); refine s_move hE rfl rfl ?_; clear hE a; intro a hE)
            | ((with_reducible refine g_assign ?_); refine s_assign hE rfl rfl ?_; clear hE a; intro a hE)
            | ((with_reducible refine g_bin .eql ?_); refine s_eql hE rfl rfl rfl ?_; clear hE a; intro a hE)
            | ((with_reducible refine g_bin .neq ?_); refine s_neq hE rfl rfl rfl ?_; clear hE a; intro a hE)
            | ((with_reducible refine g_cond ?_); refine c_dec hE rfl (fun hc => ?_) (fun hc => ?_) <;> try omega)
            )
          exact ret2 hE rfl rfl rfl (.inr ⟨rfl, h2, rfl, hS⟩)
      · rw [if_neg h1, if_neg h1, if_neg h1]
        repeat' (first

          | (with_reducible refine wp_seq ?_)
          | (with_reducible refine c_region ?_)
          | (with_reducible refine wpList_nil ?_)
          | (with_reducible refine then_normal ?_)
          | (with_reducible refine wp_skip ?_)
          | (with_reducible refine wp_ret ?_)
          | (with_reducible refine then_ret ?_)
          | ((with_reducible refine g_move ?_); refine s_move hE rfl rfl ?_; clear hE a; intro a hE)
          | ((with_reducible refine g_assign ?_); refine s_assign hE rfl rfl ?_; clear hE a; intro a hE)
          | ((with_reducible refine g_bin .eql ?_); refine s_eql hE rfl rfl rfl ?_; clear hE a; intro a hE)
          | ((with_reducible refine g_bin .neq ?_); refine s_neq hE rfl rfl rfl ?_; clear hE a; intro a hE)
          | ((with_reducible refine g_cond ?_); refine c_dec hE rfl (fun hc => ?_) (fun hc => ?_) <;> try omega)
          )
        exact ret2 hE rfl rfl rfl (.inr ⟨rfl, h1, rfl, hS⟩)
  · have hf : D.fmt ar = (D, none, 2) := if_pos (by omega)
    rw [hf]
    rw [decide_eq_false hsz] at hE
    repeat' (first

      | (with_reducible refine wp_seq ?_)
      | (with_reducible refine c_region ?_)
      | (with_reducible refine wpList_nil ?_)
      | (with_reducible refine then_normal ?_)
      | (with_reducible refine wp_ret ?_)
      | (with_reducible refine then_ret ?_)
      | (with_reducible refine block_ret ?_)
      | ((with_reducible refine g_move ?_); refine s_move hE rfl rfl ?_; clear hE a; intro a hE)
      | ((with_reducible refine g_assign ?_); refine s_assign hE rfl rfl ?_; clear hE a; intro a hE)
      | ((with_reducible refine g_un .not ?_); refine s_notb hE rfl rfl ?_; clear hE a; intro a hE)
      | ((with_reducible refine g_guard ?_); refine gd_no hE rfl rfl rfl rfl ?_; clear hE a; intro a hE)
      | ((with_reducible refine g_pick ?_); refine s_pickT hE rfl rfl rfl ?_; clear hE a; intro a hE)
      | ((with_reducible refine g_cond ?_); refine c_true hE rfl ?_)
      )
    exact ret2 hE rfl rfl rfl (.inr ⟨rfl, (by decide : (2 : Int) ≠ 0), rfl, hS⟩)
end
end Go.Proofs.Ytfoeelghehjanaa
