/-
  Contract: a frame laid down on a disk.
-/
import Derived.Test.YtfoeelghehjanaaWE
namespace Go.Proofs.Ytfoeelghehjanaa
open Go.RowKit
set_option linter.unusedVariables false
set_option linter.unusedSimpArgs false
attribute [local irreducible] Rd hRow hBlk hRd hRdr rowsP hDk Fn hMarks

def eLast (D : DM) (at_ : Int) (xs : List (Nat × Blk)) : Int := ((D.ws (xs.dropLast.map (cvP at_))).write (cvP at_ (xs.getLastD (0, noughts))).1 (cvP at_ (xs.getLastD (0, noughts))).2).2
theorem eLast_snoc (D : DM) (at_ : Int) (pre : List (Nat × Blk)) (x : Nat × Blk) : eLast D at_ (pre ++ [x]) = ((D.ws (pre.map (cvP at_))).write (at_ + (x.1 : Int)) x.2).2 := by
  unfold eLast
  rw [List.dropLast_concat]
  simp
section
variable {g : Nat} {D : DM} {H : List HP} {w0 w : World} {m : Nat}
set_option maxHeartbeats 8000000
theorem klay (at_ t n : Nat) (ht : t < 4294967296) (hn : n < 4294967296) (hat : at_ ≤ 3000) (b : List Nat) (A : Option Addr) (c : Nat) (hb : Bs b) (hl : b.length ≤ 40000) (hr : ∀ w' L, St w0 w' (L ++ H) → Rd w' A (bys b)) (hD : D.atN m) (hm : m ≤ 80000) (hS : St w0 w (hDk g D :: H)) :
    Fn Try.prog 52 [.pointer (some ⟨g, 0, none⟩), .int .i64 (at_ : Int), .int .u32 (t : Int), .int .u32 (n : Int), .slice A b.length c] w fun v w' => v = .int .i64 (D.wrs (at_ : Int) (partsB t n b)).2 ∧ St w0 w' (hDk g (D.wrs (at_ : Int) (partsB t n b)).1 :: H) := by
  unfold DM.wrs
  rw [← fullP_cv]
  have hfl : (fullP t n b).length ≤ 835 := by rw [fullP_len]; exact secN_le _
  have hfo := fullP_ok (t := t) (n := n) hb hl
  have hfi : ∀ x ∈ fullP t n b, x.1 < 835 := by
    intro x hx
    obtain ⟨k, hk, rfl⟩ := List.mem_map.1 hx
    have := secN_le b.length
    have := List.mem_range.1 hk
    show k < 835
    omega
  refine enterI 31 Try.func52 rfl rfl rfl ?_
  intro a hE
  refine i_seq ?_
  refine i_region rfl (fun _ _ h => h) ?_
  refine s_box1 hE hS rfl rfl rfl ?_
  clear hE a hS; intro g5 a w hE hS
  refine s_box1 hE hS rfl rfl rfl ?_
  clear hE a hS; intro g6 a w hE hS
  repeat' (first

    | (with_reducible refine wpList_nil ?_)
    | (with_reducible refine then_normal ?_)
    | (with_reducible refine i_seq ?_)
    | ((with_reducible refine ig_region ?_); refine i_region rfl (fun _ _ h => h) ?_)
    | ((with_reducible refine g_move ?_); refine s_move hE rfl rfl ?_; clear hE a; intro a hE)
    | ((with_reducible refine g_alloc ?_); refine s_alloc1 hE hS rfl rfl ?_; clear hE a hS; intro g a w hE hS)
    )
  obtain ⟨g10, rfl⟩ : ∃ x, x = g := ⟨_, rfl⟩
  refine s_call hE rfl rfl rfl (parts t n b A c b.length rfl hb hl w (hr w [_, _, _, _] hS)) ?_
  rintro _ w ⟨g8, g3, g4, g7, A', c', rfl, hS1⟩; clear hE a; intro a hE; replace hS := hS.frame hS1; clear hS1; try simp only [List.cons_append, List.nil_append] at hS
  have hS2 : St w0 w (ptBx g8 g3 g4 g7 A' c' t n b ++ ([hBlk g10 41 [.int .i64 0], hBlk g6 3 [.int .i64 (at_ : Int)], hBlk g5 25 [.pointer (some ⟨g, 0, none⟩)], hDk g D, hPure (okw D [])] ++ H)) := by
    have h1 := hS.focus (k := 8) rfl
    simp only [List.eraseIdx_cons_succ, List.eraseIdx_cons_zero] at h1
    have h2 := h1.pureI (p := okw D []) trivial
    have h3 : St w0 w (([hDk g D, hPure (okw D [])] ++ (ptBx g8 g3 g4 g7 A' c' t n b ++ [hBlk g10 41 [.int .i64 0], hBlk g6 3 [.int .i64 (at_ : Int)], hBlk g5 25 [.pointer (some ⟨g, 0, none⟩)]])) ++ H) := h2.p1
    exact h3.perm (List.perm_append_comm.append_right H)
  clear hS; have hS := hS2; clear hS2
  repeat' (first

    | (with_reducible refine wpList_nil ?_)
    | (with_reducible refine then_normal ?_)
    | (with_reducible refine i_block ?_)
    )
  refine i_range (ps := [18, 19]) hE rfl (parts_iter t n ht hn b hb hl g8 g3 g4 g7 A' c' w0)
    (fun pre => [hBlk g10 41 [.int .i64 0], hBlk g6 3 [.int .i64 (at_ : Int)], hBlk g5 25 [.pointer (some ⟨g, 0, none⟩)], hDk g (D.ws (pre.map (cvP at_))), hPure (okw D (pre.map (cvP at_)))])
    (fun j xs => [hBlk g10 41 [.int .i64 (eLast D at_ xs)], hBlk g6 3 [.int .i64 (at_ : Int)], hBlk g5 25 [.pointer (some ⟨g, 0, none⟩)], hDk g (D.ws (xs.map (cvP at_))), hPure (j = none ∧ okw D (xs.dropLast.map (cvP at_)) ∧ eLast D at_ xs ≠ 0)]) (own := H) hS (fun _ => rfl) (by decide)
    (Y := Nat) (fun pre x y => [(11, .int .i64 (x.1 : Int)), (12, .pointer (some ⟨y, 0, none⟩)), (5, .pointer (some ⟨g5, 0, none⟩)), (6, .pointer (some ⟨g6, 0, none⟩)), (10, .pointer (some ⟨g10, 0, none⟩))])
    (fun pre x y => [hBlk y 80 (bys x.2), hBlk g10 41 [.int .i64 0], hBlk g6 3 [.int .i64 (at_ : Int)], hBlk g5 25 [.pointer (some ⟨g, 0, none⟩)], hDk g (D.ws (pre.map (cvP at_))), hPure (okw D (pre.map (cvP at_)))]) ?_ ?_ ?_ ?_
  · clear hS hE a
    intro own pre x w lp a hx hS hE
    obtain ⟨post, hx⟩ := hx
    have hxm : x ∈ fullP t n b := by rw [← hx]; simp
    have hxo := hfo x hxm
    obtain ⟨k, y⟩ := x
    have hyl : (bys y).length = 64 := by rw [bys_length]; exact hxo.1
    have hyo := bys_one y
    simp only [ptBx, List.cons_append, List.nil_append] at hS
    repeat' (first

      | (with_reducible refine wpList_nil ?_)
      | (with_reducible refine then_normal ?_)
      | (with_reducible refine i_seq ?_)
      | ((with_reducible refine ig_region ?_); refine i_region rfl (fun _ _ h => absurd h.1 (by simp)) ?_)
      | ((with_reducible refine g_assign ?_); refine s_assign hE rfl rfl ?_; clear hE a; intro a hE)
      | ((with_reducible refine g_alloc ?_); refine s_allocS hE hS rfl rfl ?_; clear hE a hS; intro g a w hE hS)
      | ((with_reducible refine g_store ?_); (first | (refine s_storeW (k := 0) hS hE rfl rfl rfl (by assumption) (by first | rfl ) (by first | exact bys_one _ ) ?_) ); clear hS; intro w hS; simp only [List.set_cons_zero, List.set_cons_succ, Nat.add_zero] at hS)
      )
    refine ⟨rfl, rfl, _, hE.sub ⟨rfl, rfl, rfl, rfl, rfl, trivial⟩, ?_⟩
    exact hS.perm (List.perm_middle (l₁ := ptBx g8 g3 g4 g7 A' c' t n b)).symm
  · clear hS hE a
    intro own pre x y w lp a hx hS hE
    obtain ⟨post, hx⟩ := hx
    have hxm : x ∈ fullP t n b := by rw [← hx]; simp
    have hxo := hfo x hxm
    have hxi := hfi x hxm
    have hpl : (pre.map (cvP at_)).length ≤ 835 := by
      rw [List.length_map]
      have := congrArg List.length hx
      rw [List.length_append] at this
      omega
    have hpo : ∀ z ∈ pre.map (cvP (at_ : Int)), Blk.ok z.2 := by
      intro z hz
      obtain ⟨v, hv, rfl⟩ := List.mem_map.1 hz
      exact hfo v (by rw [← hx]; exact List.mem_append_left _ hv)
    have hDw := ws_atN hD hpo (by omega)
    have hel := eLast_snoc D at_ pre x
    have hws : D.ws ((pre ++ [x]).map (cvP at_)) = ((D.ws (pre.map (cvP at_))).write (at_ + (x.1 : Int)) x.2).1 := by
      rw [List.map_append]
      exact ws_snoc D _ (cvP at_ x)
    have hok2 : okw D (pre.map (cvP at_)) → ((D.ws (pre.map (cvP at_))).write (at_ + (x.1 : Int)) x.2).2 = 0 → okw D ((pre ++ [x]).map (cvP at_)) := fun h1 h2 => by
      rw [List.map_append]
      exact okw_snoc (x := cvP at_ x) h1 h2
    simp only [ptBx, List.cons_append, List.nil_append] at hS
    have hpre := (hS.focus (k := 10) rfl).pure
    generalize D.ws (pre.map (cvP (at_ : Int))) = D1 at hS hDw hel hws hok2
    obtain ⟨k, z⟩ := x
    dsimp only at hS hE hel hws hxo hxi hok2
    have hzl : (bys z).length = 64 := by rw [bys_length]; exact hxo.1
    have hzo := bys_one z
    have e1 : IntKind.i64.wrap ((at_ : Int) + (k : Int)) = (at_ : Int) + (k : Int) := wrap64_in (by omega)
    repeat' (first

      | (with_reducible refine i_seq ?_)
      | (with_reducible refine i_block ?_)
      | ((with_reducible refine ig_region ?_); refine i_region rfl (fun _ _ h => h) ?_)
      | ((with_reducible refine g_move ?_); refine s_move hE rfl rfl ?_; clear hE a; intro a hE)
      | ((with_reducible refine g_bin .add ?_); refine s_add hE rfl rfl rfl (by first | exact e1 ) ?_; clear hE a; intro a hE)
      | ((with_reducible refine g_load ?_); (first | (refine s_loadB (k := 7) hS hE rfl rfl rfl rfl ?_) | (refine s_loadB (k := 8) hS hE rfl rfl rfl rfl ?_) ); clear hE a; intro a hE)
      | ((with_reducible refine g_load ?_); (first | (refine s_loadW (k := 5) hS hE rfl rfl (by first | assumption ) rfl ?_) ); clear hE a; intro a hE)
      )
    refine s_call hE rfl rfl rfl (kwrite ((at_ : Int) + (k : Int)) z hxo hDw (by omega) (hS.focus (k := 9) rfl)) ?_
    rintro _ w ⟨rfl, hS⟩; clear hE a; intro a hE
    simp only [List.eraseIdx_cons_succ, List.eraseIdx_cons_zero] at hS
    have back : ∀ (w : World) (D' : DM) (e : Int) (p q : Prop), q → St w0 w (hDk g D' :: hBlk g8 3 [.int .i64 (secN b.length : Int)] :: hBlk g3 52 [.int .u32 (t : Int)] :: hBlk g4 52 [.int .u32 (n : Int)] :: hBlk g7 34 [.slice A' (allB b).length c'] :: hRow 5 1 A' (allB b).length c' (bys (allB b)) :: hBlk y 80 (bys z) :: hBlk g10 41 [.int .i64 e] :: hBlk g6 3 [.int .i64 (at_ : Int)] :: hBlk g5 25 [.pointer (some ⟨g, 0, none⟩)] :: hPure p :: own) →
        St w0 w (ptBx g8 g3 g4 g7 A' c' t n b ++ ([hBlk g10 41 [.int .i64 e], hBlk g6 3 [.int .i64 (at_ : Int)], hBlk g5 25 [.pointer (some ⟨g, 0, none⟩)], hDk g D', hPure q] ++ own)) := fun w D' e p q hq h => by
      have h1 := (h.drop 6).convAt (k := 9) (h' := hPure q) rfl fun _ _ => hq
      have h2 : St w0 w (([hDk g D'] ++ (ptBx g8 g3 g4 g7 A' c' t n b ++ [hBlk g10 41 [.int .i64 e], hBlk g6 3 [.int .i64 (at_ : Int)], hBlk g5 25 [.pointer (some ⟨g, 0, none⟩)]])) ++ (hPure q :: own)) := h1
      exact h2.perm (List.perm_append_comm.append_right _)
    rw [← hws] at hS
    by_cases he : (D1.write ((at_ : Int) + (k : Int)) z).2 = 0
    · rw [he] at hE
      repeat' (first

        | (with_reducible refine wpList_nil ?_)
        | (with_reducible refine then_normal ?_)
        | (with_reducible refine block_normal ?_)
        | (with_reducible refine i_seq ?_)
        | (with_reducible refine i_skip ?_)
        | ((with_reducible refine ig_region ?_); refine i_region rfl (fun _ _ h => h) ?_)
        | ((with_reducible refine ig_cond ?_); refine i_false hE rfl ?_)
        | ((with_reducible refine g_move ?_); refine s_move hE rfl rfl ?_; clear hE a; intro a hE)
        | ((with_reducible refine g_assign ?_); refine s_assign hE rfl rfl ?_; clear hE a; intro a hE)
        | ((with_reducible refine g_bin .neq ?_); refine s_neq hE rfl rfl rfl ?_; clear hE a; intro a hE)
        )
      exact back _ _ _ _ _ (hok2 hpre he) hS
    · generalize (D1.write ((at_ : Int) + (k : Int)) z).2 = e at hE he hel hok2
      repeat' (first

        | (with_reducible refine wpList_nil ?_)
        | (with_reducible refine then_normal ?_)
        | (with_reducible refine block_ret ?_)
        | (with_reducible refine i_seq ?_)
        | (with_reducible refine i_ret ?_)
        | ((with_reducible refine ig_region ?_); refine i_region rfl (fun _ _ h => h) ?_)
        | ((with_reducible refine ig_cond ?_); refine i_dec hE rfl (fun hc => ?_) (fun hc => ?_) <;> try omega)
        | ((with_reducible refine g_move ?_); refine s_move hE rfl rfl ?_; clear hE a; intro a hE)
        | ((with_reducible refine g_assign ?_); refine s_assign hE rfl rfl ?_; clear hE a; intro a hE)
        | ((with_reducible refine g_bin .neq ?_); refine s_neq hE rfl rfl rfl ?_; clear hE a; intro a hE)
        | ((with_reducible refine g_store ?_); (first | (refine s_storeB (k := 7) hS hE rfl rfl rfl rfl rfl rfl ?_) ); clear hS; intro w hS; simp only [List.set_cons_zero, List.set_cons_succ, Nat.add_zero] at hS)
        )
      have h3 := back _ _ _ _ ((none : Option Nat) = none ∧ okw D ((pre ++ [(k, z)]).dropLast.map (cvP at_)) ∧ eLast D at_ (pre ++ [(k, z)]) ≠ 0) ⟨rfl, by rw [List.dropLast_concat]; exact hpre, by rw [hel]; exact he⟩ hS
      rw [← hel] at h3
      exact h3
  · clear hS
    intro D2 w hS
    simp only [ptBx, List.cons_append, List.nil_append] at hS
    have hok := (hS.focus (k := 10) rfl).pure
    have hpo : ∀ z ∈ (fullP t n b).map (cvP (at_ : Int)), Blk.ok z.2 := by
      intro z hz
      obtain ⟨v, hv, rfl⟩ := List.mem_map.1 hz
      exact hfo v hv
    have hpl : ((fullP t n b).map (cvP (at_ : Int))).length ≤ 835 := by rw [List.length_map]; exact hfl
    have hDw := ws_atN hD hpo (by omega)
    rw [wss_done hok]
    repeat' (first

      | (with_reducible refine then_normal ?_)
      | (with_reducible refine block_normal ?_)
      | (with_reducible refine i_seq ?_)
      | ((with_reducible refine ig_region ?_); refine i_region rfl (fun _ _ h => h) ?_)
      | ((with_reducible refine g_load ?_); (first | (refine s_loadB (k := 8) hS hE rfl rfl rfl rfl ?_) ); clear hE a; intro a hE)
      )
    refine s_call hE rfl rfl rfl (ksync hDw (by omega) (hS.focus (k := 9) rfl)) ?_
    rintro _ w ⟨rfl, hS⟩; clear hE a; intro a hE
    simp only [List.eraseIdx_cons_succ, List.eraseIdx_cons_zero] at hS
    repeat' (first

      | (with_reducible refine wpList_nil ?_)
      | (with_reducible refine then_normal ?_)
      | (with_reducible refine i_ret ?_)
      | ((with_reducible refine g_store ?_); (first | (refine s_storeB (k := 7) hS hE rfl rfl rfl rfl rfl rfl ?_) ); clear hS; intro w hS; simp only [List.set_cons_zero, List.set_cons_succ, Nat.add_zero] at hS)
      )
    refine im_retG (vs := [_]) hE [D2] hS.p1 rfl fun w' hS' => ⟨⟨⟨_, rfl, res_1 (k := 6) hS' rfl⟩, trivial⟩, rfl, ?_⟩
    exact ((((((((hS'.drop 1).drop 1).drop 1).drop 1).drop 1).drop 1).drop 1).drop 1).drop 1
  · clear hS
    intro j D2 pre x post w hx hS
    simp only [ptBx, List.cons_append, List.nil_append] at hS
    obtain ⟨rfl, hok, hne⟩ := (hS.focus (k := 10) rfl).pure
    rw [List.dropLast_concat] at hok
    have hel := eLast_snoc D at_ pre x
    have hws : D.ws ((pre ++ [x]).map (cvP at_)) = ((D.ws (pre.map (cvP at_))).write (at_ + (x.1 : Int)) x.2).1 := by
      rw [List.map_append]
      exact ws_snoc D _ (cvP at_ x)
    rw [hel] at hne
    have hst : D.wss ((fullP t n b).map (cvP at_)) = (D.ws (pre.map (cvP at_))).write (at_ + (x.1 : Int)) x.2 := by
      rw [← hx, List.map_append, List.map_cons]
      exact wss_stop (x := cvP at_ x) hok hne
    rw [hst]
    rw [hel, hws] at hS
    show Exit.inBlock 0 _ .ret a w
    repeat' (first

      | (with_reducible refine then_ret ?_)
      | (with_reducible refine block_ret ?_)
      )
    refine im_retG (vs := [_]) hE [D2] hS rfl fun w' hS' => ⟨⟨⟨_, rfl, res_1 (k := 5) hS' rfl⟩, trivial⟩, rfl, ?_⟩
    have h2 := hS'.focus (k := 8) rfl
    exact ((((((((h2.drop 1).drop 1).drop 1).drop 1).drop 1).drop 1).drop 1).drop 1).drop 1
end
end Go.Proofs.Ytfoeelghehjanaa
