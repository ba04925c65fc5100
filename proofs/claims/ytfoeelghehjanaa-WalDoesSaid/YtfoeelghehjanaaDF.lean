/-
  Contracts of disk: a read.
-/
import Derived.Test.YtfoeelghehjanaaDE
namespace Go.Proofs.Ytfoeelghehjanaa
open Go.RowKit
set_option linter.unusedVariables false
set_option linter.unusedSimpArgs false
attribute [local irreducible] Rd hRow hBlk hRd hAll Fn hMarks
attribute [local simp] Wr.cells

theorem im_retG {P : Program} {fn : Func} {R : Value → World → Prop} {n : Nat} {L : List (Nat × Value)} {a : Act} {w w0 : World} {H : List HP} (hE : Env n L a) {rs : List ResultVar} {vs : List Value} (Ds : List Nat) (hS : St w0 w (hMarks Ds :: H)) (hr : fn.results = rs.toArray)
    (hv : ∀ w', St w0 w' H → Res P L w' rs vs ∧ R (mkRes vs) w') : PostI P fn R (Ds.map mark) .ret a w := by
  show LeavesInM (FW none) 0 P fn a.tmps _ (a.defers ++ Ds.map mark) .returning w
  rw [hE.defers]
  refine leave_marks (v := mkRes vs) Ds w hS fun w' hS' => ⟨?_, (hv w' hS').2⟩
  have h := Res.run hE (hv w' hS').1
  rw [results_eq, hr]
  simp only [Array.mapM_eq_mapM_toList, Sem.run_bind, Sem.run_map, h, Result.andThen_ok, Sem.run_pure]
  congr 1
  match vs with
  | [] => rfl
  | [v] => rfl
  | v :: u :: vs => simp [mkRes]
theorem lastOf_snoc (x : Wr) (i : Nat) : ∀ (l : List Wr), lastOf (l ++ [x]) i = if x.at_ = i then some x.b else lastOf l i
  | [] => by simp [lastOf]
  | y :: l => by
    rw [List.cons_append]
    show (match lastOf (l ++ [x]) i with | some b => some b | none => if y.at_ = i then some y.b else none) = _
    rw [lastOf_snoc x i l]
    by_cases h : x.at_ = i
    · rw [if_pos h, if_pos h]
    · rw [if_neg h, if_neg h]; rfl
theorem lastOf_back (l : List Wr) (i : Nat) : ∀ k, k ≤ l.length → lastOf (l.take k) i = ((backM (l.take k)).find? fun p => p.2.at_ == i).map (·.2.b)
  | 0, _ => by simp [lastOf, backM]
  | k + 1, h => by
    rw [backM_step (by omega), List.take_succ_eq_append_getElem (by omega), lastOf_snoc, lastOf_back l i k (by omega), List.find?_cons]
    by_cases hx : l[k].at_ = i
    · rw [if_pos hx]; simp [hx]
    · have e : (l[k].at_ == i) = false := by simp [hx]
      rw [if_neg hx, e]
theorem lastOf_hit {l : List Wr} {i : Nat} {pre : List (Nat × Wr)} {x : Nat × Wr} {post : List (Nat × Wr)} (h : pre ++ x :: post = backM l) (hp : ∀ p ∈ pre, p.2.at_ ≠ i) (hx : x.2.at_ = i) : lastOf l i = some x.2.b := by
  have := lastOf_back l i l.length (Nat.le_refl _)
  rw [List.take_length] at this
  rw [this, ← h, List.find?_append]
  have e : pre.find? (fun p => p.2.at_ == i) = none := by
    rw [List.find?_eq_none]
    intro p hp2
    simp [hp p hp2]
  rw [e]
  simp [hx]
theorem lastOf_miss {l : List Wr} {i : Nat} (hp : ∀ p ∈ backM l, p.2.at_ ≠ i) : lastOf l i = none := by
  have := lastOf_back l i l.length (Nat.le_refl _)
  rw [List.take_length] at this
  rw [this]
  have e : (backM l).find? (fun p => p.2.at_ == i) = none := by
    rw [List.find?_eq_none]
    intro p hp2
    simp [hp p hp2]
  rw [e]
  rfl
theorem backM_mem {l : List Wr} {p : Nat × Wr} : ∀ k, k ≤ l.length → p ∈ backM (l.take k) → p.2 ∈ l
  | 0, _, h => by simp [backM] at h
  | k + 1, hk, h => by
    rw [backM_step (by omega)] at h
    rcases List.mem_cons.1 h with rfl | h
    · exact List.getElem_mem _
    · exact backM_mem k (by omega) h
section
variable {g : Nat} {S : Option Addr} {c : Nat} {Q : Option Addr} {d : Nat} {D : DM} {H : List HP} {w0 w : World}
set_option maxHeartbeats 8000000
theorem read_ (i : Int) (hD : D.ok) (ho : D.ops < 4611686018427387904) (hS : St w0 w (dk g S c Q d D H)) :
    Fn Try.prog 47 [.pointer (some ⟨g, 0, none⟩), .int .i64 i] w fun v w' => v = .tuple #[.agg (bys (D.read i).2.1).toArray, .int .i64 (D.read i).2.2] ∧ St w0 w' (dk g S c Q d (D.read i).1 H) := by
  refine enterI 50 Try.func47 rfl rfl rfl ?_
  intro a hE
  have hro := ready_ok hD i
  refine i_seq ?_
  refine i_region rfl (fun _ _ h => h) ?_
  refine s_box1 hE hS rfl rfl rfl ?_
  clear hE a hS; intro b2 a w hE hS
  refine s_box1 hE hS rfl rfl rfl ?_
  clear hE a hS; intro b3 a w hE hS
  refine s_allocL (bys noughts) hE hS rfl rfl ?_
  clear hE a hS; intro b4 a w hE hS
  repeat' (first

    | (with_reducible refine wpList_nil ?_)
    | (with_reducible refine then_normal ?_)
    | (with_reducible refine i_seq ?_)
    | ((with_reducible refine ig_region ?_); refine i_region rfl (fun _ _ h => h) ?_)
    | ((with_reducible refine g_load ?_); (first | (refine s_loadB (k := 2) hS hE rfl rfl rfl rfl ?_) | (refine s_loadB (k := 3) hS hE rfl rfl rfl rfl ?_) ); clear hE a; intro a hE)
    | ((with_reducible refine g_alloc ?_); refine s_alloc1 hE hS rfl rfl ?_; clear hE a hS; intro g a w hE hS)
    )
  obtain ⟨b5, rfl⟩ : ∃ x, x = g := ⟨g, rfl⟩
  have hS2 := St.perm (L' := dk g S c Q d D (hBlk b5 41 [.int .i64 0] :: hBlk b4 80 (bys noughts) :: hBlk b3 3 [.int .i64 i] :: hBlk b2 25 [.pointer (some ⟨g, 0, none⟩)] :: H)) hS
    (List.perm_append_comm (l₁ := [hBlk b5 41 [.int .i64 0], hBlk b4 80 (bys noughts), hBlk b3 3 [.int .i64 i], hBlk b2 25 [.pointer (some ⟨g, 0, none⟩)]]) (l₂ := dk g S c Q d D []) |>.append_right H)
  clear hS; have hS := hS2; clear hS2
  refine s_call hE rfl rfl rfl (ready hD i hS) ?_
  rintro _ w ⟨rfl, hS⟩; clear hE a; intro a hE
  by_cases he : (D.ready i).2 = 0
  · rw [he] at hE
    obtain ⟨hin1, hin2⟩ := ready_in he
    obtain ⟨hops, hpe, hsa⟩ := ready_same D i
    obtain ⟨n, rfl⟩ := Int.eq_ofNat_of_zero_le hin1
    have e : D.read (n : Int) = ({ (D.ready (n : Int)).1 with ops := (D.ready (n : Int)).1.ops + 1 }, D.holds n, 0) := by unfold DM.read; rw [if_pos he]; rfl
    rw [e]
    generalize hD1 : (D.ready (n : Int)).1 = D1 at hS hro hops hpe hsa
    repeat' (first

      | (with_reducible refine wpList_nil ?_)
      | (with_reducible refine then_normal ?_)
      | (with_reducible refine i_seq ?_)
      | (with_reducible refine i_skip ?_)
      | ((with_reducible refine ig_region ?_); refine i_region rfl (fun _ _ h => h) ?_)
      | ((with_reducible refine ig_cond ?_); refine i_false hE rfl ?_)
      | ((with_reducible refine g_move ?_); refine s_move hE rfl rfl ?_; clear hE a; intro a hE)
      | ((with_reducible refine g_assign ?_); refine s_assign hE rfl rfl ?_; clear hE a; intro a hE)
      | ((with_reducible refine g_bin .neq ?_); refine s_neq hE rfl rfl rfl ?_; clear hE a; intro a hE)
      | ((with_reducible refine g_fa ?_); refine s_fieldL hE rfl rfl rfl ?_; clear hE a; intro a hE)
      | ((with_reducible refine g_nc ?_); refine s_nilCheck hE rfl rfl ?_; clear hE a; intro a hE)
      | ((with_reducible refine g_load ?_); (first | (refine s_loadB (k := 0) hS hE rfl rfl rfl rfl ?_) | (refine s_loadB (k := 6) hS hE rfl rfl rfl rfl ?_) ); clear hE a; intro a hE)
      )
    refine s_call hE rfl rfl rfl (backward _ _) ?_
    rintro _ w ⟨b, rfl, hS1⟩; clear hE a; intro a hE; replace hS := hS.frame hS1; clear hS1; try simp only [List.cons_append, List.nil_append] at hS
    repeat' (first

      | (with_reducible refine wpList_nil ?_)
      | (with_reducible refine then_normal ?_)
      | (with_reducible refine i_block ?_)
      )
    have hpl : D1.pend.length ≤ 100000 := hro.plen
    have hwl := wr_len hro
    have hop := hro.ops
    have hnl : n < D1.safe.length := by rw [hsa]; omega
    refine i_range (ps := [21, 22]) hE rfl (back_iter (Q := Q) (d := d) D1.pend b w0 hpl hwl) (fun pre => [hPure (∀ p ∈ pre, p.2.at_ ≠ n), hBlk g 109 [.slice S D1.safe.length c, .slice Q D1.pend.length d, .bool D1.dead, .bool D1.armed, .int .i64 D1.left, .int .i64 D1.fails, .int .i64 D1.ops], hRow 80 64 S D1.safe.length c (D1.safe.flatMap bys), hBlk b5 41 [.int .i64 0], hBlk b4 80 (bys noughts), hBlk b3 3 [.int .i64 (n : Int)], hBlk b2 25 [.pointer (some ⟨g, 0, none⟩)]])
      (fun j xs => [hPure (j = none ∧ lastOf D1.pend n = some (xs.getLastD (0, ⟨0, noughts⟩)).2.b), hBlk g 109 [.slice S D1.safe.length c, .slice Q D1.pend.length d, .bool D1.dead, .bool D1.armed, .int .i64 D1.left, .int .i64 D1.fails, .int .i64 (D1.ops + 1)], hRow 80 64 S D1.safe.length c (D1.safe.flatMap bys), hBlk b5 41 [.int .i64 0], hBlk b4 80 (bys (xs.getLastD (0, ⟨0, noughts⟩)).2.b), hBlk b3 3 [.int .i64 (n : Int)], hBlk b2 25 [.pointer (some ⟨g, 0, none⟩)]]) (own := H) ?_ (fun _ => rfl) (by decide)
      (Y := Nat) (fun pre x y => [(8, .pointer (some ⟨y, 0, none⟩)), (2, .pointer (some ⟨b2, 0, none⟩)), (3, .pointer (some ⟨b3, 0, none⟩)), (4, .pointer (some ⟨b4, 0, none⟩)), (5, .pointer (some ⟨b5, 0, none⟩))])
      (fun pre x y => [hBlk y 112 x.2.cells, hPure (∀ p ∈ pre, p.2.at_ ≠ n), hBlk g 109 [.slice S D1.safe.length c, .slice Q D1.pend.length d, .bool D1.dead, .bool D1.armed, .int .i64 D1.left, .int .i64 D1.fails, .int .i64 D1.ops], hRow 80 64 S D1.safe.length c (D1.safe.flatMap bys), hBlk b5 41 [.int .i64 0], hBlk b4 80 (bys noughts), hBlk b3 3 [.int .i64 (n : Int)], hBlk b2 25 [.pointer (some ⟨g, 0, none⟩)]]) ?_ ?_ ?_ ?_
    · have h1 := hS.perm (List.Perm.cons _ (List.perm_middle (l₁ := [hBlk g 109 [.slice S D1.safe.length c, .slice Q D1.pend.length d, .bool D1.dead, .bool D1.armed, .int .i64 D1.left, .int .i64 D1.fails, .int .i64 D1.ops], hRow 80 64 S D1.safe.length c (D1.safe.flatMap bys)])))
      exact (h1.pureI (p := ∀ p ∈ ([] : List (Nat × Wr)), p.2.at_ ≠ n) (fun p hp => by cases hp)).perm (List.perm_middle (l₁ := backBx Q d D1.pend b)).symm
    · clear hS hE a
      intro own pre x w l a hx hS hE
      obtain ⟨post, hx⟩ := hx
      have hxm : x.2 ∈ D1.pend := backM_mem D1.pend.length (Nat.le_refl _) (by rw [List.take_length, ← hx]; simp)
      have hxl := hwl _ hxm
      simp only [List.cons_append, List.nil_append] at hS
      have hone : ∀ v ∈ x.2.cells, v.oneCell' = true := by
        intro v hv
        rcases List.mem_cons.1 hv with rfl | hv
        · rfl
        · exact bys_one _ v hv
      repeat' (first

        | (with_reducible refine wpList_nil ?_)
        | ((with_reducible refine ig_region ?_); refine i_region rfl (fun _ _ h => absurd h.1 (by simp)) ?_)
        | ((with_reducible refine g_alloc ?_); refine s_allocS hE hS rfl rfl ?_; clear hE a hS; intro g a w hE hS)
        | ((with_reducible refine g_store ?_); (first | (refine s_storeW (k := 0) hS hE rfl rfl rfl (by assumption) (by first | rfl ) (by first | assumption) ?_) ); clear hS; intro w hS; simp only [List.set_cons_zero, List.set_cons_succ, Nat.add_zero] at hS)
        )
      exact ⟨rfl, rfl, _, hE.sub ⟨rfl, rfl, rfl, rfl, rfl, trivial⟩, hS.perm (List.perm_middle (l₁ := backBx Q d D1.pend b)).symm⟩
    · clear hS hE a
      intro own pre x y w l a hx hS hE
      obtain ⟨post, hx⟩ := hx
      have hxm : x.2 ∈ D1.pend := backM_mem D1.pend.length (Nat.le_refl _) (by rw [List.take_length, ← hx]; simp)
      have hxl := hwl _ hxm
      have hxb := (hro.pend _ hxm).1.1
      have hb : (x.2.cells.drop (0 + 1)).take 64 = bys x.2.b := by
        show (bys x.2.b).take 64 = bys x.2.b
        exact List.take_of_length_le (by rw [bys_length, hxb]; exact Nat.le_refl _)
      have hbl : (bys x.2.b).length = 64 := by rw [bys_length]; exact hxb
      simp only [List.cons_append, List.nil_append] at hS
      repeat' (first

        | (with_reducible refine wpList_nil ?_)
        | (with_reducible refine then_normal ?_)
        | (with_reducible refine block_normal ?_)
        | (with_reducible refine block_ret ?_)
        | (with_reducible refine i_seq ?_)
        | (with_reducible refine i_skip ?_)
        | (with_reducible refine i_ret ?_)
        | (with_reducible refine i_block ?_)
        | ((with_reducible refine ig_region ?_); refine i_region rfl (fun _ _ h => h) ?_)
        | ((with_reducible refine ig_cond ?_); refine i_dec hE rfl (fun hc => ?_) (fun hc => ?_) <;> try omega)
        | ((with_reducible refine g_bin .eql ?_); refine s_eql hE rfl rfl rfl ?_; clear hE a; intro a hE)
        | ((with_reducible refine g_bin .add ?_); refine s_add hE rfl rfl rfl (by first | exact wrap64_in (by omega) ) ?_; clear hE a; intro a hE)
        | ((with_reducible refine g_fa ?_); refine s_fieldL hE rfl rfl rfl ?_; clear hE a; intro a hE)
        | ((with_reducible refine g_nc ?_); refine s_nilCheck hE rfl rfl ?_; clear hE a; intro a hE)
        | ((with_reducible refine g_load ?_); (first | (refine s_loadB (k := 2) hS hE rfl rfl rfl rfl ?_) | (refine s_loadB (k := 4) hS hE rfl rfl rfl rfl ?_) | (refine s_loadB (k := 8) hS hE rfl rfl rfl rfl ?_) | (refine s_loadB (k := 9) hS hE rfl rfl rfl rfl ?_)); clear hE a; intro a hE)
        | ((with_reducible refine g_store ?_); (first | (refine s_storeB (k := 4) hS hE rfl rfl rfl rfl rfl rfl ?_) | (refine s_storeB (k := 6) hS hE rfl rfl rfl rfl rfl rfl ?_) ); clear hS; intro w hS; simp only [List.set_cons_zero, List.set_cons_succ, Nat.add_zero] at hS)
        | ((with_reducible refine g_load ?_); (first | (refine s_loadBs (k := 2) hS hE rfl rfl (by first | exact hb ) (by omega) rfl ?_) ); clear hE a; intro a hE)
        | ((with_reducible refine g_store ?_); (first | (refine s_storeW (k := 7) hS hE rfl rfl rfl (by assumption) (by first | rfl ) (by first | exact bys_one _ ) ?_) ); clear hS; intro w hS; simp only [List.set_cons_zero, List.set_cons_succ, Nat.add_zero] at hS)
        )
      · have hp := (hS.focus (k := 3) rfl).pure
        have hlo := lastOf_hit hx hp (by omega)
        have eL : (pre ++ [x]).getLastD (0, ⟨0, noughts⟩) = x := by simp
        show St w0 _ (backBx Q d D1.pend b ++ ([hPure (none = none ∧ lastOf D1.pend n = some ((pre ++ [x]).getLastD (0, ⟨0, noughts⟩)).2.b), _, _, _, hBlk b4 80 (bys ((pre ++ [x]).getLastD (0, ⟨0, noughts⟩)).2.b), _, _] ++ own))
        rw [eL]
        exact (hS.drop 2).convAt (k := 2) (h' := hPure (none = none ∧ lastOf D1.pend n = some x.2.b)) rfl fun _ _ => ⟨rfl, hlo⟩
      · have hp := (hS.focus (k := 3) rfl).pure
        exact (hS.drop 2).convAt (k := 2) (h' := hPure (∀ p ∈ pre ++ [x], p.2.at_ ≠ n)) rfl fun _ _ p hp2 => by
          rcases List.mem_append.1 hp2 with h | h
          · exact hp p h
          · rw [List.mem_singleton] at h; subst h; omega
    · clear hS
      intro D2 w hS
      simp only [List.cons_append, List.nil_append] at hS
      repeat' (first

        | (with_reducible refine wpList_nil ?_)
        | (with_reducible refine then_normal ?_)
        | (with_reducible refine block_normal ?_)
        | (with_reducible refine i_seq ?_)
        | ((with_reducible refine ig_region ?_); refine i_region rfl (fun _ _ h => h) ?_)
        | ((with_reducible refine g_bin .add ?_); refine s_add hE rfl rfl rfl (by first  | exact wrap64_in (by omega) ) ?_; clear hE a; intro a hE)
        | ((with_reducible refine g_fa ?_); refine s_fieldL hE rfl rfl rfl ?_; clear hE a; intro a hE)
        | ((with_reducible refine g_nc ?_); refine s_nilCheck hE rfl rfl ?_; clear hE a; intro a hE)
        | ((with_reducible refine g_load ?_); (first | (refine s_loadB (k := 4) hS hE rfl rfl rfl rfl ?_) | (refine s_loadB (k := 9) hS hE rfl rfl rfl rfl ?_)); clear hE a; intro a hE)
        | ((with_reducible refine g_store ?_); (first | (refine s_storeB (k := 4) hS hE rfl rfl rfl rfl rfl rfl ?_) ); clear hS; intro w hS; simp only [List.set_cons_zero, List.set_cons_succ, Nat.add_zero] at hS)
        )
      have hp := (hS.focus (k := 3) rfl).pure
      have hlo := lastOf_miss hp
      have hseg := flat_seg (c := bys) (size := 64) (l := D1.safe) (blk_len hro.safe) hnl
      have hbl : (bys D1.safe[n]).length = 64 := blk_len hro.safe _ (List.getElem_mem hnl)
      have hfs : (D1.safe.flatMap bys).length = D1.safe.length * 64 := flat_len (blk_len hro.safe)
      have eh : D.holds n = D1.safe[n] := by
        unfold DM.holds
        rw [← hpe, ← hsa, hlo, Option.getD_none, List.getD_eq_getElem?_getD, List.getElem?_eq_getElem hnl]
        rfl
      refine i_ordS hS 7 ((.rd 0 (.rd 1 (.rd 2 (.rd 3 (.rd 4 (.rd 5 (.rd 6 (.lt 7 (.lt 8 .done)))))))))) mixed (by decide +kernel) (by decide +kernel) ?_
      clear hS; intro w hS
      repeat' (first
        | (with_reducible refine o_rd rfl ?_)
        | ((with_reducible refine q_fa ?_); refine d_val hE hS rfl (fun w hS => r_fieldL hE rfl rfl) ?_; clear hE a; intro a hE)
        | ((with_reducible refine q_nc ?_); refine d_val hE hS rfl (fun w hS => r_nilCheck hE rfl) ?_; clear hE a; intro a hE)
        | ((with_reducible refine q_ia ?_); refine d_val hE hS rfl (fun w hS => r_idxR hE rfl rfl (by omega) (by omega) (by (first | exact hS.rdAt (k := 5) rfl )) (by first | omega )) ?_; clear hE a; intro a hE)
        | ((with_reducible refine q_load ?_); (first | (refine d_val hE hS rfl (fun w hS => r_loadB (k := 4) hS hE rfl rfl rfl) ?_) | (refine d_val hE hS rfl (fun w hS => r_loadB (k := 8) hS hE rfl rfl rfl) ?_) | (refine d_val hE hS rfl (fun w hS => r_loadB (k := 9) hS hE rfl rfl rfl) ?_)); clear hE a; intro a hE)
        | ((with_reducible refine o_lt rfl ?_))
        | ((with_reducible refine q_load ?_); refine d_val hE hS rfl (fun w hS => r_elemR hE rfl (by first | exact hS.rdAt (k := 5) rfl ) (by first | exact hseg) (by first | assumption) rfl) ?_; clear hE a; intro a hE)
        )
      repeat' (first

        | (with_reducible refine wpList_nil ?_)
        | ((with_reducible refine g_store ?_); (first | (refine s_storeW (k := 7) hS hE rfl rfl rfl (by assumption) (by first | rfl ) (by first | exact bys_one _ ) ?_) ); clear hS; intro w hS; simp only [List.set_cons_zero, List.set_cons_succ, Nat.add_zero] at hS)
        )
      refine o_backL ?_
      repeat' (first
        | ((with_reducible refine o_lt rfl ?_))
        )
      repeat' (first

        | (with_reducible refine wpList_nil ?_)
        | ((with_reducible refine g_store ?_); (first | (refine s_storeB (k := 6) hS hE rfl rfl rfl rfl rfl rfl ?_) ); clear hS; intro w hS; simp only [List.set_cons_zero, List.set_cons_succ, Nat.add_zero] at hS)
        )
      refine o_backL ?_
      repeat' (first
        | (with_reducible refine o_done ?_)
        )
      repeat' (first

        | (with_reducible refine then_normal ?_)
        | (with_reducible refine i_ret ?_)
        )
      refine im_retG (vs := [_, _]) hE [D2] hS rfl fun w' hS' => ⟨⟨⟨_, rfl, res_W (k := 6) hS' rfl hbl⟩, ⟨_, rfl, res_1 (k := 5) hS' rfl⟩, trivial⟩, by rw [eh]; rfl, ((((((hS'.drop 0).drop 1).drop 3).drop 3).drop 3).drop 3).p2.p2⟩
    · clear hS
      intro j D2 pre x post w hx hS
      simp only [List.cons_append, List.nil_append] at hS
      obtain ⟨rfl, hlo⟩ := (hS.focus (k := 3) rfl).pure
      have eL : (pre ++ [x]).getLastD (0, ⟨0, noughts⟩) = x := by simp
      have hxm : x.2 ∈ D1.pend := backM_mem D1.pend.length (Nat.le_refl _) (by rw [List.take_length, ← hx]; simp)
      have hbl : (bys x.2.b).length = 64 := by rw [bys_length]; exact (hro.pend _ hxm).1.1
      rw [eL] at hS hlo
      have eh : D.holds n = x.2.b := by
        unfold DM.holds
        rw [← hpe, hlo, Option.getD_some]
      show Exit.inBlock 0 _ .ret a w
      repeat' (first

        | (with_reducible refine then_ret ?_)
        | (with_reducible refine block_ret ?_)
        )
      refine im_retG (vs := [_, _]) hE [D2] hS rfl fun w' hS' => ⟨⟨⟨_, rfl, res_W (k := 6) hS' rfl hbl⟩, ⟨_, rfl, res_1 (k := 5) hS' rfl⟩, trivial⟩, by rw [eh]; rfl, ((((((hS'.drop 0).drop 1).drop 3).drop 3).drop 3).drop 3).p2.p2⟩
  · have e : D.read i = ((D.ready i).1, noughts, (D.ready i).2) := by unfold DM.read; rw [if_neg he]
    rw [e]
    repeat' (first

      | (with_reducible refine wpList_nil ?_)
      | (with_reducible refine then_normal ?_)
      | (with_reducible refine i_seq ?_)
      | ((with_reducible refine ig_region ?_); refine i_region rfl (fun _ _ h => h) ?_)
      | ((with_reducible refine ig_cond ?_); refine i_dec hE rfl (fun hc => ?_) (fun hc => ?_) <;> try omega)
      | ((with_reducible refine g_move ?_); refine s_move hE rfl rfl ?_; clear hE a; intro a hE)
      | ((with_reducible refine g_assign ?_); refine s_assign hE rfl rfl ?_; clear hE a; intro a hE)
      | ((with_reducible refine g_bin .neq ?_); refine s_neq hE rfl rfl rfl ?_; clear hE a; intro a hE)
      )
    refine s_build (bys noughts) hE rfl rfl rfl ?_
    clear hE a; intro a hE
    repeat' (first

      | (with_reducible refine wpList_nil ?_)
      | (with_reducible refine then_normal ?_)
      | (with_reducible refine then_ret ?_)
      | (with_reducible refine i_ret ?_)
      | ((with_reducible refine g_move ?_); refine s_move hE rfl rfl ?_; clear hE a; intro a hE)
      | ((with_reducible refine g_store ?_); (first | (refine s_storeB (k := 3) hS hE rfl rfl rfl rfl rfl rfl ?_) ); clear hS; intro w hS; simp only [List.set_cons_zero, List.set_cons_succ, Nat.add_zero] at hS)
      | ((with_reducible refine g_store ?_); (first | (refine s_storeW (k := 4) hS hE rfl rfl rfl rfl rfl (by first | exact bys_one _ ) ?_) ); clear hS; intro w hS; simp only [List.set_cons_zero, List.set_cons_succ, Nat.add_zero] at hS)
      )
    refine im_retG (vs := [_, _]) hE [] hS.marks0 rfl fun w' hS' => ⟨⟨⟨_, rfl, res_W (k := 4) hS' rfl rfl⟩, ⟨_, rfl, res_1 (k := 3) hS' rfl⟩, trivial⟩, rfl, (((hS'.drop 3).drop 3).drop 3).drop 3⟩
end
end Go.Proofs.Ytfoeelghehjanaa
