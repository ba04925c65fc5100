/-
  The slots of pages, gone over.
-/
import Derived.Test.YtaiahigeejodaaaHE
import Derived.Test.YtaiahigeejodaaaGD
import Derived.Test.YtaiahigeejodaaaGF
namespace Go.Proofs.Ytaiahigeejodaaa
open Go.RowKit
set_option linter.unusedVariables false
set_option linter.unusedSimpArgs false
attribute [local irreducible] Rd hRow hBlk hRd hRdr rowsP Fn hMarks

abbrev SpT := (Int × Nat) × Sl
def spotsP (p : Pg) : List SpT := p.s.zipIdx.map fun x => ((p.n, x.2), x.1)
def spotsM (l : List Pg) : List SpT := l.flatMap spotsP
theorem spotsP_len (p : Pg) : (spotsP p).length = p.s.length := by simp [spotsP]
theorem spotsP_drop {p : Pg} {j : Nat} (h : j < p.s.length) : (spotsP p).drop j = ((p.n, j), p.s[j]) :: (spotsP p).drop (j + 1) := by
  rw [List.drop_eq_getElem_cons (by rw [spotsP_len]; exact h)]
  congr 1
  simp [spotsP]
theorem spotsM_drop {l : List Pg} {k : Nat} (h : k < l.length) : spotsM (l.drop k) = spotsP l[k] ++ spotsM (l.drop (k + 1)) := by
  rw [List.drop_eq_getElem_cons h]
  exact List.flatMap_cons ..
abbrev encSp (x : SpT) : List Value := [.agg #[.int .i64 x.1.1, .int .i64 (x.1.2 : Int)], x.2.v]
section
variable {H : List HP} {w0 w : World}
set_option maxHeartbeats 8000000
theorem spots (A : Option Addr) (c m : Nat) (w0 : World) : Fn Try.prog 41 [.slice A m c] w0 fun v w' =>
    ∃ b, v = .func (.func 54) #[] #[.pointer (some ⟨b, 0, none⟩)] ∧ St w0 w' [hBlk b 45 [.slice A m c]] := by
  refine enter 4 Try.func41 rfl rfl rfl ?_
  intro a hE
  have hS := St.start w0
  repeat' (first

    | (with_reducible refine wp_seq ?_)
    | (with_reducible refine c_region ?_)
    | (with_reducible refine wpList_nil ?_)
    | (with_reducible refine then_normal ?_)
    | ((with_reducible refine g_assign ?_); refine s_assign hE rfl rfl ?_; clear hE a; intro a hE)
    | ((with_reducible refine g_box ?_); refine s_box1 hE hS rfl rfl rfl ?_; clear hE a hS; intro g a w hE hS)
    )
  refine s_val hE rfl rfl rfl (r_func (first := []) hE rfl rfl) ?_
  clear hE a; intro a hE
  repeat' (first

    | (with_reducible refine wpList_nil ?_)
    | (with_reducible refine then_normal ?_)
    | (with_reducible refine wp_ret ?_)
    | ((with_reducible refine g_assign ?_); refine s_assign hE rfl rfl ?_; clear hE a; intro a hE)
    )
  exact ret1 hE rfl rfl ⟨_, rfl, hS⟩
theorem spots_iter (l : List Pg) (A : Option Addr) (c b : Nat) (w0 : World) (hl : l.length ≤ 100000) (hwf : ∀ p ∈ l, p.wf) (hr : Rd w0 A (l.flatMap Pg.cells)) :
    Iter Try.prog 54 [.pointer (some ⟨b, 0, none⟩)] [hBlk b 45 [.slice A l.length c]] encSp (spotsM l) w0 := by
  intro w lp own H J Hx hY hS
  have hls : ∀ r ∈ l, (Pg.cells r).length = 6 := fun r hr => by simp [(hwf r hr).s4]
  have hfl : (l.flatMap Pg.cells).length = l.length * 6 := flat_len hls
  have hF : Fn Try.prog 54 [.func (.yield lp) #[] #[], .pointer (some ⟨b, 0, none⟩)] w fun v w' =>
      St w0 w' ([hBlk b 45 [.slice A l.length c]] ++ (H (spotsM l) ++ own)) ∨ ∃ j pre x post, pre ++ x :: post = spotsM l ∧ St w0 w' ([hBlk b 45 [.slice A l.length c]] ++ (Hx j (pre ++ [x]) ++ own)) := by
    refine enterI 29 Try.func54 rfl rfl rfl ?_
    intro a hE
    simp only [List.cons_append, List.nil_append] at hS
    repeat' (first

      | (with_reducible refine wpList_nil ?_)
      | (with_reducible refine then_normal ?_)
      | (with_reducible refine i_seq ?_)
      | (with_reducible refine i_block ?_)
      | ((with_reducible refine ig_region ?_); refine i_region rfl (fun _ _ h => h) ?_)
      | ((with_reducible refine g_move ?_); refine s_move hE rfl rfl ?_; clear hE a; intro a hE)
      | ((with_reducible refine g_blt .len ?_); refine s_len hE rfl rfl ?_; clear hE a; intro a hE)
      | ((with_reducible refine g_load ?_); (first | (refine s_loadB (k := 0) hS hE rfl rfl rfl rfl ?_) ); clear hE a; intro a hE)
      )
    refine i_loop (fun q ds a w => ds = [] ∧ ∃ (k : Nat) (pre : List SpT), k + q = l.length ∧ pre ++ spotsM (l.drop k) = spotsM l ∧ St w0 w (hBlk b 45 [.slice A l.length c] :: (H pre ++ own)) ∧ Env 29 [(0, .func (.yield lp) #[] #[]), (7, .slice A l.length c), (8, .int .i64 (l.length : Int)), (9, .int .i64 (k : Int))] a) l.length ⟨rfl, 0, [], by omega, rfl, hS, hE.sub ⟨rfl, rfl, rfl, rfl, trivial⟩⟩ ?_
    clear hE a hS
    rintro q ds a w ⟨rfl, k, pre, hk, hpre, hS, hE⟩
    by_cases hk1 : k < l.length
    · have hseg := flat_seg (c := Pg.cells) (size := 6) (l := l) hls hk1
      have hpw := hwf _ (List.getElem_mem hk1)
      have hpl := hls _ (List.getElem_mem hk1)
      rw [spotsM_drop hk1] at hpre
      generalize (l[k]'hk1) = p at hseg hpw hpl hpre
      have hpo := Pg.cells_one p
      have hsl := Pg.slots hpw
      repeat' (first

        | (with_reducible refine wpList_nil ?_)
        | (with_reducible refine then_normal ?_)
        | (with_reducible refine i_seq ?_)
        | (with_reducible refine i_skip ?_)
        | (with_reducible refine i_block ?_)
        | ((with_reducible refine ig_region ?_); refine i_region rfl (fun _ _ h => h) ?_)
        | ((with_reducible refine ig_cond ?_); refine i_dec hE rfl (fun hc => ?_) (fun hc => ?_) <;> try omega)
        | ((with_reducible refine g_move ?_); refine s_move hE rfl rfl ?_; clear hE a; intro a hE)
        | ((with_reducible refine g_bin .lss ?_); refine s_lss hE rfl rfl rfl ?_; clear hE a; intro a hE)
        | ((with_reducible refine g_fa ?_); refine s_fieldL hE rfl rfl rfl ?_; clear hE a; intro a hE)
        | ((with_reducible refine g_ia ?_); refine s_idxR hE rfl rfl (by omega) (by omega) (by (first | exact Rd.st (by assumption) hS )) (by first | omega ) rfl ?_; clear hE a; intro a hE)
        | ((with_reducible refine g_alloc ?_); refine s_allocS hE hS rfl rfl ?_; clear hE a hS; intro g a w hE hS)
        | ((with_reducible refine g_load ?_); (first | (refine s_loadBs (k := 0) hS hE rfl rfl (by first | exact hsl ) (by omega) rfl ?_) ); clear hE a; intro a hE)
        | ((with_reducible refine g_store ?_); (first | (refine s_storeW (k := 0) hS hE rfl rfl rfl (by assumption) (by first | rfl ) (by first | assumption) ?_) ); clear hS; intro w hS; simp only [List.set_cons_zero, List.set_cons_succ, Nat.add_zero] at hS)
        | ((with_reducible refine g_load ?_); refine s_elemR hE rfl (by (first | exact Rd.st (by assumption) hS )) (by first | exact hseg ) (by first | assumption) (by rfl) rfl ?_; clear hE a; intro a hE))
      refine i_loop (fun q2 ds a w => ds = [] ∧ ∃ (j : Nat) (pre : List SpT), j + q2 = 4 ∧ pre ++ ((spotsP p).drop j ++ spotsM (l.drop (k + 1))) = spotsM l ∧ St w0 w (hBlk g 74 p.cells :: hBlk b 45 [.slice A l.length c] :: (H pre ++ own)) ∧ Env 29 [(14, .agg (p.s.map Sl.v).toArray), (15, .int .i64 (j : Int)), (4, .pointer (some ⟨g, 0, none⟩)), (0, .func (.yield lp) #[] #[]), (7, .slice A l.length c), (8, .int .i64 (l.length : Int)), (9, .int .i64 (k : Int))] a) 4 ⟨rfl, 0, pre, by omega, hpre, hS, hE.sub ⟨rfl, rfl, rfl, rfl, rfl, rfl, rfl, trivial⟩⟩ ?_
      clear hE a hS hpre pre
      rintro q2 ds a w ⟨rfl, j, pre, hj, hpre, hS, hE⟩
      by_cases hj1 : j < 4
      · have hjs : j < p.s.length := by rw [hpw.s4]; exact hj1
        have hv := Pg.slot hjs
        rw [spotsP_drop hjs] at hpre
        generalize (p.s[j]'hjs) = s at hv hpre
        repeat' (first
          | ((with_reducible refine ig_region ?_); refine i_regionY [_, _, _, _, _, _] _ [_] rfl rfl (fun _ _ h => h) ?_)
          | (with_reducible refine wpList_nil ?_)
          | (with_reducible refine then_normal ?_)
          | (with_reducible refine i_seq ?_)
          | (with_reducible refine i_skip ?_)
          | (with_reducible refine i_block ?_)
          | ((with_reducible refine ig_region ?_); refine i_region rfl (fun _ _ h => h) ?_)
          | ((with_reducible refine ig_cond ?_); refine i_dec hE rfl (fun hc => ?_) (fun hc => ?_) <;> try omega)
          | ((with_reducible refine g_move ?_); refine s_move hE rfl rfl ?_; clear hE a; intro a hE)
          | ((with_reducible refine g_assign ?_); refine s_assign hE rfl rfl ?_; clear hE a; intro a hE)
          | ((with_reducible refine g_bin .lss ?_); refine s_lss hE rfl rfl rfl ?_; clear hE a; intro a hE)
          | ((with_reducible refine g_fa ?_); refine s_fieldL hE rfl rfl rfl ?_; clear hE a; intro a hE)
          | ((with_reducible refine g_index ?_); refine s_val hE rfl rfl rfl (r_index1 hE rfl rfl (by omega) (by omega) (by assumption)) ?_; clear hE a; intro a hE)
          | ((with_reducible refine g_load ?_); (first | (refine s_loadB (k := 0) hS hE rfl rfl rfl rfl ?_) ); clear hE a; intro a hE)
          | ((with_reducible refine g_build ?_); refine s_build [_, _] hE rfl rfl rfl ?_; clear hE a; intro a hE)
          )
        have hx := hY (hBlk g 74 p.cells :: own) pre ((p.n, j), s) w ⟨_, hpre⟩ (hS.p1.perm (List.Perm.cons _ List.perm_middle.symm))
        refine ⟨rfl, ys_call hE rfl rfl rfl rfl hx ?_⟩
        rintro e w' (⟨rfl, h1⟩ | ⟨rfl, j', h1⟩)
        · refine ⟨_, rfl, fun a hE => ?_⟩
          have hS : St w0 w' (hBlk g 74 p.cells :: hBlk b 45 [.slice A l.length c] :: (H (pre ++ [((p.n, j), s)]) ++ own)) := (h1.perm (List.Perm.cons _ List.perm_middle)).p1
          repeat' (first

            | (with_reducible refine wpList_nil ?_)
            | (with_reducible refine then_normal ?_)
            | (with_reducible refine block_normal ?_)
            | (with_reducible refine i_skip ?_)
            | ((with_reducible refine ig_region ?_); refine i_region rfl (fun _ _ h => h) ?_)
            | ((with_reducible refine ig_cond ?_); refine i_false hE rfl ?_)
            | ((with_reducible refine g_move ?_); refine s_move hE rfl rfl ?_; clear hE a; intro a hE)
            | ((with_reducible refine g_bin .add ?_); refine s_add hE rfl rfl rfl (by first  | exact wrap64_in (by omega) ) ?_; clear hE a; intro a hE)
            | ((with_reducible refine g_un .not ?_); refine s_notb hE rfl rfl ?_; clear hE a; intro a hE)
            )
          exact ⟨q2 - 1, by omega, rfl, j + 1, pre ++ [((p.n, j), s)], by omega, by rw [List.append_assoc]; exact hpre, hS, hE.sub ⟨rfl, rfl, rfl, rfl, rfl, rfl, rfl, trivial⟩⟩
        · refine ⟨_, rfl, fun a hE => ?_⟩
          have hS : St w0 w' (hBlk g 74 p.cells :: hBlk b 45 [.slice A l.length c] :: (Hx j' (pre ++ [((p.n, j), s)]) ++ own)) := (h1.perm (List.Perm.cons _ List.perm_middle)).p1
          repeat' (first

            | (with_reducible refine wpList_nil ?_)
            | (with_reducible refine then_normal ?_)
            | (with_reducible refine then_ret ?_)
            | (with_reducible refine block_ret ?_)
            | (with_reducible refine i_ret ?_)
            | ((with_reducible refine ig_cond ?_); refine i_true hE rfl ?_)
            | ((with_reducible refine g_un .not ?_); refine s_notb hE rfl rfl ?_; clear hE a; intro a hE)
            )
          exact i_ret0 hE rfl (.inr ⟨j', pre, ((p.n, j), s), _, hpre, hS.tail⟩)
      · obtain rfl : j = 4 := by omega
        rw [List.drop_eq_nil_of_le (by rw [spotsP_len, hpw.s4]; exact Nat.le_refl _), List.nil_append] at hpre
        repeat' (first

          | (with_reducible refine wpList_nil ?_)
          | (with_reducible refine then_normal ?_)
          | (with_reducible refine block_normal ?_)
          | (with_reducible refine then_exit ?_)
          | (with_reducible refine block_same ?_)
          | (with_reducible refine i_seq ?_)
          | (with_reducible refine i_exit ?_)
          | ((with_reducible refine ig_region ?_); refine i_region rfl (fun _ _ h => h) ?_)
          | ((with_reducible refine ig_cond ?_); refine i_false hE rfl ?_)
          | ((with_reducible refine g_move ?_); refine s_move hE rfl rfl ?_; clear hE a; intro a hE)
          | ((with_reducible refine g_bin .lss ?_); refine s_lss hE rfl rfl rfl ?_; clear hE a; intro a hE)
          | ((with_reducible refine g_bin .add ?_); refine s_add hE rfl rfl rfl (by first  | exact wrap64_in (by omega) ) ?_; clear hE a; intro a hE)
          )
        exact ⟨q - 1, by omega, rfl, k + 1, pre, by omega, hpre, hS.tail, hE.sub ⟨rfl, rfl, rfl, rfl, trivial⟩⟩
    · obtain rfl : k = l.length := by omega
      rw [List.drop_eq_nil_of_le (Nat.le_refl _), show spotsM [] = [] from rfl, List.append_nil] at hpre
      subst hpre
      repeat' (first

        | (with_reducible refine wpList_nil ?_)
        | (with_reducible refine then_normal ?_)
        | (with_reducible refine then_exit ?_)
        | (with_reducible refine block_same ?_)
        | (with_reducible refine i_seq ?_)
        | (with_reducible refine i_exit ?_)
        | ((with_reducible refine ig_region ?_); refine i_region rfl (fun _ _ h => h) ?_)
        | ((with_reducible refine ig_cond ?_); refine i_dec hE rfl (fun hc => ?_) (fun hc => ?_) <;> try omega)
        | ((with_reducible refine g_bin .lss ?_); refine s_lss hE rfl rfl rfl ?_; clear hE a; intro a hE)
        )
      exact i_end0 hE rfl (.inl hS)
  unfold Fn at hF
  exact Calls.mono hF fun e w' ⟨v, e1, h⟩ => ⟨⟨v, e1⟩, h⟩
end
end Go.Proofs.Ytaiahigeejodaaa
