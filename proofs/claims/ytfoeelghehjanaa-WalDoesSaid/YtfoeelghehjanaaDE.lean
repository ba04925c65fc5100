/-
  Contracts of disk: reads, what is pending, new disks, copies.
-/
import Derived.Test.YtfoeelghehjanaaDD
namespace Go.Proofs.Ytfoeelghehjanaa
open Go.RowKit
set_option linter.unusedVariables false
set_option linter.unusedSimpArgs false
attribute [local irreducible] Rd hRow hBlk hRd hAll Fn hMarks
attribute [local simp] Wr.cells

abbrev backBx (Q : Option Addr) (d : Nat) (l : List Wr) (b : Nat) : List HP := [hBlk b 107 [.slice Q l.length d], hRow 112 65 Q l.length d (l.flatMap Wr.cells)]
section
variable {g : Nat} {S : Option Addr} {c : Nat} {Q : Option Addr} {d : Nat} {D : DM} {H : List HP} {w0 w : World}
set_option maxHeartbeats 8000000
theorem backward (m : Nat) (w0 : World) : Fn Try.prog 76 [.slice Q m d] w0 fun v w' =>
    ∃ b, v = .func (.func 91) #[] #[.pointer (some ⟨b, 0, none⟩)] ∧ St w0 w' [hBlk b 107 [.slice Q m d]] := by
  refine enter 4 Try.func76 rfl rfl rfl ?_
  intro a hE
  have hS := St.start w0
  repeat' (first

    | (with_reducible refine wp_seq ?_)
    | (with_reducible refine c_region ?_)
    | (with_reducible refine wpList_nil ?_)
    | (with_reducible refine then_normal ?_)
    | ((with_reducible refine g_assign ?_); refine s_assign hE rfl rfl ?_; clear hE a; intro a hE)
    | ((with_reducible refine g_box ?_); refine s_box1 hE hS rfl rfl rfl ?_; clear hE a hS; intro g a w hE hS)
    )
  refine s_val hE rfl rfl rfl (r_func (first := []) hE rfl rfl) ?_
  clear hE a; intro a hE
  repeat' (first

    | (with_reducible refine wpList_nil ?_)
    | (with_reducible refine then_normal ?_)
    | (with_reducible refine wp_ret ?_)
    | ((with_reducible refine g_assign ?_); refine s_assign hE rfl rfl ?_; clear hE a; intro a hE)
    )
  exact ret1 hE rfl rfl ⟨_, rfl, hS⟩
/-- the writes from the last one on, each with its place -/
def backM (l : List Wr) : List (Nat × Wr) := (l.zipIdx.map fun p => (p.2, p.1)).reverse
theorem backM_step {l : List Wr} {k : Nat} (hk : k < l.length) : backM (l.take (k + 1)) = (k, l[k]) :: backM (l.take k) := by
  unfold backM
  rw [List.take_succ_eq_append_getElem hk, List.zipIdx_append, List.map_append, List.reverse_append, List.length_take, Nat.min_eq_left (by omega)]
  simp
theorem back_iter (l : List Wr) (b : Nat) (w0 : World) (hl : l.length ≤ 100000) (hwl : ∀ x ∈ l, x.cells.length = 65) :
    Iter Try.prog 91 [.pointer (some ⟨b, 0, none⟩)] (backBx Q d l b) (fun x : Nat × Wr => [.int .i64 (x.1 : Int), .agg x.2.cells.toArray]) (backM l) w0 := by
  intro w lp own H J Hx hY hS
  have hfl : (l.flatMap Wr.cells).length = l.length * 65 := flat_len hwl
  have hF : Fn Try.prog 91 [.func (.yield lp) #[] #[], .pointer (some ⟨b, 0, none⟩)] w fun v w' =>
      St w0 w' (backBx Q d l b ++ (H (backM l) ++ own)) ∨ ∃ j pre x post, pre ++ x :: post = backM l ∧ St w0 w' (backBx Q d l b ++ (Hx j (pre ++ [x]) ++ own)) := by
    refine enterI 19 Try.func91 rfl rfl rfl ?_
    intro a hE
    simp only [List.cons_append, List.nil_append] at hS
    repeat' (first

      | (with_reducible refine wpList_nil ?_)
      | (with_reducible refine then_normal ?_)
      | (with_reducible refine i_seq ?_)
      | (with_reducible refine i_block ?_)
      | ((with_reducible refine ig_region ?_); refine i_region rfl (fun _ _ h => h) ?_)
      | ((with_reducible refine g_assign ?_); refine s_assign hE rfl rfl ?_; clear hE a; intro a hE)
      | ((with_reducible refine g_bin .sub ?_); refine s_sub hE rfl rfl rfl (by first  | exact wrap64_in (by omega) ) ?_; clear hE a; intro a hE)
      | ((with_reducible refine g_blt .len ?_); refine s_len hE rfl rfl ?_; clear hE a; intro a hE)
      | ((with_reducible refine g_load ?_); (first | (refine s_loadB (k := 0) hS hE rfl rfl rfl rfl ?_) ); clear hE a; intro a hE)
      )
    refine i_loop (fun q ds a w => ds = [] ∧ q ≤ l.length ∧ ∃ pre, pre ++ backM (l.take q) = backM l ∧ St w0 w (backBx Q d l b ++ (H pre ++ own)) ∧ Env 19 [(0, .func (.yield lp) #[] #[]), (1, .pointer (some ⟨b, 0, none⟩)), (3, .int .i64 ((q : Int) - 1))] a) l.length ⟨rfl, Nat.le_refl _, [], by rw [List.take_length]; rfl, hS, hE.sub ⟨rfl, rfl, rfl, trivial⟩⟩ ?_
    clear hE a hS
    rintro q ds a w ⟨rfl, hq, pre, hpre, hS, hE⟩
    simp only [List.cons_append, List.nil_append] at hS
    repeat' (first
      | ((with_reducible refine ig_region ?_); refine i_regionY [_, _, _, _, _, _] _ [_] rfl rfl (fun _ _ h => h) ?_)
      | (with_reducible refine wpList_nil ?_)
      | (with_reducible refine then_normal ?_)
      | (with_reducible refine then_exit ?_)
      | (with_reducible refine block_same ?_)
      | (with_reducible refine i_seq ?_)
      | (with_reducible refine i_skip ?_)
      | (with_reducible refine i_exit ?_)
      | (with_reducible refine i_block ?_)
      | ((with_reducible refine ig_region ?_); refine i_region rfl (fun _ _ h => h) ?_)
      | ((with_reducible refine ig_cond ?_); refine i_dec hE rfl (fun hc => ?_) (fun hc => ?_) <;> try omega)
      | ((with_reducible refine g_move ?_); refine s_move hE rfl rfl ?_; clear hE a; intro a hE)
      | ((with_reducible refine g_bin .geq ?_); refine s_geq hE rfl rfl rfl ?_; clear hE a; intro a hE)
      | ((with_reducible refine g_ia ?_); refine s_idxR hE rfl rfl (by omega) (by omega) (by (first | exact hS.rdAt (k := 1) rfl )) (by first | omega ) rfl ?_; clear hE a; intro a hE)
      | ((with_reducible refine g_load ?_); (first | (refine s_loadB (k := 0) hS hE rfl rfl rfl rfl ?_) ); clear hE a; intro a hE)
      )
    · obtain ⟨q, rfl⟩ : ∃ q', q = q' + 1 := ⟨q - 1, by omega⟩
      have hq1 : q < l.length := by omega
      have hseg := flat_seg (c := Wr.cells) (size := 65) (l := l) hwl hq1
      have hxl := hwl _ (List.getElem_mem hq1)
      have e1 : ((q + 1 : Nat) : Int) - 1 = (q : Int) := by omega
      rw [e1] at hE
      have hst := backM_step hq1
      rw [hst] at hpre
      repeat' (first

        | (with_reducible refine wpList_nil ?_)
        | ((with_reducible refine g_load ?_); refine s_elemR hE rfl (by (first | exact hS.rdAt (k := 1) rfl )) (by first | exact hseg ) (by first | assumption) (by rfl) rfl ?_; clear hE a; intro a hE))
      have hx := hY own pre (q, l[q]) w ⟨backM (l.take q), hpre⟩ hS
      refine ⟨rfl, ys_call hE rfl rfl rfl rfl hx ?_⟩
      rintro e w' (⟨rfl, h1⟩ | ⟨rfl, j, h1⟩)
      · refine ⟨_, rfl, fun a hE => ?_⟩
        have hS := h1
        repeat' (first

          | (with_reducible refine wpList_nil ?_)
          | (with_reducible refine then_normal ?_)
          | (with_reducible refine block_normal ?_)
          | (with_reducible refine i_skip ?_)
          | ((with_reducible refine ig_region ?_); refine i_region rfl (fun _ _ h => h) ?_)
          | ((with_reducible refine ig_cond ?_); refine i_false hE rfl ?_)
          | ((with_reducible refine g_move ?_); refine s_move hE rfl rfl ?_; clear hE a; intro a hE)
          | ((with_reducible refine g_assign ?_); refine s_assign hE rfl rfl ?_; clear hE a; intro a hE)
          | ((with_reducible refine g_bin .sub ?_); refine s_sub hE rfl rfl rfl (by first  | exact wrap64_in (by omega) ) ?_; clear hE a; intro a hE)
          | ((with_reducible refine g_un .not ?_); refine s_notb hE rfl rfl ?_; clear hE a; intro a hE)
          )
        exact ⟨q, by omega, rfl, by omega, pre ++ [(q, l[q])], by rw [List.append_assoc]; exact hpre, hS, hE.sub ⟨rfl, rfl, rfl, trivial⟩⟩
      · refine ⟨_, rfl, fun a hE => ?_⟩
        have hS := h1
        repeat' (first

          | (with_reducible refine wpList_nil ?_)
          | (with_reducible refine then_normal ?_)
          | (with_reducible refine then_ret ?_)
          | (with_reducible refine block_ret ?_)
          | (with_reducible refine i_ret ?_)
          | ((with_reducible refine ig_cond ?_); refine i_true hE rfl ?_)
          | ((with_reducible refine g_un .not ?_); refine s_notb hE rfl rfl ?_; clear hE a; intro a hE)
          )
        exact i_ret0 hE rfl (.inr ⟨j, pre, (q, l[q]), backM (l.take q), hpre, hS⟩)
    · obtain rfl : q = 0 := by omega
      rw [List.take_zero] at hpre
      have e1 : backM [] = [] := rfl
      rw [e1, List.append_nil] at hpre
      subst hpre
      exact i_end0 hE rfl (.inl hS)
  unfold Fn at hF
  exact Calls.mono hF fun e w' ⟨v, e1, h⟩ => ⟨⟨v, e1⟩, h⟩
end
end Go.Proofs.Ytfoeelghehjanaa
