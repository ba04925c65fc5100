/-
  Does the layer do anything? It does.
-/
import Derived.Test.YtfoeelghehjanaaWR
namespace Go.Proofs.Ytfoeelghehjanaa
open Go.RowKit
set_option linter.unusedVariables false
set_option linter.unusedSimpArgs false
attribute [local irreducible] Rd hRow hBlk hRd hRdr wrP hDk hWl Fn FnD hMarks
section
variable {H : List HP} {w0 w : World} {gw gd : Nat} {W : WM}
set_option maxHeartbeats 8000000
theorem wakes (w0 : World) : Fn Try.prog 10 [] w0 fun v w' => v = .bool true ∧ St w0 w' [] := by
  obtain ⟨D1, D2, D3, e1, e2, e3⟩ := wakes_pure
  have hS := St.start w0
  refine enterI 63 Try.func10 rfl rfl rfl ?_
  intro a hE
  repeat' (first

    | (with_reducible refine wpList_nil ?_)
    | (with_reducible refine then_normal ?_)
    | (with_reducible refine i_seq ?_)
    | ((with_reducible refine ig_region ?_); refine i_region rfl (fun _ _ h => h) ?_)
    | ((with_reducible refine g_alloc ?_); refine s_alloc1 hE hS rfl rfl ?_; clear hE a hS; intro g a w hE hS)
    )
  obtain ⟨g0, rfl⟩ : ∃ x, x = g := ⟨_, rfl⟩
  refine s_call hE rfl rfl rfl (knew 10 (by decide) (by decide) w) ?_
  rintro _ w ⟨gd, rfl, hS1⟩; clear hE a; intro a hE; replace hS := hS.frame hS1; clear hS1; try simp only [List.cons_append, List.nil_append] at hS
  repeat' (first

    | (with_reducible refine wpList_nil ?_)
    | (with_reducible refine then_normal ?_)
    | (with_reducible refine i_seq ?_)
    | (with_reducible refine i_skip ?_)
    | ((with_reducible refine ig_region ?_); refine i_region rfl (fun _ _ h => h) ?_)
    | ((with_reducible refine ig_cond ?_); refine i_false hE rfl ?_)
    | ((with_reducible refine g_move ?_); refine s_move hE rfl rfl ?_; clear hE a; intro a hE)
    | ((with_reducible refine g_assign ?_); refine s_assign hE rfl rfl ?_; clear hE a; intro a hE)
    | ((with_reducible refine g_bin .neq ?_); refine s_neq hE rfl rfl rfl ?_; clear hE a; intro a hE)
    | ((with_reducible refine g_extract ?_); refine s_extract hE rfl rfl rfl ?_; clear hE a; intro a hE)
    )
  have hf0 := fresh_atN (n := 10) (by decide) (by decide)
  have hf1 := fmt_atN hf0 4 (by decide)
  have hf2 := fmt_ok (D := DM.fresh 10) (a := 4) (W := ⟨4, 0, [[]], 1, false⟩) (by rw [e1])
  refine s_call hE rfl rfl rfl (kfmt (m := 0) 4 (by decide) hf0 (by decide) hS) ?_
  rw [e1] at hf1 ⊢
  dsimp only at hf1 ⊢
  rintro _ w (⟨W, gw, hW, _, rfl, hS⟩ | ⟨hW, _⟩)
  rotate_left
  · cases hW
  obtain rfl := Option.some.inj hW
  clear hE a; intro a hE
  repeat' (first

    | (with_reducible refine wpList_nil ?_)
    | (with_reducible refine then_normal ?_)
    | (with_reducible refine i_seq ?_)
    | ((with_reducible refine ig_region ?_); refine i_region rfl (fun _ _ h => h) ?_)
    | ((with_reducible refine g_move ?_); refine s_move hE rfl rfl ?_; clear hE a; intro a hE)
    | ((with_reducible refine g_assign ?_); refine s_assign hE rfl rfl ?_; clear hE a; intro a hE)
    | ((with_reducible refine g_bin .neq ?_); refine s_neq hE rfl rfl rfl ?_; clear hE a; intro a hE)
    | ((with_reducible refine g_extract ?_); refine s_extract hE rfl rfl rfl ?_; clear hE a; intro a hE)
    | ((with_reducible refine g_guard ?_); refine gd_yes hE rfl rfl rfl ?_)
    | ((with_reducible refine g_pick ?_); refine s_pickF hE rfl rfl rfl ?_; clear hE a; intro a hE)
    | ((with_reducible refine g_bin .eql ?_); refine s_val hE rfl rfl rfl (r_eqp hE rfl rfl) ?_; clear hE a; intro a hE)
    | ((with_reducible refine g_lit ?_); refine s_lit hE hS rfl rfl rfl rfl rfl (by first | (simp [Value.oneCell']; done)) rfl ?_; clear hE a hS; intro g a w hE hS)
    )
  have hS2 : St w0 w [hRow 5 1 (some ⟨g, 0, none⟩) 2 2 (bys [97, 98]), hWl gw gd (⟨4, 0, [[]], 1, false⟩ : WM), hDk gd D1, hBlk g0 4 [.bool false]] := hS
  clear hS; have hS := hS2; clear hS2
  refine s_convB hE hS rfl rfl ?_
  clear hE a hS; intro a w hE hS
  repeat' (first

    | ((with_reducible refine g_guard ?_); refine gd_yes hE rfl rfl rfl ?_)
    )
  have hbs : Bs [97, 98] := by
    intro c hc
    simp only [List.mem_cons, List.not_mem_nil, or_false] at hc
    omega
  have hap := kapp (m := 2100) (w0 := w0) (w := w) (H := [hRd (some ⟨g, 0, none⟩) (bys [97, 98]), hBlk g0 4 [.bool false]]) gw gd (⟨4, 0, [[]], 1, false⟩ : WM) D1 [97, 98] (some ⟨g, 0, none⟩) 2 hf2.1 hbs (by decide) (fun w' L h => by
    have h2 := h.perm (List.perm_append_comm (l₁ := L))
    exact h2.rd2) (hf1.mono (by decide)) (by decide) (St.selD [1, 1, 0, 0] 0 hS)
  refine s_call hE rfl rfl rfl hap ?_
  clear hap
  have hf3 := app_atN (W := (⟨4, 0, [[]], 1, false⟩ : WM)) (b := [97, 98]) hf1 hbs (by decide)
  rw [e2] at hf3 ⊢
  dsimp only at hf3 ⊢
  rintro _ w ⟨rfl, hS⟩; clear hE a; intro a hE
  repeat' (first

    | (with_reducible refine wpList_nil ?_)
    | (with_reducible refine then_normal ?_)
    | (with_reducible refine i_seq ?_)
    | (with_reducible refine i_skip ?_)
    | ((with_reducible refine ig_region ?_); refine i_region rfl (fun _ _ h => h) ?_)
    | ((with_reducible refine ig_cond ?_); refine i_false hE rfl ?_)
    | ((with_reducible refine g_move ?_); refine s_move hE rfl rfl ?_; clear hE a; intro a hE)
    | ((with_reducible refine g_bin .neq ?_); refine s_neq hE rfl rfl rfl ?_; clear hE a; intro a hE)
    | ((with_reducible refine g_guard ?_); refine gd_yes hE rfl rfl rfl ?_)
    | ((with_reducible refine g_pick ?_); refine s_pickF hE rfl rfl rfl ?_; clear hE a; intro a hE)
    )
  have ho := opn_atN hf3 (by decide) hf3.ok.len.1
  refine s_call hE rfl rfl rfl (kopn hf3 (by decide) hS.p1) ?_
  rw [e3] at ho ⊢
  dsimp only at ho ⊢
  obtain ⟨_, _, hWo⟩ := ho
  have hWo := (hWo _ rfl).1
  rintro _ w (⟨W, gx, hW, _, rfl, hS⟩ | ⟨hW, _⟩)
  rotate_left
  · cases hW
  obtain rfl := Option.some.inj hW
  clear hE a; intro a hE
  repeat' (first

    | (with_reducible refine wpList_nil ?_)
    | (with_reducible refine then_normal ?_)
    | (with_reducible refine i_seq ?_)
    | ((with_reducible refine ig_region ?_); refine i_region rfl (fun _ _ h => h) ?_)
    | ((with_reducible refine g_move ?_); refine s_move hE rfl rfl ?_; clear hE a; intro a hE)
    | ((with_reducible refine g_assign ?_); refine s_assign hE rfl rfl ?_; clear hE a; intro a hE)
    | ((with_reducible refine g_bin .neq ?_); refine s_neq hE rfl rfl rfl ?_; clear hE a; intro a hE)
    | ((with_reducible refine g_extract ?_); refine s_extract hE rfl rfl rfl ?_; clear hE a; intro a hE)
    | ((with_reducible refine g_guard ?_); refine gd_yes hE rfl rfl rfl ?_)
    | ((with_reducible refine g_pick ?_); refine s_pickF hE rfl rfl rfl ?_; clear hE a; intro a hE)
    | ((with_reducible refine g_bin .eql ?_); refine s_val hE rfl rfl rfl (r_eqp hE rfl rfl) ?_; clear hE a; intro a hE)
    )
  refine s_call hE rfl rfl rfl (kllen hWo hS) ?_
  rintro _ w ⟨rfl, hS⟩; clear hE a; intro a hE
  rw [show ((⟨4, 0, [[], [97, 98]], 2, false⟩ : WM).list.length - 1 : Nat) = 1 from rfl] at hE
  repeat' (first

    | ((with_reducible refine g_move ?_); refine s_move hE rfl rfl ?_; clear hE a; intro a hE)
    | ((with_reducible refine g_bin .neq ?_); refine s_neq hE rfl rfl rfl ?_; clear hE a; intro a hE)
    | ((with_reducible refine g_guard ?_); refine gd_yes hE rfl rfl rfl ?_)
    | ((with_reducible refine g_pick ?_); refine s_pickF hE rfl rfl rfl ?_; clear hE a; intro a hE)
    )
  refine s_call hE rfl rfl rfl (kleft hWo hS) ?_
  rintro _ w ⟨rfl, hS⟩; clear hE a; intro a hE
  rw [show ((⟨4, 0, [[], [97, 98]], 2, false⟩ : WM).area - (⟨4, 0, [[], [97, 98]], 2, false⟩ : WM).fin : Nat) = 2 from rfl] at hE
  repeat' (first

    | (with_reducible refine wpList_nil ?_)
    | (with_reducible refine then_normal ?_)
    | (with_reducible refine i_seq ?_)
    | (with_reducible refine i_skip ?_)
    | ((with_reducible refine ig_region ?_); refine i_region rfl (fun _ _ h => h) ?_)
    | ((with_reducible refine ig_cond ?_); refine i_false hE rfl ?_)
    | ((with_reducible refine g_move ?_); refine s_move hE rfl rfl ?_; clear hE a; intro a hE)
    | ((with_reducible refine g_bin .neq ?_); refine s_neq hE rfl rfl rfl ?_; clear hE a; intro a hE)
    | ((with_reducible refine g_guard ?_); refine gd_yes hE rfl rfl rfl ?_)
    | ((with_reducible refine g_pick ?_); refine s_pickF hE rfl rfl rfl ?_; clear hE a; intro a hE)
    )
  refine s_call hE rfl rfl rfl (kall hWo hS) ?_
  rintro _ w ⟨g3, A3, c3, A, c, s, sls, hsl, rfl, hS⟩; clear hE a; intro a hE
  have hsb : sls.map Sl.b = [[97, 98]] := by
    rw [List.map_cons] at hsl
    injection hsl
  have hsx : ∀ x ∈ sls, x.b.length ≤ 40000 := fun x hx => by
    have h1 : x.b ∈ sls.map Sl.b := List.mem_map_of_mem hx
    rw [hsb, List.mem_singleton] at h1
    rw [h1]
    decide
  have hslen : sls.length = 1 := by
    have := congrArg List.length hsb
    rw [List.length_map] at this
    exact this
  have hit := all_iter g3 A3 c3 sls (s :: sls) (by omega) (fun x hx => List.mem_cons_of_mem _ hx) hsx w0
  rw [hsb] at hit
  generalize hown : (hBlk gx 89 [.pointer (some ⟨gd, 0, none⟩), .int .i64 ((⟨4, 0, [[], [97, 98]], 2, false⟩ : WM).area : Int), .int .u32 ((⟨4, 0, [[], [97, 98]], 2, false⟩ : WM).turn : Int), .slice A (s :: sls).length c, .int .i64 ((⟨4, 0, [[], [97, 98]], 2, false⟩ : WM).fin : Int), .bool (⟨4, 0, [[], [97, 98]], 2, false⟩ : WM).broken] :: hRow 34 1 A (s :: sls).length c ((s :: sls).map Sl.v) :: ([hDk gd D3, hWl gw gd (⟨4, 0, [[], [97, 98]], 2, false⟩ : WM), hRd (some ⟨g, 0, none⟩) (bys [97, 98]), hBlk g0 4 [.bool false]] : List HP)) = own at hS
  have hS2 : St w0 w (alBx g3 A3 c3 sls (s :: sls) ++ ([hBlk g0 4 [.bool false], hPure (([] : List (Nat × List Nat)) = [])] ++ [])) := by
    subst hown
    have h1 := hS.pureI (p := ([] : List (Nat × List Nat)) = []) rfl
    simp only [alBx, List.cons_append, List.nil_append] at h1 ⊢
    exact (St.selD [1, 1, 1, 6, 0] 5 h1)
  clear hS; have hS := hS2; clear hS2 hown
  repeat' (first

    | (with_reducible refine wpList_nil ?_)
    | (with_reducible refine then_normal ?_)
    | (with_reducible refine i_block ?_)
    )
  refine i_rangeF (ps := [54, 55]) hE rfl hit
    (fun pre => [hBlk g0 4 [.bool false], hPure (pre = [])])
    (fun j xs => [hBlk g0 4 [.bool true], hPure (j = none)]) (own := []) hS (fun _ _ => rfl) (by decide)
    (Y := Option Addr × Nat) (fun pre x y => [(5, .int .i64 ((x.1 : Int) + 1)), (6, .slice y.1 x.2.length y.2), (0, .pointer (some ⟨g0, 0, none⟩))])
    (fun pre x y => [hRow 5 1 y.1 x.2.length y.2 (bys x.2), hBlk g0 4 [.bool false], hPure (pre = [])]) ?_ ?_ ?_ ?_
  · clear hS hE a
    intro own pre x z w lp a hx hS hE
    simp only [alNew, alBx, alEnc, List.cons_append, List.nil_append] at hS hE
    repeat' (first

      | (with_reducible refine wpList_nil ?_)
      | (with_reducible refine then_normal ?_)
      | (with_reducible refine i_seq ?_)
      | ((with_reducible refine ig_region ?_); refine i_region rfl (fun _ _ h => absurd h.1 (by simp)) ?_)
      | ((with_reducible refine g_assign ?_); refine s_assign hE rfl rfl ?_; clear hE a; intro a hE)
      )
    refine ⟨rfl, rfl, z, hE.sub ⟨rfl, rfl, rfl, trivial⟩, ?_⟩
    exact (St.selD [1, 1, 1, 0, 0, 0] 0 hS)
  · clear hS hE a
    intro own pre x y w lp a hx hS hE
    obtain ⟨post, hx⟩ := hx
    simp only [alBx, List.cons_append, List.nil_append] at hS
    have hpre := (hS.focus (k := 5) rfl).pure
    subst hpre
    obtain rfl : x = (0, [97, 98]) := by
      rw [List.nil_append] at hx
      exact (List.cons.inj hx).1
    dsimp only at hS hE
    repeat' (first

      | (with_reducible refine i_seq ?_)
      | (with_reducible refine i_block ?_)
      | ((with_reducible refine ig_region ?_); refine i_region rfl (fun _ _ h => h) ?_)
      | ((with_reducible refine g_move ?_); refine s_move hE rfl rfl ?_; clear hE a; intro a hE)
      | ((with_reducible refine g_bin .eql ?_); refine s_eql hE rfl rfl rfl ?_; clear hE a; intro a hE)
      | ((with_reducible refine g_guard ?_); refine gd_yes hE rfl rfl rfl ?_)
      )
    refine s_val hE rfl rfl rfl (r_str hE rfl (hS.rdAt (k := 3) rfl) rfl) ?_
    clear hE a; intro a hE
    repeat' (first

      | ((with_reducible refine g_guard ?_); refine gd_yes hE rfl rfl rfl ?_)
      )
    refine s_val hE rfl rfl rfl (r_seq hE rfl rfl) ?_
    clear hE a; intro a hE
    have e : ((str [97, 98]).toList == (⟨#[97, 98]⟩ : ByteArray).toList) = true := by
      rw [show str [97, 98] = (⟨#[97, 98]⟩ : ByteArray) from rfl]
      exact beq_self_eq_true _
    rw [e] at hE
    repeat' (first

      | (with_reducible refine wpList_nil ?_)
      | (with_reducible refine then_normal ?_)
      | (with_reducible refine block_ret ?_)
      | (with_reducible refine i_ret ?_)
      | ((with_reducible refine g_pick ?_); refine s_pickT hE rfl rfl rfl ?_; clear hE a; intro a hE)
      | ((with_reducible refine g_store ?_); (first | (refine s_storeB (k := 4) hS hE rfl rfl rfl rfl rfl rfl ?_) ); clear hS; intro w hS; simp only [List.set_cons_zero, List.set_cons_succ, Nat.add_zero] at hS)
      )
    exact (hS.drop 3).convAt (k := 4) (h' := hPure ((none : Option Nat) = none)) rfl fun _ _ => rfl
  · intro D w hS
    simp only [alBx, List.cons_append, List.nil_append] at hS
    have := (hS.focus (k := 5) rfl).pure
    cases this
  · clear hS
    intro j D pre x post w hx hS
    simp only [alBx, List.cons_append, List.nil_append] at hS
    obtain rfl := (hS.focus (k := 5) rfl).pure
    show Exit.inBlock 0 _ .ret a w
    repeat' (first

      | (with_reducible refine then_ret ?_)
      | (with_reducible refine block_ret ?_)
      )
    exact im_retG (vs := [_]) hE [D] hS rfl fun w' hS' => ⟨⟨⟨_, rfl, res_1 (k := 3) hS' rfl⟩, trivial⟩, rfl, hS'.nil⟩
end
end Go.Proofs.Ytfoeelghehjanaa
