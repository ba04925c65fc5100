/-
  What Open left is found again, and nothing is written.
-/
import Derived.Test.YtfoeelghehjanaaXD
namespace Go.Proofs.Ytfoeelghehjanaa
open Go.RowKit
set_option linter.unusedVariables false
set_option linter.unusedSimpArgs false
/-! ## Operations on a disk that does what it is told -/
theorem app_keep {W : WM} {D : DM} {b : List Nat} (h : Laid D.safe W) (hc : D.calm) (hp : D.pend = []) (hw : W.broken = false) (hb : Bs b) (hl : b.length ≤ 40000) :
    ((¬ W.fin + secN b.length ≤ W.area ∧ (W.app D b).2.2 = 6 ∧ (W.app D b).1 = W) ∨ (W.fin + secN b.length ≤ W.area ∧ (W.app D b).2.2 = 0 ∧ (W.app D b).1 = W.push b)) ∧
    (W.app D b).1.broken = false ∧ (W.app D b).1.turn = W.turn ∧ (W.app D b).2.1.calm ∧ (W.app D b).2.1.pend = [] ∧ Laid (W.app D b).2.1.safe (W.app D b).1 := by
  obtain ⟨c1, c2, c3, _⟩ := app_calm h.ok hb hl hw hc hp h.len
  have hf := h.ok.fin
  rcases app_alive h hc.alive hp hw hb hl with ⟨a1, a2⟩ | ⟨a1, a2, a3, a4, a5, a6⟩ | ⟨_, a2, _⟩
  · rw [a2] at c2 c3 ⊢
    exact ⟨.inl ⟨a1, rfl, rfl⟩, hw, rfl, c2, c3, h⟩
  · rw [a3]
    exact ⟨.inr ⟨a1, a2, rfl⟩, hw, rfl, c2, c3, a6⟩
  · rw [a2] at c1
    split at c1 <;> exact absurd c1 (by decide)
theorem chk_keep {W : WM} {D : DM} {b : List Nat} (h : Laid D.safe W) (hc : D.calm) (hp : D.pend = []) (hw : W.broken = false) (ht : W.turn < 4294967295) (hb : Bs b) (hl : b.length ≤ 40000) :
    ((¬ secN b.length ≤ W.area ∧ (W.chk D b).2.2 = 6 ∧ (W.chk D b).1 = W) ∨ (secN b.length ≤ W.area ∧ (W.chk D b).2.2 = 0 ∧ (W.chk D b).1 = W.anew b)) ∧
    (W.chk D b).1.broken = false ∧ (W.chk D b).1.turn ≤ W.turn + 1 ∧ (W.chk D b).2.1.calm ∧ (W.chk D b).2.1.pend = [] ∧ Laid (W.chk D b).2.1.safe (W.chk D b).1 := by
  obtain ⟨c1, c2, c3, _⟩ := chk_calm h.ok hb hl hw ht hc hp h.len
  rcases chk_alive h hc.alive hp hw ht hb hl with ⟨a1, a2⟩ | ⟨a1, a2, a3, a4, a5, a6⟩ | ⟨_, a2, _⟩
  · rw [a2] at c2 c3 ⊢
    exact ⟨.inl ⟨a1, rfl, rfl⟩, hw, Nat.le_succ _, c2, c3, h⟩
  · rw [a3]
    exact ⟨.inr ⟨a1, a2, rfl⟩, hw, Nat.le_refl _, c2, c3, a6⟩
  · rw [a2] at c1
    split at c1 <;> exact absurd c1 (by decide)
/-- behind an append on a disk whose power may go, and a crash -/
theorem app_cut {W : WM} {D : DM} {b : List Nat} (h : Laid D.safe W) (ha : D.alive) (hp : D.pend = []) (hw : W.broken = false) (hb : Bs b) (hl : b.length ≤ 40000) (keep : List Bool) :
    ∃ W' : WM, W'.broken = false ∧ LaidT ((W.app D b).2.1.crash keep).safe W' ∧
      (((W.app D b).2.2 = 6 ∧ W' = W) ∨ ((W.app D b).2.2 = 0 ∧ W' = W.push b) ∨ ((W.app D b).2.2 = 9 ∧ (W' = W ∨ W' = W.push b))) := by
  rcases app_alive h ha hp hw hb hl with ⟨a1, a2⟩ | ⟨a1, a2, a3, a4, a5, a6⟩ | ⟨_, a2, a3⟩
  · rw [a2]
    exact ⟨W, hw, by rw [crash_idle hp]; exact h.torn, .inl ⟨rfl, rfl⟩⟩
  · exact ⟨W.push b, hw, by rw [crash_idle a5]; exact a6.torn, .inr (.inl ⟨a2, rfl⟩)⟩
  · rcases a3 keep with a4 | a4
    · exact ⟨W, hw, a4, .inr (.inr ⟨a2, .inl rfl⟩)⟩
    · exact ⟨W.push b, hw, a4.torn, .inr (.inr ⟨a2, .inr rfl⟩)⟩
theorem chk_cut {W : WM} {D : DM} {b : List Nat} (h : Laid D.safe W) (ha : D.alive) (hp : D.pend = []) (hw : W.broken = false) (ht : W.turn < 4294967295) (hb : Bs b) (hl : b.length ≤ 40000) (keep : List Bool) :
    ∃ W' : WM, W'.broken = false ∧ LaidT ((W.chk D b).2.1.crash keep).safe W' ∧
      (((W.chk D b).2.2 = 6 ∧ W' = W) ∨ ((W.chk D b).2.2 = 0 ∧ W' = W.anew b) ∨ ((W.chk D b).2.2 = 9 ∧ (W' = W ∨ W' = W.anew b))) := by
  rcases chk_alive h ha hp hw ht hb hl with ⟨a1, a2⟩ | ⟨a1, a2, a3, a4, a5, a6⟩ | ⟨_, a2, a3⟩
  · rw [a2]
    exact ⟨W, hw, by rw [crash_idle hp]; exact h.torn, .inl ⟨rfl, rfl⟩⟩
  · exact ⟨W.anew b, hw, by rw [crash_idle a5]; exact a6.torn, .inr (.inl ⟨a2, rfl⟩)⟩
  · rcases a3 keep with a4 | a4
    · exact ⟨W, hw, a4.torn, .inr (.inr ⟨a2, .inl rfl⟩)⟩
    · exact ⟨W.anew b, hw, a4.torn, .inr (.inr ⟨a2, .inr rfl⟩)⟩
theorem tail_bs {W : WM} (h : W.ok) : Bs (W.list.headD []) ∧ ∀ b ∈ W.list.tail, Bs b := by
  have hne := h.ne
  have hbb := h.bs
  generalize W.list = L at hne hbb
  cases L with
  | nil => exact absurd hne (by decide)
  | cons b0 L => exact ⟨(hbb b0 (List.mem_cons_self ..)).1, fun b hb => (hbb b (List.mem_cons_of_mem _ hb)).1⟩
theorem tail_len {W : WM} (h : W.ok) : W.list.tail.length ≤ 1000 := by
  rw [List.length_tail]
  have := list_lt h
  omega
attribute [local irreducible] Rd hRow hBlk hRd hRdr wrP hDk hWl Fn FnD hMarks hStt hTs
section
set_option maxHeartbeats 16000000
set_option maxRecDepth 20000
theorem law_WalTwice (y : LT) (z : OT) (w0 : World) (h : y.ok w0) (hz : OT.ok w0 z) : Fn Try.prog 6 [.slice y.1 y.2.2.length y.2.1, .agg ⟨OT.cells z⟩] w0 fun v w' => v = .bool true ∧ St w0 w' [] := by
  rw [← LT.len]
  have hr := LT.rd h
  have hall := LT.all h
  obtain ⟨hcap, hbig⟩ := LT.cap h
  generalize y.wops = l at hr hall hcap hbig
  generalize y.1 = A at hr
  generalize y.2.1 = c at hcap
  have hzr := OT.wop_rd hz
  have hzw := OT.wop_wf hz
  rw [OT.cells_wop hz]
  generalize z.wop = o at hzr hzw
  have hzk := hzw.kl
  have hS := St.start w0
  have hk : (IntKind.u64.wrap o.n).tmod 25 = (((o.n % 18446744073709551616).toNat % 25 : Nat) : Int) := u64_rem o.n 25 (by decide)
  have hklt : (o.n % 18446744073709551616).toNat % 25 < 25 := Nat.mod_lt _ (by decide)
  generalize (o.n % 18446744073709551616).toNat % 25 = r at hk hklt
  have e1 : IntKind.i64.wrap ((r : Nat) : Int) = (r : Int) := wrap64_in (by omega)
  have hvlo : o.cells.length = 4 := rfl
  have honeo : ∀ v ∈ o.cells, v.oneCell' = true := by
    intro v hv
    unfold WOp.cells at hv
    simp only [List.mem_cons, List.not_mem_nil, or_false] at hv
    rcases hv with rfl | rfl | rfl | rfl <;> rfl
  refine enter 99 Try.func6 rfl rfl rfl ?_
  intro a hE
  repeat' (first

    | (with_reducible refine wp_seq ?_)
    | (with_reducible refine c_region ?_)
    | (with_reducible refine wpList_nil ?_)
    | (with_reducible refine then_normal ?_)
    | ((with_reducible refine g_assign ?_); refine s_assign hE rfl rfl ?_; clear hE a; intro a hE)
    | ((with_reducible refine g_box ?_); refine s_boxS hE hS rfl rfl ?_; clear hE a hS; intro g a w hE hS)
    )
  obtain ⟨g3, rfl⟩ : ∃ x, x = g := ⟨_, rfl⟩
  refine s_call hE rfl rfl rfl (wakes w) ?_
  rintro _ w ⟨rfl, hS1⟩; clear hE a; intro a hE; replace hS := hS.frame hS1; clear hS1; try simp only [List.cons_append, List.nil_append] at hS
  repeat' (first

    | (with_reducible refine wp_seq ?_)
    | (with_reducible refine c_region ?_)
    | (with_reducible refine wpList_nil ?_)
    | (with_reducible refine then_normal ?_)
    | (with_reducible refine wp_skip ?_)
    | ((with_reducible refine g_un .not ?_); refine s_notb hE rfl rfl ?_; clear hE a; intro a hE)
    | ((with_reducible refine g_cond ?_); refine c_false hE rfl ?_)
    )
  refine s_call hE rfl rfl rfl (made 10 (by omega) w) ?_
  rintro _ w ⟨gd, gw, D, rfl, hcl, hp, hsf, hat, hS1⟩; clear hE a; intro a hE; replace hS := hS.frame hS1; clear hS1; try simp only [List.cons_append, List.nil_append] at hS
  have hL := (fmt_clean (a := 10) (by decide) hsf).laid
  have hsl : D.safe.length = 22 := by
    rw [hsf]
    have : (partsB 0 0 []).length = 1 := partsB_len ..
    simp [this]
  repeat' (first

    | (with_reducible refine wp_seq ?_)
    | (with_reducible refine c_region ?_)
    | (with_reducible refine wpList_nil ?_)
    | (with_reducible refine then_normal ?_)
    | (with_reducible refine wp_skip ?_)
    | ((with_reducible refine g_move ?_); refine s_move hE rfl rfl ?_; clear hE a; intro a hE)
    | ((with_reducible refine g_assign ?_); refine s_assign hE rfl rfl ?_; clear hE a; intro a hE)
    | ((with_reducible refine g_extract ?_); refine s_extract hE rfl rfl rfl ?_; clear hE a; intro a hE)
    | ((with_reducible refine g_cond ?_); refine c_false hE rfl ?_)
    | ((with_reducible refine g_bin .eql ?_); refine s_val hE rfl rfl rfl (r_eqp hE rfl rfl) ?_; clear hE a; intro a hE)
    )
  refine s_call hE rfl rfl rfl (few A l.length c w hcap hbig) ?_
  rintro _ w ⟨rfl, hS1⟩; clear hE a; intro a hE; replace hS := hS.frame hS1; clear hS1; try simp only [List.cons_append, List.nil_append] at hS
  repeat' (first

    | (with_reducible refine wpList_nil ?_)
    | (with_reducible refine then_normal ?_)
    | (with_reducible refine wp_block ?_)
    | ((with_reducible refine g_move ?_); refine s_move hE rfl rfl ?_; clear hE a; intro a hE)
    | ((with_reducible refine g_blt .len ?_); refine s_len hE rfl rfl ?_; clear hE a; intro a hE)
    )
  have hfl : (l.flatMap WOp.cells).length = l.length * 4 := flat_len (fun o _ => rfl)
  obtain ⟨mm, hmm⟩ : ∃ mm, mm = min l.length 40 := ⟨_, rfl⟩
  have hmm1 : mm ≤ l.length ∧ mm ≤ 40 := by omega
  rw [← hmm] at hE
  clear hmm
  refine wp_loop_ghost (fun q a w => ∃ (k : Nat) (W : WM) (D : DM), k + q = mm ∧ W.broken = false ∧ W.turn ≤ k ∧ D.calm ∧ D.pend = [] ∧ Laid D.safe W ∧ D.safe.length = 22 ∧ D.atN (2100 + 20 * k) ∧ St w0 w [hWl gw gd W, hDk gd D, hBlk g3 33 o.cells] ∧
    Env 99 [(3, .pointer (some ⟨g3, 0, none⟩)), (5, .pointer (some ⟨gd, 0, none⟩)), (6, .pointer (some ⟨gw, 0, none⟩)), (21, .slice A mm c), (22, .int .i64 (mm : Int)), (23, .int .i64 (k : Int))] a) mm
    ⟨0, ⟨10, 0, [[]], 1, false⟩, D, by omega, rfl, Nat.le_refl _, hcl, hp, hL, hsl, hat, hS, hE.sub ⟨rfl, rfl, rfl, rfl, rfl, rfl, trivial⟩⟩ ?_
  clear hE a hS hcl hp hsf hat hL hsl
  rintro q a w ⟨k, W, D, hkq, hWb, hWt, hcl, hp, hL, hsl, hat, hS, hE⟩
  by_cases hk1 : k < mm
  · have hkl : k < l.length := by omega
    have hseg := flat_seg (c := WOp.cells) (size := 4) (l := l) (fun o _ => rfl) hkl
    obtain ⟨how, hord⟩ := hall _ (List.getElem_mem hkl)
    generalize l[k] = o2 at hseg how hord
    have hvl : o2.cells.length = 4 := rfl
    have hone : ∀ v ∈ o2.cells, v.oneCell' = true := by
      intro v hv
      unfold WOp.cells at hv
      simp only [List.mem_cons, List.not_mem_nil, or_false] at hv
      rcases hv with rfl | rfl | rfl | rfl <;> rfl
    have hrw := hr.st hS
    have hob := o2.b_bs
    have hol := o2.b_lt
    have hsn := secN_pos (n := o2.b.length) (by omega)
    repeat' (first

      | (with_reducible refine wp_seq ?_)
      | (with_reducible refine c_region ?_)
      | (with_reducible refine wpList_nil ?_)
      | (with_reducible refine then_normal ?_)
      | (with_reducible refine wp_skip ?_)
      | (with_reducible refine wp_block ?_)
      | ((with_reducible refine g_bin .lss ?_); refine s_lss hE rfl rfl rfl ?_; clear hE a; intro a hE)
      | ((with_reducible refine g_cond ?_); refine c_dec hE rfl (fun hc => ?_) (fun hc => ?_) <;> try omega)
      | ((with_reducible refine g_ia ?_); refine s_idxR hE rfl rfl (by omega) (by omega) (by (first | exact Rd.st (by assumption) hS )) (by first | omega ) rfl ?_; clear hE a; intro a hE)
      | ((with_reducible refine g_alloc ?_); refine s_allocS hE hS rfl rfl ?_; clear hE a hS; intro g a w hE hS)
      | ((with_reducible refine g_load ?_); (first | (refine s_loadW (k := 0) hS hE rfl rfl rfl rfl ?_) ); clear hE a; intro a hE)
      | ((with_reducible refine g_store ?_); (first | (refine s_storeW (k := 0) hS hE rfl rfl rfl rfl rfl (by first | assumption ) ?_) ); clear hS; intro w hS; simp only [List.set_cons_zero, List.set_cons_succ, Nat.add_zero] at hS)
      | ((with_reducible refine g_load ?_); refine s_elemR hE rfl (by (first | exact Rd.st (by assumption) hS )) (by first | exact hseg ) (by first | rfl ) (by rfl) rfl ?_; clear hE a; intro a hE))
    obtain ⟨g9, rfl⟩ : ∃ x, x = g := ⟨_, rfl⟩
    refine s_call hE rfl rfl rfl (kind o2 w) ?_
    rintro _ w ⟨rfl, hS1⟩; clear hE a; intro a hE; replace hS := hS.frame hS1; clear hS1; try simp only [List.cons_append, List.nil_append] at hS
    by_cases hk : o2.k = 1
    · rw [hk] at hE
      repeat' (first

        | (with_reducible refine c_region ?_)
        | (with_reducible refine wpList_nil ?_)
        | (with_reducible refine then_normal ?_)
        | ((with_reducible refine g_move ?_); refine s_move hE rfl rfl ?_; clear hE a; intro a hE)
        | ((with_reducible refine g_bin .eql ?_); refine s_eql hE rfl rfl rfl ?_; clear hE a; intro a hE)
        | ((with_reducible refine g_cond ?_); refine c_true hE rfl ?_)
        | ((with_reducible refine g_load ?_); (first | (refine s_loadW (k := 0) hS hE rfl rfl rfl rfl ?_) ); clear hE a; intro a hE)
        )
      refine s_call hE rfl rfl rfl (obytes o2 how w) ?_
      rintro _ w ⟨A5, c5, rfl, hS1⟩; clear hE a; intro a hE; replace hS := hS.frame hS1; clear hS1; try simp only [List.cons_append, List.nil_append] at hS
      obtain ⟨_, b1, b2, b3, b4, b5⟩ := chk_keep (b := o2.b) hL hcl hp hWb (by omega) hob (by omega)
      have hat2 := chk_atN (W := W) hat hob (by omega)
      have hln := chk_len W D o2.b
      have hap := kchk (m := 2100 + 20 * k) (w0 := w0) (w := w) (H := [hRow 5 1 A5 o2.b.length c5 (bys o2.b), hBlk g3 33 o.cells]) gw gd W D o2.b A5 c5 hL.ok hob (by omega) (fun w' L h => (h.perm (List.perm_append_comm (l₁ := L))).rd) hat (by omega) (St.selD [2, 2, 0, 1] 1 hS)
      refine s_call hE rfl rfl rfl hap ?_
      clear hap
      rintro _ w ⟨rfl, hS⟩; clear hE a; intro a hE
      repeat' (first

        | (with_reducible refine c_region ?_)
        | (with_reducible refine wpList_nil ?_)
        | (with_reducible refine then_normal ?_)
        | (with_reducible refine block_normal ?_)
        | ((with_reducible refine g_move ?_); refine s_move hE rfl rfl ?_; clear hE a; intro a hE)
        | ((with_reducible refine g_bin .add ?_); refine s_add hE rfl rfl rfl (by first  | exact wrap64_in (by omega) ) ?_; clear hE a; intro a hE)
        )
      exact ⟨q - 1, by omega, k + 1, _, _, by omega, b1, by omega, b3, b4, b5, by omega, hat2.mono (by omega), (St.selD [0, 0, 1] 1 hS), hE.sub ⟨rfl, rfl, rfl, rfl, rfl, rfl, trivial⟩⟩
    · repeat' (first

        | (with_reducible refine c_region ?_)
        | (with_reducible refine wpList_nil ?_)
        | (with_reducible refine then_normal ?_)
        | ((with_reducible refine g_move ?_); refine s_move hE rfl rfl ?_; clear hE a; intro a hE)
        | ((with_reducible refine g_bin .eql ?_); refine s_eql hE rfl rfl rfl ?_; clear hE a; intro a hE)
        | ((with_reducible refine g_cond ?_); refine c_dec hE rfl (fun hc => ?_) (fun hc => ?_) <;> try omega)
        | ((with_reducible refine g_load ?_); (first | (refine s_loadW (k := 0) hS hE rfl rfl rfl rfl ?_) ); clear hE a; intro a hE)
        )
      refine s_call hE rfl rfl rfl (obytes o2 how w) ?_
      rintro _ w ⟨A5, c5, rfl, hS1⟩; clear hE a; intro a hE; replace hS := hS.frame hS1; clear hS1; try simp only [List.cons_append, List.nil_append] at hS
      obtain ⟨_, b1, b2, b3, b4, b5⟩ := app_keep (b := o2.b) hL hcl hp hWb hob (by omega)
      have hat2 := app_atN (W := W) hat hob (by omega)
      have hln := app_len W D o2.b
      have hap := kapp (m := 2100 + 20 * k) (w0 := w0) (w := w) (H := [hRow 5 1 A5 o2.b.length c5 (bys o2.b), hBlk g3 33 o.cells]) gw gd W D o2.b A5 c5 hL.ok hob (by omega) (fun w' L h => (h.perm (List.perm_append_comm (l₁ := L))).rd) hat (by omega) (St.selD [2, 2, 0, 1] 1 hS)
      refine s_call hE rfl rfl rfl hap ?_
      clear hap
      rintro _ w ⟨rfl, hS⟩; clear hE a; intro a hE
      repeat' (first

        | (with_reducible refine c_region ?_)
        | (with_reducible refine wpList_nil ?_)
        | (with_reducible refine then_normal ?_)
        | (with_reducible refine block_normal ?_)
        | ((with_reducible refine g_move ?_); refine s_move hE rfl rfl ?_; clear hE a; intro a hE)
        | ((with_reducible refine g_bin .add ?_); refine s_add hE rfl rfl rfl (by first  | exact wrap64_in (by omega) ) ?_; clear hE a; intro a hE)
        )
      exact ⟨q - 1, by omega, k + 1, _, _, by omega, b1, by omega, b3, b4, b5, by omega, hat2.mono (by omega), (St.selD [0, 0, 1] 1 hS), hE.sub ⟨rfl, rfl, rfl, rfl, rfl, rfl, trivial⟩⟩
  · obtain rfl : k = mm := by omega
    have ho4 : o.cells = [.int .i64 o.kind, .int .i64 o.n, .int .u8 (o.fill : Int), .slice o.K o.keep.length o.kc] := rfl
    have hob := o.b_bs
    have hol := o.b_lt
    have hsn := secN_pos (n := o.b.length) (by omega)
    rw [ho4] at hS
    repeat' (first

      | (with_reducible refine wp_seq ?_)
      | (with_reducible refine c_region ?_)
      | (with_reducible refine wpList_nil ?_)
      | (with_reducible refine then_normal ?_)
      | (with_reducible refine wp_exit ?_)
      | (with_reducible refine then_exit ?_)
      | (with_reducible refine block_same ?_)
      | ((with_reducible refine g_move ?_); refine s_move hE rfl rfl ?_; clear hE a; intro a hE)
      | ((with_reducible refine g_bin .lss ?_); refine s_lss hE rfl rfl rfl ?_; clear hE a; intro a hE)
      | ((with_reducible refine g_bin .rem ?_); refine s_rem hE rfl rfl (by omega) rfl (by first | rfl) ?_; clear hE a; intro a hE)
      | ((with_reducible refine g_conv ?_); refine s_conv hE rfl rfl (by first | exact wrap64_in (by omega) | rfl) ?_; clear hE a; intro a hE)
      | ((with_reducible refine g_fa ?_); refine s_fieldL hE rfl rfl rfl ?_; clear hE a; intro a hE)
      | ((with_reducible refine g_cond ?_); refine c_dec hE rfl (fun hc => ?_) (fun hc => ?_) <;> try omega)
      | ((with_reducible refine g_load ?_); (first | (refine s_loadB (k := 2) hS hE rfl rfl rfl rfl ?_) ); clear hE a; intro a hE)
      )
    rw [hk] at hE
    obtain ⟨q1, q2, q3, q4⟩ := DM.arm_alive hcl.alive (r : Int)
    have q5 := arm_atN hat (i := (r : Int)) (by omega)
    refine s_call hE rfl rfl rfl (karm (r : Int) (by omega) (hS.focus (k := 1) rfl)) ?_
    rintro _ w ⟨rfl, hS⟩; clear hE a; intro a hE
    simp only [List.eraseIdx_cons_succ, List.eraseIdx_cons_zero] at hS
    generalize (D.arm (r : Int)).1 = D1 at q1 q2 q3 q4 q5 hS
    rw [hp] at q2
    rw [← q3] at hL hsl
    rw [← ho4] at hS
    repeat' (first

      | (with_reducible refine wp_seq ?_)
      | (with_reducible refine c_region ?_)
      | (with_reducible refine wpList_nil ?_)
      | (with_reducible refine then_normal ?_)
      | ((with_reducible refine g_move ?_); refine s_move hE rfl rfl ?_; clear hE a; intro a hE)
      | ((with_reducible refine g_load ?_); (first | (refine s_loadW (k := 2) hS hE rfl rfl rfl rfl ?_) ); clear hE a; intro a hE)
      )
    refine s_call hE rfl rfl rfl (obytes o hzw w) ?_
    rintro _ w ⟨A5, c5, rfl, hS1⟩; clear hE a; intro a hE; replace hS := hS.frame hS1; clear hS1; try simp only [List.cons_append, List.nil_append] at hS
    obtain ⟨W2, b1, b2, _⟩ := app_cut (b := o.b) hL q1 q2 hWb hob (by omega) o.keep
    have hat2 := app_atN (W := W) q5 hob (by omega)
    have hln := app_len W D1 o.b
    have hap := kapp (m := 2100 + 20 * k) (w0 := w0) (w := w) (H := [hRow 5 1 A5 o.b.length c5 (bys o.b), hBlk g3 33 o.cells]) gw gd W D1 o.b A5 c5 hL.ok hob (by omega) (fun w' L h => (h.perm (List.perm_append_comm (l₁ := L))).rd) q5 (by omega) (St.selD [2, 1, 0, 0] 0 hS)
    refine s_call hE rfl rfl rfl hap ?_
    clear hap
    rintro _ w ⟨rfl, hS⟩; clear hE a; intro a hE
    generalize (W.app D1 o.b).2.1 = D2 at b2 hat2 hln hS
    replace hS := (St.selD [1, 2] 2 hS)
    rw [ho4] at hS
    have hkr : Rd w o.K (o.keep.map .bool) := hzr.st hS
    repeat' (first

      | (with_reducible refine wp_seq ?_)
      | (with_reducible refine c_region ?_)
      | (with_reducible refine wpList_nil ?_)
      | (with_reducible refine then_normal ?_)
      | ((with_reducible refine g_move ?_); refine s_move hE rfl rfl ?_; clear hE a; intro a hE)
      | ((with_reducible refine g_fa ?_); refine s_fieldL hE rfl rfl rfl ?_; clear hE a; intro a hE)
      | ((with_reducible refine g_load ?_); (first | (refine s_loadB (k := 2) hS hE rfl rfl rfl rfl ?_) ); clear hE a; intro a hE)
      | ((with_reducible refine g_lit ?_); refine s_lit hE hS rfl rfl rfl rfl rfl (by first | (simp [Value.oneCell']; done)) rfl ?_; clear hE a hS; intro g a w hE hS)
      )
    refine s_appendAt0 (k := 0) hE hS rfl rfl rfl (hzr.st hS) (by rw [List.length_map, Nat.mul_one]) (fun v hv => by obtain ⟨x, _, rfl⟩ := List.mem_map.1 hv; rfl) (by omega) rfl rfl rfl rfl ?_
    clear hS hE a; intro A8 c8 a w hE hS
    simp only [List.set_cons_zero, List.set_cons_succ] at hS
    refine s_call hE rfl rfl rfl (kcrash A8 c8 o.keep hat2.ok (fun w' L h => (h.perm (List.perm_append_comm (l₁ := L))).rd) (by omega) (hS.focus (k := 1) rfl)) ?_
    rintro _ w ⟨rfl, hS⟩; clear hE a; intro a hE
    simp only [List.eraseIdx_cons_succ, List.eraseIdx_cons_zero] at hS
    obtain ⟨p1, p2, p3⟩ := crash_calm D2 o.keep
    have p4 := crash_atN hat2 o.keep
    have p5 : (D2.crash o.keep).safe.length = 22 := by rw [p3, lay_length]; omega
    generalize D2.crash o.keep = D3 at b2 p1 p2 p4 p5 hS
    replace hS := (St.selD [0] 2 hS)
    repeat' (first

      | (with_reducible refine wp_seq ?_)
      | (with_reducible refine c_region ?_)
      | (with_reducible refine wpList_nil ?_)
      | (with_reducible refine then_normal ?_)
      | (with_reducible refine wp_skip ?_)
      | ((with_reducible refine g_move ?_); refine s_move hE rfl rfl ?_; clear hE a; intro a hE)
      | ((with_reducible refine g_bin .neq ?_); refine s_neq hE rfl rfl rfl ?_; clear hE a; intro a hE)
      | ((with_reducible refine g_cond ?_); refine c_false hE rfl ?_)
      )
    obtain ⟨⟨x1, x2, x3, x4⟩, x5⟩ := opn_calm b2 p1 p2 b1
    obtain ⟨x6, x7, _⟩ := opn_atN p4 (by omega) (by omega)
    rw [p5] at x6 x7
    refine s_call hE rfl rfl rfl (kopn p4 (by omega) hS) ?_
    rintro _ w (⟨W3, gx, hW, _, rfl, hS⟩ | ⟨hW, _⟩)
    rotate_left
    · rw [hW] at x1; cases x1
    obtain rfl : W3 = W2 := by rw [hW] at x1; exact Option.some.inj x1
    clear hE a; intro a hE
    generalize D3.opn.1 = D4 at x3 x4 x5 x6 x7 hS
    repeat' (first

      | (with_reducible refine wp_seq ?_)
      | (with_reducible refine c_region ?_)
      | (with_reducible refine wpList_nil ?_)
      | (with_reducible refine then_normal ?_)
      | (with_reducible refine wp_skip ?_)
      | ((with_reducible refine g_move ?_); refine s_move hE rfl rfl ?_; clear hE a; intro a hE)
      | ((with_reducible refine g_assign ?_); refine s_assign hE rfl rfl ?_; clear hE a; intro a hE)
      | ((with_reducible refine g_bin .neq ?_); refine s_neq hE rfl rfl rfl ?_; clear hE a; intro a hE)
      | ((with_reducible refine g_extract ?_); refine s_extract hE rfl rfl rfl ?_; clear hE a; intro a hE)
      | ((with_reducible refine g_cond ?_); refine c_false hE rfl ?_)
      )
    obtain ⟨q1, q2, q3, q4⟩ := DM.arm_alive x5.alive (0 : Int)
    have q5 := arm_atN x6 (i := (0 : Int)) (by omega)
    refine s_call hE rfl rfl rfl (karm 0 (by omega) (hS.focus (k := 1) rfl)) ?_
    rintro _ w ⟨rfl, hS⟩; clear hE a; intro a hE
    simp only [List.eraseIdx_cons_succ, List.eraseIdx_cons_zero] at hS
    generalize (D4.arm (0 : Int)).1 = D5 at q1 q2 q3 q4 q5 hS
    rw [x3] at q2
    rw [← q3] at x4 x7
    repeat' (first

      | (with_reducible refine wp_seq ?_)
      | (with_reducible refine c_region ?_)
      | (with_reducible refine wpList_nil ?_)
      | (with_reducible refine then_normal ?_)
      | ((with_reducible refine g_move ?_); refine s_move hE rfl rfl ?_; clear hE a; intro a hE)
      )
    obtain ⟨D6, y1, y2⟩ := opn_again x4 q1 q2 b1
    have hopn := kopn (m := 2100 + 20 * k + secN o.b.length + 1 + 22 + 3) q5 (by omega) hS
    rw [y2] at hopn
    refine s_call hE rfl rfl rfl hopn ?_
    clear hopn
    rintro _ w (⟨W4, gy, hW, _, rfl, hS⟩ | ⟨hW, _⟩)
    rotate_left
    · cases hW
    obtain rfl : W4 = W3 := (Option.some.inj hW).symm
    clear hE a; intro a hE
    have hd6 : D6.dead = false := by rw [y1]; exact q1.dead
    have hWk := x4.ok
    dsimp only at hS
    repeat' (first

      | (with_reducible refine wp_seq ?_)
      | (with_reducible refine c_region ?_)
      | (with_reducible refine wpList_nil ?_)
      | (with_reducible refine then_normal ?_)
      | ((with_reducible refine g_move ?_); refine s_move hE rfl rfl ?_; clear hE a; intro a hE)
      | ((with_reducible refine g_assign ?_); refine s_assign hE rfl rfl ?_; clear hE a; intro a hE)
      | ((with_reducible refine g_bin .eql ?_); refine s_eql hE rfl rfl rfl ?_; clear hE a; intro a hE)
      | ((with_reducible refine g_extract ?_); refine s_extract hE rfl rfl rfl ?_; clear hE a; intro a hE)
      | ((with_reducible refine g_guard ?_); refine gd_yes hE rfl rfl rfl ?_)
      )
    refine s_call hE rfl rfl rfl (kdead (hS.focus (k := 1) rfl)) ?_
    rintro _ w ⟨rfl, hS⟩; clear hE a; intro a hE
    simp only [List.eraseIdx_cons_succ, List.eraseIdx_cons_zero] at hS
    rw [hd6] at hE
    repeat' (first

      | ((with_reducible refine g_move ?_); refine s_move hE rfl rfl ?_; clear hE a; intro a hE)
      | ((with_reducible refine g_un .not ?_); refine s_notb hE rfl rfl ?_; clear hE a; intro a hE)
      | ((with_reducible refine g_guard ?_); refine gd_yes hE rfl rfl rfl ?_)
      | ((with_reducible refine g_pick ?_); refine s_pickT hE rfl rfl rfl ?_; clear hE a; intro a hE)
      )
    refine s_call hE rfl rfl rfl (told hWk (hS.focus (k := 2) rfl)) ?_
    rintro _ w ⟨sx, sy, rfl, hS⟩; clear hE a; intro a hE
    simp only [List.eraseIdx_cons_succ, List.eraseIdx_cons_zero] at hS
    repeat' (first

      | ((with_reducible refine g_move ?_); refine s_move hE rfl rfl ?_; clear hE a; intro a hE)
      | ((with_reducible refine g_guard ?_); refine gd_yes hE rfl rfl rfl ?_)
      )
    refine s_call hE rfl rfl rfl (told hWk (hS.focus (k := 3) rfl)) ?_
    rintro _ w ⟨tx, ty, rfl, hS⟩; clear hE a; intro a hE
    simp only [List.eraseIdx_cons_succ, List.eraseIdx_cons_zero] at hS
    repeat' (first

      | ((with_reducible refine g_guard ?_); refine gd_yes hE rfl rfl rfl ?_)
      )
    have hbsW := tail_bs hWk
    have htl := tail_len hWk
    refine s_call hE rfl rfl rfl (sameS hbsW hbsW (by omega) (by omega) (hS.focus (k := 2) rfl)) ?_
    rintro _ w ⟨rfl, hS1⟩; clear hE a; intro a hE; replace hS := hS.frame hS1; clear hS1; try simp only [List.cons_append, List.nil_append] at hS
    rw [decide_eq_true (⟨rfl, rfl⟩ : _ = _ ∧ _ = _)] at hE
    repeat' (first

      | ((with_reducible refine g_move ?_); refine s_move hE rfl rfl ?_; clear hE a; intro a hE)
      | ((with_reducible refine g_guard ?_); refine gd_yes hE rfl rfl rfl ?_)
      | ((with_reducible refine g_pick ?_); refine s_pickT hE rfl rfl rfl ?_; clear hE a; intro a hE)
      )
    refine s_call hE rfl rfl rfl (kleft hWk (hS.focus (k := 3) rfl)) ?_
    rintro _ w ⟨rfl, hS⟩; clear hE a; intro a hE
    simp only [List.eraseIdx_cons_succ, List.eraseIdx_cons_zero] at hS
    repeat' (first

      | ((with_reducible refine g_move ?_); refine s_move hE rfl rfl ?_; clear hE a; intro a hE)
      | ((with_reducible refine g_guard ?_); refine gd_yes hE rfl rfl rfl ?_)
      )
    refine s_call hE rfl rfl rfl (kleft hWk (hS.focus (k := 2) rfl)) ?_
    rintro _ w ⟨rfl, hS⟩; clear hE a; intro a hE
    simp only [List.eraseIdx_cons_succ, List.eraseIdx_cons_zero] at hS
    repeat' (first

      | ((with_reducible refine g_move ?_); refine s_move hE rfl rfl ?_; clear hE a; intro a hE)
      | ((with_reducible refine g_bin .eql ?_); refine s_eql hE rfl rfl rfl ?_; clear hE a; intro a hE)
      | ((with_reducible refine g_guard ?_); refine gd_yes hE rfl rfl rfl ?_)
      | ((with_reducible refine g_guard ?_); refine gd_dec hE rfl rfl (fun hc hE2 => ?_) (fun hc hE2 => ?_) <;> (try omega) <;> (replace hE := hE2; clear hE2))
      | ((with_reducible refine g_pick ?_); refine s_pickT hE rfl rfl rfl ?_; clear hE a; intro a hE)
      )
    refine s_call hE rfl rfl rfl (kturn (hS.focus (k := 1) rfl)) ?_
    rintro _ w ⟨rfl, hS⟩; clear hE a; intro a hE
    simp only [List.eraseIdx_cons_succ, List.eraseIdx_cons_zero] at hS
    repeat' (first

      | ((with_reducible refine g_move ?_); refine s_move hE rfl rfl ?_; clear hE a; intro a hE)
      | ((with_reducible refine g_guard ?_); refine gd_yes hE rfl rfl rfl ?_)
      )
    · refine s_call hE rfl rfl rfl (kturn (hS.focus (k := 1) rfl)) ?_
      rintro _ w ⟨rfl, hS⟩; clear hE a; intro a hE
      simp only [List.eraseIdx_cons_succ, List.eraseIdx_cons_zero] at hS
      repeat' (first

        | (with_reducible refine wpList_nil ?_)
        | (with_reducible refine then_normal ?_)
        | (with_reducible refine wp_ret ?_)
        | ((with_reducible refine g_assign ?_); refine s_assign hE rfl rfl ?_; clear hE a; intro a hE)
        | ((with_reducible refine g_bin .eql ?_); refine s_eql hE rfl rfl rfl ?_; clear hE a; intro a hE)
        | ((with_reducible refine g_guard ?_); refine gd_yes hE rfl rfl rfl ?_)
        | ((with_reducible refine g_pick ?_); refine s_pickT hE rfl rfl rfl ?_; clear hE a; intro a hE)
        )
      rw [decide_eq_true (rfl : (_ : Int) = _)] at hE
      exact ret1 hE rfl rfl ⟨rfl, hS.nil⟩
end
end Go.Proofs.Ytfoeelghehjanaa
