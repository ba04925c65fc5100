/-
  Contract: a log is held against the document's.
-/
import Derived.Test.YtfoeelghehjanaaYI
namespace Go.Proofs.Ytfoeelghehjanaa
open Go.RowKit
set_option linter.unusedVariables false
set_option linter.unusedSimpArgs false
section
variable {P : Program} {n d : Nat} {L : List (Nat × Value)} {a : Act} {w : World} {ty xt yt : TypeId} {ps : String} {af : Array Edge} {x y : Operand} {gd : Option (Nat × Bool)}
theorem r_eqf {p q : Array TypeId} {r : Bool} {f : Go.Fn} {fv cv : Array Value} (hu : P.underlying xt = some (.func p q r)) (hE : Env n L a) (hx : ev L x = some (.func f fv cv)) (hy : ev L y = some .nilFunc) : (execOp a.eval ⟨some d, .binOp .eql xt x y yt, ty, ps, af, gd⟩).run P w = .ok (.value (.bool false)) w := by
  have hg : (eqGuard .eql xt x y (.func f fv cv) .nilFunc).run P w = .ok () w := rfl
  have h1 : (Op.equal xt (.func f fv cv) .nilFunc).run P w = .ok false w := by
    have e : Op.maxDepth = 9999 + 1 := rfl
    unfold Op.equal
    rw [e]
    unfold Op.equalIn
    simp only [Sem.run_bind, run_underlying hu, Result.andThen_ok, Sem.run_pure]
    try rfl
  simp only [execOp, hE.eval hx, hE.eval hy, Sem.run_bind, hg, Result.andThen_ok, binOp, h1, Sem.run_pure]
end
attribute [local irreducible] Rd hRow hBlk hRd hRdr wrP hDk hWl hMl Fn FnD hMarks
theorem Sep.pre {w : World} {R : List HP} : ∀ (L : List HP) (T : Nat → Prop), Sep w (L ++ R) T → Sep w L T
  | [], _, h => Sep.none_ _ h
  | _ :: L, _, h => Sep.cons_mono (L' := L) (fun T h => Sep.pre L T h) h
theorem St.pre {w w0 : World} {R : List HP} (L : List HP) (hS : St w0 w (L ++ R)) : St w0 w L := ⟨hS.below, Sep.pre L _ hS.sep⟩
theorem alFull_at {bs : List (List Nat)} {pre post : List (Nat × List Nat)} {x : Nat × List Nat} (h : pre ++ x :: post = alFull bs) : x = (pre.length, bs.getD pre.length []) ∧ pre.length < bs.length := by
  have h1 : (alFull bs)[pre.length]? = some x := by rw [← h]; simp
  have h2 : pre.length < bs.length := by
    have := congrArg List.length h
    rw [alFull_len, List.length_append, List.length_cons] at this
    omega
  unfold alFull at h1
  rw [List.getElem?_map, List.getElem?_range h2] at h1
  exact ⟨(Option.some.inj h1).symm, h2⟩
theorem tail_bs2 {W : WM} (h : W.ok) : Bs (W.list.headD []) ∧ ∀ b ∈ W.list.tail, Bs b := by
  have hne := h.ne
  have hbb := h.bs
  generalize W.list = L at hne hbb
  cases L with
  | nil => exact absurd hne (by decide)
  | cons b0 L => exact ⟨(hbb b0 (List.mem_cons_self ..)).1, fun b hb => (hbb b (List.mem_cons_of_mem _ hb)).1⟩
section
variable {gw gd gm gd2 : Nat} {W : WM} {H : List HP} {w0 w : World}
set_option maxHeartbeats 16000000
set_option maxRecDepth 20000
theorem ragree (hW : W.ok) (hS : St w0 w (hWl gw gd W :: hMl gm gd2 W :: H)) :
    Fn Try.prog 42 [.pointer (some ⟨gw, 0, none⟩), .pointer (some ⟨gm, 0, none⟩)] w fun v w' => v = .bool true ∧ St w0 w' (hWl gw gd W :: hMl gm gd2 W :: H) := by
  have hwl := hW.len
  have hwf := hW.fin
  have hwa := hW.area
  have hne := hW.ne
  have hbsW := tail_bs2 hW
  obtain ⟨A1, c1, sls, hsl, hS⟩ := hMl_open (hS.focus (k := 1) rfl)
  simp only [List.eraseIdx_cons_succ, List.eraseIdx_cons_zero] at hS
  have hsll : sls.length = W.list.length := by rw [← hsl, List.length_map]
  have hsb : ∀ x ∈ sls, Bs x.b ∧ x.b.length ≤ 40000 := fun x hx => hW.bs x.b (by rw [← hsl]; exact List.mem_map_of_mem hx)
  obtain ⟨s0, rest, hs0⟩ : ∃ s0 rest, sls = s0 :: rest := by
    cases sls with
    | nil => rw [← hsll] at hne; exact absurd hne (by decide)
    | cons s r => exact ⟨s, r, rfl⟩
  have hhd : W.list.headD [] = s0.b := by rw [← hsl, hs0]; rfl
  have hs0b := hsb s0 (by rw [hs0]; exact List.mem_cons_self ..)
  refine enterI 157 Try.func42 rfl rfl rfl ?_
  intro a hE
  refine i_seq ?_
  refine i_region rfl (fun _ _ h => h) ?_
  refine s_box1 hE hS rfl rfl rfl ?_
  clear hE a hS; intro g3 a w hE hS
  repeat' (first
 | (with_reducible refine wpList_nil ?_)
 | (with_reducible refine then_normal ?_)
 | (with_reducible refine i_seq ?_)
 | ((with_reducible refine g_alloc ?_); refine s_alloc1 hE hS rfl rfl ?_; clear hE a hS; intro g a w hE hS))
  obtain ⟨g4, rfl⟩ : ∃ x, x = g := ⟨_, rfl⟩
  have hS2 : St w0 w (hBlk g3 66 [.pointer (some ⟨gm, 0, none⟩)] :: hBlk gm 117 [.pointer (some ⟨gd2, 0, none⟩), .int .i64 (W.area : Int), .int .u32 (W.turn : Int), .slice A1 sls.length c1, .int .i64 (W.fin : Int), .bool W.broken] :: hRow 34 1 A1 sls.length c1 (sls.map Sl.v) :: wrP sls :: hBlk g4 4 [.bool false] :: hWl gw gd W :: H) := (St.selD [1, 1, 1, 1, 0, 0] 0 hS)
  clear hS; have hS := hS2; clear hS2
  have hml : (sls.map Sl.v).length = sls.length := List.length_map _
  have hv0 : (sls.map Sl.v)[Int.toNat 0 * 1]? = some (Value.slice s0.A s0.b.length s0.c) := by rw [hs0]; rfl
  refine i_ordH [hBlk g3 66 [.pointer (some ⟨gm, 0, none⟩)], hBlk gm 117 [.pointer (some ⟨gd2, 0, none⟩), .int .i64 (W.area : Int), .int .u32 (W.turn : Int), .slice A1 sls.length c1, .int .i64 (W.fin : Int), .bool W.broken], hRow 34 1 A1 sls.length c1 (sls.map Sl.v)] hS (fun u hu => hu.keep3) 53 ((.rd 0 (.rd 2 (.rd 3 (.rd 4 (.rd 5 (.rd 6 (.rd 7 (.ef 1 (.ef 8 (.rd 9 (.rd 10 (.rd 11 (.rd 13 (.rd 14 (.rd 15 (.rd 16 (.rd 17 (.rd 18 (.ef 12 (.rd 19 (.rd 20 (.rd 21 (.rd 22 (.rd 24 (.rd 25 (.rd 26 (.rd 27 (.rd 28 (.rd 29 (.rd 30 (.rd 31 (.rd 32 (.ef 23 (.rd 33 (.rd 34 (.rd 35 (.rd 36 (.rd 38 (.rd 39 (.rd 40 (.rd 41 (.ef 37 (.rd 42 (.rd 43 (.rd 44 (.rd 45 (.rd 47 (.rd 48 (.rd 49 (.rd 50 (.ef 46 (.rd 51 (.rd 52 .done)))))))))))))))))))))))))))))))))))))))))))))))))))))) mixed (by decide +kernel) (by decide +kernel) ?_
  clear hS; intro w hF hS
  repeat' (first
 | (with_reducible refine o_rd rfl ?_)
 | ((with_reducible refine q_move ?_); refine d_val hE hS rfl (fun w hS => r_move hE rfl) ?_; clear hE a; intro a hE)
 | ((with_reducible refine q_fa ?_); refine d_val hE hS rfl (fun w hS => r_fieldL hE rfl rfl) ?_; clear hE a; intro a hE)
 | ((with_reducible refine q_nc ?_); refine d_val hE hS rfl (fun w hS => r_nilCheck hE rfl) ?_; clear hE a; intro a hE)
 | ((with_reducible refine q_ia ?_); refine d_val hE hS rfl (fun w hS => r_idxR hE rfl rfl (by omega) (by omega) (by (first | exact hS.rdAt (k := 2) rfl )) (by first | omega )) ?_; clear hE a; intro a hE)
 | ((with_reducible refine q_load ?_); refine d_val hE hS rfl (fun w hS => r_loadR hE rfl (by (first | exact hS.rdAt (k := 2) rfl )) (by first | exact hv0)) ?_; clear hE a; intro a hE)
 | ((with_reducible refine q_load ?_); (first | (refine d_val hE hS rfl (fun w hS => r_loadB (k := 0) hS hE rfl rfl rfl) ?_) | (refine d_val hE hS rfl (fun w hS => r_loadB (k := 1) hS hE rfl rfl rfl) ?_) ); clear hE a; intro a hE)
 | ((with_reducible refine o_ef rfl ?_)))
  refine s_call hE rfl rfl rfl (ksnap hW (hF.focus (k := 5) rfl)) ?_
  rintro _ w ⟨A2, c2, rfl, hF⟩; clear hE a; intro a hE
  simp only [List.eraseIdx_cons_succ, List.eraseIdx_cons_zero] at hF
  have hF2 : St w0 w (hBlk g3 66 [.pointer (some ⟨gm, 0, none⟩)] :: hBlk gm 117 [.pointer (some ⟨gd2, 0, none⟩), .int .i64 (W.area : Int), .int .u32 (W.turn : Int), .slice A1 sls.length c1, .int .i64 (W.fin : Int), .bool W.broken] :: hRow 34 1 A1 sls.length c1 (sls.map Sl.v) :: wrP sls :: hBlk g4 4 [.bool false] :: hWl gw gd W :: hRow 5 1 A2 (W.list.headD []).length c2 (bys (W.list.headD [])) :: H) := (St.selD [2, 2, 2, 2, 2, 1, 0] 0 hF)
  clear hF; have hF := hF2; clear hF2
  refine wpList_nil ?_
  refine o_back _ (fun _ h => h) hF.keep3 ?_
  clear hS; have hS := hF.keep3
  repeat' (first
 | ((with_reducible refine o_ef rfl ?_)))
  have hrd0 : Rd w s0.A (bys s0.b) := wrP_rd (hF.focus (k := 3) rfl) s0 (by rw [hs0]; exact List.mem_cons_self ..)
  refine s_call hE rfl rfl rfl (bequal A2 s0.A _ _ (W.list.headD []) s0.b _ _ w (hF.rdAt (k := 6) rfl) hrd0 hbsW.1 hs0b.1 rfl rfl) ?_
  rintro _ w ⟨rfl, hS1⟩; clear hE a; intro a hE; replace hF := hF.frame hS1; clear hS1; simp only [List.nil_append] at hF
  rw [decide_eq_true hhd] at hE
  refine wpList_nil ?_
  refine o_back _ (fun _ h => h) hF.keep3 ?_
  clear hS; have hS := hF.keep3
  repeat' (first
 | (with_reducible refine o_rd rfl ?_)
 | ((with_reducible refine q_move ?_); refine d_val hE hS rfl (fun w hS => r_move hE rfl) ?_; clear hE a; intro a hE)
 | ((with_reducible refine q_bin .sub ?_); refine d_val hE hS rfl (fun w hS => r_sub hE rfl rfl (by first  | exact wrap64_in (by omega) )) ?_; clear hE a; intro a hE)
 | ((with_reducible refine q_un .not ?_); refine d_val hE hS rfl (fun w hS => r_notb hE rfl) ?_; clear hE a; intro a hE)
 | ((with_reducible refine q_blt .len ?_); refine d_val hE hS rfl (fun w hS => r_len hE rfl) ?_; clear hE a; intro a hE)
 | ((with_reducible refine q_fa ?_); refine d_val hE hS rfl (fun w hS => r_fieldL hE rfl rfl) ?_; clear hE a; intro a hE)
 | ((with_reducible refine q_nc ?_); refine d_val hE hS rfl (fun w hS => r_nilCheck hE rfl) ?_; clear hE a; intro a hE)
 | ((with_reducible refine q_guard ?_); refine d_yes hE rfl rfl rfl ?_)
 | ((with_reducible refine q_load ?_); (first | (refine d_val hE hS rfl (fun w hS => r_loadB (k := 0) hS hE rfl rfl rfl) ?_) | (refine d_val hE hS rfl (fun w hS => r_loadB (k := 1) hS hE rfl rfl rfl) ?_) ); clear hE a; intro a hE)
 | ((with_reducible refine o_ef rfl ?_)))
  have eL : ((W.list.length - 1 : Nat) : Int) = (sls.length : Int) - 1 := by omega
  refine gd_yes hE rfl rfl (by decide) ?_
  refine s_call hE rfl rfl rfl (kllen hW (hF.focus (k := 5) rfl)) ?_
  rintro _ w ⟨rfl, hF⟩; clear hE a; intro a hE
  simp only [List.eraseIdx_cons_succ, List.eraseIdx_cons_zero] at hF
  rw [eL] at hE
  have hF2 : St w0 w (hBlk g3 66 [.pointer (some ⟨gm, 0, none⟩)] :: hBlk gm 117 [.pointer (some ⟨gd2, 0, none⟩), .int .i64 (W.area : Int), .int .u32 (W.turn : Int), .slice A1 sls.length c1, .int .i64 (W.fin : Int), .bool W.broken] :: hRow 34 1 A1 sls.length c1 (sls.map Sl.v) :: wrP sls :: hBlk g4 4 [.bool false] :: hWl gw gd W :: hRow 5 1 A2 (W.list.headD []).length c2 (bys (W.list.headD [])) :: H) := (St.selD [1, 1, 1, 1, 1, 0, 0] 0 hF)
  clear hF; have hF := hF2; clear hF2
  refine wpList_nil ?_
  refine o_back _ (fun _ h => h) hF.keep3 ?_
  clear hS; have hS := hF.keep3
  repeat' (first
 | (with_reducible refine o_rd rfl ?_)
 | ((with_reducible refine q_move ?_); refine d_val hE hS rfl (fun w hS => r_move hE rfl) ?_; clear hE a; intro a hE)
 | ((with_reducible refine q_bin .neq ?_); refine d_val hE hS rfl (fun w hS => r_neq hE rfl rfl) ?_; clear hE a; intro a hE)
 | ((with_reducible refine q_bin .sub ?_); refine d_val hE hS rfl (fun w hS => r_sub hE rfl rfl (by first  | exact subN (by omega) (by omega) )) ?_; clear hE a; intro a hE)
 | ((with_reducible refine q_fa ?_); refine d_val hE hS rfl (fun w hS => r_fieldL hE rfl rfl) ?_; clear hE a; intro a hE)
 | ((with_reducible refine q_nc ?_); refine d_val hE hS rfl (fun w hS => r_nilCheck hE rfl) ?_; clear hE a; intro a hE)
 | ((with_reducible refine q_guard ?_); refine d_yes hE rfl rfl rfl ?_)
 | ((with_reducible refine q_guard ?_); refine d_dec hE rfl rfl (fun hc hE2 => ?_) (fun hc hE2 => ?_) <;> (try omega) <;> (replace hE := hE2; clear hE2))
 | ((with_reducible refine q_pick ?_); refine d_val hE hS rfl (fun w hS => r_pickF hE rfl rfl) ?_; clear hE a; intro a hE)
 | ((with_reducible refine q_load ?_); (first | (refine d_val hE hS rfl (fun w hS => r_loadB (k := 0) hS hE rfl rfl rfl) ?_) | (refine d_val hE hS rfl (fun w hS => r_loadB (k := 1) hS hE rfl rfl rfl) ?_) ); clear hE a; intro a hE)
 | ((with_reducible refine o_ef rfl ?_)))
  refine gd_yes hE rfl rfl (by decide) ?_
  refine s_call hE rfl rfl rfl (kleft hW (hF.focus (k := 5) rfl)) ?_
  rintro _ w ⟨rfl, hF⟩; clear hE a; intro a hE
  simp only [List.eraseIdx_cons_succ, List.eraseIdx_cons_zero] at hF
  have hF2 : St w0 w (hBlk g3 66 [.pointer (some ⟨gm, 0, none⟩)] :: hBlk gm 117 [.pointer (some ⟨gd2, 0, none⟩), .int .i64 (W.area : Int), .int .u32 (W.turn : Int), .slice A1 sls.length c1, .int .i64 (W.fin : Int), .bool W.broken] :: hRow 34 1 A1 sls.length c1 (sls.map Sl.v) :: wrP sls :: hBlk g4 4 [.bool false] :: hWl gw gd W :: hRow 5 1 A2 (W.list.headD []).length c2 (bys (W.list.headD [])) :: H) := (St.selD [1, 1, 1, 1, 1, 0, 0] 0 hF)
  clear hF; have hF := hF2; clear hF2
  refine wpList_nil ?_
  refine o_back _ (fun _ h => h) hF.keep3 ?_
  clear hS; have hS := hF.keep3
  repeat' (first
 | (with_reducible refine o_rd rfl ?_)
 | ((with_reducible refine q_move ?_); refine d_val hE hS rfl (fun w hS => r_move hE rfl) ?_; clear hE a; intro a hE)
 | ((with_reducible refine q_bin .neq ?_); refine d_val hE hS rfl (fun w hS => r_neq hE rfl rfl) ?_; clear hE a; intro a hE)
 | ((with_reducible refine q_fa ?_); refine d_val hE hS rfl (fun w hS => r_fieldL hE rfl rfl) ?_; clear hE a; intro a hE)
 | ((with_reducible refine q_nc ?_); refine d_val hE hS rfl (fun w hS => r_nilCheck hE rfl) ?_; clear hE a; intro a hE)
 | ((with_reducible refine q_guard ?_); refine d_yes hE rfl rfl rfl ?_)
 | ((with_reducible refine q_guard ?_); refine d_dec hE rfl rfl (fun hc hE2 => ?_) (fun hc hE2 => ?_) <;> (try omega) <;> (replace hE := hE2; clear hE2))
 | ((with_reducible refine q_pick ?_); refine d_val hE hS rfl (fun w hS => r_pickF hE rfl rfl) ?_; clear hE a; intro a hE)
 | ((with_reducible refine q_load ?_); (first | (refine d_val hE hS rfl (fun w hS => r_loadB (k := 0) hS hE rfl rfl rfl) ?_) | (refine d_val hE hS rfl (fun w hS => r_loadB (k := 1) hS hE rfl rfl rfl) ?_) ); clear hE a; intro a hE)
 | ((with_reducible refine o_ef rfl ?_)))
  refine gd_yes hE rfl rfl (by decide) ?_
  refine s_call hE rfl rfl rfl (kturn (hF.focus (k := 5) rfl)) ?_
  rintro _ w ⟨rfl, hF⟩; clear hE a; intro a hE
  simp only [List.eraseIdx_cons_succ, List.eraseIdx_cons_zero] at hF
  have hF2 : St w0 w (hBlk g3 66 [.pointer (some ⟨gm, 0, none⟩)] :: hBlk gm 117 [.pointer (some ⟨gd2, 0, none⟩), .int .i64 (W.area : Int), .int .u32 (W.turn : Int), .slice A1 sls.length c1, .int .i64 (W.fin : Int), .bool W.broken] :: hRow 34 1 A1 sls.length c1 (sls.map Sl.v) :: wrP sls :: hBlk g4 4 [.bool false] :: hWl gw gd W :: hRow 5 1 A2 (W.list.headD []).length c2 (bys (W.list.headD [])) :: H) := (St.selD [1, 1, 1, 1, 1, 0, 0] 0 hF)
  clear hF; have hF := hF2; clear hF2
  refine wpList_nil ?_
  refine o_back _ (fun _ h => h) hF.keep3 ?_
  clear hS; have hS := hF.keep3
  repeat' (first
 | (with_reducible refine o_rd rfl ?_)
 | ((with_reducible refine q_move ?_); refine d_val hE hS rfl (fun w hS => r_move hE rfl) ?_; clear hE a; intro a hE)
 | ((with_reducible refine q_bin .neq ?_); refine d_val hE hS rfl (fun w hS => r_neq hE rfl rfl) ?_; clear hE a; intro a hE)
 | ((with_reducible refine q_fa ?_); refine d_val hE hS rfl (fun w hS => r_fieldL hE rfl rfl) ?_; clear hE a; intro a hE)
 | ((with_reducible refine q_nc ?_); refine d_val hE hS rfl (fun w hS => r_nilCheck hE rfl) ?_; clear hE a; intro a hE)
 | ((with_reducible refine q_guard ?_); refine d_yes hE rfl rfl rfl ?_)
 | ((with_reducible refine q_guard ?_); refine d_dec hE rfl rfl (fun hc hE2 => ?_) (fun hc hE2 => ?_) <;> (try omega) <;> (replace hE := hE2; clear hE2))
 | ((with_reducible refine q_pick ?_); refine d_val hE hS rfl (fun w hS => r_pickF hE rfl rfl) ?_; clear hE a; intro a hE)
 | ((with_reducible refine q_load ?_); (first | (refine d_val hE hS rfl (fun w hS => r_loadB (k := 0) hS hE rfl rfl rfl) ?_) | (refine d_val hE hS rfl (fun w hS => r_loadB (k := 1) hS hE rfl rfl rfl) ?_) ); clear hE a; intro a hE)
 | ((with_reducible refine o_ef rfl ?_)))
  refine gd_yes hE rfl rfl (by decide) ?_
  refine s_call hE rfl rfl rfl (kbroken (hF.focus (k := 5) rfl)) ?_
  rintro _ w ⟨rfl, hF⟩; clear hE a; intro a hE
  simp only [List.eraseIdx_cons_succ, List.eraseIdx_cons_zero] at hF
  have hF2 : St w0 w (hBlk g3 66 [.pointer (some ⟨gm, 0, none⟩)] :: hBlk gm 117 [.pointer (some ⟨gd2, 0, none⟩), .int .i64 (W.area : Int), .int .u32 (W.turn : Int), .slice A1 sls.length c1, .int .i64 (W.fin : Int), .bool W.broken] :: hRow 34 1 A1 sls.length c1 (sls.map Sl.v) :: wrP sls :: hBlk g4 4 [.bool false] :: hWl gw gd W :: hRow 5 1 A2 (W.list.headD []).length c2 (bys (W.list.headD [])) :: H) := (St.selD [1, 1, 1, 1, 1, 0, 0] 0 hF)
  clear hF; have hF := hF2; clear hF2
  refine wpList_nil ?_
  refine o_back _ (fun _ h => h) hF.keep3 ?_
  clear hS; have hS := hF.keep3
  repeat' (first
 | (with_reducible refine o_rd rfl ?_)
 | (with_reducible refine o_done ?_)
 | ((with_reducible refine q_bin .neq ?_); refine d_val hE hS rfl (fun w hS => r_neb hE rfl rfl) ?_; clear hE a; intro a hE)
 | ((with_reducible refine q_guard ?_); refine d_yes hE rfl rfl rfl ?_)
 | ((with_reducible refine q_pick ?_); refine d_val hE hS rfl (fun w hS => r_pickF hE rfl rfl) ?_; clear hE a; intro a hE))
  rw [show (W.broken != W.broken) = false by simp] at hE
  clear hS; have hS := hF; clear hF
  repeat' (first
 | (with_reducible refine then_normal ?_)
 | (with_reducible refine i_seq ?_)
 | (with_reducible refine i_skip ?_)
 | ((with_reducible refine ig_region ?_); refine i_region rfl (fun _ _ h => h) ?_)
 | ((with_reducible refine ig_cond ?_); refine i_false hE rfl ?_)
 | ((with_reducible refine g_move ?_); refine s_move hE rfl rfl ?_; clear hE a; intro a hE))
  refine s_call hE rfl rfl rfl (kall hW (hS.focus (k := 5) rfl)) ?_
  rintro _ w ⟨g5, A3, c3, A6, c6, s, sls2, hsl2, rfl, hS⟩; clear hE a; intro a hE
  simp only [alBx, List.cons_append, List.nil_append, List.eraseIdx_cons_succ, List.eraseIdx_cons_zero] at hS
  repeat' (first
 | (with_reducible refine wpList_nil ?_)
 | (with_reducible refine then_normal ?_)
 | (with_reducible refine i_seq ?_)
 | ((with_reducible refine ig_region ?_); refine i_region rfl (fun _ _ h => h) ?_)
 | ((with_reducible refine g_move ?_); refine s_move hE rfl rfl ?_; clear hE a; intro a hE)
 | ((with_reducible refine g_assign ?_); refine s_assign hE rfl rfl ?_; clear hE a; intro a hE))
  refine s_val hE rfl rfl rfl (r_eqf Try.underlying50 hE rfl rfl) ?_
  clear hE a; intro a hE
  repeat' (first
 | (with_reducible refine wpList_nil ?_)
 | (with_reducible refine then_normal ?_)
 | (with_reducible refine i_seq ?_)
 | (with_reducible refine i_skip ?_)
 | (with_reducible refine i_block ?_)
 | ((with_reducible refine ig_region ?_); refine i_region rfl (fun _ _ h => h) ?_)
 | ((with_reducible refine ig_cond ?_); refine i_false hE rfl ?_)
 | ((with_reducible refine g_store ?_); (first | (refine s_storeB (k := 0) hS hE rfl rfl rfl rfl rfl rfl ?_) ); clear hS; intro w hS; simp only [List.set_cons_zero, List.set_cons_succ, Nat.add_zero] at hS)
 | ((with_reducible refine g_alloc ?_); refine s_alloc1 hE hS rfl rfl ?_; clear hE a hS; intro g a w hE hS))
  obtain ⟨g6, rfl⟩ : ∃ x, x = g := ⟨_, rfl⟩
  have hsl2l : sls2.length + 1 = W.list.length := by
    have := congrArg List.length hsl2
    rw [List.length_map, List.length_cons] at this
    exact this
  have htl : sls2.map Sl.b = W.list.tail := by rw [← hsl2]; rfl
  have hit := all_iter g5 A3 c3 sls2 (s :: sls2) (by omega) (fun x hx => List.mem_cons_of_mem _ hx) (fun x hx => (hW.bs x.b (by rw [← hsl2]; exact List.mem_cons_of_mem _ (List.mem_map_of_mem hx))).2) w0
  rw [htl] at hit
  have hS2 : St w0 w (alBx g5 A3 c3 sls2 (s :: sls2) ++ ([hBlk g6 3 [.int .i64 ((0 : Nat) : Int)], hBlk g3 66 [.pointer (some ⟨gm, 0, none⟩)], hBlk gm 117 [.pointer (some ⟨gd2, 0, none⟩), .int .i64 (W.area : Int), .int .u32 (W.turn : Int), .slice A1 sls.length c1, .int .i64 (W.fin : Int), .bool W.broken], hRow 34 1 A1 sls.length c1 (sls.map Sl.v), wrP sls, hBlk g4 4 [.bool false], hMarks [], hBlk gw 89 [.pointer (some ⟨gd, 0, none⟩), .int .i64 (W.area : Int), .int .u32 (W.turn : Int), .slice A6 (s :: sls2).length c6, .int .i64 (W.fin : Int), .bool W.broken], hRow 34 1 A6 (s :: sls2).length c6 ((s :: sls2).map Sl.v)] ++ H)) := by
    have h1 := hS.marks0
    simp only [alBx, List.cons_append, List.nil_append]
    exact (St.selD [2, 2, 2, 1, 3, 3, 3, 3, 3, 0, 0, 0] 1 h1)
  clear hS; have hS := hS2; clear hS2
  refine i_loop (fun q ds a w => ∃ (r g6 : Nat) (Ds : List Nat), ds = Ds.map mark ∧ r + q = 2 ∧ St w0 w (alBx g5 A3 c3 sls2 (s :: sls2) ++ ([hBlk g6 3 [.int .i64 (r : Int)], hBlk g3 66 [.pointer (some ⟨gm, 0, none⟩)], hBlk gm 117 [.pointer (some ⟨gd2, 0, none⟩), .int .i64 (W.area : Int), .int .u32 (W.turn : Int), .slice A1 sls.length c1, .int .i64 (W.fin : Int), .bool W.broken], hRow 34 1 A1 sls.length c1 (sls.map Sl.v), wrP sls, hBlk g4 4 [.bool false], hMarks Ds, hBlk gw 89 [.pointer (some ⟨gd, 0, none⟩), .int .i64 (W.area : Int), .int .u32 (W.turn : Int), .slice A6 (s :: sls2).length c6, .int .i64 (W.fin : Int), .bool W.broken], hRow 34 1 A6 (s :: sls2).length c6 ((s :: sls2).map Sl.v)] ++ H)) ∧
    Env 157 [(0, .pointer (some ⟨gw, 0, none⟩)), (3, .pointer (some ⟨g3, 0, none⟩)), (4, .pointer (some ⟨g4, 0, none⟩)), (5, .func (.func 63) #[] #[.pointer (some ⟨g5, 0, none⟩)]), (6, .pointer (some ⟨g6, 0, none⟩))] a) 2 ⟨0, g6, [], rfl, rfl, hS, hE.sub ⟨rfl, rfl, rfl, rfl, rfl, trivial⟩⟩ ?_
  clear hE a hS g6
  rintro q ds a w ⟨r, g6, Ds, rfl, hr, hS, hE⟩
  by_cases hr1 : r < 2
  · simp only [alBx, List.cons_append, List.nil_append] at hS
    repeat' (first
 | (with_reducible refine wpList_nil ?_)
 | (with_reducible refine then_normal ?_)
 | (with_reducible refine i_seq ?_)
 | (with_reducible refine i_skip ?_)
 | (with_reducible refine i_block ?_)
 | ((with_reducible refine ig_region ?_); refine i_region rfl (fun _ _ h => h) ?_)
 | ((with_reducible refine ig_cond ?_); refine i_dec hE rfl (fun hc => ?_) (fun hc => ?_) <;> try omega)
 | ((with_reducible refine g_move ?_); refine s_move hE rfl rfl ?_; clear hE a; intro a hE)
 | ((with_reducible refine g_bin .lss ?_); refine s_lss hE rfl rfl rfl ?_; clear hE a; intro a hE)
 | ((with_reducible refine g_load ?_); (first | (refine s_loadB (k := 3) hS hE rfl rfl rfl rfl ?_) ); clear hE a; intro a hE)
 | ((with_reducible refine g_store ?_); (first | (refine s_storeB (k := 0) hS hE rfl rfl rfl rfl rfl rfl ?_) ); clear hS; intro w hS; simp only [List.set_cons_zero, List.set_cons_succ, Nat.add_zero] at hS)
 | ((with_reducible refine g_alloc ?_); refine s_alloc1 hE hS rfl rfl ?_; clear hE a hS; intro g a w hE hS))
    obtain ⟨g7, rfl⟩ : ∃ x, x = g := ⟨_, rfl⟩
    have hS2 : St w0 w (alBx g5 A3 c3 sls2 (s :: sls2) ++ ([hBlk g7 3 [.int .i64 ((([] : List (Nat × List Nat)).length : Nat) : Int)], hBlk g6 3 [.int .i64 (r : Int)], hBlk g3 66 [.pointer (some ⟨gm, 0, none⟩)], hBlk gm 117 [.pointer (some ⟨gd2, 0, none⟩), .int .i64 (W.area : Int), .int .u32 (W.turn : Int), .slice A1 sls.length c1, .int .i64 (W.fin : Int), .bool W.broken], hRow 34 1 A1 sls.length c1 (sls.map Sl.v), wrP sls] ++ ([hBlk g4 4 [.bool false], hMarks Ds, hBlk gw 89 [.pointer (some ⟨gd, 0, none⟩), .int .i64 (W.area : Int), .int .u32 (W.turn : Int), .slice A6 (s :: sls2).length c6, .int .i64 (W.fin : Int), .bool W.broken], hRow 34 1 A6 (s :: sls2).length c6 ((s :: sls2).map Sl.v)] ++ H))) := by
      simp only [alBx, List.cons_append, List.nil_append]
      exact (St.selD [1, 1, 1, 0, 0, 0, 0, 0, 0, 0, 0, 0, 0] 0 hS)
    clear hS; have hS := hS2; clear hS2
    refine i_rangeF (ps := [75, 76]) hE rfl hit
      (fun pre => [hBlk g7 3 [.int .i64 (pre.length : Int)], hBlk g6 3 [.int .i64 (r : Int)], hBlk g3 66 [.pointer (some ⟨gm, 0, none⟩)], hBlk gm 117 [.pointer (some ⟨gd2, 0, none⟩), .int .i64 (W.area : Int), .int .u32 (W.turn : Int), .slice A1 sls.length c1, .int .i64 (W.fin : Int), .bool W.broken], hRow 34 1 A1 sls.length c1 (sls.map Sl.v), wrP sls])
      (fun j xs => [hPure (j = some 2 ∧ r = 1), hBlk g7 3 [.int .i64 (xs.length : Int)], hBlk g6 3 [.int .i64 (r : Int)], hBlk g3 66 [.pointer (some ⟨gm, 0, none⟩)], hBlk gm 117 [.pointer (some ⟨gd2, 0, none⟩), .int .i64 (W.area : Int), .int .u32 (W.turn : Int), .slice A1 sls.length c1, .int .i64 (W.fin : Int), .bool W.broken], hRow 34 1 A1 sls.length c1 (sls.map Sl.v), wrP sls]) hS (fun _ _ => rfl) (by decide)
      (Y := Option Addr × Nat) (fun pre x y => [(9, .slice y.1 x.2.length y.2), (8, .int .i64 ((x.1 : Int) + 1)), (7, .pointer (some ⟨g7, 0, none⟩)), (6, .pointer (some ⟨g6, 0, none⟩)), (5, .func (.func 63) #[] #[.pointer (some ⟨g5, 0, none⟩)]), (4, .pointer (some ⟨g4, 0, none⟩)), (3, .pointer (some ⟨g3, 0, none⟩)), (0, .pointer (some ⟨gw, 0, none⟩))])
      (fun pre x y => [hRow 5 1 y.1 x.2.length y.2 (bys x.2), hBlk g7 3 [.int .i64 (pre.length : Int)], hBlk g6 3 [.int .i64 (r : Int)], hBlk g3 66 [.pointer (some ⟨gm, 0, none⟩)], hBlk gm 117 [.pointer (some ⟨gd2, 0, none⟩), .int .i64 (W.area : Int), .int .u32 (W.turn : Int), .slice A1 sls.length c1, .int .i64 (W.fin : Int), .bool W.broken], hRow 34 1 A1 sls.length c1 (sls.map Sl.v), wrP sls]) ?_ ?_ ?_ ?_
    · clear hS hE a
      intro own pre x z w lp a hx hS hE
      simp only [alNew, alBx, alEnc, List.cons_append, List.nil_append] at hS hE
      repeat' (first
 | (with_reducible refine wpList_nil ?_)
 | (with_reducible refine then_normal ?_)
 | (with_reducible refine i_seq ?_)
 | ((with_reducible refine ig_region ?_); refine i_region rfl (fun _ _ h => absurd h.1 (by simp)) ?_)
 | ((with_reducible refine g_assign ?_); refine s_assign hE rfl rfl ?_; clear hE a; intro a hE))
      refine ⟨rfl, rfl, z, hE.sub ⟨rfl, rfl, rfl, rfl, rfl, rfl, rfl, rfl, trivial⟩, ?_⟩
      exact (St.selD [1, 1, 1, 0, 0, 0, 0, 0, 0, 0] 0 hS)
    · clear hS hE a
      intro own pre x y w lp a hx hS hE
      obtain ⟨post, hx⟩ := hx
      obtain ⟨hxe, hpl⟩ := alFull_at hx
      rw [← htl, List.length_map] at hpl
      have hky : pre.length + 1 < sls.length := by omega
      have hyb := hsb _ (List.getElem_mem hky)
      have hv1 : (sls.map Sl.v)[((pre.length + 1 : Nat) : Int).toNat * 1]? = some (Value.slice sls[pre.length + 1].A sls[pre.length + 1].b.length sls[pre.length + 1].c) := by
        rw [Int.toNat_natCast, Nat.mul_one, List.getElem?_map, List.getElem?_eq_getElem hky]; rfl
      have hxb : x.2 = sls[pre.length + 1].b := by
        rw [hxe]
        show W.list.tail.getD pre.length [] = _
        rw [← hsl, List.getD_eq_getElem?_getD, List.getElem?_tail, List.getElem?_map, List.getElem?_eq_getElem hky]
        rfl
      have hym := List.getElem_mem hky
      generalize sls[pre.length + 1] = y1 at hyb hv1 hxb hym
      have hx1 : x.1 = pre.length := by rw [hxe]
      obtain ⟨K, hK⟩ : ∃ K, K = pre.length := ⟨_, rfl⟩
      have hpx : (pre ++ [x]).length = K + 1 := by rw [List.length_append, List.length_singleton, hK]
      rw [← hK] at hv1 hx1 hS hky
      rw [hpx]
      obtain ⟨j, b⟩ := x
      dsimp only at hx1 hxb hS hE
      subst hx1
      subst hxb
      clear hxe hpl hpx hK hx
      have e1 : IntKind.i64.wrap ((j : Int) + 1) = ((j + 1 : Nat) : Int) := by rw [wrap64_in (by omega)]; omega
      have ej : ((j : Int) + 1) = ((j + 1 : Nat) : Int) := by omega
      rw [ej] at hE
      simp only [alBx, List.cons_append, List.nil_append] at hS
      repeat' (first
 | (with_reducible refine wpList_nil ?_)
 | (with_reducible refine then_normal ?_)
 | (with_reducible refine i_seq ?_)
 | (with_reducible refine i_block ?_)
 | ((with_reducible refine ig_region ?_); refine i_region rfl (fun _ _ h => h) ?_)
 | ((with_reducible refine g_bin .add ?_); refine s_add hE rfl rfl rfl (by first | exact e1 ) ?_; clear hE a; intro a hE)
 | ((with_reducible refine g_load ?_); (first | (refine s_loadB (k := 4) hS hE rfl rfl rfl rfl ?_) ); clear hE a; intro a hE)
 | ((with_reducible refine g_store ?_); (first | (refine s_storeB (k := 4) hS hE rfl rfl rfl rfl rfl rfl ?_) ); clear hS; intro w hS; simp only [List.set_cons_zero, List.set_cons_succ, Nat.add_zero] at hS))
      refine i_ordH [hBlk g7 3 [.int .i64 ((j + 1 : Nat) : Int)], hBlk g3 66 [.pointer (some ⟨gm, 0, none⟩)], hBlk gm 117 [.pointer (some ⟨gd2, 0, none⟩), .int .i64 (W.area : Int), .int .u32 (W.turn : Int), .slice A1 sls.length c1, .int .i64 (W.fin : Int), .bool W.broken], hRow 34 1 A1 sls.length c1 (sls.map Sl.v)] hS (fun u hu => St.pre (R := _) [hBlk g7 3 [.int .i64 ((j + 1 : Nat) : Int)], hBlk g3 66 [.pointer (some ⟨gm, 0, none⟩)], hBlk gm 117 [.pointer (some ⟨gd2, 0, none⟩), .int .i64 (W.area : Int), .int .u32 (W.turn : Int), .slice A1 sls.length c1, .int .i64 (W.fin : Int), .bool W.broken], hRow 34 1 A1 sls.length c1 (sls.map Sl.v)] (St.selD [4, 5, 5, 5, 0, 0, 0, 0, 0, 0] 0 hu)) 24 ((.rd 0 (.rd 1 (.rd 2 (.rd 3 (.rd 4 (.rd 5 (.rd 6 (.rd 7 (.rd 8 (.rd 9 (.rd 10 (.rd 11 (.rd 12 (.rd 13 (.rd 14 (.rd 15 (.rd 16 (.rd 17 (.rd 18 (.rd 19 (.rd 20 (.ef 21 (.rd 22 (.rd 23 .done))))))))))))))))))))))))) mixed (by decide +kernel) (by decide +kernel) ?_
      clear hS; intro w hF hS
      repeat' (first
 | (with_reducible refine o_rd rfl ?_)
 | ((with_reducible refine q_move ?_); refine d_val hE hS rfl (fun w hS => r_move hE rfl) ?_; clear hE a; intro a hE)
 | ((with_reducible refine q_bin .geq ?_); refine d_val hE hS rfl (fun w hS => r_geq hE rfl rfl) ?_; clear hE a; intro a hE)
 | ((with_reducible refine q_bin .neq ?_); refine d_val hE hS rfl (fun w hS => r_neq hE rfl rfl) ?_; clear hE a; intro a hE)
 | ((with_reducible refine q_blt .len ?_); refine d_val hE hS rfl (fun w hS => r_len hE rfl) ?_; clear hE a; intro a hE)
 | ((with_reducible refine q_fa ?_); refine d_val hE hS rfl (fun w hS => r_fieldL hE rfl rfl) ?_; clear hE a; intro a hE)
 | ((with_reducible refine q_nc ?_); refine d_val hE hS rfl (fun w hS => r_nilCheck hE rfl) ?_; clear hE a; intro a hE)
 | ((with_reducible refine q_guard ?_); refine d_yes hE rfl rfl rfl ?_)
 | ((with_reducible refine q_guard ?_); refine d_dec hE rfl rfl (fun hc hE2 => ?_) (fun hc hE2 => ?_) <;> (try omega) <;> (replace hE := hE2; clear hE2))
 | ((with_reducible refine q_pick ?_); refine d_val hE hS rfl (fun w hS => r_pickF hE rfl rfl) ?_; clear hE a; intro a hE)
 | ((with_reducible refine q_ia ?_); refine d_val hE hS rfl (fun w hS => r_idxR hE rfl rfl (by omega) (by omega) (by (first | exact hS.rdAt (k := 3) rfl )) (by first | omega )) ?_; clear hE a; intro a hE)
 | ((with_reducible refine q_load ?_); refine d_val hE hS rfl (fun w hS => r_loadR hE rfl (by (first | exact hS.rdAt (k := 3) rfl )) (by first | exact hv1)) ?_; clear hE a; intro a hE)
 | ((with_reducible refine q_load ?_); (first | (refine d_val hE hS rfl (fun w hS => r_loadB (k := 0) hS hE rfl rfl rfl) ?_) | (refine d_val hE hS rfl (fun w hS => r_loadB (k := 1) hS hE rfl rfl rfl) ?_) | (refine d_val hE hS rfl (fun w hS => r_loadB (k := 2) hS hE rfl rfl rfl) ?_) ); clear hE a; intro a hE)
 | ((with_reducible refine o_ef rfl ?_)))
      refine gd_yes hE rfl rfl (by decide) ?_
      refine s_call hE rfl rfl rfl (bequal y.1 y1.A _ _ y1.b y1.b _ _ w (hF.rdAt (k := 3) rfl) (wrP_rd (hF.focus (k := 9) rfl) y1 hym) hyb.1 hyb.1 rfl rfl) ?_
      rintro _ w ⟨rfl, hS1⟩; clear hE a; intro a hE; replace hF := hF.frame hS1; clear hS1; simp only [List.nil_append] at hF
      rw [decide_eq_true (rfl : y1.b = y1.b)] at hE
      refine wpList_nil ?_
      refine o_back _ (fun _ h => h) (St.pre (R := _) [hBlk g7 3 [.int .i64 ((j + 1 : Nat) : Int)], hBlk g3 66 [.pointer (some ⟨gm, 0, none⟩)], hBlk gm 117 [.pointer (some ⟨gd2, 0, none⟩), .int .i64 (W.area : Int), .int .u32 (W.turn : Int), .slice A1 sls.length c1, .int .i64 (W.fin : Int), .bool W.broken], hRow 34 1 A1 sls.length c1 (sls.map Sl.v)] (St.selD [4, 5, 5, 5, 0, 0, 0, 0, 0, 0] 0 hF)) ?_
      clear hS; have hS := (St.pre (R := _) [hBlk g7 3 [.int .i64 ((j + 1 : Nat) : Int)], hBlk g3 66 [.pointer (some ⟨gm, 0, none⟩)], hBlk gm 117 [.pointer (some ⟨gd2, 0, none⟩), .int .i64 (W.area : Int), .int .u32 (W.turn : Int), .slice A1 sls.length c1, .int .i64 (W.fin : Int), .bool W.broken], hRow 34 1 A1 sls.length c1 (sls.map Sl.v)] (St.selD [4, 5, 5, 5, 0, 0, 0, 0, 0, 0] 0 hF))
      repeat' (first
 | (with_reducible refine o_rd rfl ?_)
 | (with_reducible refine o_done ?_)
 | ((with_reducible refine q_un .not ?_); refine d_val hE hS rfl (fun w hS => r_notb hE rfl) ?_; clear hE a; intro a hE)
 | ((with_reducible refine q_guard ?_); refine d_yes hE rfl rfl rfl ?_)
 | ((with_reducible refine q_pick ?_); refine d_val hE hS rfl (fun w hS => r_pickF hE rfl rfl) ?_; clear hE a; intro a hE))
      clear hS; have hS := hF; clear hF
      have hybl := hyb.2
      repeat' (first
 | (with_reducible refine wpList_nil ?_)
 | (with_reducible refine then_normal ?_)
 | (with_reducible refine i_seq ?_)
 | (with_reducible refine i_skip ?_)
 | (with_reducible refine i_block ?_)
 | ((with_reducible refine ig_region ?_); refine i_region rfl (fun _ _ h => h) ?_)
 | ((with_reducible refine ig_cond ?_); refine i_false hE rfl ?_)
 | ((with_reducible refine g_move ?_); refine s_move hE rfl rfl ?_; clear hE a; intro a hE)
 | ((with_reducible refine g_blt .len ?_); refine s_len hE rfl rfl ?_; clear hE a; intro a hE))
      have hS2 : St w0 w (hRow 5 1 y.1 y1.b.length y.2 (bys y1.b) :: hBlk g5 35 [.slice A3 sls2.length c3] :: hRow 34 1 A3 sls2.length c3 (sls2.map Sl.v) :: wrP (s :: sls2) :: hBlk g7 3 [.int .i64 ((j + 1 : Nat) : Int)] :: hBlk g6 3 [.int .i64 (r : Int)] :: hBlk g3 66 [.pointer (some ⟨gm, 0, none⟩)] :: hBlk gm 117 [.pointer (some ⟨gd2, 0, none⟩), .int .i64 (W.area : Int), .int .u32 (W.turn : Int), .slice A1 sls.length c1, .int .i64 (W.fin : Int), .bool W.broken] :: hRow 34 1 A1 sls.length c1 (sls.map Sl.v) :: wrP sls :: own) := (St.selD [3, 0, 0, 0, 0, 0, 0, 0, 0, 0] 0 hS)
      clear hS; have hS := hS2; clear hS2
      refine i_loop (fun q2 ds a w => ds = [] ∧ ∃ (i : Nat) (ys : List Nat), i + q2 = y1.b.length ∧ ys.length = y1.b.length ∧ Bs ys ∧ St w0 w (hRow 5 1 y.1 y1.b.length y.2 (bys ys) :: hBlk g5 35 [.slice A3 sls2.length c3] :: hRow 34 1 A3 sls2.length c3 (sls2.map Sl.v) :: wrP (s :: sls2) :: hBlk g7 3 [.int .i64 ((j + 1 : Nat) : Int)] :: hBlk g6 3 [.int .i64 (r : Int)] :: hBlk g3 66 [.pointer (some ⟨gm, 0, none⟩)] :: hBlk gm 117 [.pointer (some ⟨gd2, 0, none⟩), .int .i64 (W.area : Int), .int .u32 (W.turn : Int), .slice A1 sls.length c1, .int .i64 (W.fin : Int), .bool W.broken] :: hRow 34 1 A1 sls.length c1 (sls.map Sl.v) :: wrP sls :: own) ∧
        Env 157 [(9, .slice y.1 y1.b.length y.2), (7, .pointer (some ⟨g7, 0, none⟩)), (6, .pointer (some ⟨g6, 0, none⟩)), (104, .int .i64 (y1.b.length : Int)), (105, .int .i64 (i : Int))] a) y1.b.length ⟨rfl, 0, y1.b, by omega, rfl, hyb.1, hS, hE.sub ⟨rfl, rfl, rfl, rfl, rfl, trivial⟩⟩ ?_
      clear hE a hS
      rintro q2 ds a w ⟨rfl, i, ys, hi, hyl, hyb2, hS, hE⟩
      have hbl : (bys ys).length = y1.b.length := by rw [bys_length, hyl]
      by_cases hi1 : i < y1.b.length
      · have hiy : i < ys.length := by omega
        have hg := bys_getM hiy
        have hxb := hyb2.get hiy
        have exo := xor_u8 (b := 238) hxb (by decide)
        repeat' (first
 | (with_reducible refine wpList_nil ?_)
 | (with_reducible refine then_normal ?_)
 | (with_reducible refine block_normal ?_)
 | (with_reducible refine i_seq ?_)
 | (with_reducible refine i_skip ?_)
 | (with_reducible refine i_block ?_)
 | ((with_reducible refine ig_region ?_); refine i_region rfl (fun _ _ h => h) ?_)
 | ((with_reducible refine ig_cond ?_); refine i_dec hE rfl (fun hc => ?_) (fun hc => ?_) <;> try omega)
 | ((with_reducible refine g_move ?_); refine s_move hE rfl rfl ?_; clear hE a; intro a hE)
 | ((with_reducible refine g_assign ?_); refine s_assign hE rfl rfl ?_; clear hE a; intro a hE)
 | ((with_reducible refine g_bin .lss ?_); refine s_lss hE rfl rfl rfl ?_; clear hE a; intro a hE)
 | ((with_reducible refine g_bin .add ?_); refine s_add hE rfl rfl rfl (by first | exact wrap64_in (by omega) ) ?_; clear hE a; intro a hE)
 | ((with_reducible refine g_bin .xor ?_); refine s_xor hE rfl rfl rfl (by first | exact exo ) ?_; clear hE a; intro a hE)
 | ((with_reducible refine g_ia ?_); refine s_idxR hE rfl rfl (by omega) (by omega) (by (first | exact hS.rd )) (by first | omega ) rfl ?_; clear hE a; intro a hE)
 | ((with_reducible refine g_load ?_); refine s_loadR hE rfl (by (first | exact hS.rd )) (by first | exact hg ) rfl ?_; clear hE a; intro a hE)
 | ((with_reducible refine g_store ?_); (first | (refine s_storeR1 (k := 0) hS hE rfl rfl rfl rfl (by first | omega ) rfl ?_) ); clear hS; intro w hS; simp only [List.set_cons_zero, List.set_cons_succ, Nat.add_zero] at hS))
        rw [Int.toNat_natCast, Nat.mul_one, bys_set] at hS
        refine ⟨q2 - 1, by omega, rfl, i + 1, ys.set i (ys[i] ^^^ 238), by omega, by rw [List.length_set]; exact hyl, ?_, hS, hE.sub ⟨rfl, rfl, rfl, rfl, rfl, trivial⟩⟩
        intro x hx
        rcases List.mem_or_eq_of_mem_set hx with hx | hx
        · exact hyb2 x hx
        · subst hx
          exact Nat.xor_lt_two_pow (n := 8) hxb (by decide)
      · by_cases hst : r = 1 ∧ j = 1
        · obtain ⟨rfl, rfl⟩ := hst
          repeat' (first
 | (with_reducible refine wpList_nil ?_)
 | (with_reducible refine then_normal ?_)
 | (with_reducible refine then_exit ?_)
 | (with_reducible refine block_same ?_)
 | ((with_reducible refine block_other ?_ ?_); rfl)
 | (with_reducible refine i_seq ?_)
 | (with_reducible refine i_exit ?_)
 | ((with_reducible refine ig_region ?_); refine i_region rfl (fun _ _ h => h) ?_)
 | ((with_reducible refine ig_cond ?_); refine i_true hE rfl ?_)
 | ((with_reducible refine ig_cond ?_); refine i_dec hE rfl (fun hc => ?_) (fun hc => ?_) <;> try omega)
 | ((with_reducible refine g_move ?_); refine s_move hE rfl rfl ?_; clear hE a; intro a hE)
 | ((with_reducible refine g_bin .lss ?_); refine s_lss hE rfl rfl rfl ?_; clear hE a; intro a hE)
 | ((with_reducible refine g_bin .eql ?_); refine s_eql hE rfl rfl rfl ?_; clear hE a; intro a hE)
 | ((with_reducible refine g_guard ?_); refine gd_yes hE rfl rfl rfl ?_)
 | ((with_reducible refine g_pick ?_); refine s_pickT hE rfl rfl rfl ?_; clear hE a; intro a hE)
 | ((with_reducible refine g_load ?_); (first | (refine s_loadB (k := 4) hS hE rfl rfl rfl rfl ?_) | (refine s_loadB (k := 5) hS hE rfl rfl rfl rfl ?_) ); clear hE a; intro a hE))
          have h1 := hS.tail.pureI (p := (some 2 : Option Nat) = some 2 ∧ (1 : Nat) = 1) ⟨rfl, rfl⟩
          exact (St.selD [1, 1, 1, 0, 0, 0, 0, 0, 0, 0] 0 h1)
        · repeat' (first
 | (with_reducible refine wpList_nil ?_)
 | (with_reducible refine then_normal ?_)
 | (with_reducible refine block_normal ?_)
 | (with_reducible refine then_exit ?_)
 | (with_reducible refine block_same ?_)
 | (with_reducible refine i_seq ?_)
 | (with_reducible refine i_skip ?_)
 | (with_reducible refine i_exit ?_)
 | ((with_reducible refine ig_region ?_); refine i_region rfl (fun _ _ h => h) ?_)
 | ((with_reducible refine ig_cond ?_); refine i_false hE rfl ?_)
 | ((with_reducible refine ig_cond ?_); refine i_dec hE rfl (fun hc => ?_) (fun hc => ?_) <;> try omega)
 | ((with_reducible refine g_move ?_); refine s_move hE rfl rfl ?_; clear hE a; intro a hE)
 | ((with_reducible refine g_bin .lss ?_); refine s_lss hE rfl rfl rfl ?_; clear hE a; intro a hE)
 | ((with_reducible refine g_bin .eql ?_); refine s_eql hE rfl rfl rfl ?_; clear hE a; intro a hE)
 | ((with_reducible refine g_guard ?_); refine gd_yes hE rfl rfl rfl ?_)
 | ((with_reducible refine g_guard ?_); refine gd_no hE rfl rfl rfl rfl ?_; clear hE a; intro a hE)
 | ((with_reducible refine g_guard ?_); refine gd_dec hE rfl rfl (fun hc hE2 => ?_) (fun hc hE2 => ?_) <;> (try omega) <;> (replace hE := hE2; clear hE2))
 | ((with_reducible refine g_pick ?_); refine s_pickT hE rfl rfl rfl ?_; clear hE a; intro a hE)
 | ((with_reducible refine g_pick ?_); refine s_pickF hE rfl rfl rfl ?_; clear hE a; intro a hE)
 | ((with_reducible refine g_load ?_); (first | (refine s_loadB (k := 4) hS hE rfl rfl rfl rfl ?_) | (refine s_loadB (k := 5) hS hE rfl rfl rfl rfl ?_) ); clear hE a; intro a hE))
          all_goals exact hS.tail
    · clear hS
      intro D w hS
      rw [alFull_len, List.length_tail, ← hsll] at hS
      simp only [alBx, List.cons_append, List.nil_append] at hS
      have hS2 : St w0 w (hBlk g7 3 [.int .i64 ((sls.length - 1 : Nat) : Int)] :: hBlk g6 3 [.int .i64 (r : Int)] :: hBlk g3 66 [.pointer (some ⟨gm, 0, none⟩)] :: hBlk gm 117 [.pointer (some ⟨gd2, 0, none⟩), .int .i64 (W.area : Int), .int .u32 (W.turn : Int), .slice A1 sls.length c1, .int .i64 (W.fin : Int), .bool W.broken] :: hRow 34 1 A1 sls.length c1 (sls.map Sl.v) :: wrP sls :: hBlk g4 4 [.bool false] :: hMarks (D :: Ds) :: hBlk gw 89 [.pointer (some ⟨gd, 0, none⟩), .int .i64 (W.area : Int), .int .u32 (W.turn : Int), .slice A6 (s :: sls2).length c6, .int .i64 (W.fin : Int), .bool W.broken] :: hRow 34 1 A6 (s :: sls2).length c6 ((s :: sls2).map Sl.v) :: hBlk g5 35 [.slice A3 sls2.length c3] :: hRow 34 1 A3 sls2.length c3 (sls2.map Sl.v) :: wrP (s :: sls2) :: H) := by
        have h1 := St.marks2 (St.selD [0, 10, 0, 0, 0, 0, 0, 0, 0, 0, 0, 0, 0, 0] 0 hS)
        exact (St.selD [4, 4, 4, 4, 4, 4, 4, 0, 3, 3, 0, 0, 0] 0 h1)
      clear hS; have hS := hS2; clear hS2
      repeat' (first
 | (with_reducible refine then_normal ?_)
 | (with_reducible refine block_normal ?_)
 | (with_reducible refine i_seq ?_))
      refine i_ordH [hBlk g7 3 [.int .i64 ((sls.length - 1 : Nat) : Int)], hBlk g6 3 [.int .i64 (r : Int)], hBlk g3 66 [.pointer (some ⟨gm, 0, none⟩)], hBlk gm 117 [.pointer (some ⟨gd2, 0, none⟩), .int .i64 (W.area : Int), .int .u32 (W.turn : Int), .slice A1 sls.length c1, .int .i64 (W.fin : Int), .bool W.broken]] hS (fun u hu => St.pre (R := _) [hBlk g7 3 [.int .i64 ((sls.length - 1 : Nat) : Int)], hBlk g6 3 [.int .i64 (r : Int)], hBlk g3 66 [.pointer (some ⟨gm, 0, none⟩)], hBlk gm 117 [.pointer (some ⟨gd2, 0, none⟩), .int .i64 (W.area : Int), .int .u32 (W.turn : Int), .slice A1 sls.length c1, .int .i64 (W.fin : Int), .bool W.broken]] hu) 12 ((.rd 0 (.rd 1 (.rd 2 (.rd 3 (.rd 4 (.rd 5 (.rd 6 (.rd 7 (.rd 8 (.rd 9 (.rd 10 (.rd 11 .done))))))))))))) mixed (by decide +kernel) (by decide +kernel) ?_
      clear hS; intro w hF hS
      have e2 : ((sls.length - 1 : Nat) : Int) = (sls.length : Int) - 1 := by omega
      by_cases hr0 : r = 0
      · repeat' (first
 | (with_reducible refine o_rd rfl ?_)
 | (with_reducible refine o_done ?_)
 | ((with_reducible refine q_move ?_); refine d_val hE hS rfl (fun w hS => r_move hE rfl) ?_; clear hE a; intro a hE)
 | ((with_reducible refine q_bin .eql ?_); refine d_val hE hS rfl (fun w hS => r_eql hE rfl rfl) ?_; clear hE a; intro a hE)
 | ((with_reducible refine q_bin .neq ?_); refine d_val hE hS rfl (fun w hS => r_neq hE rfl rfl) ?_; clear hE a; intro a hE)
 | ((with_reducible refine q_bin .sub ?_); refine d_val hE hS rfl (fun w hS => r_sub hE rfl rfl (by first  | exact wrap64_in (by omega) )) ?_; clear hE a; intro a hE)
 | ((with_reducible refine q_blt .len ?_); refine d_val hE hS rfl (fun w hS => r_len hE rfl) ?_; clear hE a; intro a hE)
 | ((with_reducible refine q_fa ?_); refine d_val hE hS rfl (fun w hS => r_fieldL hE rfl rfl) ?_; clear hE a; intro a hE)
 | ((with_reducible refine q_nc ?_); refine d_val hE hS rfl (fun w hS => r_nilCheck hE rfl) ?_; clear hE a; intro a hE)
 | ((with_reducible refine q_guard ?_); refine d_yes hE rfl rfl rfl ?_)
 | ((with_reducible refine q_guard ?_); refine d_dec hE rfl rfl (fun hc hE2 => ?_) (fun hc hE2 => ?_) <;> (try omega) <;> (replace hE := hE2; clear hE2))
 | ((with_reducible refine q_pick ?_); refine d_val hE hS rfl (fun w hS => r_pickT hE rfl rfl) ?_; clear hE a; intro a hE)
 | ((with_reducible refine q_load ?_); (first | (refine d_val hE hS rfl (fun w hS => r_loadB (k := 0) hS hE rfl rfl rfl) ?_) | (refine d_val hE hS rfl (fun w hS => r_loadB (k := 1) hS hE rfl rfl rfl) ?_) | (refine d_val hE hS rfl (fun w hS => r_loadB (k := 2) hS hE rfl rfl rfl) ?_) | (refine d_val hE hS rfl (fun w hS => r_loadB (k := 3) hS hE rfl rfl rfl) ?_) ); clear hE a; intro a hE))
        clear hS; have hS := hF; clear hF
        repeat' (first
 | (with_reducible refine wpList_nil ?_)
 | (with_reducible refine then_normal ?_)
 | (with_reducible refine block_normal ?_)
 | (with_reducible refine i_seq ?_)
 | (with_reducible refine i_skip ?_)
 | ((with_reducible refine ig_region ?_); refine i_region rfl (fun _ _ h => h) ?_)
 | ((with_reducible refine ig_cond ?_); refine i_dec hE rfl (fun hc => ?_) (fun hc => ?_) <;> try omega)
 | ((with_reducible refine g_bin .add ?_); refine s_add hE rfl rfl rfl (by first  | exact wrap64_in (by omega) ) ?_; clear hE a; intro a hE)
 | ((with_reducible refine g_load ?_); (first | (refine s_loadB (k := 0) hS hE rfl rfl rfl rfl ?_) | (refine s_loadB (k := 1) hS hE rfl rfl rfl rfl ?_) ); clear hE a; intro a hE)
 | ((with_reducible refine g_store ?_); (first | (refine s_storeB (k := 0) hS hE rfl rfl rfl rfl rfl rfl ?_) ); clear hS; intro w hS; simp only [List.set_cons_zero, List.set_cons_succ, Nat.add_zero] at hS)
 | ((with_reducible refine g_alloc ?_); refine s_alloc1 hE hS rfl rfl ?_; clear hE a hS; intro g a w hE hS))
        have er : ((r : Int) + 1) = ((r + 1 : Nat) : Int) := by omega
        rw [er] at hS
        refine ⟨q - 1, by omega, r + 1, g, D :: Ds, rfl, by omega, ?_, hE.sub ⟨rfl, rfl, rfl, rfl, rfl, trivial⟩⟩
        simp only [alBx, List.cons_append, List.nil_append]
        exact (St.selD [11, 11, 11, 0, 2, 2, 2, 2, 2, 2, 2, 2] 2 hS)
      · repeat' (first
 | (with_reducible refine o_rd rfl ?_)
 | (with_reducible refine o_done ?_)
 | ((with_reducible refine q_move ?_); refine d_val hE hS rfl (fun w hS => r_move hE rfl) ?_; clear hE a; intro a hE)
 | ((with_reducible refine q_bin .eql ?_); refine d_val hE hS rfl (fun w hS => r_eql hE rfl rfl) ?_; clear hE a; intro a hE)
 | ((with_reducible refine q_guard ?_); refine d_no hE hS rfl rfl rfl rfl ?_; clear hE a; intro a hE)
 | ((with_reducible refine q_guard ?_); refine d_dec hE rfl rfl (fun hc hE2 => ?_) (fun hc hE2 => ?_) <;> (try omega) <;> (replace hE := hE2; clear hE2))
 | ((with_reducible refine q_pick ?_); refine d_val hE hS rfl (fun w hS => r_pickF hE rfl rfl) ?_; clear hE a; intro a hE)
 | ((with_reducible refine q_load ?_); (first | (refine d_val hE hS rfl (fun w hS => r_loadB (k := 1) hS hE rfl rfl rfl) ?_) ); clear hE a; intro a hE))
        clear hS; have hS := hF; clear hF
        repeat' (first
 | (with_reducible refine wpList_nil ?_)
 | (with_reducible refine then_normal ?_)
 | (with_reducible refine block_normal ?_)
 | (with_reducible refine i_seq ?_)
 | (with_reducible refine i_skip ?_)
 | ((with_reducible refine ig_region ?_); refine i_region rfl (fun _ _ h => h) ?_)
 | ((with_reducible refine ig_cond ?_); refine i_false hE rfl ?_)
 | ((with_reducible refine g_bin .add ?_); refine s_add hE rfl rfl rfl (by first  | exact wrap64_in (by omega) ) ?_; clear hE a; intro a hE)
 | ((with_reducible refine g_load ?_); (first | (refine s_loadB (k := 0) hS hE rfl rfl rfl rfl ?_) | (refine s_loadB (k := 1) hS hE rfl rfl rfl rfl ?_) ); clear hE a; intro a hE)
 | ((with_reducible refine g_store ?_); (first | (refine s_storeB (k := 0) hS hE rfl rfl rfl rfl rfl rfl ?_) ); clear hS; intro w hS; simp only [List.set_cons_zero, List.set_cons_succ, Nat.add_zero] at hS)
 | ((with_reducible refine g_alloc ?_); refine s_alloc1 hE hS rfl rfl ?_; clear hE a hS; intro g a w hE hS))
        have er : ((r : Int) + 1) = ((r + 1 : Nat) : Int) := by omega
        rw [er] at hS
        refine ⟨q - 1, by omega, r + 1, g, D :: Ds, rfl, by omega, ?_, hE.sub ⟨rfl, rfl, rfl, rfl, rfl, trivial⟩⟩
        simp only [alBx, List.cons_append, List.nil_append]
        exact (St.selD [11, 11, 11, 0, 2, 2, 2, 2, 2, 2, 2, 2] 2 hS)
    · intro j D pre x post w hx hS
      simp only [alBx, List.cons_append, List.nil_append] at hS
      obtain ⟨rfl, hr1⟩ := (hS.focus (k := 4) rfl).pure
      generalize (pre ++ [x]).length = nl at hS
      have hS2 : St w0 w (hBlk g7 3 [.int .i64 (nl : Int)] :: hBlk g6 3 [.int .i64 (r : Int)] :: hBlk g3 66 [.pointer (some ⟨gm, 0, none⟩)] :: hBlk gm 117 [.pointer (some ⟨gd2, 0, none⟩), .int .i64 (W.area : Int), .int .u32 (W.turn : Int), .slice A1 sls.length c1, .int .i64 (W.fin : Int), .bool W.broken] :: hRow 34 1 A1 sls.length c1 (sls.map Sl.v) :: wrP sls :: hBlk g4 4 [.bool false] :: hMarks (D :: Ds) :: hBlk gw 89 [.pointer (some ⟨gd, 0, none⟩), .int .i64 (W.area : Int), .int .u32 (W.turn : Int), .slice A6 (s :: sls2).length c6, .int .i64 (W.fin : Int), .bool W.broken] :: hRow 34 1 A6 (s :: sls2).length c6 ((s :: sls2).map Sl.v) :: hBlk g5 35 [.slice A3 sls2.length c3] :: hRow 34 1 A3 sls2.length c3 (sls2.map Sl.v) :: wrP (s :: sls2) :: H) := by
        have h1 := St.marks2 (St.selD [0, 11, 0, 0, 0, 1, 1, 1, 1, 1, 1, 1, 1, 1] 1 hS)
        exact (St.selD [4, 4, 4, 4, 4, 4, 4, 0, 3, 3, 0, 0, 0] 0 h1)
      clear hS; have hS := hS2; clear hS2
      show Exit.inBlock 2 _ (.exit 2) a w
      repeat' (first
 | (with_reducible refine then_normal ?_)
 | (with_reducible refine block_same ?_)
 | (with_reducible refine i_seq ?_))
      refine i_ordH [hBlk g7 3 [.int .i64 (nl : Int)], hBlk g6 3 [.int .i64 (r : Int)], hBlk g3 66 [.pointer (some ⟨gm, 0, none⟩)], hBlk gm 117 [.pointer (some ⟨gd2, 0, none⟩), .int .i64 (W.area : Int), .int .u32 (W.turn : Int), .slice A1 sls.length c1, .int .i64 (W.fin : Int), .bool W.broken]] hS (fun u hu => St.pre (R := _) [hBlk g7 3 [.int .i64 (nl : Int)], hBlk g6 3 [.int .i64 (r : Int)], hBlk g3 66 [.pointer (some ⟨gm, 0, none⟩)], hBlk gm 117 [.pointer (some ⟨gd2, 0, none⟩), .int .i64 (W.area : Int), .int .u32 (W.turn : Int), .slice A1 sls.length c1, .int .i64 (W.fin : Int), .bool W.broken]] hu) 12 ((.rd 0 (.rd 1 (.rd 2 (.rd 3 (.rd 4 (.rd 5 (.rd 6 (.rd 7 (.rd 8 (.rd 9 (.rd 10 (.rd 11 .done))))))))))))) mixed (by decide +kernel) (by decide +kernel) ?_
      clear hS; intro w hF hS
      have hr0 : ¬ r = 0 := by omega
      repeat' (first
 | (with_reducible refine o_rd rfl ?_)
 | (with_reducible refine o_done ?_)
 | ((with_reducible refine q_move ?_); refine d_val hE hS rfl (fun w hS => r_move hE rfl) ?_; clear hE a; intro a hE)
 | ((with_reducible refine q_bin .eql ?_); refine d_val hE hS rfl (fun w hS => r_eql hE rfl rfl) ?_; clear hE a; intro a hE)
 | ((with_reducible refine q_guard ?_); refine d_no hE hS rfl rfl rfl rfl ?_; clear hE a; intro a hE)
 | ((with_reducible refine q_guard ?_); refine d_dec hE rfl rfl (fun hc hE2 => ?_) (fun hc hE2 => ?_) <;> (try omega) <;> (replace hE := hE2; clear hE2))
 | ((with_reducible refine q_pick ?_); refine d_val hE hS rfl (fun w hS => r_pickF hE rfl rfl) ?_; clear hE a; intro a hE)
 | ((with_reducible refine q_load ?_); (first | (refine d_val hE hS rfl (fun w hS => r_loadB (k := 1) hS hE rfl rfl rfl) ?_) ); clear hE a; intro a hE))
      clear hS; have hS := hF; clear hF
      repeat' (first
 | (with_reducible refine wpList_nil ?_)
 | (with_reducible refine then_normal ?_)
 | (with_reducible refine block_normal ?_)
 | (with_reducible refine i_seq ?_)
 | (with_reducible refine i_skip ?_)
 | ((with_reducible refine ig_region ?_); refine i_region rfl (fun _ _ h => h) ?_)
 | ((with_reducible refine ig_cond ?_); refine i_false hE rfl ?_)
 | ((with_reducible refine g_bin .add ?_); refine s_add hE rfl rfl rfl (by first  | exact wrap64_in (by omega) ) ?_; clear hE a; intro a hE)
 | ((with_reducible refine g_load ?_); (first | (refine s_loadB (k := 0) hS hE rfl rfl rfl rfl ?_) | (refine s_loadB (k := 1) hS hE rfl rfl rfl rfl ?_) ); clear hE a; intro a hE)
 | ((with_reducible refine g_store ?_); (first | (refine s_storeB (k := 0) hS hE rfl rfl rfl rfl rfl rfl ?_) ); clear hS; intro w hS; simp only [List.set_cons_zero, List.set_cons_succ, Nat.add_zero] at hS)
 | ((with_reducible refine g_alloc ?_); refine s_alloc1 hE hS rfl rfl ?_; clear hE a hS; intro g a w hE hS))
      have er : ((r : Int) + 1) = ((r + 1 : Nat) : Int) := by omega
      rw [er] at hS
      refine ⟨q - 1, by omega, r + 1, g, D :: Ds, rfl, by omega, ?_, hE.sub ⟨rfl, rfl, rfl, rfl, rfl, trivial⟩⟩
      simp only [alBx, List.cons_append, List.nil_append]
      exact (St.selD [11, 11, 11, 0, 2, 2, 2, 2, 2, 2, 2, 2] 2 hS)
  · obtain rfl : r = 2 := by omega
    simp only [alBx, List.cons_append, List.nil_append] at hS
    repeat' (first
 | (with_reducible refine wpList_nil ?_)
 | (with_reducible refine then_normal ?_)
 | (with_reducible refine then_exit ?_)
 | (with_reducible refine block_same ?_)
 | (with_reducible refine i_seq ?_)
 | (with_reducible refine i_exit ?_)
 | ((with_reducible refine ig_region ?_); refine i_region rfl (fun _ _ h => h) ?_)
 | ((with_reducible refine ig_cond ?_); refine i_false hE rfl ?_)
 | ((with_reducible refine g_move ?_); refine s_move hE rfl rfl ?_; clear hE a; intro a hE)
 | ((with_reducible refine g_bin .lss ?_); refine s_lss hE rfl rfl rfl ?_; clear hE a; intro a hE)
 | ((with_reducible refine g_load ?_); (first | (refine s_loadB (k := 3) hS hE rfl rfl rfl rfl ?_) ); clear hE a; intro a hE))
    have hS2 := hWl_close (W := W) hsl2 (St.selD [10, 10, 2, 3, 3, 3, 3, 3, 3] 3 hS)
    clear hS
    have hS : St w0 w (hWl gw gd W :: hBlk g3 66 [.pointer (some ⟨gm, 0, none⟩)] :: hBlk gm 117 [.pointer (some ⟨gd2, 0, none⟩), .int .i64 (W.area : Int), .int .u32 (W.turn : Int), .slice A1 sls.length c1, .int .i64 (W.fin : Int), .bool W.broken] :: hRow 34 1 A1 sls.length c1 (sls.map Sl.v) :: wrP sls :: hBlk g4 4 [.bool false] :: hMarks Ds :: H) := hS2
    clear hS2
    refine s_call hE rfl rfl rfl (ksnap hW hS) ?_
    rintro _ w ⟨A9, c9, rfl, hS⟩; clear hE a; intro a hE
    have hbl0 : (W.list.headD []).length ≤ 40000 := by rw [hhd]; exact hs0b.2
    repeat' (first
 | (with_reducible refine wpList_nil ?_)
 | (with_reducible refine then_normal ?_)
 | (with_reducible refine i_seq ?_)
 | (with_reducible refine i_block ?_)
 | ((with_reducible refine ig_region ?_); refine i_region rfl (fun _ _ h => h) ?_)
 | ((with_reducible refine g_move ?_); refine s_move hE rfl rfl ?_; clear hE a; intro a hE)
 | ((with_reducible refine g_assign ?_); refine s_assign hE rfl rfl ?_; clear hE a; intro a hE)
 | ((with_reducible refine g_blt .len ?_); refine s_len hE rfl rfl ?_; clear hE a; intro a hE))
    refine i_loop (fun q2 ds a w => ds = Ds.map mark ∧ ∃ (i : Nat) (ys : List Nat), i + q2 = (W.list.headD []).length ∧ ys.length = (W.list.headD []).length ∧ Bs ys ∧ St w0 w (hRow 5 1 A9 (W.list.headD []).length c9 (bys ys) :: hWl gw gd W :: hBlk g3 66 [.pointer (some ⟨gm, 0, none⟩)] :: hBlk gm 117 [.pointer (some ⟨gd2, 0, none⟩), .int .i64 (W.area : Int), .int .u32 (W.turn : Int), .slice A1 sls.length c1, .int .i64 (W.fin : Int), .bool W.broken] :: hRow 34 1 A1 sls.length c1 (sls.map Sl.v) :: wrP sls :: hBlk g4 4 [.bool false] :: hMarks Ds :: H) ∧
      Env 157 [(0, .pointer (some ⟨gw, 0, none⟩)), (3, .pointer (some ⟨g3, 0, none⟩)), (4, .pointer (some ⟨g4, 0, none⟩)), (11, .slice A9 (W.list.headD []).length c9), (137, .int .i64 ((W.list.headD []).length : Int)), (138, .int .i64 (i : Int))] a) (W.list.headD []).length ⟨rfl, 0, W.list.headD [], by omega, rfl, hbsW.1, hS, hE.sub ⟨rfl, rfl, rfl, rfl, rfl, rfl, trivial⟩⟩ ?_
    clear hE a hS
    rintro q2 ds a w ⟨rfl, i, ys, hi, hyl, hyb2, hS, hE⟩
    have hbl : (bys ys).length = (W.list.headD []).length := by rw [bys_length, hyl]
    by_cases hi1 : i < (W.list.headD []).length
    · have hiy : i < ys.length := by omega
      have hg := bys_getM hiy
      have hxb := hyb2.get hiy
      have exo := xor_u8 (b := 238) hxb (by decide)
      repeat' (first
 | (with_reducible refine wpList_nil ?_)
 | (with_reducible refine then_normal ?_)
 | (with_reducible refine block_normal ?_)
 | (with_reducible refine i_seq ?_)
 | (with_reducible refine i_skip ?_)
 | (with_reducible refine i_block ?_)
 | ((with_reducible refine ig_region ?_); refine i_region rfl (fun _ _ h => h) ?_)
 | ((with_reducible refine ig_cond ?_); refine i_dec hE rfl (fun hc => ?_) (fun hc => ?_) <;> try omega)
 | ((with_reducible refine g_move ?_); refine s_move hE rfl rfl ?_; clear hE a; intro a hE)
 | ((with_reducible refine g_assign ?_); refine s_assign hE rfl rfl ?_; clear hE a; intro a hE)
 | ((with_reducible refine g_bin .lss ?_); refine s_lss hE rfl rfl rfl ?_; clear hE a; intro a hE)
 | ((with_reducible refine g_bin .add ?_); refine s_add hE rfl rfl rfl (by first | exact wrap64_in (by omega) ) ?_; clear hE a; intro a hE)
 | ((with_reducible refine g_bin .xor ?_); refine s_xor hE rfl rfl rfl (by first | exact exo ) ?_; clear hE a; intro a hE)
 | ((with_reducible refine g_ia ?_); refine s_idxR hE rfl rfl (by omega) (by omega) (by (first | exact hS.rd )) (by first | omega ) rfl ?_; clear hE a; intro a hE)
 | ((with_reducible refine g_load ?_); refine s_loadR hE rfl (by (first | exact hS.rd )) (by first | exact hg ) rfl ?_; clear hE a; intro a hE)
 | ((with_reducible refine g_store ?_); (first | (refine s_storeR1 (k := 0) hS hE rfl rfl rfl rfl (by first | omega ) rfl ?_) ); clear hS; intro w hS; simp only [List.set_cons_zero, List.set_cons_succ, Nat.add_zero] at hS))
      rw [Int.toNat_natCast, Nat.mul_one, bys_set] at hS
      refine ⟨q2 - 1, by omega, rfl, i + 1, ys.set i (ys[i] ^^^ 238), by omega, by rw [List.length_set]; exact hyl, ?_, hS, hE.sub ⟨rfl, rfl, rfl, rfl, rfl, rfl, trivial⟩⟩
      intro x hx
      rcases List.mem_or_eq_of_mem_set hx with hx | hx
      · exact hyb2 x hx
      · subst hx
        exact Nat.xor_lt_two_pow (n := 8) hxb (by decide)
    · repeat' (first
 | (with_reducible refine wpList_nil ?_)
 | (with_reducible refine then_normal ?_)
 | (with_reducible refine then_exit ?_)
 | (with_reducible refine block_same ?_)
 | (with_reducible refine i_seq ?_)
 | (with_reducible refine i_exit ?_)
 | ((with_reducible refine ig_region ?_); refine i_region rfl (fun _ _ h => h) ?_)
 | ((with_reducible refine ig_cond ?_); refine i_dec hE rfl (fun hc => ?_) (fun hc => ?_) <;> try omega)
 | ((with_reducible refine g_bin .lss ?_); refine s_lss hE rfl rfl rfl ?_; clear hE a; intro a hE))
      have hS2 : St w0 w (hBlk g3 66 [.pointer (some ⟨gm, 0, none⟩)] :: hBlk gm 117 [.pointer (some ⟨gd2, 0, none⟩), .int .i64 (W.area : Int), .int .u32 (W.turn : Int), .slice A1 sls.length c1, .int .i64 (W.fin : Int), .bool W.broken] :: hRow 34 1 A1 sls.length c1 (sls.map Sl.v) :: wrP sls :: hBlk g4 4 [.bool false] :: hWl gw gd W :: hMarks Ds :: H) := (St.selD [2, 2, 2, 2, 2, 1, 1] 1 hS)
      clear hS; have hS := hS2; clear hS2
      refine i_ordH [hBlk g3 66 [.pointer (some ⟨gm, 0, none⟩)], hBlk gm 117 [.pointer (some ⟨gd2, 0, none⟩), .int .i64 (W.area : Int), .int .u32 (W.turn : Int), .slice A1 sls.length c1, .int .i64 (W.fin : Int), .bool W.broken], hRow 34 1 A1 sls.length c1 (sls.map Sl.v)] hS (fun u hu => hu.keep3) 9 ((.rd 0 (.rd 2 (.rd 3 (.rd 4 (.rd 5 (.rd 6 (.rd 7 (.ef 1 (.ef 8 (.lt 9 .done))))))))))) mixed (by decide +kernel) (by decide +kernel) ?_
      clear hS; intro w hF hS
      repeat' (first
 | (with_reducible refine o_rd rfl ?_)
 | ((with_reducible refine q_move ?_); refine d_val hE hS rfl (fun w hS => r_move hE rfl) ?_; clear hE a; intro a hE)
 | ((with_reducible refine q_fa ?_); refine d_val hE hS rfl (fun w hS => r_fieldL hE rfl rfl) ?_; clear hE a; intro a hE)
 | ((with_reducible refine q_nc ?_); refine d_val hE hS rfl (fun w hS => r_nilCheck hE rfl) ?_; clear hE a; intro a hE)
 | ((with_reducible refine q_ia ?_); refine d_val hE hS rfl (fun w hS => r_idxR hE rfl rfl (by omega) (by omega) (by (first | exact hS.rdAt (k := 2) rfl )) (by first | omega )) ?_; clear hE a; intro a hE)
 | ((with_reducible refine q_load ?_); refine d_val hE hS rfl (fun w hS => r_loadR hE rfl (by (first | exact hS.rdAt (k := 2) rfl )) (by first | exact hv0)) ?_; clear hE a; intro a hE)
 | ((with_reducible refine q_load ?_); (first | (refine d_val hE hS rfl (fun w hS => r_loadB (k := 0) hS hE rfl rfl rfl) ?_) | (refine d_val hE hS rfl (fun w hS => r_loadB (k := 1) hS hE rfl rfl rfl) ?_) ); clear hE a; intro a hE)
 | ((with_reducible refine o_ef rfl ?_)))
      refine s_call hE rfl rfl rfl (ksnap hW (hF.focus (k := 5) rfl)) ?_
      rintro _ w ⟨A10, c10, rfl, hF⟩; clear hE a; intro a hE
      simp only [List.eraseIdx_cons_succ, List.eraseIdx_cons_zero] at hF
      have hF2 : St w0 w (hBlk g3 66 [.pointer (some ⟨gm, 0, none⟩)] :: hBlk gm 117 [.pointer (some ⟨gd2, 0, none⟩), .int .i64 (W.area : Int), .int .u32 (W.turn : Int), .slice A1 sls.length c1, .int .i64 (W.fin : Int), .bool W.broken] :: hRow 34 1 A1 sls.length c1 (sls.map Sl.v) :: wrP sls :: hBlk g4 4 [.bool false] :: hWl gw gd W :: hMarks Ds :: hRow 5 1 A10 (W.list.headD []).length c10 (bys (W.list.headD [])) :: H) := (St.selD [2, 2, 2, 2, 2, 1, 1, 0] 0 hF)
      clear hF; have hF := hF2; clear hF2
      refine wpList_nil ?_
      refine o_back _ (fun _ h => h) hF.keep3 ?_
      clear hS; have hS := hF.keep3
      repeat' (first
 | ((with_reducible refine o_ef rfl ?_)))
      have hrd1 : Rd w s0.A (bys s0.b) := wrP_rd (hF.focus (k := 3) rfl) s0 (by rw [hs0]; exact List.mem_cons_self ..)
      refine s_call hE rfl rfl rfl (bequal A10 s0.A _ _ (W.list.headD []) s0.b _ _ w (hF.rdAt (k := 7) rfl) hrd1 hbsW.1 hs0b.1 rfl rfl) ?_
      rintro _ w ⟨rfl, hS1⟩; clear hE a; intro a hE; replace hF := hF.frame hS1; clear hS1; simp only [List.nil_append] at hF
      rw [decide_eq_true hhd] at hE
      refine wpList_nil ?_
      refine o_back _ (fun _ h => h) hF.keep3 ?_
      clear hS; have hS := hF.keep3
      repeat' (first
 | ((with_reducible refine o_lt rfl ?_)))
      clear hS; have hS := hF; clear hF
      repeat' (first
 | (with_reducible refine wpList_nil ?_)
 | ((with_reducible refine g_store ?_); (first | (refine s_storeB (k := 4) hS hE rfl rfl rfl rfl rfl rfl ?_) ); clear hS; intro w hS; simp only [List.set_cons_zero, List.set_cons_succ, Nat.add_zero] at hS))
      refine o_backL ?_
      repeat' (first
 | (with_reducible refine o_done ?_))
      repeat' (first
 | (with_reducible refine then_normal ?_)
 | (with_reducible refine i_ret ?_))
      have hS3 := hS.focus (k := 6) rfl
      simp only [List.eraseIdx_cons_succ, List.eraseIdx_cons_zero] at hS3
      clear hS hit
      refine im_retG (vs := [.bool true]) hE Ds hS3 rfl fun w' hS' => ⟨⟨⟨_, rfl, res_1 (k := 4) hS' rfl⟩, trivial⟩, rfl, ?_⟩
      have h1 := hMl_close (g := gm) (gd := gd2) (W := W) hsl (St.selD [1, 1, 1, 2] 3 hS')
      exact h1.p1
end
end Go.Proofs.Ytfoeelghehjanaa
