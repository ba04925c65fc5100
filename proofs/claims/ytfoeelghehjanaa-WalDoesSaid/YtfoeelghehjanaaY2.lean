/-
  The calculus, several texts in one.
-/
import Derived.Test.YtfoeelghehjanaaY1
/-
  Contracts of the document's log: the frames of an area; sectors written; noughts laid over them.
-/
namespace Go.Proofs.Ytfoeelghehjanaa
open Go.RowKit
set_option linter.unusedVariables false
set_option linter.unusedSimpArgs false
attribute [local irreducible] Rd hRow hBlk hRd hRdr wrP hDk hWl Fn FnD hMarks
theorem chainP_step {l : List Blk} {t q : Nat} {bs : List (List Nat)} {fin : Nat} : chainP l t (q + 1) bs fin = match stM (l.drop fin) t bs.length with
    | none => (bs, fin)
    | some b => chainP l t q (bs ++ [b]) (fin + secN b.length) := rfl
section
variable {H : List HP} {w0 w : World} {g m : Nat} {D : DM}
set_option maxHeartbeats 8000000
set_option maxRecDepth 20000
theorem rchain (l : List Blk) (A : Option Addr) (c t n : Nat) (hnl : n = l.length) (ht : t < 4294967296) (hl : ∀ b ∈ l, Blk.ok b) (hll : l.length ≤ 1000) (hcl : l.length ≤ c) (w0 : World) (hr : Rd w0 A (l.flatMap bys)) :
    Fn Try.prog 81 [.slice A n c, .int .u32 (t : Int)] w0 fun v w' =>
      ∃ A' c' sls, sls.map Sl.b = (chain l t).1 ∧ (∀ s ∈ sls, s.b.length ≤ 40000) ∧ v = .tuple #[.slice A' sls.length c', .int .i64 ((chain l t).2 : Int)] ∧ St w0 w' [hRow 34 1 A' sls.length c' (sls.map Sl.v), wrP sls] := by
  subst hnl
  have hS := St.start w0
  refine enter 33 Try.func81 rfl rfl rfl ?_
  intro a hE
  repeat' (first
 | (with_reducible refine wp_seq ?_)
 | (with_reducible refine c_region ?_)
 | (with_reducible refine wpList_nil ?_)
 | (with_reducible refine then_normal ?_)
 | (with_reducible refine wp_block ?_)
 | ((with_reducible refine g_assign ?_); refine s_assign hE rfl rfl ?_; clear hE a; intro a hE))
  have hS2 := (wrP_nil (St.rowNil hS 34 1)).p1
  clear hS; have hS := hS2; clear hS2
  refine wp_loop_ghost (fun q a w => ∃ (sls : List Sl) (fin : Nat) (A5 : Option Addr) (c5 : Nat), chain l t = chainP l t q (sls.map Sl.b) fin ∧ fin ≤ l.length ∧ l.length + 1 ≤ q + fin ∧ sls.length ≤ fin ∧ (∀ s ∈ sls, s.b.length ≤ 40000) ∧
    St w0 w [hRow 34 1 A5 sls.length c5 (sls.map Sl.v), wrP sls] ∧ Env 33 [(0, .slice A l.length c), (1, .int .u32 (t : Int)), (6, .slice A5 sls.length c5), (7, .int .i64 (fin : Int))] a) (l.length + 1) ⟨[], 0, none, 0, rfl, by omega, by omega, by decide, fun s hs => (by cases hs), hS, hE.sub ⟨rfl, rfl, rfl, rfl, trivial⟩⟩ ?_
  clear hE a hS
  rintro q a w ⟨sls, fin, A5, c5, hch, hf, hq, hsl, hsb, hS, hE⟩
  obtain ⟨q, rfl⟩ : ∃ q', q = q' + 1 := ⟨q - 1, by omega⟩
  rw [chainP_step, List.length_map] at hch
  have e1 : IntKind.u32.wrap (sls.length : Int) = (sls.length : Int) := wrap_u32_in (by omega)
  repeat' (first
 | (with_reducible refine wp_seq ?_)
 | (with_reducible refine c_region ?_)
 | (with_reducible refine wp_block ?_)
 | ((with_reducible refine g_move ?_); refine s_move hE rfl rfl ?_; clear hE a; intro a hE)
 | ((with_reducible refine g_conv ?_); refine s_conv hE rfl rfl (by first | exact e1 ) ?_; clear hE a; intro a hE)
 | ((with_reducible refine g_blt .len ?_); refine s_len hE rfl rfl ?_; clear hE a; intro a hE))
  refine s_call hE rfl rfl rfl (rstands l A c fin t sls.length ht (by omega) hl hll (by omega) hcl w (hr.st hS)) ?_
  rintro _ w (⟨hst, rfl, hS1⟩ | ⟨b, A6, c6, hst, hb4, hbB, rfl, hS1⟩)
  · clear hE a; intro a hE; replace hS := hS.frame hS1; clear hS1; try simp only [List.cons_append, List.nil_append] at hS
    rw [hst] at hch
    repeat' (first
 | (with_reducible refine wp_seq ?_)
 | (with_reducible refine c_region ?_)
 | (with_reducible refine wpList_nil ?_)
 | (with_reducible refine then_normal ?_)
 | (with_reducible refine wp_ret ?_)
 | (with_reducible refine then_ret ?_)
 | (with_reducible refine block_ret ?_)
 | ((with_reducible refine g_move ?_); refine s_move hE rfl rfl ?_; clear hE a; intro a hE)
 | ((with_reducible refine g_assign ?_); refine s_assign hE rfl rfl ?_; clear hE a; intro a hE)
 | ((with_reducible refine g_un .not ?_); refine s_notb hE rfl rfl ?_; clear hE a; intro a hE)
 | ((with_reducible refine g_extract ?_); refine s_extract hE rfl rfl rfl ?_; clear hE a; intro a hE)
 | ((with_reducible refine g_cond ?_); refine c_true hE rfl ?_))
    refine ret2 hE rfl rfl rfl ⟨A5, c5, sls, by rw [hch], hsb, by rw [hch], hS⟩
  · clear hE a; intro a hE; replace hS := hS.frame hS1; clear hS1; try simp only [List.cons_append, List.nil_append] at hS
    rw [hst] at hch
    dsimp only at hch
    obtain ⟨s1, s2, s3, s4⟩ := stM_some (fun x hx => hl x (List.mem_of_mem_drop hx)) hst
    rw [List.length_drop] at s1
    repeat' (first
 | (with_reducible refine wp_seq ?_)
 | (with_reducible refine c_region ?_)
 | (with_reducible refine wpList_nil ?_)
 | (with_reducible refine then_normal ?_)
 | (with_reducible refine wp_skip ?_)
 | ((with_reducible refine g_move ?_); refine s_move hE rfl rfl ?_; clear hE a; intro a hE)
 | ((with_reducible refine g_assign ?_); refine s_assign hE rfl rfl ?_; clear hE a; intro a hE)
 | ((with_reducible refine g_un .not ?_); refine s_notb hE rfl rfl ?_; clear hE a; intro a hE)
 | ((with_reducible refine g_blt .len ?_); refine s_len hE rfl rfl ?_; clear hE a; intro a hE)
 | ((with_reducible refine g_extract ?_); refine s_extract hE rfl rfl rfl ?_; clear hE a; intro a hE)
 | ((with_reducible refine g_cond ?_); refine c_false hE rfl ?_)
 | ((with_reducible refine g_lit ?_); refine s_lit hE hS rfl rfl rfl rfl rfl (by first | (simp [Value.oneCell']; done)) rfl ?_; clear hE a hS; intro g a w hE hS)
 | ((with_reducible refine g_blt .append ?_); (first | (refine s_appendAt (k := 2) hE hS rfl rfl rfl (by (first | exact hS.rd )) (by (first | rfl )) (by (first | (simp [Value.oneCell']; done))) (by omega) rfl rfl rfl rfl ?_) ); clear hE a hS; intro A c a w hE hS; simp only [List.set_cons_zero, List.set_cons_succ, Nat.add_zero] at hS))
    refine s_call hE rfl rfl rfl (rsectors b.length (by omega) w) ?_
    rintro _ w ⟨rfl, hS1⟩; clear hE a; intro a hE; replace hS := hS.frame hS1; clear hS1; try simp only [List.cons_append, List.nil_append] at hS
    repeat' (first
 | (with_reducible refine wpList_nil ?_)
 | (with_reducible refine then_normal ?_)
 | (with_reducible refine block_normal ?_)
 | ((with_reducible refine g_assign ?_); refine s_assign hE rfl rfl ?_; clear hE a; intro a hE)
 | ((with_reducible refine g_bin .add ?_); refine s_add hE rfl rfl rfl (by first  | exact addN (by omega) ) ?_; clear hE a; intro a hE))
    have h1 := wrP_addR (s := ⟨A6, c6, b⟩) (St.selD [1, 2, 1] 1 hS)
    have h2 : St w0 w [hRow 34 1 A (sls ++ [(⟨A6, c6, b⟩ : Sl)]).length c ((sls ++ [(⟨A6, c6, b⟩ : Sl)]).map Sl.v), wrP (sls ++ [(⟨A6, c6, b⟩ : Sl)])] := by
      rw [List.length_append, List.map_append]
      exact (St.selD [1, 0] 0 h1)
    rw [show sls.length + 1 = (sls ++ [(⟨A6, c6, b⟩ : Sl)]).length by simp] at hE
    refine ⟨q, by omega, sls ++ [⟨A6, c6, b⟩], fin + secN b.length, _, _, by rw [hch, List.map_append]; rfl, by omega, by omega, by rw [List.length_append, List.length_singleton]; omega, fun s hs => ?_, h2, hE.sub ⟨rfl, rfl, rfl, rfl, trivial⟩⟩
    rcases List.mem_append.1 hs with h | h
    · exact hsb s h
    · rw [List.mem_singleton] at h; subst h; exact hb4
/-- sectors written from a place on, and synced -/
theorem rwrite (at_ : Nat) (hat : at_ ≤ 3000) (l : List Blk) (A : Option Addr) (c n : Nat) (hn : n = l.length) (hl : ∀ b ∈ l, Blk.ok b) (hll : l.length ≤ 1000) (hr : ∀ w' L, St w0 w' (L ++ H) → Rd w' A (l.flatMap bys)) (hD : D.atN m) (hm : m ≤ 80000) (hS : St w0 w (hDk g D :: H)) :
    Fn Try.prog 69 [.pointer (some ⟨g, 0, none⟩), .int .i64 (at_ : Int), .slice A n c] w fun v w' => v = .int .i64 (D.wrs (at_ : Int) l).2 ∧ St w0 w' (hDk g (D.wrs (at_ : Int) l).1 :: H) := by
  subst hn
  unfold DM.wrs
  have hwl : (atW (at_ : Int) l).length = l.length := atW_len _ _
  have hwk : ∀ k (hk : k < l.length), (atW (at_ : Int) l)[k]? = some ((at_ : Int) + (k : Int), l[k]) := by
    intro k hk
    unfold atW
    rw [List.getElem?_map, List.getElem?_zipIdx, List.getElem?_eq_getElem hk]
    simp
  have hwo : ∀ x ∈ atW (at_ : Int) l, Blk.ok x.2 := by
    intro x hx
    obtain ⟨k, hk⟩ := List.mem_iff_getElem?.1 hx
    have hkl : k < l.length := by
      have := (List.getElem?_eq_some_iff.1 hk).1
      omega
    rw [hwk k hkl] at hk
    rw [← Option.some.inj hk]
    exact hl _ (List.getElem_mem hkl)
  have hfl : (l.flatMap bys).length = l.length * 64 := flat_len (blk_len hl)
  refine enter 29 Try.func69 rfl rfl rfl ?_
  intro a hE
  repeat' (first
 | (with_reducible refine wp_seq ?_)
 | (with_reducible refine c_region ?_)
 | (with_reducible refine wpList_nil ?_)
 | (with_reducible refine then_normal ?_)
 | (with_reducible refine wp_block ?_)
 | ((with_reducible refine g_move ?_); refine s_move hE rfl rfl ?_; clear hE a; intro a hE)
 | ((with_reducible refine g_assign ?_); refine s_assign hE rfl rfl ?_; clear hE a; intro a hE)
 | ((with_reducible refine g_blt .len ?_); refine s_len hE rfl rfl ?_; clear hE a; intro a hE))
  refine wp_loop_ghost (fun q a w => ∃ (k : Nat), k + q = l.length ∧ okw D ((atW (at_ : Int) l).take k) ∧ St w0 w (hDk g (D.ws ((atW (at_ : Int) l).take k)) :: H) ∧ Env 29 [(0, .pointer (some ⟨g, 0, none⟩)), (1, .int .i64 (at_ : Int)), (10, .slice A l.length c), (11, .int .i64 (l.length : Int)), (12, .int .i64 (k : Int))] a) l.length ⟨0, by omega, trivial, hS, hE.sub ⟨rfl, rfl, rfl, rfl, rfl, trivial⟩⟩ ?_
  clear hE a hS
  rintro q a w ⟨k, hk, hok, hS, hE⟩
  have hDw := ws_atN (l := (atW (at_ : Int) l).take k) hD (fun x hx => hwo x (List.mem_of_mem_take hx)) (by rw [List.length_take]; omega)
  have hkl : ((atW (at_ : Int) l).take k).length ≤ 1000 := by rw [List.length_take]; omega
  have hrw := fun w h => hr w [] h
  by_cases hk1 : k < l.length
  · have hseg := flat_seg (c := bys) (size := 64) (l := l) (blk_len hl) hk1
    have hbo := hl _ (List.getElem_mem hk1)
    have hg := hwk k hk1
    have hkw : k < (atW (at_ : Int) l).length := by omega
    have hge : (atW (at_ : Int) l)[k] = ((at_ : Int) + (k : Int), l[k]) := by
      rw [List.getElem?_eq_getElem hkw] at hg
      exact Option.some.inj hg
    have hst : (atW (at_ : Int) l).take (k + 1) = (atW (at_ : Int) l).take k ++ [((at_ : Int) + (k : Int), l[k])] := by rw [List.take_succ_eq_append_getElem hkw, hge]
    have hall : atW (at_ : Int) l = (atW (at_ : Int) l).take k ++ ((at_ : Int) + (k : Int), l[k]) :: (atW (at_ : Int) l).drop (k + 1) := by
      rw [← hge, ← List.drop_eq_getElem_cons hkw, List.take_append_drop]
    generalize l[k] = x at hseg hbo hst hall
    generalize hpre : (atW (at_ : Int) l).take k = pre at hok hS hDw hst hall hkl
    have hxl : (bys x).length = 64 := by rw [bys_length]; exact hbo.1
    have hone := bys_one x
    have e1 : IntKind.i64.wrap ((at_ : Int) + (k : Int)) = (at_ : Int) + (k : Int) := wrap64_in (by omega)
    have hrx := hr w [_] hS
    repeat' (first
 | (with_reducible refine wp_seq ?_)
 | (with_reducible refine c_region ?_)
 | (with_reducible refine wpList_nil ?_)
 | (with_reducible refine then_normal ?_)
 | (with_reducible refine wp_skip ?_)
 | (with_reducible refine wp_block ?_)
 | ((with_reducible refine g_move ?_); refine s_move hE rfl rfl ?_; clear hE a; intro a hE)
 | ((with_reducible refine g_assign ?_); refine s_assign hE rfl rfl ?_; clear hE a; intro a hE)
 | ((with_reducible refine g_bin .lss ?_); refine s_lss hE rfl rfl rfl ?_; clear hE a; intro a hE)
 | ((with_reducible refine g_bin .add ?_); refine s_add hE rfl rfl rfl (by first | exact e1 ) ?_; clear hE a; intro a hE)
 | ((with_reducible refine g_cond ?_); refine c_dec hE rfl (fun hc => ?_) (fun hc => ?_) <;> try omega)
 | ((with_reducible refine g_ia ?_); refine s_idxR hE rfl rfl (by omega) (by omega) (by (first | assumption)) (by first | omega ) rfl ?_; clear hE a; intro a hE)
 | ((with_reducible refine g_alloc ?_); refine s_allocS hE hS rfl rfl ?_; clear hE a hS; intro g a w hE hS)
 | ((with_reducible refine g_load ?_); (first | (refine s_loadW (k := 0) hS hE rfl rfl (by first | assumption ) rfl ?_) ); clear hE a; intro a hE)
 | ((with_reducible refine g_store ?_); (first | (refine s_storeW (k := 0) hS hE rfl rfl rfl (by assumption) (by first | rfl ) (by first | exact bys_one _ ) ?_) ); clear hS; intro w hS; simp only [List.set_cons_zero, List.set_cons_succ, Nat.add_zero] at hS)
 | ((with_reducible refine g_load ?_); refine s_elemR hE rfl (by (first | assumption )) (by first | exact hseg ) (by first | assumption) (by rfl) rfl ?_; clear hE a; intro a hE))
    have hDw2 := write_atN hDw (by omega) ((at_ : Int) + (k : Int)) hbo
    refine s_call hE rfl rfl rfl (kwrite ((at_ : Int) + (k : Int)) x hbo hDw (by omega) hS.p1) ?_
    rintro _ w ⟨rfl, hS⟩; clear hE a; intro a hE
    by_cases he : ((D.ws pre).write ((at_ : Int) + (k : Int)) x).2 = 0
    · rw [he] at hE
      repeat' (first
 | (with_reducible refine wp_seq ?_)
 | (with_reducible refine c_region ?_)
 | (with_reducible refine wpList_nil ?_)
 | (with_reducible refine then_normal ?_)
 | (with_reducible refine wp_skip ?_)
 | (with_reducible refine block_normal ?_)
 | ((with_reducible refine g_move ?_); refine s_move hE rfl rfl ?_; clear hE a; intro a hE)
 | ((with_reducible refine g_assign ?_); refine s_assign hE rfl rfl ?_; clear hE a; intro a hE)
 | ((with_reducible refine g_bin .neq ?_); refine s_neq hE rfl rfl rfl ?_; clear hE a; intro a hE)
 | ((with_reducible refine g_bin .add ?_); refine s_add hE rfl rfl rfl (by first  | exact wrap64_in (by omega) ) ?_; clear hE a; intro a hE)
 | ((with_reducible refine g_cond ?_); refine c_false hE rfl ?_))
      refine ⟨q - 1, by omega, k + 1, by omega, by rw [hst]; exact okw_snoc hok he, ?_, hE.sub ⟨rfl, rfl, rfl, rfl, rfl, trivial⟩⟩
      rw [hst, ws_snoc]
      exact hS.p1.tail
    · rw [hall, wss_stop hok he]
      generalize ((D.ws pre).write ((at_ : Int) + (k : Int)) x).2 = e at hE he
      repeat' (first
 | (with_reducible refine wp_seq ?_)
 | (with_reducible refine c_region ?_)
 | (with_reducible refine wpList_nil ?_)
 | (with_reducible refine then_normal ?_)
 | (with_reducible refine wp_ret ?_)
 | (with_reducible refine then_ret ?_)
 | (with_reducible refine block_ret ?_)
 | ((with_reducible refine g_move ?_); refine s_move hE rfl rfl ?_; clear hE a; intro a hE)
 | ((with_reducible refine g_assign ?_); refine s_assign hE rfl rfl ?_; clear hE a; intro a hE)
 | ((with_reducible refine g_bin .neq ?_); refine s_neq hE rfl rfl rfl ?_; clear hE a; intro a hE)
 | ((with_reducible refine g_cond ?_); refine c_dec hE rfl (fun hc => ?_) (fun hc => ?_) <;> try omega))
      exact ret1 hE rfl rfl ⟨rfl, hS.p1.tail⟩
  · obtain rfl : k = l.length := by omega
    rw [List.take_of_length_le (by rw [hwl]; exact Nat.le_refl _)] at hok hS hDw hkl
    rw [wss_done hok]
    repeat' (first
 | (with_reducible refine wp_seq ?_)
 | (with_reducible refine c_region ?_)
 | (with_reducible refine wpList_nil ?_)
 | (with_reducible refine then_normal ?_)
 | (with_reducible refine wp_exit ?_)
 | (with_reducible refine then_exit ?_)
 | (with_reducible refine block_same ?_)
 | ((with_reducible refine g_move ?_); refine s_move hE rfl rfl ?_; clear hE a; intro a hE)
 | ((with_reducible refine g_bin .lss ?_); refine s_lss hE rfl rfl rfl ?_; clear hE a; intro a hE)
 | ((with_reducible refine g_cond ?_); refine c_dec hE rfl (fun hc => ?_) (fun hc => ?_) <;> try omega))
    refine s_call hE rfl rfl rfl (ksync hDw (by omega) hS) ?_
    rintro _ w ⟨rfl, hS⟩; clear hE a; intro a hE
    repeat' (first
 | (with_reducible refine wpList_nil ?_)
 | (with_reducible refine then_normal ?_)
 | (with_reducible refine wp_ret ?_)
 | ((with_reducible refine g_assign ?_); refine s_assign hE rfl rfl ?_; clear hE a; intro a hE))
    exact ret1 hE rfl rfl ⟨rfl, hS⟩
/-- noughts laid over sectors, and synced -/
theorem rnoughts (l : List Int) (A : Option Addr) (c : Nat) (hl : l.length ≤ 4000) (hD : D.atN m) (hm : m ≤ 80000) (hS : St w0 w (hDk g D :: hRow 3 1 A l.length c (izs l) :: H)) :
    Fn Try.prog 68 [.pointer (some ⟨g, 0, none⟩), .slice A l.length c] w fun v w' => v = .int .i64 (D.wipe l).2 ∧ St w0 w' (hDk g (D.wipe l).1 :: hRow 3 1 A l.length c (izs l) :: H) := by
  unfold DM.wipe
  have hml : (izs l).length = l.length := List.length_map ..
  refine enter 24 Try.func68 rfl rfl rfl ?_
  intro a hE
  repeat' (first
 | (with_reducible refine wp_seq ?_)
 | (with_reducible refine c_region ?_)
 | (with_reducible refine wpList_nil ?_)
 | (with_reducible refine then_normal ?_)
 | (with_reducible refine wp_block ?_)
 | ((with_reducible refine g_move ?_); refine s_move hE rfl rfl ?_; clear hE a; intro a hE)
 | ((with_reducible refine g_assign ?_); refine s_assign hE rfl rfl ?_; clear hE a; intro a hE)
 | ((with_reducible refine g_blt .len ?_); refine s_len hE rfl rfl ?_; clear hE a; intro a hE))
  refine wp_loop_ghost (fun q a w => ∃ (k : Nat), k + q = l.length ∧ okw D ((l.take k).map fun i => (i, noughts)) ∧ St w0 w (hDk g (D.ws ((l.take k).map fun i => (i, noughts))) :: hRow 3 1 A l.length c (izs l) :: H) ∧ Env 24 [(0, .pointer (some ⟨g, 0, none⟩)), (8, .slice A l.length c), (9, .int .i64 (l.length : Int)), (10, .int .i64 (k : Int))] a) l.length ⟨0, by omega, trivial, hS, hE.sub ⟨rfl, rfl, rfl, rfl, trivial⟩⟩ ?_
  clear hE a hS
  rintro q a w ⟨k, hk, hok, hS, hE⟩
  have hDw := ws_atN (l := (l.take k).map fun i => (i, noughts)) hD (fun x hx => by
    obtain ⟨i, _, rfl⟩ := List.mem_map.1 hx
    exact noughts_ok) (by rw [List.length_map, List.length_take]; omega)
  have hkl : ((l.take k).map fun i : Int => (i, noughts)).length ≤ 4000 := by rw [List.length_map, List.length_take]; omega
  by_cases hk1 : k < l.length
  · have hg := map_atI (fun i : Int => Value.int .i64 i) hk1
    have hst : ((l.take (k + 1)).map fun i : Int => (i, noughts)) = ((l.take k).map fun i : Int => (i, noughts)) ++ [((l[k]'hk1), noughts)] := by
      rw [List.take_succ_eq_append_getElem hk1, List.map_append]; rfl
    have hall : (l.map fun i : Int => (i, noughts)) = ((l.take k).map fun i : Int => (i, noughts)) ++ ((l[k]'hk1), noughts) :: ((l.drop (k + 1)).map fun i : Int => (i, noughts)) := by
      rw [← List.map_cons (f := fun i : Int => (i, noughts)), ← List.drop_eq_getElem_cons hk1, ← List.map_append, List.take_append_drop]
    generalize (l[k]'hk1) = i at hg hst hall
    generalize ((l.take k).map fun i : Int => (i, noughts)) = pre at hok hS hDw hst hall hkl
    have hnl : (bys noughts).length = 64 := by rw [bys_length]; exact noughts_ok.1
    repeat' (first
 | (with_reducible refine wp_seq ?_)
 | (with_reducible refine c_region ?_)
 | (with_reducible refine wpList_nil ?_)
 | (with_reducible refine then_normal ?_)
 | (with_reducible refine wp_skip ?_)
 | (with_reducible refine wp_block ?_)
 | ((with_reducible refine g_move ?_); refine s_move hE rfl rfl ?_; clear hE a; intro a hE)
 | ((with_reducible refine g_assign ?_); refine s_assign hE rfl rfl ?_; clear hE a; intro a hE)
 | ((with_reducible refine g_bin .lss ?_); refine s_lss hE rfl rfl rfl ?_; clear hE a; intro a hE)
 | ((with_reducible refine g_cond ?_); refine c_dec hE rfl (fun hc => ?_) (fun hc => ?_) <;> try omega)
 | ((with_reducible refine g_ia ?_); refine s_idxR hE rfl rfl (by omega) (by omega) (by (first | exact hS.rdAt (k := 1) rfl )) (by first | omega ) rfl ?_; clear hE a; intro a hE)
 | ((with_reducible refine g_load ?_); refine s_loadR hE rfl (by (first | exact hS.rdAt (k := 1) rfl )) (by first | exact hg ) rfl ?_; clear hE a; intro a hE))
    refine s_val hE rfl rfl rfl (r_build (parts := []) (vs := []) (bys noughts) hE rfl rfl) ?_
    clear hE a; intro a hE
    refine s_call hE rfl rfl rfl (kwrite i noughts noughts_ok hDw (by omega) hS) ?_
    rintro _ w ⟨rfl, hS⟩; clear hE a; intro a hE
    by_cases he : ((D.ws pre).write i noughts).2 = 0
    · rw [he] at hE
      rw [← ws_snoc D pre (i, noughts), ← hst] at hS
      repeat' (first
 | (with_reducible refine wp_seq ?_)
 | (with_reducible refine c_region ?_)
 | (with_reducible refine wpList_nil ?_)
 | (with_reducible refine then_normal ?_)
 | (with_reducible refine wp_skip ?_)
 | (with_reducible refine block_normal ?_)
 | ((with_reducible refine g_move ?_); refine s_move hE rfl rfl ?_; clear hE a; intro a hE)
 | ((with_reducible refine g_assign ?_); refine s_assign hE rfl rfl ?_; clear hE a; intro a hE)
 | ((with_reducible refine g_bin .neq ?_); refine s_neq hE rfl rfl rfl ?_; clear hE a; intro a hE)
 | ((with_reducible refine g_bin .add ?_); refine s_add hE rfl rfl rfl (by first  | exact wrap64_in (by omega) ) ?_; clear hE a; intro a hE)
 | ((with_reducible refine g_cond ?_); refine c_false hE rfl ?_))
      exact ⟨q - 1, by omega, k + 1, by omega, by rw [hst]; exact okw_snoc hok he, hS, hE.sub ⟨rfl, rfl, rfl, rfl, trivial⟩⟩
    · rw [hall, wss_stop hok he]
      generalize ((D.ws pre).write i noughts).2 = e at hE he
      repeat' (first
 | (with_reducible refine wp_seq ?_)
 | (with_reducible refine c_region ?_)
 | (with_reducible refine wpList_nil ?_)
 | (with_reducible refine then_normal ?_)
 | (with_reducible refine wp_ret ?_)
 | (with_reducible refine then_ret ?_)
 | (with_reducible refine block_ret ?_)
 | ((with_reducible refine g_move ?_); refine s_move hE rfl rfl ?_; clear hE a; intro a hE)
 | ((with_reducible refine g_assign ?_); refine s_assign hE rfl rfl ?_; clear hE a; intro a hE)
 | ((with_reducible refine g_bin .neq ?_); refine s_neq hE rfl rfl rfl ?_; clear hE a; intro a hE)
 | ((with_reducible refine g_cond ?_); refine c_dec hE rfl (fun hc => ?_) (fun hc => ?_) <;> try omega))
      exact ret1 hE rfl rfl ⟨rfl, hS⟩
  · obtain rfl : k = l.length := by omega
    rw [List.take_of_length_le (Nat.le_refl _)] at hok hS hDw hkl
    rw [wss_done hok]
    repeat' (first
 | (with_reducible refine wp_seq ?_)
 | (with_reducible refine c_region ?_)
 | (with_reducible refine wpList_nil ?_)
 | (with_reducible refine then_normal ?_)
 | (with_reducible refine wp_exit ?_)
 | (with_reducible refine then_exit ?_)
 | (with_reducible refine block_same ?_)
 | ((with_reducible refine g_move ?_); refine s_move hE rfl rfl ?_; clear hE a; intro a hE)
 | ((with_reducible refine g_bin .lss ?_); refine s_lss hE rfl rfl rfl ?_; clear hE a; intro a hE)
 | ((with_reducible refine g_cond ?_); refine c_dec hE rfl (fun hc => ?_) (fun hc => ?_) <;> try omega))
    refine s_call hE rfl rfl rfl (ksync hDw (by omega) hS) ?_
    rintro _ w ⟨rfl, hS⟩; clear hE a; intro a hE
    repeat' (first
 | (with_reducible refine wpList_nil ?_)
 | (with_reducible refine then_normal ?_)
 | (with_reducible refine wp_ret ?_)
 | ((with_reducible refine g_assign ?_); refine s_assign hE rfl rfl ?_; clear hE a; intro a hE))
    exact ret1 hE rfl rfl ⟨rfl, hS⟩
end
end Go.Proofs.Ytfoeelghehjanaa
/-
  The document's log in memory; contracts: a disk is formatted, a transaction is put behind it, it begins anew.
-/
namespace Go.Proofs.Ytfoeelghehjanaa
open Go.RowKit
set_option linter.unusedVariables false
set_option linter.unusedSimpArgs false
attribute [local irreducible] Rd hRow hBlk hRd hRdr wrP hDk hWl Fn FnD hMarks
abbrev mlL (g gd : Nat) (W : WM) (A : Option Addr) (c : Nat) (sls : List Sl) : List HP :=
  [hBlk g 117 [.pointer (some ⟨gd, 0, none⟩), .int .i64 (W.area : Int), .int .u32 (W.turn : Int), .slice A sls.length c, .int .i64 (W.fin : Int), .bool W.broken],
   hRow 34 1 A sls.length c (sls.map Sl.v), wrP sls, hPure (sls.map Sl.b = W.list)]
/-- the document's log, wherever its rows lie -/
def hMl (g gd : Nat) (W : WM) : HP := hEx fun p : (Option Addr × Nat) × List Sl => hAll (mlL g gd W p.1.1 p.1.2 p.2)
section
variable {g gd : Nat} {W : WM} {H : List HP} {w0 w : World}
theorem hMl_open (hS : St w0 w (hMl g gd W :: H)) : ∃ A c sls, sls.map Sl.b = W.list ∧ St w0 w (hBlk g 117 [.pointer (some ⟨gd, 0, none⟩), .int .i64 (W.area : Int), .int .u32 (W.turn : Int), .slice A sls.length c, .int .i64 (W.fin : Int), .bool W.broken] :: hRow 34 1 A sls.length c (sls.map Sl.v) :: wrP sls :: H) := by
  obtain ⟨p, h⟩ := St.ex hS
  have h1 := St.open_ h
  simp only [mlL, List.cons_append, List.nil_append] at h1
  exact ⟨p.1.1, p.1.2, p.2, (h1.focus (k := 3) rfl).pure, h1.drop 3⟩
theorem hMl_close {A : Option Addr} {c : Nat} {sls : List Sl} (hl : sls.map Sl.b = W.list) (hS : St w0 w (hBlk g 117 [.pointer (some ⟨gd, 0, none⟩), .int .i64 (W.area : Int), .int .u32 (W.turn : Int), .slice A sls.length c, .int .i64 (W.fin : Int), .bool W.broken] :: hRow 34 1 A sls.length c (sls.map Sl.v) :: wrP sls :: H)) : St w0 w (hMl g gd W :: H) := by
  have h3 := (hS.pureI (p := sls.map Sl.b = W.list) hl)
  have h2 : St w0 w (mlL g gd W A c sls ++ H) := (St.selD [1, 1, 1, 0] 0 h3)
  exact St.exI ((A, c), sls) (St.close_ h2)
end
attribute [local irreducible] hMl
section
variable {g gd gw : Nat} {D : DM} {H : List HP} {w0 w : World} {m : Nat}
set_option maxHeartbeats 8000000
set_option maxRecDepth 20000
theorem izl_len (n : Nat) : (izl n).length = n := by unfold izl; simp
theorem rfmt (ar : Int) (har : -9223372036854775808 ≤ ar ∧ ar ≤ 9223372036854775807) (hD : D.atN m) (hm : m ≤ 70000) (hS : St w0 w (hDk g D :: H)) :
    Fn Try.prog 39 [.pointer (some ⟨g, 0, none⟩), .int .i64 ar] w fun v w' =>
      (∃ W gw, (D.fmt ar).2.1 = some W ∧ (D.fmt ar).2.2 = 0 ∧ v = .tuple #[.pointer (some ⟨gw, 0, none⟩), .int .i64 0] ∧ St w0 w' (hMl gw g W :: hDk g (D.fmt ar).1 :: H)) ∨
      ((D.fmt ar).2.1 = none ∧ (D.fmt ar).2.2 ≠ 0 ∧ v = .tuple #[.pointer none, .int .i64 (D.fmt ar).2.2] ∧ St w0 w' (hDk g (D.fmt ar).1 :: H)) := by
  have hlen := hD.ok.len
  refine enter 58 Try.func39 rfl rfl rfl ?_
  intro a hE
  repeat' (first
 | (with_reducible refine wp_seq ?_)
 | (with_reducible refine c_region ?_)
 | (with_reducible refine wpList_nil ?_)
 | (with_reducible refine then_normal ?_)
 | ((with_reducible refine g_move ?_); refine s_move hE rfl rfl ?_; clear hE a; intro a hE)
 | ((with_reducible refine g_assign ?_); refine s_assign hE rfl rfl ?_; clear hE a; intro a hE))
  refine s_call hE rfl rfl rfl (rarea ar w) ?_
  rintro _ w ⟨rfl, hS1⟩; clear hE a; intro a hE; replace hS := hS.frame hS1; clear hS1; try simp only [List.cons_append, List.nil_append] at hS
  by_cases hsz : 4 ≤ ar ∧ ar ≤ 1000
  · rw [decide_eq_true hsz] at hE
    have e1 : IntKind.i64.wrap (2 * ar) = 2 * ar := wrap64_in (by omega)
    have e2 : IntKind.i64.wrap (2 + 2 * ar) = 2 + 2 * ar := wrap64_in (by omega)
    repeat' (first
 | ((with_reducible refine g_move ?_); refine s_move hE rfl rfl ?_; clear hE a; intro a hE)
 | ((with_reducible refine g_un .not ?_); refine s_notb hE rfl rfl ?_; clear hE a; intro a hE)
 | ((with_reducible refine g_guard ?_); refine gd_yes hE rfl rfl rfl ?_))
    refine s_call hE rfl rfl rfl (klen hS) ?_
    rintro _ w ⟨rfl, hS⟩; clear hE a; intro a hE
    by_cases hfit : (D.safe.length : Int) < 2 + 2 * ar
    · have hf : D.fmt ar = (D, none, 2) := if_pos (by omega)
      rw [hf]
      repeat' (first
 | (with_reducible refine wp_seq ?_)
 | (with_reducible refine c_region ?_)
 | (with_reducible refine wpList_nil ?_)
 | (with_reducible refine then_normal ?_)
 | (with_reducible refine wp_ret ?_)
 | (with_reducible refine then_ret ?_)
 | ((with_reducible refine g_move ?_); refine s_move hE rfl rfl ?_; clear hE a; intro a hE)
 | ((with_reducible refine g_assign ?_); refine s_assign hE rfl rfl ?_; clear hE a; intro a hE)
 | ((with_reducible refine g_bin .lss ?_); refine s_lss hE rfl rfl rfl ?_; clear hE a; intro a hE)
 | ((with_reducible refine g_bin .add ?_); refine s_add hE rfl rfl rfl (by first | exact e2 ) ?_; clear hE a; intro a hE)
 | ((with_reducible refine g_bin .mul ?_); refine s_mul hE rfl rfl rfl (by first | exact e1 ) ?_; clear hE a; intro a hE)
 | ((with_reducible refine g_guard ?_); refine gd_yes hE rfl rfl rfl ?_)
 | ((with_reducible refine g_pick ?_); refine s_pickF hE rfl rfl rfl ?_; clear hE a; intro a hE)
 | ((with_reducible refine g_cond ?_); refine c_dec hE rfl (fun hc => ?_) (fun hc => ?_) <;> try omega))
      exact ret2 hE rfl rfl rfl (.inr ⟨rfl, (by decide : (2 : Int) ≠ 0), rfl, hS⟩)
    · obtain ⟨aN, rfl⟩ : ∃ aN : Nat, ar = (aN : Int) := ⟨ar.toNat, by omega⟩
      obtain ⟨N, hNa⟩ : ∃ N : Nat, N = 2 + 2 * aN := ⟨_, rfl⟩
      have hN : (N : Int) = 2 + 2 * (aN : Int) := by omega
      have hf : D.fmt (aN : Int) = fmtR D aN N := by
        unfold DM.fmt fmtR
        rw [if_neg (by omega), Int.toNat_natCast, hNa]
        rfl
      rw [hf]
      clear hf
      repeat' (first
 | (with_reducible refine wp_seq ?_)
 | (with_reducible refine c_region ?_)
 | (with_reducible refine wpList_nil ?_)
 | (with_reducible refine then_normal ?_)
 | (with_reducible refine wp_skip ?_)
 | (with_reducible refine wp_block ?_)
 | ((with_reducible refine g_move ?_); refine s_move hE rfl rfl ?_; clear hE a; intro a hE)
 | ((with_reducible refine g_assign ?_); refine s_assign hE rfl rfl ?_; clear hE a; intro a hE)
 | ((with_reducible refine g_bin .lss ?_); refine s_lss hE rfl rfl rfl ?_; clear hE a; intro a hE)
 | ((with_reducible refine g_bin .add ?_); refine s_add hE rfl rfl rfl (by first | exact e2 ) ?_; clear hE a; intro a hE)
 | ((with_reducible refine g_bin .mul ?_); refine s_mul hE rfl rfl rfl (by first | exact e1 ) ?_; clear hE a; intro a hE)
 | ((with_reducible refine g_guard ?_); refine gd_yes hE rfl rfl rfl ?_)
 | ((with_reducible refine g_pick ?_); refine s_pickF hE rfl rfl rfl ?_; clear hE a; intro a hE)
 | ((with_reducible refine g_cond ?_); refine c_dec hE rfl (fun hc => ?_) (fun hc => ?_) <;> try omega))
      rw [← hN] at hE
      have hS2 : St w0 w (hRow 3 1 none 0 0 (izs (izl 0)) :: hDk g D :: H) := St.rowNil hS _ _
      clear hS; have hS := hS2; clear hS2
      refine wp_loop_ghost (fun q a w => ∃ (k : Nat) (A : Option Addr) (c : Nat), k + q = N ∧ St w0 w (hRow 3 1 A k c (izs (izl k)) :: hDk g D :: H) ∧ Env 58 [(0, .pointer (some ⟨g, 0, none⟩)), (1, .int .i64 (aN : Int)), (6, .slice A k c), (24, .int .i64 (N : Int)), (25, .int .i64 (k : Int))] a) N ⟨0, none, 0, by omega, hS, hE.sub ⟨rfl, rfl, rfl, rfl, rfl, trivial⟩⟩ ?_
      clear hE a hS
      rintro q a w ⟨k, A, c, hk, hS, hE⟩
      by_cases hk1 : k < N
      · have hst : izs (izl k) ++ [Value.int .i64 (k : Int)] = izs (izl (k + 1)) := by
          unfold izs izl
          rw [List.range_succ, List.map_append, List.map_append]
          rfl
        repeat' (first
 | (with_reducible refine wp_seq ?_)
 | (with_reducible refine c_region ?_)
 | (with_reducible refine wpList_nil ?_)
 | (with_reducible refine then_normal ?_)
 | (with_reducible refine wp_skip ?_)
 | (with_reducible refine wp_block ?_)
 | (with_reducible refine block_normal ?_)
 | ((with_reducible refine g_move ?_); refine s_move hE rfl rfl ?_; clear hE a; intro a hE)
 | ((with_reducible refine g_assign ?_); refine s_assign hE rfl rfl ?_; clear hE a; intro a hE)
 | ((with_reducible refine g_bin .lss ?_); refine s_lss hE rfl rfl rfl ?_; clear hE a; intro a hE)
 | ((with_reducible refine g_bin .add ?_); refine s_add hE rfl rfl rfl (by first  | exact wrap64_in (by omega) ) ?_; clear hE a; intro a hE)
 | ((with_reducible refine g_cond ?_); refine c_dec hE rfl (fun hc => ?_) (fun hc => ?_) <;> try omega)
 | ((with_reducible refine g_lit ?_); refine s_lit hE hS rfl rfl rfl rfl rfl (by first | (simp [Value.oneCell']; done)) rfl ?_; clear hE a hS; intro g a w hE hS)
 | ((with_reducible refine g_blt .append ?_); (first | (refine s_appendAt (k := 1) hE hS rfl rfl rfl (by (first | exact hS.rd )) (by (first | rfl )) (by (first | (simp [Value.oneCell']; done))) (by omega) rfl rfl rfl rfl ?_) ); clear hE a hS; intro A c a w hE hS; simp only [List.set_cons_zero, List.set_cons_succ, Nat.add_zero] at hS))
        rw [hst] at hS
        exact ⟨q - 1, by omega, k + 1, _, _, by omega, hS.tail, hE.sub ⟨rfl, rfl, rfl, rfl, rfl, trivial⟩⟩
      obtain rfl : k = N := by omega
      have hil := izl_len k
      repeat' (first
 | (with_reducible refine wp_seq ?_)
 | (with_reducible refine c_region ?_)
 | (with_reducible refine wpList_nil ?_)
 | (with_reducible refine then_normal ?_)
 | (with_reducible refine wp_exit ?_)
 | (with_reducible refine then_exit ?_)
 | (with_reducible refine block_same ?_)
 | ((with_reducible refine g_move ?_); refine s_move hE rfl rfl ?_; clear hE a; intro a hE)
 | ((with_reducible refine g_bin .lss ?_); refine s_lss hE rfl rfl rfl ?_; clear hE a; intro a hE)
 | ((with_reducible refine g_cond ?_); refine c_dec hE rfl (fun hc => ?_) (fun hc => ?_) <;> try omega))
      have hw := rnoughts (izl k) A c (by omega) hD (by omega) (H := H) (w0 := w0) (w := w) (g := g) (by rw [hil]; exact hS.p1)
      rw [hil] at hw
      refine s_call hE rfl rfl rfl hw ?_
      clear hw
      rintro _ w ⟨rfl, hS⟩; clear hE a; intro a hE
      have hD1 : (D.wipe (izl k)).1.atN (m + 2100) := (wss_atN (l := (izl k).map fun i => (i, noughts)) hD (fun x hx => by
        obtain ⟨i, _, rfl⟩ := List.mem_map.1 hx
        exact noughts_ok) (by rw [List.length_map, hil]; omega)).mono (by rw [List.length_map, hil]; omega)
      unfold fmtR
      generalize D.wipe (izl k) = r1 at hE hS hD1 ⊢
      obtain ⟨D1, e1'⟩ := r1
      dsimp only at hE hS hD1 ⊢
      replace hS := hS.drop 1
      simp only [List.eraseIdx_cons_succ, List.eraseIdx_cons_zero] at hS
      by_cases h1 : e1' = 0
      · subst h1
        rw [if_pos rfl]
        repeat' (first
 | (with_reducible refine wp_seq ?_)
 | (with_reducible refine c_region ?_)
 | (with_reducible refine wpList_nil ?_)
 | (with_reducible refine then_normal ?_)
 | (with_reducible refine wp_skip ?_)
 | ((with_reducible refine g_move ?_); refine s_move hE rfl rfl ?_; clear hE a; intro a hE)
 | ((with_reducible refine g_assign ?_); refine s_assign hE rfl rfl ?_; clear hE a; intro a hE)
 | ((with_reducible refine g_bin .neq ?_); refine s_neq hE rfl rfl rfl ?_; clear hE a; intro a hE)
 | ((with_reducible refine g_cond ?_); refine c_false hE rfl ?_))
        refine s_call hE rfl rfl rfl (rframe 0 0 [] none 0 0 rfl (by decide) (by decide) (fun c hc => by cases hc) (by decide) w Rd.nil) ?_
        rintro _ w ⟨A2, c2, rfl, hS1⟩; clear hE a; intro a hE; replace hS := hS.frame hS1; clear hS1; try simp only [List.cons_append, List.nil_append] at hS
        have hlay := rwrite (g := g) (w0 := w0) (w := w) (H := hRow 80 64 A2 (secN ([] : List Nat).length) c2 ((partsB 0 0 []).flatMap bys) :: H) 2 (by decide) (partsB 0 0 []) A2 c2 _ (partsB_len 0 0 []).symm (partsB_ok (fun c hc => by cases hc) (by decide)) (by rw [partsB_len]; have := secN_le ([] : List Nat).length; omega) (fun w' L h => (h.perm (List.perm_append_comm (l₁ := L))).rd) hD1 (by omega) hS.p1
        refine s_call hE rfl rfl rfl hlay ?_
        clear hlay
        rintro _ w ⟨rfl, hS⟩; clear hE a; intro a hE
        have hD2 : (D1.wrs ((2 : Nat) : Int) (partsB 0 0 [])).1.atN (m + 3000) := (wrsB_atN hD1 ((2 : Nat) : Int) (l := partsB 0 0 []) (partsB_ok (fun c hc => by cases hc) (by decide)) (by rw [partsB_len]; have := secN_le ([] : List Nat).length; omega)).mono (by rw [partsB_len]; have := secN_le ([] : List Nat).length; omega)
        rw [show (D1.wrs 2 (partsB 0 0 [])) = D1.wrs ((2 : Nat) : Int) (partsB 0 0 []) from rfl]
        generalize D1.wrs ((2 : Nat) : Int) (partsB 0 0 []) = r2 at hE hS hD2 ⊢
        obtain ⟨D2, e2'⟩ := r2
        dsimp only at hE hS hD2 ⊢
        replace hS := hS.p1.tail
        by_cases h2 : e2' = 0
        · subst h2
          rw [if_pos rfl]
          repeat' (first
 | (with_reducible refine wp_seq ?_)
 | (with_reducible refine c_region ?_)
 | (with_reducible refine wpList_nil ?_)
 | (with_reducible refine then_normal ?_)
 | (with_reducible refine wp_skip ?_)
 | ((with_reducible refine g_move ?_); refine s_move hE rfl rfl ?_; clear hE a; intro a hE)
 | ((with_reducible refine g_assign ?_); refine s_assign hE rfl rfl ?_; clear hE a; intro a hE)
 | ((with_reducible refine g_bin .neq ?_); refine s_neq hE rfl rfl rfl ?_; clear hE a; intro a hE)
 | ((with_reducible refine g_cond ?_); refine c_false hE rfl ?_))
          refine s_call hE rfl rfl rfl (rhead 0 aN (by decide) (by omega) w) ?_
          rintro _ w ⟨rfl, hS1⟩; clear hE a; intro a hE; replace hS := hS.frame hS1; clear hS1; try simp only [List.cons_append, List.nil_append] at hS
          have hhl : (bys (headB 0 aN)).length = 64 := by rw [bys_length]; exact headB_len 0 aN
          refine s_litA (vs := bys (headB 0 aN)) hE hS rfl hhl rfl rfl rfl ?_
          clear hE a hS; intro gl a w hE hS
          have hput := rwrite (g := g) (w0 := w0) (w := w) (H := hRow 80 64 (some ⟨gl, 0, none⟩) 1 1 (bys (headB 0 aN)) :: H) 0 (by decide) [headB 0 aN] (some ⟨gl, 0, none⟩) 1 1 rfl head1_ok (by rw [List.length_singleton]; decide) (fun w' L h => by
            rw [List.flatMap_singleton]
            exact (h.perm (List.perm_append_comm (l₁ := L))).rd) hD2 (by omega) hS.p1
          refine s_call hE rfl rfl rfl hput ?_
          clear hput
          rintro _ w ⟨rfl, hS⟩; clear hE a; intro a hE
          rw [show (D2.wrs 0 [headB 0 aN]) = D2.wrs ((0 : Nat) : Int) [headB 0 aN] from rfl]
          generalize D2.wrs ((0 : Nat) : Int) [headB 0 aN] = r3 at hE hS ⊢
          obtain ⟨D3, e3'⟩ := r3
          dsimp only at hE hS ⊢
          replace hS := hS.p1.tail
          by_cases h3 : e3' = 0
          · subst h3
            rw [if_pos rfl]
            repeat' (first
 | (with_reducible refine wp_seq ?_)
 | (with_reducible refine c_region ?_)
 | (with_reducible refine wpList_nil ?_)
 | (with_reducible refine then_normal ?_)
 | (with_reducible refine wp_skip ?_)
 | (with_reducible refine wp_ret ?_)
 | ((with_reducible refine g_move ?_); refine s_move hE rfl rfl ?_; clear hE a; intro a hE)
 | ((with_reducible refine g_assign ?_); refine s_assign hE rfl rfl ?_; clear hE a; intro a hE)
 | ((with_reducible refine g_bin .neq ?_); refine s_neq hE rfl rfl rfl ?_; clear hE a; intro a hE)
 | ((with_reducible refine g_cond ?_); refine c_false hE rfl ?_)
 | ((with_reducible refine g_lit ?_); refine s_lit hE hS rfl rfl rfl rfl rfl (by first | (simp [Value.oneCell']; done)) rfl ?_; clear hE a hS; intro g a w hE hS)
 | ((with_reducible refine g_box ?_); refine s_boxS hE hS rfl rfl ?_; clear hE a hS; intro g a w hE hS)
 | ((with_reducible refine g_build ?_); refine s_build [_, _, _, _, _, _] hE rfl rfl rfl ?_; clear hE a; intro a hE))
            have hS2 := ((wrP_add (l := []) (s := nilS) (St.rowNil (wrP_nil hS) _ _)).p1.focus (k := 2) rfl).p1
            simp only [List.nil_append] at hS2
            exact ret2 hE rfl rfl rfl (.inl ⟨_, _, rfl, rfl, rfl, hMl_close (sls := [nilS]) (W := ⟨aN, 0, [[]], 1, false⟩) rfl hS2⟩)
          · rw [if_neg h3]
            repeat' (first
 | (with_reducible refine wp_seq ?_)
 | (with_reducible refine c_region ?_)
 | (with_reducible refine wpList_nil ?_)
 | (with_reducible refine then_normal ?_)
 | (with_reducible refine wp_ret ?_)
 | (with_reducible refine then_ret ?_)
 | ((with_reducible refine g_move ?_); refine s_move hE rfl rfl ?_; clear hE a; intro a hE)
 | ((with_reducible refine g_assign ?_); refine s_assign hE rfl rfl ?_; clear hE a; intro a hE)
 | ((with_reducible refine g_bin .neq ?_); refine s_neq hE rfl rfl rfl ?_; clear hE a; intro a hE)
 | ((with_reducible refine g_cond ?_); refine c_dec hE rfl (fun hc => ?_) (fun hc => ?_) <;> try omega))
            exact ret2 hE rfl rfl rfl (.inr ⟨rfl, h3, rfl, hS⟩)
        · rw [if_neg h2, if_neg h2]
          repeat' (first
 | (with_reducible refine wp_seq ?_)
 | (with_reducible refine c_region ?_)
 | (with_reducible refine wpList_nil ?_)
 | (with_reducible refine then_normal ?_)
 | (with_reducible refine wp_ret ?_)
 | (with_reducible refine then_ret ?_)
 | ((with_reducible refine g_move ?_); refine s_move hE rfl rfl ?_; clear hE a; intro a hE)
 | ((with_reducible refine g_assign ?_); refine s_assign hE rfl rfl ?_; clear hE a; intro a hE)
 | ((with_reducible refine g_bin .neq ?_); refine s_neq hE rfl rfl rfl ?_; clear hE a; intro a hE)
 | ((with_reducible refine g_cond ?_); refine c_dec hE rfl (fun hc => ?_) (fun hc => ?_) <;> try omega))
          exact ret2 hE rfl rfl rfl (.inr ⟨rfl, h2, rfl, hS⟩)
      · rw [if_neg h1, if_neg h1, if_neg h1]
        repeat' (first
 | (with_reducible refine wp_seq ?_)
 | (with_reducible refine c_region ?_)
 | (with_reducible refine wpList_nil ?_)
 | (with_reducible refine then_normal ?_)
 | (with_reducible refine wp_ret ?_)
 | (with_reducible refine then_ret ?_)
 | ((with_reducible refine g_move ?_); refine s_move hE rfl rfl ?_; clear hE a; intro a hE)
 | ((with_reducible refine g_assign ?_); refine s_assign hE rfl rfl ?_; clear hE a; intro a hE)
 | ((with_reducible refine g_bin .neq ?_); refine s_neq hE rfl rfl rfl ?_; clear hE a; intro a hE)
 | ((with_reducible refine g_cond ?_); refine c_dec hE rfl (fun hc => ?_) (fun hc => ?_) <;> try omega))
        exact ret2 hE rfl rfl rfl (.inr ⟨rfl, h1, rfl, hS⟩)
  · have hf : D.fmt ar = (D, none, 2) := if_pos (by omega)
    rw [hf]
    rw [decide_eq_false hsz] at hE
    repeat' (first
 | (with_reducible refine wp_seq ?_)
 | (with_reducible refine c_region ?_)
 | (with_reducible refine wpList_nil ?_)
 | (with_reducible refine then_normal ?_)
 | (with_reducible refine wp_ret ?_)
 | (with_reducible refine then_ret ?_)
 | ((with_reducible refine g_move ?_); refine s_move hE rfl rfl ?_; clear hE a; intro a hE)
 | ((with_reducible refine g_assign ?_); refine s_assign hE rfl rfl ?_; clear hE a; intro a hE)
 | ((with_reducible refine g_un .not ?_); refine s_notb hE rfl rfl ?_; clear hE a; intro a hE)
 | ((with_reducible refine g_guard ?_); refine gd_no hE rfl rfl rfl rfl ?_; clear hE a; intro a hE)
 | ((with_reducible refine g_pick ?_); refine s_pickT hE rfl rfl rfl ?_; clear hE a; intro a hE)
 | ((with_reducible refine g_cond ?_); refine c_true hE rfl ?_))
    exact ret2 hE rfl rfl rfl (.inr ⟨rfl, (by decide : (2 : Int) ≠ 0), rfl, hS⟩)
theorem rapp (gw gd : Nat) (W : WM) (D : DM) (b : List Nat) (A : Option Addr) (c : Nat) (hW : W.ok) (hb : Bs b) (hl : b.length ≤ 140737488351232) (hr : ∀ w' L, St w0 w' (L ++ H) → Rd w' A (bys b)) (hD : D.atN m) (hm : m ≤ 80000) (hS : St w0 w (hMl gw gd W :: hDk gd D :: H)) :
    Fn Try.prog 41 [.pointer (some ⟨gw, 0, none⟩), .slice A b.length c] w fun v w' => v = .int .i64 (W.app D b).2.2 ∧ St w0 w' (hMl gw gd (W.app D b).1 :: hDk gd (W.app D b).2.1 :: H) := by
  obtain ⟨w1, w2, w3, w4, w5, w6⟩ := hW
  obtain ⟨A1, c1, sls, hsl, hS⟩ := hMl_open hS
  have hsll : sls.length = W.list.length := by rw [← hsl, List.length_map]
  have hfr := fromN_le W.turn W.area w1
  have hsl2 := secN_le b.length
  have h2 : W.turn % 2 < 2 := Nat.mod_lt _ (by decide)
  have e1 : (W.turn : Int).tmod 2 = ((W.turn % 2 : Nat) : Int) := tmod_nat W.turn 2
  have e2 : IntKind.i64.wrap ((W.turn % 2 : Nat) : Int) = ((W.turn % 2 : Nat) : Int) := wrap64_in (by omega)
  have hma : W.turn % 2 * W.area ≤ 1000 := by
    generalize W.turn % 2 = m at h2
    rcases (by omega : m = 0 ∨ m = 1) with rfl | rfl <;> omega
  have e3 : IntKind.i64.wrap (((W.turn % 2 : Nat) : Int) * (W.area : Int)) = ((W.turn % 2 * W.area : Nat) : Int) := by rw [← Int.natCast_mul, wrap64_in (by omega)]
  have e4 : IntKind.i64.wrap (2 + ((W.turn % 2 * W.area : Nat) : Int)) = ((fromN W.turn W.area : Nat) : Int) := by
    rw [wrap64_in (by omega)]
    unfold fromN
    omega
  have e5 : IntKind.i64.wrap (((fromN W.turn W.area : Nat) : Int) + (W.fin : Int)) = ((fromN W.turn W.area + W.fin : Nat) : Int) := by rw [wrap64_in (by omega)]; omega
  have e6 : IntKind.u32.wrap (sls.length : Int) = (sls.length : Int) := wrap_u32_in (by omega)
  have hrd : ∀ w, (∃ L, St w0 w (L ++ H)) → Rd w A (bys b) := fun w ⟨L, h⟩ => hr w L h
  refine enter 93 Try.func41 rfl rfl rfl ?_
  intro a hE
  repeat' (first
 | (with_reducible refine wp_seq ?_)
 | (with_reducible refine c_region ?_)
 | (with_reducible refine wpList_nil ?_)
 | (with_reducible refine then_normal ?_)
 | ((with_reducible refine g_move ?_); refine s_move hE rfl rfl ?_; clear hE a; intro a hE)
 | ((with_reducible refine g_assign ?_); refine s_assign hE rfl rfl ?_; clear hE a; intro a hE)
 | ((with_reducible refine g_blt .len ?_); refine s_len hE rfl rfl ?_; clear hE a; intro a hE))
  refine s_call hE rfl rfl rfl (rsectors b.length (by omega) w) ?_
  rintro _ w ⟨rfl, hS1⟩; clear hE a; intro a hE; replace hS := hS.frame hS1; clear hS1; try simp only [List.cons_append, List.nil_append] at hS
  by_cases hl4 : 40000 < b.length
  · have hf : W.app D b = (W, D, 3) := by
      have : W.readyE b.length = 3 := if_pos hl4
      unfold WM.app
      rw [this]
      exact if_pos (by decide)
    rw [hf]
    repeat' (first
 | (with_reducible refine wp_seq ?_)
 | (with_reducible refine c_region ?_)
 | (with_reducible refine wpList_nil ?_)
 | (with_reducible refine then_normal ?_)
 | (with_reducible refine wp_ret ?_)
 | (with_reducible refine then_ret ?_)
 | (with_reducible refine wp_block ?_)
 | (with_reducible refine block_ret ?_)
 | ((with_reducible refine g_move ?_); refine s_move hE rfl rfl ?_; clear hE a; intro a hE)
 | ((with_reducible refine g_assign ?_); refine s_assign hE rfl rfl ?_; clear hE a; intro a hE)
 | ((with_reducible refine g_bin .gtr ?_); refine s_gtr hE rfl rfl rfl ?_; clear hE a; intro a hE)
 | ((with_reducible refine g_blt .len ?_); refine s_len hE rfl rfl ?_; clear hE a; intro a hE)
 | ((with_reducible refine g_cond ?_); refine c_dec hE rfl (fun hc => ?_) (fun hc => ?_) <;> try omega))
    exact ret1 hE rfl rfl ⟨rfl, hMl_close hsl hS⟩
  cases hbr : W.broken with
  | true =>
    have hf : W.app D b = (W, D, 8) := by
      have : W.readyE b.length = 8 := by unfold WM.readyE; rw [if_neg hl4, hbr]; rfl
      unfold WM.app
      rw [this]
      exact if_pos (by decide)
    rw [hf]
    rw [hbr] at hS
    repeat' (first
 | (with_reducible refine wp_seq ?_)
 | (with_reducible refine c_region ?_)
 | (with_reducible refine wpList_nil ?_)
 | (with_reducible refine then_normal ?_)
 | (with_reducible refine wp_ret ?_)
 | (with_reducible refine then_ret ?_)
 | (with_reducible refine wp_block ?_)
 | (with_reducible refine block_ret ?_)
 | ((with_reducible refine g_move ?_); refine s_move hE rfl rfl ?_; clear hE a; intro a hE)
 | ((with_reducible refine g_assign ?_); refine s_assign hE rfl rfl ?_; clear hE a; intro a hE)
 | ((with_reducible refine g_bin .gtr ?_); refine s_gtr hE rfl rfl rfl ?_; clear hE a; intro a hE)
 | ((with_reducible refine g_blt .len ?_); refine s_len hE rfl rfl ?_; clear hE a; intro a hE)
 | ((with_reducible refine g_fa ?_); refine s_fieldL hE rfl rfl rfl ?_; clear hE a; intro a hE)
 | ((with_reducible refine g_nc ?_); refine s_nilCheck hE rfl rfl ?_; clear hE a; intro a hE)
 | ((with_reducible refine g_cond ?_); refine c_true hE rfl ?_)
 | ((with_reducible refine g_cond ?_); refine c_dec hE rfl (fun hc => ?_) (fun hc => ?_) <;> try omega)
 | ((with_reducible refine g_load ?_); (first | (refine s_loadB (k := 0) hS hE rfl rfl rfl rfl ?_) ); clear hE a; intro a hE))
    rw [← hbr] at hS
    exact ret1 hE rfl rfl ⟨rfl, hMl_close hsl hS⟩
  | false =>
    have hre : W.readyE b.length = 0 := by unfold WM.readyE; rw [if_neg hl4, hbr]; rfl
    have hf : W.app D b = (if W.area < W.fin + secN b.length then (W, D, 6) else
        let r := D.wrs ((fromN W.turn W.area + W.fin : Nat) : Int) (partsB W.turn W.list.length b)
        if r.2 = 0 then ({ W with list := W.list ++ [b], fin := W.fin + secN b.length, broken := false }, r.1, 0) else ({ W with broken := true }, r.1, r.2)) := if_neg (by rw [hre]; decide)
    rw [hf, ← hsll]
    clear hf
    rw [hbr] at hS
    repeat' (first
 | (with_reducible refine wp_seq ?_)
 | (with_reducible refine c_region ?_)
 | (with_reducible refine wpList_nil ?_)
 | (with_reducible refine then_normal ?_)
 | (with_reducible refine wp_block ?_)
 | ((with_reducible refine g_move ?_); refine s_move hE rfl rfl ?_; clear hE a; intro a hE)
 | ((with_reducible refine g_assign ?_); refine s_assign hE rfl rfl ?_; clear hE a; intro a hE)
 | ((with_reducible refine g_bin .gtr ?_); refine s_gtr hE rfl rfl rfl ?_; clear hE a; intro a hE)
 | ((with_reducible refine g_blt .len ?_); refine s_len hE rfl rfl ?_; clear hE a; intro a hE)
 | ((with_reducible refine g_fa ?_); refine s_fieldL hE rfl rfl rfl ?_; clear hE a; intro a hE)
 | ((with_reducible refine g_nc ?_); refine s_nilCheck hE rfl rfl ?_; clear hE a; intro a hE)
 | ((with_reducible refine g_cond ?_); refine c_false hE rfl ?_)
 | ((with_reducible refine g_cond ?_); refine c_dec hE rfl (fun hc => ?_) (fun hc => ?_) <;> try omega)
 | ((with_reducible refine g_load ?_); (first | (refine s_loadB (k := 0) hS hE rfl rfl rfl rfl ?_) ); clear hE a; intro a hE))
    refine c_ordS hS 12 ((.rd 0 (.rd 1 (.rd 2 (.rd 3 (.rd 4 (.rd 5 (.rd 6 (.rd 7 (.rd 8 (.rd 9 (.rd 10 (.rd 11 .done))))))))))))) mixed (by decide +kernel) ?_
    clear hS; intro w hS
    repeat' (first
 | (with_reducible refine o_rd rfl ?_)
 | (with_reducible refine o_done ?_)
 | ((with_reducible refine q_move ?_); refine d_val hE hS rfl (fun w hS => r_move hE rfl) ?_; clear hE a; intro a hE)
 | ((with_reducible refine q_assign ?_); refine d_val hE hS rfl (fun w hS => r_assign hE rfl) ?_; clear hE a; intro a hE)
 | ((with_reducible refine q_bin .gtr ?_); refine d_val hE hS rfl (fun w hS => r_gtr hE rfl rfl) ?_; clear hE a; intro a hE)
 | ((with_reducible refine q_bin .sub ?_); refine d_val hE hS rfl (fun w hS => r_sub hE rfl rfl (by first  | exact subN (by omega) (by omega) )) ?_; clear hE a; intro a hE)
 | ((with_reducible refine q_fa ?_); refine d_val hE hS rfl (fun w hS => r_fieldL hE rfl rfl) ?_; clear hE a; intro a hE)
 | ((with_reducible refine q_nc ?_); refine d_val hE hS rfl (fun w hS => r_nilCheck hE rfl) ?_; clear hE a; intro a hE)
 | ((with_reducible refine q_load ?_); (first | (refine d_val hE hS rfl (fun w hS => r_loadB (k := 0) hS hE rfl rfl rfl) ?_) ); clear hE a; intro a hE))
    by_cases hfull : W.area < W.fin + secN b.length
    · rw [if_pos hfull]
      repeat' (first
 | (with_reducible refine wp_seq ?_)
 | (with_reducible refine c_region ?_)
 | (with_reducible refine wpList_nil ?_)
 | (with_reducible refine then_normal ?_)
 | (with_reducible refine wp_ret ?_)
 | (with_reducible refine then_ret ?_)
 | (with_reducible refine block_ret ?_)
 | ((with_reducible refine g_assign ?_); refine s_assign hE rfl rfl ?_; clear hE a; intro a hE)
 | ((with_reducible refine g_cond ?_); refine c_dec hE rfl (fun hc => ?_) (fun hc => ?_) <;> try omega))
      rw [← hbr] at hS
      exact ret1 hE rfl rfl ⟨rfl, hMl_close hsl hS⟩
    rw [if_neg hfull]
    repeat' (first
 | (with_reducible refine wp_seq ?_)
 | (with_reducible refine then_normal ?_)
 | (with_reducible refine wp_skip ?_)
 | (with_reducible refine block_normal ?_)
 | ((with_reducible refine g_cond ?_); refine c_dec hE rfl (fun hc => ?_) (fun hc => ?_) <;> try omega))
    refine c_ordK hS 0 rfl 34 ((.rd 0 (.rd 1 (.rd 2 (.rd 3 (.rd 4 (.rd 5 (.rd 6 (.rd 7 (.rd 8 (.rd 9 (.rd 10 (.rd 11 (.rd 12 (.rd 13 (.rd 14 (.rd 15 (.rd 16 (.rd 17 (.rd 18 (.rd 19 (.rd 20 (.rd 21 (.rd 22 (.rd 23 (.rd 24 (.rd 25 (.rd 26 (.rd 27 (.rd 28 (.rd 29 (.rd 30 (.rd 31 (.ef 32 (.ef 33 (.lt 34 .done)))))))))))))))))))))))))))))))))))) mixed (by decide +kernel) ?_
    clear hS; intro w hF hS
    repeat' (first
 | (with_reducible refine o_rd rfl ?_)
 | ((with_reducible refine q_move ?_); refine d_val hE hS rfl (fun w hS => r_move hE rfl) ?_; clear hE a; intro a hE)
 | ((with_reducible refine q_bin .add ?_); refine d_val hE hS rfl (fun w hS => r_add hE rfl rfl (by first | exact e4 | exact e5 )) ?_; clear hE a; intro a hE)
 | ((with_reducible refine q_bin .mul ?_); refine d_val hE hS rfl (fun w hS => r_mul hE rfl rfl (by first | exact e3 )) ?_; clear hE a; intro a hE)
 | ((with_reducible refine q_bin .rem ?_); refine d_val hE hS rfl (fun w hS => r_rem hE rfl rfl (by omega) (by first | exact e1 )) ?_; clear hE a; intro a hE)
 | ((with_reducible refine q_conv ?_); refine d_val hE hS rfl (fun w hS => r_conv hE rfl (by first | exact e2 | exact e6)) ?_; clear hE a; intro a hE)
 | ((with_reducible refine q_blt .len ?_); refine d_val hE hS rfl (fun w hS => r_len hE rfl) ?_; clear hE a; intro a hE)
 | ((with_reducible refine q_fa ?_); refine d_val hE hS rfl (fun w hS => r_fieldL hE rfl rfl) ?_; clear hE a; intro a hE)
 | ((with_reducible refine q_nc ?_); refine d_val hE hS rfl (fun w hS => r_nilCheck hE rfl) ?_; clear hE a; intro a hE)
 | ((with_reducible refine q_load ?_); (first | (refine d_val hE hS rfl (fun w hS => r_loadB (k := 0) hS hE rfl rfl rfl) ?_) ); clear hE a; intro a hE)
 | ((with_reducible refine o_ef rfl ?_)))
    refine s_call hE rfl rfl rfl (rframe W.turn sls.length b A c b.length rfl w3 (by omega) hb (by omega) w (hr w [_, _, _, _] hF)) ?_
    rintro _ w ⟨A2, c2, rfl, hS1⟩; clear hE a; intro a hE; replace hF := hF.frame hS1; clear hS1; simp only [List.cons_append, List.nil_append] at hF
    refine wpList_nil ?_
    refine o_back _ (fun _ h => h) (hF.only 1 rfl) ?_
    clear hS; have hS := hF.only 1 rfl
    repeat' (first
 | ((with_reducible refine o_ef rfl ?_)))
    have hlay := rwrite (g := gd) (w0 := w0) (w := w) (H := hRow 80 64 A2 (secN b.length) c2 ((partsB W.turn sls.length b).flatMap bys) :: hBlk gw 117 [.pointer (some ⟨gd, 0, none⟩), .int .i64 (W.area : Int), .int .u32 (W.turn : Int), .slice A1 sls.length c1, .int .i64 (W.fin : Int), .bool false] :: hRow 34 1 A1 sls.length c1 (sls.map Sl.v) :: wrP sls :: H) (fromN W.turn W.area + W.fin) (by omega) (partsB W.turn sls.length b) A2 c2 _ (partsB_len _ _ _).symm (partsB_ok hb (by omega)) (by rw [partsB_len]; omega) (fun w' L h => (h.perm (List.perm_append_comm (l₁ := L))).rd) hD hm (hF.focus (k := 4) rfl)
    refine s_call hE rfl rfl rfl hlay ?_
    clear hlay
    rintro _ w ⟨rfl, hF⟩; clear hE a; intro a hE
    dsimp only
    generalize D.wrs ((fromN W.turn W.area + W.fin : Nat) : Int) (partsB W.turn sls.length b) = r at hE hF ⊢
    obtain ⟨D1, e⟩ := r
    dsimp only at hE hF ⊢
    refine wpList_nil ?_
    refine o_back _ (fun _ h => h) (hF.only 2 rfl) ?_
    clear hS; have hS := hF.only 2 rfl
    repeat' (first
 | ((with_reducible refine o_lt rfl ?_)))
    clear hS; have hS := hF; clear hF
    repeat' (first
 | (with_reducible refine wpList_nil ?_)
 | ((with_reducible refine g_assign ?_); refine s_assign hE rfl rfl ?_; clear hE a; intro a hE))
    refine o_backL ?_
    repeat' (first
 | (with_reducible refine o_done ?_))
    by_cases he : e = 0
    · subst he
      rw [if_pos rfl]
      have hml : (sls.map Sl.v).length = sls.length * 1 := by rw [List.length_map, Nat.mul_one]
      have hlo : ∀ v ∈ sls.map Sl.v, v.oneCell' = true := fun v hv => by obtain ⟨s, _, rfl⟩ := List.mem_map.1 hv; rfl
      repeat' (first
 | (with_reducible refine wp_seq ?_)
 | (with_reducible refine c_region ?_)
 | (with_reducible refine wpList_nil ?_)
 | (with_reducible refine then_normal ?_)
 | (with_reducible refine wp_skip ?_)
 | ((with_reducible refine g_move ?_); refine s_move hE rfl rfl ?_; clear hE a; intro a hE)
 | ((with_reducible refine g_bin .neq ?_); refine s_neq hE rfl rfl rfl ?_; clear hE a; intro a hE)
 | ((with_reducible refine g_fa ?_); refine s_fieldL hE rfl rfl rfl ?_; clear hE a; intro a hE)
 | ((with_reducible refine g_nc ?_); refine s_nilCheck hE rfl rfl ?_; clear hE a; intro a hE)
 | ((with_reducible refine g_cond ?_); refine c_false hE rfl ?_)
 | ((with_reducible refine g_load ?_); (first | (refine s_loadB (k := 3) hS hE rfl rfl rfl rfl ?_) ); clear hE a; intro a hE)
 | ((with_reducible refine g_lit ?_); refine s_lit hE hS rfl rfl rfl rfl rfl (by first | (simp [Value.oneCell']; done)) rfl ?_; clear hE a hS; intro g a w hE hS))
      refine s_appendAt0 (k := 0) hE hS rfl rfl rfl (hS.rdAt (k := 4) rfl) hml hlo (by omega) rfl rfl rfl rfl ?_
      clear hS hE a; intro A5 c5 a w hE hS
      simp only [List.set_cons_zero, List.set_cons_succ] at hS
      repeat' (first
 | ((with_reducible refine g_move ?_); refine s_move hE rfl rfl ?_; clear hE a; intro a hE)
 | ((with_reducible refine g_lit ?_); refine s_lit hE hS rfl rfl rfl rfl rfl (by first | (simp [Value.oneCell']; done)) rfl ?_; clear hE a hS; intro g a w hE hS))
      have hbS := hr w [_, _, _, _, _, _, _] hS
      refine s_appendB0 (k := 0) (ys := b) hE hS rfl rfl rfl hbS rfl rfl (by omega) rfl rfl rfl ?_
      clear hS hE a; intro A6 c6 a w hE hS
      simp only [List.set_cons_zero, List.set_cons_succ] at hS
      repeat' (first
 | (with_reducible refine wp_seq ?_)
 | (with_reducible refine c_region ?_)
 | (with_reducible refine wpList_nil ?_)
 | (with_reducible refine then_normal ?_)
 | (with_reducible refine wp_ret ?_)
 | ((with_reducible refine g_move ?_); refine s_move hE rfl rfl ?_; clear hE a; intro a hE)
 | ((with_reducible refine g_assign ?_); refine s_assign hE rfl rfl ?_; clear hE a; intro a hE)
 | ((with_reducible refine g_bin .add ?_); refine s_add hE rfl rfl rfl (by first  | exact addN (by omega) ) ?_; clear hE a; intro a hE)
 | ((with_reducible refine g_fa ?_); refine s_fieldL hE rfl rfl rfl ?_; clear hE a; intro a hE)
 | ((with_reducible refine g_nc ?_); refine s_nilCheck hE rfl rfl ?_; clear hE a; intro a hE)
 | ((with_reducible refine g_load ?_); (first | (refine s_loadB (k := 5) hS hE rfl rfl rfl rfl ?_) ); clear hE a; intro a hE)
 | ((with_reducible refine g_store ?_); (first | (refine s_storeB (k := 5) hS hE rfl rfl rfl rfl rfl rfl ?_) ); clear hS; intro w hS; simp only [List.set_cons_zero, List.set_cons_succ, Nat.add_zero] at hS)
 | ((with_reducible refine g_lit ?_); refine s_lit hE hS rfl rfl rfl rfl rfl (by first | (simp [Value.oneCell']; done)) rfl ?_; clear hE a hS; intro g a w hE hS)
 | ((with_reducible refine g_blt .append ?_); (first | (refine s_appendAt (k := 2) hE hS rfl rfl rfl (by (first | exact hS.rd )) (by (first | rfl )) (by (first | (simp [Value.oneCell']; done))) (by omega) rfl rfl rfl rfl ?_) ); clear hE a hS; intro A c a w hE hS; simp only [List.set_cons_zero, List.set_cons_succ, Nat.add_zero] at hS))
      have h1 := wrP_add (s := ⟨A6, c6, b⟩) (St.selD [1, 6, 4, 1, 1] 3 hS)
      refine ret1 hE rfl rfl ⟨rfl, hMl_close (W := { W with list := W.list ++ [b], fin := W.fin + secN b.length, broken := false }) (sls := sls ++ [⟨A6, c6, b⟩]) (A := A) (c := c) ?_ ?_⟩
      · show (sls ++ [_]).map Sl.b = W.list ++ [b]
        rw [List.map_append, hsl]
        rfl
      · rw [List.length_append, List.map_append]
        exact (St.selD [1, 1, 0, 0] 0 h1)
    · rw [if_neg he]
      repeat' (first
 | (with_reducible refine wp_seq ?_)
 | (with_reducible refine c_region ?_)
 | (with_reducible refine wpList_nil ?_)
 | (with_reducible refine then_normal ?_)
 | (with_reducible refine wp_ret ?_)
 | (with_reducible refine then_ret ?_)
 | ((with_reducible refine g_move ?_); refine s_move hE rfl rfl ?_; clear hE a; intro a hE)
 | ((with_reducible refine g_assign ?_); refine s_assign hE rfl rfl ?_; clear hE a; intro a hE)
 | ((with_reducible refine g_bin .neq ?_); refine s_neq hE rfl rfl rfl ?_; clear hE a; intro a hE)
 | ((with_reducible refine g_fa ?_); refine s_fieldL hE rfl rfl rfl ?_; clear hE a; intro a hE)
 | ((with_reducible refine g_nc ?_); refine s_nilCheck hE rfl rfl ?_; clear hE a; intro a hE)
 | ((with_reducible refine g_cond ?_); refine c_dec hE rfl (fun hc => ?_) (fun hc => ?_) <;> try omega)
 | ((with_reducible refine g_store ?_); (first | (refine s_storeB (k := 2) hS hE rfl rfl rfl rfl rfl rfl ?_) ); clear hS; intro w hS; simp only [List.set_cons_zero, List.set_cons_succ, Nat.add_zero] at hS))
      exact ret1 hE rfl rfl ⟨rfl, hMl_close (W := { W with broken := true }) hsl (St.selD [2, 2, 2, 0] 1 hS)⟩
end
end Go.Proofs.Ytfoeelghehjanaa
/-
  Contract: the document's log begins anew.
-/
namespace Go.Proofs.Ytfoeelghehjanaa
open Go.RowKit
set_option linter.unusedVariables false
set_option linter.unusedSimpArgs false
attribute [local irreducible] Rd hRow hBlk hRd hRdr wrP hDk hWl hMl Fn FnD hMarks
section
variable {g gd gw : Nat} {D : DM} {H : List HP} {w0 w : World} {m : Nat}
set_option maxHeartbeats 8000000
set_option maxRecDepth 20000
theorem rchk (gw gd : Nat) (W : WM) (D : DM) (b : List Nat) (A : Option Addr) (c : Nat) (hW : W.ok) (hb : Bs b) (hl : b.length ≤ 140737488351232) (hr : ∀ w' L, St w0 w' (L ++ H) → Rd w' A (bys b)) (hD : D.atN m) (hm : m ≤ 70000) (hS : St w0 w (hMl gw gd W :: hDk gd D :: H)) :
    Fn Try.prog 74 [.pointer (some ⟨gw, 0, none⟩), .slice A b.length c] w fun v w' => v = .int .i64 (W.chk D b).2.2 ∧ St w0 w' (hMl gw gd (W.chk D b).1 :: hDk gd (W.chk D b).2.1 :: H) := by
  obtain ⟨w1, w2, w3, w4, w5, w6⟩ := hW
  obtain ⟨A1, c1, sls, hsl, hS⟩ := hMl_open hS
  have hfr := fromN_le (W.turn + 1) W.area w1
  have hsl2 := secN_le b.length
  have h2 : (W.turn + 1) % 2 < 2 := Nat.mod_lt _ (by decide)
  refine enter 94 Try.func74 rfl rfl rfl ?_
  intro a hE
  repeat' (first
 | (with_reducible refine wp_seq ?_)
 | (with_reducible refine c_region ?_)
 | (with_reducible refine wpList_nil ?_)
 | (with_reducible refine then_normal ?_)
 | ((with_reducible refine g_move ?_); refine s_move hE rfl rfl ?_; clear hE a; intro a hE)
 | ((with_reducible refine g_assign ?_); refine s_assign hE rfl rfl ?_; clear hE a; intro a hE)
 | ((with_reducible refine g_blt .len ?_); refine s_len hE rfl rfl ?_; clear hE a; intro a hE))
  refine s_call hE rfl rfl rfl (rsectors b.length (by omega) w) ?_
  rintro _ w ⟨rfl, hS1⟩; clear hE a; intro a hE; replace hS := hS.frame hS1; clear hS1; try simp only [List.cons_append, List.nil_append] at hS
  by_cases hl4 : 40000 < b.length
  · have hf : W.chk D b = (W, D, 3) := by
      have : W.readyE b.length = 3 := if_pos hl4
      unfold WM.chk
      rw [this]
      exact if_pos (by decide)
    rw [hf]
    repeat' (first
 | (with_reducible refine wp_seq ?_)
 | (with_reducible refine c_region ?_)
 | (with_reducible refine wpList_nil ?_)
 | (with_reducible refine then_normal ?_)
 | (with_reducible refine wp_ret ?_)
 | (with_reducible refine then_ret ?_)
 | (with_reducible refine wp_block ?_)
 | (with_reducible refine block_ret ?_)
 | ((with_reducible refine g_move ?_); refine s_move hE rfl rfl ?_; clear hE a; intro a hE)
 | ((with_reducible refine g_assign ?_); refine s_assign hE rfl rfl ?_; clear hE a; intro a hE)
 | ((with_reducible refine g_bin .gtr ?_); refine s_gtr hE rfl rfl rfl ?_; clear hE a; intro a hE)
 | ((with_reducible refine g_blt .len ?_); refine s_len hE rfl rfl ?_; clear hE a; intro a hE)
 | ((with_reducible refine g_cond ?_); refine c_dec hE rfl (fun hc => ?_) (fun hc => ?_) <;> try omega))
    exact ret1 hE rfl rfl ⟨rfl, hMl_close hsl hS⟩
  cases hbr : W.broken with
  | true =>
    have hf : W.chk D b = (W, D, 8) := by
      have : W.readyE b.length = 8 := by unfold WM.readyE; rw [if_neg hl4, hbr]; rfl
      unfold WM.chk
      rw [this]
      exact if_pos (by decide)
    rw [hf]
    rw [hbr] at hS
    repeat' (first
 | (with_reducible refine wp_seq ?_)
 | (with_reducible refine c_region ?_)
 | (with_reducible refine wpList_nil ?_)
 | (with_reducible refine then_normal ?_)
 | (with_reducible refine wp_ret ?_)
 | (with_reducible refine then_ret ?_)
 | (with_reducible refine wp_block ?_)
 | (with_reducible refine block_ret ?_)
 | ((with_reducible refine g_move ?_); refine s_move hE rfl rfl ?_; clear hE a; intro a hE)
 | ((with_reducible refine g_assign ?_); refine s_assign hE rfl rfl ?_; clear hE a; intro a hE)
 | ((with_reducible refine g_bin .gtr ?_); refine s_gtr hE rfl rfl rfl ?_; clear hE a; intro a hE)
 | ((with_reducible refine g_blt .len ?_); refine s_len hE rfl rfl ?_; clear hE a; intro a hE)
 | ((with_reducible refine g_fa ?_); refine s_fieldL hE rfl rfl rfl ?_; clear hE a; intro a hE)
 | ((with_reducible refine g_nc ?_); refine s_nilCheck hE rfl rfl ?_; clear hE a; intro a hE)
 | ((with_reducible refine g_cond ?_); refine c_true hE rfl ?_)
 | ((with_reducible refine g_cond ?_); refine c_dec hE rfl (fun hc => ?_) (fun hc => ?_) <;> try omega)
 | ((with_reducible refine g_load ?_); (first | (refine s_loadB (k := 0) hS hE rfl rfl rfl rfl ?_) ); clear hE a; intro a hE))
    rw [← hbr] at hS
    exact ret1 hE rfl rfl ⟨rfl, hMl_close hsl hS⟩
  | false =>
    have hre : W.readyE b.length = 0 := by unfold WM.readyE; rw [if_neg hl4, hbr]; rfl
    have hf : W.chk D b = (if W.area < secN b.length ∨ W.turn = 4294967295 then (W, D, 6) else
        let r1 := D.wrs ((fromN (W.turn + 1) W.area : Nat) : Int) (partsB (W.turn + 1) 0 b)
        let r2 := if r1.2 = 0 then r1.1.wrs (((W.turn + 1) % 2 : Nat) : Int) [headB (W.turn + 1) W.area] else r1
        if r2.2 = 0 then ({ W with turn := W.turn + 1, list := [b], fin := secN b.length, broken := false }, r2.1, 0) else ({ W with broken := true }, r2.1, r2.2)) := if_neg (by rw [hre]; decide)
    rw [hf]
    clear hf
    rw [hbr] at hS
    by_cases hfull : W.area < secN b.length ∨ W.turn = 4294967295
    · rw [if_pos hfull]
      repeat' (first
 | (with_reducible refine wp_seq ?_)
 | (with_reducible refine c_region ?_)
 | (with_reducible refine wpList_nil ?_)
 | (with_reducible refine then_normal ?_)
 | (with_reducible refine wp_ret ?_)
 | (with_reducible refine then_ret ?_)
 | (with_reducible refine wp_block ?_)
 | (with_reducible refine block_ret ?_)
 | ((with_reducible refine g_move ?_); refine s_move hE rfl rfl ?_; clear hE a; intro a hE)
 | ((with_reducible refine g_assign ?_); refine s_assign hE rfl rfl ?_; clear hE a; intro a hE)
 | ((with_reducible refine g_bin .gtr ?_); refine s_gtr hE rfl rfl rfl ?_; clear hE a; intro a hE)
 | ((with_reducible refine g_bin .eql ?_); refine s_eql hE rfl rfl rfl ?_; clear hE a; intro a hE)
 | ((with_reducible refine g_blt .len ?_); refine s_len hE rfl rfl ?_; clear hE a; intro a hE)
 | ((with_reducible refine g_fa ?_); refine s_fieldL hE rfl rfl rfl ?_; clear hE a; intro a hE)
 | ((with_reducible refine g_nc ?_); refine s_nilCheck hE rfl rfl ?_; clear hE a; intro a hE)
 | ((with_reducible refine g_guard ?_); refine gd_yes hE rfl rfl rfl ?_)
 | ((with_reducible refine g_guard ?_); refine gd_no hE rfl rfl rfl rfl ?_; clear hE a; intro a hE)
 | ((with_reducible refine g_guard ?_); refine gd_dec hE rfl rfl (fun hc hE2 => ?_) (fun hc hE2 => ?_) <;> (try omega) <;> (replace hE := hE2; clear hE2))
 | ((with_reducible refine g_pick ?_); refine s_pickT hE rfl rfl rfl ?_; clear hE a; intro a hE)
 | ((with_reducible refine g_pick ?_); refine s_pickF hE rfl rfl rfl ?_; clear hE a; intro a hE)
 | ((with_reducible refine g_cond ?_); refine c_true hE rfl ?_)
 | ((with_reducible refine g_cond ?_); refine c_false hE rfl ?_)
 | ((with_reducible refine g_cond ?_); refine c_dec hE rfl (fun hc => ?_) (fun hc => ?_) <;> try omega)
 | ((with_reducible refine g_load ?_); (first | (refine s_loadB (k := 0) hS hE rfl rfl rfl rfl ?_) ); clear hE a; intro a hE))
      all_goals (rw [← hbr] at hS; exact ret1 hE rfl rfl ⟨rfl, hMl_close hsl hS⟩)
    rw [if_neg hfull]
    obtain ⟨tn, htn⟩ : ∃ tn, tn = W.turn + 1 := ⟨_, rfl⟩
    have e0 : IntKind.u32.wrap ((W.turn : Int) + 1) = (tn : Int) := by rw [wrap_u32_in (by omega)]; omega
    rw [← htn] at hfr h2 ⊢
    have e1 : (tn : Int).tmod 2 = ((tn % 2 : Nat) : Int) := tmod_nat tn 2
    have e2 : IntKind.i64.wrap ((tn % 2 : Nat) : Int) = ((tn % 2 : Nat) : Int) := wrap64_in (by omega)
    have hma : tn % 2 * W.area ≤ 1000 := by
      generalize tn % 2 = m at h2
      rcases (by omega : m = 0 ∨ m = 1) with rfl | rfl <;> omega
    have e3 : IntKind.i64.wrap (((tn % 2 : Nat) : Int) * (W.area : Int)) = ((tn % 2 * W.area : Nat) : Int) := by rw [← Int.natCast_mul, wrap64_in (by omega)]
    have e4 : IntKind.i64.wrap (2 + ((tn % 2 * W.area : Nat) : Int)) = ((fromN tn W.area : Nat) : Int) := by
      rw [wrap64_in (by omega)]
      unfold fromN
      omega
    repeat' (first
 | (with_reducible refine wp_seq ?_)
 | (with_reducible refine c_region ?_)
 | (with_reducible refine wpList_nil ?_)
 | (with_reducible refine then_normal ?_)
 | (with_reducible refine wp_skip ?_)
 | (with_reducible refine wp_block ?_)
 | (with_reducible refine block_normal ?_)
 | ((with_reducible refine g_move ?_); refine s_move hE rfl rfl ?_; clear hE a; intro a hE)
 | ((with_reducible refine g_assign ?_); refine s_assign hE rfl rfl ?_; clear hE a; intro a hE)
 | ((with_reducible refine g_bin .gtr ?_); refine s_gtr hE rfl rfl rfl ?_; clear hE a; intro a hE)
 | ((with_reducible refine g_bin .eql ?_); refine s_eql hE rfl rfl rfl ?_; clear hE a; intro a hE)
 | ((with_reducible refine g_bin .add ?_); refine s_add hE rfl rfl rfl (by first | exact e0 ) ?_; clear hE a; intro a hE)
 | ((with_reducible refine g_blt .len ?_); refine s_len hE rfl rfl ?_; clear hE a; intro a hE)
 | ((with_reducible refine g_fa ?_); refine s_fieldL hE rfl rfl rfl ?_; clear hE a; intro a hE)
 | ((with_reducible refine g_nc ?_); refine s_nilCheck hE rfl rfl ?_; clear hE a; intro a hE)
 | ((with_reducible refine g_guard ?_); refine gd_yes hE rfl rfl rfl ?_)
 | ((with_reducible refine g_guard ?_); refine gd_dec hE rfl rfl (fun hc hE2 => ?_) (fun hc hE2 => ?_) <;> (try omega) <;> (replace hE := hE2; clear hE2))
 | ((with_reducible refine g_pick ?_); refine s_pickF hE rfl rfl rfl ?_; clear hE a; intro a hE)
 | ((with_reducible refine g_cond ?_); refine c_false hE rfl ?_)
 | ((with_reducible refine g_cond ?_); refine c_dec hE rfl (fun hc => ?_) (fun hc => ?_) <;> try omega)
 | ((with_reducible refine g_load ?_); (first | (refine s_loadB (k := 0) hS hE rfl rfl rfl rfl ?_) ); clear hE a; intro a hE))
    refine c_ordK hS 0 rfl 17 ((.rd 0 (.rd 1 (.rd 2 (.rd 3 (.rd 4 (.rd 5 (.rd 6 (.rd 7 (.rd 8 (.rd 9 (.rd 10 (.rd 11 (.rd 12 (.rd 13 (.rd 14 (.ef 15 (.ef 16 (.lt 17 .done))))))))))))))))))) mixed (by decide +kernel) ?_
    clear hS; intro w hF hS
    repeat' (first
 | (with_reducible refine o_rd rfl ?_)
 | ((with_reducible refine q_move ?_); refine d_val hE hS rfl (fun w hS => r_move hE rfl) ?_; clear hE a; intro a hE)
 | ((with_reducible refine q_bin .add ?_); refine d_val hE hS rfl (fun w hS => r_add hE rfl rfl (by first | exact e4)) ?_; clear hE a; intro a hE)
 | ((with_reducible refine q_bin .mul ?_); refine d_val hE hS rfl (fun w hS => r_mul hE rfl rfl (by first | exact e3 )) ?_; clear hE a; intro a hE)
 | ((with_reducible refine q_bin .rem ?_); refine d_val hE hS rfl (fun w hS => r_rem hE rfl rfl (by omega) (by first | exact e1 )) ?_; clear hE a; intro a hE)
 | ((with_reducible refine q_conv ?_); refine d_val hE hS rfl (fun w hS => r_conv hE rfl (by first | exact e2 )) ?_; clear hE a; intro a hE)
 | ((with_reducible refine q_fa ?_); refine d_val hE hS rfl (fun w hS => r_fieldL hE rfl rfl) ?_; clear hE a; intro a hE)
 | ((with_reducible refine q_nc ?_); refine d_val hE hS rfl (fun w hS => r_nilCheck hE rfl) ?_; clear hE a; intro a hE)
 | ((with_reducible refine q_load ?_); (first | (refine d_val hE hS rfl (fun w hS => r_loadB (k := 0) hS hE rfl rfl rfl) ?_) ); clear hE a; intro a hE)
 | ((with_reducible refine o_ef rfl ?_)))
    refine s_call hE rfl rfl rfl (rframe tn 0 b A c b.length rfl (by omega) (by decide) hb (by omega) w (hr w [_, _, _, _] hF)) ?_
    rintro _ w ⟨A2, c2, rfl, hS1⟩; clear hE a; intro a hE; replace hF := hF.frame hS1; clear hS1; simp only [List.cons_append, List.nil_append] at hF
    refine wpList_nil ?_
    refine o_back _ (fun _ h => h) (hF.only 1 rfl) ?_
    clear hS; have hS := hF.only 1 rfl
    repeat' (first
 | ((with_reducible refine o_ef rfl ?_)))
    have hlay := rwrite (g := gd) (w0 := w0) (w := w) (H := hRow 80 64 A2 (secN b.length) c2 ((partsB tn 0 b).flatMap bys) :: hBlk gw 117 [.pointer (some ⟨gd, 0, none⟩), .int .i64 (W.area : Int), .int .u32 (W.turn : Int), .slice A1 sls.length c1, .int .i64 (W.fin : Int), .bool false] :: hRow 34 1 A1 sls.length c1 (sls.map Sl.v) :: wrP sls :: H) (fromN tn W.area) (by omega) (partsB tn 0 b) A2 c2 _ (partsB_len _ _ _).symm (partsB_ok hb (by omega)) (by rw [partsB_len]; omega) (fun w' L h => (h.perm (List.perm_append_comm (l₁ := L))).rd) hD (by omega) (hF.focus (k := 4) rfl)
    refine s_call hE rfl rfl rfl hlay ?_
    clear hlay
    rintro _ w ⟨rfl, hF⟩; clear hE a; intro a hE
    have hD1 : (D.wrs ((fromN tn W.area : Nat) : Int) (partsB tn 0 b)).1.atN (m + 900) := wrs_atN hb (by omega) hD (by omega)
    dsimp only
    generalize D.wrs ((fromN tn W.area : Nat) : Int) (partsB tn 0 b) = r at hE hF hD1 ⊢
    obtain ⟨D1, e⟩ := r
    dsimp only at hE hF hD1 ⊢
    refine wpList_nil ?_
    refine o_back _ (fun _ h => h) (hF.only 2 rfl) ?_
    clear hS; have hS := hF.only 2 rfl
    repeat' (first
 | ((with_reducible refine o_lt rfl ?_)))
    clear hS; have hS := hF; clear hF
    repeat' (first
 | (with_reducible refine wpList_nil ?_)
 | ((with_reducible refine g_assign ?_); refine s_assign hE rfl rfl ?_; clear hE a; intro a hE))
    refine o_backL ?_
    repeat' (first
 | (with_reducible refine o_done ?_))
    by_cases he : e = 0
    · subst he
      rw [if_pos rfl]
      repeat' (first
 | (with_reducible refine wp_seq ?_)
 | (with_reducible refine c_region ?_)
 | (with_reducible refine wpList_nil ?_)
 | (with_reducible refine then_normal ?_)
 | ((with_reducible refine g_move ?_); refine s_move hE rfl rfl ?_; clear hE a; intro a hE)
 | ((with_reducible refine g_bin .eql ?_); refine s_eql hE rfl rfl rfl ?_; clear hE a; intro a hE)
 | ((with_reducible refine g_cond ?_); refine c_true hE rfl ?_))
      refine c_ordK hS 2 rfl 15 ((.rd 0 (.rd 1 (.rd 2 (.rd 3 (.rd 4 (.rd 5 (.rd 6 (.rd 7 (.rd 8 (.rd 9 (.rd 10 (.rd 11 (.ef 12 (.ef 13 (.ef 14 (.lt 15 .done))))))))))))))))) mixed (by decide +kernel) ?_
      clear hS; intro w hF hS
      repeat' (first
 | (with_reducible refine o_rd rfl ?_)
 | ((with_reducible refine q_move ?_); refine d_val hE hS rfl (fun w hS => r_move hE rfl) ?_; clear hE a; intro a hE)
 | ((with_reducible refine q_bin .rem ?_); refine d_val hE hS rfl (fun w hS => r_rem hE rfl rfl (by omega) (by first | exact e1 )) ?_; clear hE a; intro a hE)
 | ((with_reducible refine q_conv ?_); refine d_val hE hS rfl (fun w hS => r_conv hE rfl (by first | exact e2)) ?_; clear hE a; intro a hE)
 | ((with_reducible refine q_fa ?_); refine d_val hE hS rfl (fun w hS => r_fieldL hE rfl rfl) ?_; clear hE a; intro a hE)
 | ((with_reducible refine q_nc ?_); refine d_val hE hS rfl (fun w hS => r_nilCheck hE rfl) ?_; clear hE a; intro a hE)
 | ((with_reducible refine q_load ?_); (first | (refine d_val hE hS rfl (fun w hS => r_loadB (k := 0) hS hE rfl rfl rfl) ?_) ); clear hE a; intro a hE)
 | ((with_reducible refine o_ef rfl ?_)))
      refine s_call hE rfl rfl rfl (rhead tn W.area (by omega) (by omega) w) ?_
      rintro _ w ⟨rfl, hS1⟩; clear hE a; intro a hE; replace hF := hF.frame hS1; clear hS1; simp only [List.cons_append, List.nil_append] at hF
      refine wpList_nil ?_
      refine o_back _ (fun _ h => h) (hF.only 2 rfl) ?_
      clear hS; have hS := hF.only 2 rfl
      repeat' (first
 | ((with_reducible refine o_ef rfl ?_)))
      have hhl : (bys (headB tn W.area)).length = 64 := by rw [bys_length]; exact headB_len _ _
      refine s_litA (vs := bys (headB tn W.area)) hE hF rfl hhl rfl rfl rfl ?_
      clear hE a hF; intro gl a w hE hF
      refine wpList_nil ?_
      refine o_back _ (fun _ h => h) (hF.only 3 rfl) ?_
      clear hS; have hS := hF.only 3 rfl
      repeat' (first
 | ((with_reducible refine o_ef rfl ?_)))
      have hput := rwrite (g := gd) (w0 := w0) (w := w) (H := hRow 80 64 (some ⟨gl, 0, none⟩) 1 1 (bys (headB tn W.area)) :: hRow 80 64 A2 (secN b.length) c2 ((partsB tn 0 b).flatMap bys) :: hBlk gw 117 [.pointer (some ⟨gd, 0, none⟩), .int .i64 (W.area : Int), .int .u32 (W.turn : Int), .slice A1 sls.length c1, .int .i64 (W.fin : Int), .bool false] :: hRow 34 1 A1 sls.length c1 (sls.map Sl.v) :: wrP sls :: H) (tn % 2) (by omega) [headB tn W.area] (some ⟨gl, 0, none⟩) 1 1 rfl head1_ok (by rw [List.length_singleton]; decide) (fun w' L h => by
        rw [List.flatMap_singleton]
        exact (h.perm (List.perm_append_comm (l₁ := L))).rd) hD1 (by omega) (hF.focus (k := 1) rfl)
      refine s_call hE rfl rfl rfl hput ?_
      clear hput
      rintro _ w ⟨rfl, hF⟩; clear hE a; intro a hE
      generalize D1.wrs ((tn % 2 : Nat) : Int) [headB tn W.area] = r at hE hF ⊢
      obtain ⟨D2, e'⟩ := r
      dsimp only at hE hF ⊢
      refine wpList_nil ?_
      refine o_back _ (fun _ h => h) (hF.only 3 rfl) ?_
      clear hS; have hS := hF.only 3 rfl
      repeat' (first
 | ((with_reducible refine o_lt rfl ?_)))
      clear hS; have hS := hF; clear hF
      repeat' (first
 | (with_reducible refine wpList_nil ?_)
 | ((with_reducible refine g_assign ?_); refine s_assign hE rfl rfl ?_; clear hE a; intro a hE))
      refine o_backL ?_
      repeat' (first
 | (with_reducible refine o_done ?_))
      by_cases he : e' = 0
      · subst he
        rw [if_pos rfl]
        repeat' (first
 | (with_reducible refine wp_seq ?_)
 | (with_reducible refine c_region ?_)
 | (with_reducible refine wpList_nil ?_)
 | (with_reducible refine then_normal ?_)
 | (with_reducible refine wp_skip ?_)
 | ((with_reducible refine g_move ?_); refine s_move hE rfl rfl ?_; clear hE a; intro a hE)
 | ((with_reducible refine g_bin .neq ?_); refine s_neq hE rfl rfl rfl ?_; clear hE a; intro a hE)
 | ((with_reducible refine g_cond ?_); refine c_false hE rfl ?_)
 | ((with_reducible refine g_lit ?_); refine s_lit hE hS rfl rfl rfl rfl rfl (by first | (simp [Value.oneCell']; done)) rfl ?_; clear hE a hS; intro g a w hE hS))
        have hbS := hr w [_, _, _, _, _, _, _] hS
        refine s_appendB0 (k := 0) (ys := b) hE hS rfl rfl rfl hbS rfl rfl (by omega) rfl rfl rfl ?_
        clear hS hE a; intro A6 c6 a w hE hS
        simp only [List.set_cons_zero, List.set_cons_succ] at hS
        repeat' (first
 | (with_reducible refine wp_seq ?_)
 | (with_reducible refine c_region ?_)
 | (with_reducible refine wpList_nil ?_)
 | (with_reducible refine then_normal ?_)
 | (with_reducible refine wp_ret ?_)
 | ((with_reducible refine g_move ?_); refine s_move hE rfl rfl ?_; clear hE a; intro a hE)
 | ((with_reducible refine g_assign ?_); refine s_assign hE rfl rfl ?_; clear hE a; intro a hE)
 | ((with_reducible refine g_fa ?_); refine s_fieldL hE rfl rfl rfl ?_; clear hE a; intro a hE)
 | ((with_reducible refine g_nc ?_); refine s_nilCheck hE rfl rfl ?_; clear hE a; intro a hE)
 | ((with_reducible refine g_store ?_); (first | (refine s_storeB (k := 5) hS hE rfl rfl rfl rfl rfl rfl ?_) ); clear hS; intro w hS; simp only [List.set_cons_zero, List.set_cons_succ, Nat.add_zero] at hS)
 | ((with_reducible refine g_lit ?_); refine s_lit hE hS rfl rfl rfl rfl rfl (by first | (simp [Value.oneCell']; done)) rfl ?_; clear hE a hS; intro g a w hE hS))
        have h0 := wrP_nil hS
        have h1 := wrP_add (l := []) (s := ⟨A6, c6, b⟩) (St.selD [2, 0, 4, 0, 0] 4 h0)
        exact ret1 hE rfl rfl ⟨rfl, hMl_close (W := { W with turn := tn, list := [b], fin := secN b.length, broken := false }) (sls := [⟨A6, c6, b⟩]) rfl (St.selD [1, 1, 0, 0] 0 h1)⟩
      · rw [if_neg he]
        repeat' (first
 | (with_reducible refine wp_seq ?_)
 | (with_reducible refine c_region ?_)
 | (with_reducible refine wpList_nil ?_)
 | (with_reducible refine then_normal ?_)
 | (with_reducible refine wp_ret ?_)
 | (with_reducible refine then_ret ?_)
 | ((with_reducible refine g_move ?_); refine s_move hE rfl rfl ?_; clear hE a; intro a hE)
 | ((with_reducible refine g_assign ?_); refine s_assign hE rfl rfl ?_; clear hE a; intro a hE)
 | ((with_reducible refine g_bin .neq ?_); refine s_neq hE rfl rfl rfl ?_; clear hE a; intro a hE)
 | ((with_reducible refine g_fa ?_); refine s_fieldL hE rfl rfl rfl ?_; clear hE a; intro a hE)
 | ((with_reducible refine g_nc ?_); refine s_nilCheck hE rfl rfl ?_; clear hE a; intro a hE)
 | ((with_reducible refine g_cond ?_); refine c_dec hE rfl (fun hc => ?_) (fun hc => ?_) <;> try omega)
 | ((with_reducible refine g_store ?_); (first | (refine s_storeB (k := 3) hS hE rfl rfl rfl rfl rfl rfl ?_) ); clear hS; intro w hS; simp only [List.set_cons_zero, List.set_cons_succ, Nat.add_zero] at hS))
        exact ret1 hE rfl rfl ⟨rfl, hMl_close (W := { W with broken := true }) hsl (St.selD [3, 3, 3, 0] 2 hS)⟩
    · rw [if_neg he, if_neg he]
      repeat' (first
 | (with_reducible refine wp_seq ?_)
 | (with_reducible refine c_region ?_)
 | (with_reducible refine wpList_nil ?_)
 | (with_reducible refine then_normal ?_)
 | (with_reducible refine wp_skip ?_)
 | (with_reducible refine wp_ret ?_)
 | (with_reducible refine then_ret ?_)
 | ((with_reducible refine g_move ?_); refine s_move hE rfl rfl ?_; clear hE a; intro a hE)
 | ((with_reducible refine g_assign ?_); refine s_assign hE rfl rfl ?_; clear hE a; intro a hE)
 | ((with_reducible refine g_bin .eql ?_); refine s_eql hE rfl rfl rfl ?_; clear hE a; intro a hE)
 | ((with_reducible refine g_bin .neq ?_); refine s_neq hE rfl rfl rfl ?_; clear hE a; intro a hE)
 | ((with_reducible refine g_fa ?_); refine s_fieldL hE rfl rfl rfl ?_; clear hE a; intro a hE)
 | ((with_reducible refine g_nc ?_); refine s_nilCheck hE rfl rfl ?_; clear hE a; intro a hE)
 | ((with_reducible refine g_cond ?_); refine c_dec hE rfl (fun hc => ?_) (fun hc => ?_) <;> try omega)
 | ((with_reducible refine g_store ?_); (first | (refine s_storeB (k := 2) hS hE rfl rfl rfl rfl rfl rfl ?_) ); clear hS; intro w hS; simp only [List.set_cons_zero, List.set_cons_succ, Nat.add_zero] at hS))
      exact ret1 hE rfl rfl ⟨rfl, hMl_close (W := { W with broken := true }) hsl (St.selD [2, 2, 2, 0] 1 hS)⟩
end
end Go.Proofs.Ytfoeelghehjanaa
