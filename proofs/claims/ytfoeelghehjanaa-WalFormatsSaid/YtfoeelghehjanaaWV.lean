/-
  What a log tells, held against what was told.
-/
import Derived.Test.YtfoeelghehjanaaWU
namespace Go.Proofs.Ytfoeelghehjanaa
open Go.RowKit
set_option linter.unusedVariables false
set_option linter.unusedSimpArgs false
attribute [local irreducible] Rd hRow hBlk hRd hRdr wrP hDk hWl Fn FnD hMarks

/-- a state in memory: its two cells, and what it tells -/
abbrev sttL (x y : Value) (s : Sl) (A : Option Addr) (c : Nat) (l : List Sl) (sb : List Nat) (bs : List (List Nat)) : List HP :=
  [hRd s.A (bys s.b), hRow 34 1 A l.length c (l.map Sl.v), wrP l, hPure (x = s.v ∧ y = .slice A l.length c ∧ s.b = sb ∧ l.map Sl.b = bs)]
def hStt (x y : Value) (sb : List Nat) (bs : List (List Nat)) : HP := hEx fun p : Sl × (Option Addr × Nat) × List Sl => hAll (sttL x y p.1 p.2.1.1 p.2.1.2 p.2.2 sb bs)
section
variable {x y : Value} {sb : List Nat} {bs : List (List Nat)} {H : List HP} {w0 w : World}
theorem hStt_open (hS : St w0 w (hStt x y sb bs :: H)) : ∃ (s : Sl) (A : Option Addr) (c : Nat) (l : List Sl), x = s.v ∧ y = .slice A l.length c ∧ s.b = sb ∧ l.map Sl.b = bs ∧ St w0 w (hRd s.A (bys s.b) :: hRow 34 1 A l.length c (l.map Sl.v) :: wrP l :: H) := by
  obtain ⟨p, h⟩ := St.ex hS
  have h1 := St.open_ h
  simp only [sttL, List.cons_append, List.nil_append] at h1
  obtain ⟨e1, e2, e3, e4⟩ := (h1.focus (k := 3) rfl).pure
  exact ⟨p.1, p.2.1.1, p.2.1.2, p.2.2, e1, e2, e3, e4, h1.drop 3⟩
theorem hStt_close {s : Sl} {A : Option Addr} {c : Nat} {l : List Sl} (h1 : x = s.v) (h2 : y = .slice A l.length c) (h3 : s.b = sb) (h4 : l.map Sl.b = bs) (hS : St w0 w (hRd s.A (bys s.b) :: hRow 34 1 A l.length c (l.map Sl.v) :: wrP l :: H)) : St w0 w (hStt x y sb bs :: H) := by
  have h5 := hS.pureI (p := x = s.v ∧ y = .slice A l.length c ∧ s.b = sb ∧ l.map Sl.b = bs) ⟨h1, h2, h3, h4⟩
  have h6 : St w0 w (sttL x y s A c l sb bs ++ H) := (St.selD [1, 1, 1, 0] 0 h5)
  exact St.exI (s, (A, c), l) (St.close_ h6)
theorem hStt_one (hS : St w0 w (hStt x y sb bs :: H)) : ∀ v ∈ [x, y], v.oneCell' = true := by
  obtain ⟨s, A, c, l, rfl, rfl, _⟩ := hStt_open hS
  intro v hv
  rcases List.mem_cons.1 hv with rfl | hv
  · rfl
  · rw [List.mem_singleton] at hv; subst hv; rfl
/-- the state that is told, while it is gathered -/
abbrev tsL (g : Nat) (sv : Value) (A : Option Addr) (c : Nat) (l : List Sl) (bs : List (List Nat)) : List HP :=
  [hBlk g 37 [sv, .slice A l.length c], hRow 34 1 A l.length c (l.map Sl.v), wrP l, hPure (l.map Sl.b = bs)]
def hTs (g : Nat) (sv : Value) (bs : List (List Nat)) : HP := hEx fun p : (Option Addr × Nat) × List Sl => hAll (tsL g sv p.1.1 p.1.2 p.2 bs)
theorem hTs_open {g : Nat} {sv : Value} (hS : St w0 w (hTs g sv bs :: H)) : ∃ (A : Option Addr) (c : Nat) (l : List Sl), l.map Sl.b = bs ∧ St w0 w (hBlk g 37 [sv, .slice A l.length c] :: hRow 34 1 A l.length c (l.map Sl.v) :: wrP l :: H) := by
  obtain ⟨p, h⟩ := St.ex hS
  have h1 := St.open_ h
  simp only [tsL, List.cons_append, List.nil_append] at h1
  exact ⟨p.1.1, p.1.2, p.2, (h1.focus (k := 3) rfl).pure, h1.drop 3⟩
theorem hTs_close {g : Nat} {sv : Value} {A : Option Addr} {c : Nat} {l : List Sl} (h4 : l.map Sl.b = bs) (hS : St w0 w (hBlk g 37 [sv, .slice A l.length c] :: hRow 34 1 A l.length c (l.map Sl.v) :: wrP l :: H)) : St w0 w (hTs g sv bs :: H) := by
  have h5 := hS.pureI (p := l.map Sl.b = bs) h4
  have h6 : St w0 w (tsL g sv A c l bs ++ H) := (St.selD [1, 1, 1, 0] 0 h5)
  exact St.exI ((A, c), l) (St.close_ h6)
theorem alFull_snd (bs : List (List Nat)) : (alFull bs).map Prod.snd = bs := by
  refine List.ext_getElem? fun k => ?_
  unfold alFull
  rw [List.map_map, List.getElem?_map]
  by_cases hk : k < bs.length
  · rw [List.getElem?_range hk]
    show some (bs.getD k []) = _
    rw [List.getD_eq_getElem?_getD, List.getElem?_eq_getElem hk]
    rfl
  · rw [List.getElem?_eq_none (by rw [List.length_range]; omega), List.getElem?_eq_none (by omega)]
    rfl
theorem alFull_in {bs : List (List Nat)} {x : Nat × List Nat} (h : x ∈ alFull bs) : x.2 ∈ bs := by
  obtain ⟨k, hk, rfl⟩ := List.mem_map.1 h
  have := List.mem_range.1 hk
  dsimp only
  rw [List.getD_eq_getElem?_getD, List.getElem?_eq_getElem this]
  exact List.getElem_mem _
end
attribute [local irreducible] hStt hTs
section
variable {H : List HP} {w0 w : World} {gw gd : Nat} {W : WM}
set_option maxHeartbeats 8000000
theorem told (hW : W.ok) (hS : St w0 w (hWl gw gd W :: H)) : Fn Try.prog 14 [.pointer (some ⟨gw, 0, none⟩)] w fun v w' =>
    ∃ x y, v = .agg #[x, y] ∧ St w0 w' (hStt x y (W.list.headD []) W.list.tail :: hWl gw gd W :: H) := by
  have hwl := hW.len
  have hwf := hW.fin
  have hwa := hW.area
  refine enterI 20 Try.func14 rfl rfl rfl ?_
  intro a hE
  repeat' (first

    | (with_reducible refine wpList_nil ?_)
    | (with_reducible refine then_normal ?_)
    | (with_reducible refine i_seq ?_)
    | ((with_reducible refine ig_region ?_); refine i_region rfl (fun _ _ h => h) ?_)
    | ((with_reducible refine g_move ?_); refine s_move hE rfl rfl ?_; clear hE a; intro a hE)
    | ((with_reducible refine g_alloc ?_); refine s_allocS hE hS rfl rfl ?_; clear hE a hS; intro g a w hE hS)
    )
  obtain ⟨g2, rfl⟩ : ∃ x, x = g := ⟨_, rfl⟩
  refine s_call hE rfl rfl rfl (ksnap hW (hS.focus (k := 1) rfl)) ?_
  rintro _ w ⟨A, c, rfl, hS⟩; clear hE a; intro a hE
  simp only [List.eraseIdx_cons_succ, List.eraseIdx_cons_zero] at hS
  repeat' (first

    | (with_reducible refine wpList_nil ?_)
    | (with_reducible refine then_normal ?_)
    | (with_reducible refine i_seq ?_)
    | ((with_reducible refine ig_region ?_); refine i_region rfl (fun _ _ h => h) ?_)
    | ((with_reducible refine g_move ?_); refine s_move hE rfl rfl ?_; clear hE a; intro a hE)
    | ((with_reducible refine g_alloc ?_); refine s_allocS hE hS rfl rfl ?_; clear hE a hS; intro g a w hE hS)
    | ((with_reducible refine g_build ?_); refine s_build [_, _] hE rfl rfl rfl ?_; clear hE a; intro a hE)
    | ((with_reducible refine g_store ?_); (first | (refine s_storeW (k := 0) hS hE rfl rfl rfl rfl rfl (by first | (simp [Value.oneCell']; done)) ?_) ); clear hS; intro w hS; simp only [List.set_cons_zero, List.set_cons_succ, Nat.add_zero] at hS)
    )
  obtain ⟨gs, rfl⟩ : ∃ x, x = g := ⟨_, rfl⟩
  refine s_call hE rfl rfl rfl (kall hW (hS.focus (k := 2) rfl)) ?_
  rintro _ w ⟨g3, A3, c3, A6, c6, s, sls, hsl, rfl, hS⟩; clear hE a; intro a hE
  have hsx : ∀ x ∈ sls, x.b.length ≤ 40000 := fun x hx => (hW.bs x.b (by rw [← hsl]; exact List.mem_cons_of_mem _ (List.mem_map_of_mem hx))).2
  have hslen : sls.length ≤ 1000 := by
    have := congrArg List.length hsl
    rw [List.length_map, List.length_cons] at this
    omega
  have hit := all_iter g3 A3 c3 sls (s :: sls) hslen (fun x hx => List.mem_cons_of_mem _ hx) hsx w0
  have htl : sls.map Sl.b = W.list.tail := by rw [← hsl]; rfl
  have hhd : s.b = W.list.headD [] := by rw [← hsl]; rfl
  rw [htl] at hit
  have hfl : (alFull W.list.tail).length ≤ 1000 := by rw [alFull_len, ← htl, List.length_map]; exact hslen
  obtain ⟨sv, hsv⟩ : ∃ sv, sv = Value.slice A (W.list.headD []).length c := ⟨_, rfl⟩
  have hsv1 : sv.oneCell' = true := by rw [hsv]; rfl
  rw [← hsv] at hS hE
  have hS2 : St w0 w (alBx g3 A3 c3 sls (s :: sls) ++ ([hTs gs sv (([] : List (Nat × List Nat)).map Prod.snd)] ++ ([hBlk gw 89 [.pointer (some ⟨gd, 0, none⟩), .int .i64 (W.area : Int), .int .u32 (W.turn : Int), .slice A6 (s :: sls).length c6, .int .i64 (W.fin : Int), .bool W.broken], hRow 34 1 A6 (s :: sls).length c6 ((s :: sls).map Sl.v), hRow 5 1 A (W.list.headD []).length c (bys (W.list.headD [])), hBlk g2 37 [.slice none 0 0, .slice none 0 0]] ++ H))) := by
    simp only [alBx, List.cons_append, List.nil_append, List.eraseIdx_cons_succ, List.eraseIdx_cons_zero] at hS ⊢
    have h1 := wrP_nil (St.rowNil hS 34 1)
    have h2 := hTs_close (g := gs) (sv := sv) (A := none) (c := 0) (l := []) rfl (St.selD [7, 1, 0, 0, 0, 0, 0, 0, 0, 0] 0 h1)
    exact (St.selD [1, 1, 1, 0, 0, 0, 0, 0] 0 h2)
  clear hS; have hS := hS2; clear hS2
  repeat' (first

    | (with_reducible refine wpList_nil ?_)
    | (with_reducible refine then_normal ?_)
    | (with_reducible refine i_block ?_)
    )
  refine i_rangeF (ps := [11, 12]) hE rfl hit
    (fun pre => [hTs gs sv (pre.map Prod.snd)]) (fun j xs => [hPure False]) hS (fun _ _ => rfl) (by decide)
    (Y := Option Addr × Nat) (fun pre x y => [(5, .slice y.1 x.2.length y.2), (3, .pointer (some ⟨gs, 0, none⟩)), (2, .pointer (some ⟨g2, 0, none⟩))])
    (fun pre x y => [hRow 5 1 y.1 x.2.length y.2 (bys x.2), hTs gs sv (pre.map Prod.snd)]) ?_ ?_ ?_ ?_
  · clear hS hE a
    intro own pre x z w lp a hx hS hE
    simp only [alNew, alBx, alEnc, List.cons_append, List.nil_append] at hS hE
    repeat' (first

      | (with_reducible refine wpList_nil ?_)
      | ((with_reducible refine ig_region ?_); refine i_region rfl (fun _ _ h => absurd h.1 (by simp)) ?_)
      | ((with_reducible refine g_assign ?_); refine s_assign hE rfl rfl ?_; clear hE a; intro a hE)
      )
    refine ⟨rfl, rfl, z, hE.sub ⟨rfl, rfl, rfl, trivial⟩, ?_⟩
    exact (St.selD [1, 1, 1, 0, 0] 0 hS)
  · clear hS hE a
    intro own pre x y w lp a hx hS hE
    obtain ⟨post, hx⟩ := hx
    have hpl : pre.length ≤ 1000 := by
      have := congrArg List.length hx
      rw [List.length_append] at this
      omega
    simp only [alBx, List.cons_append, List.nil_append] at hS
    obtain ⟨A5, c5, l5, hl5, hS⟩ := hTs_open (hS.focus (k := 4) rfl)
    have hll : l5.length = pre.length := by
      have := congrArg List.length hl5
      rw [List.length_map, List.length_map] at this
      exact this
    simp only [List.eraseIdx_cons_succ, List.eraseIdx_cons_zero] at hS
    repeat' (first

      | (with_reducible refine wpList_nil ?_)
      | (with_reducible refine block_normal ?_)
      | (with_reducible refine i_block ?_)
      | ((with_reducible refine ig_region ?_); refine i_region rfl (fun _ _ h => h) ?_)
      | ((with_reducible refine g_move ?_); refine s_move hE rfl rfl ?_; clear hE a; intro a hE)
      | ((with_reducible refine g_fa ?_); refine s_fieldL hE rfl rfl rfl ?_; clear hE a; intro a hE)
      | ((with_reducible refine g_load ?_); (first | (refine s_loadB (k := 0) hS hE rfl rfl rfl rfl ?_) ); clear hE a; intro a hE)
      | ((with_reducible refine g_store ?_); (first | (refine s_storeB (k := 1) hS hE rfl rfl rfl rfl rfl rfl ?_) ); clear hS; intro w hS; simp only [List.set_cons_zero, List.set_cons_succ, Nat.add_zero] at hS)
      | ((with_reducible refine g_lit ?_); refine s_lit hE hS rfl rfl rfl rfl rfl (by first | (simp [Value.oneCell']; done)) rfl ?_; clear hE a hS; intro g a w hE hS)
      | ((with_reducible refine g_blt .append ?_); (first | (refine s_appendAt (k := 2) hE hS rfl rfl rfl (by (first | exact hS.rd )) (by (first | rfl )) (by (first | (simp [Value.oneCell']; done))) (by omega) rfl rfl rfl rfl ?_) ); clear hE a hS; intro A c a w hE hS; simp only [List.set_cons_zero, List.set_cons_succ, Nat.add_zero] at hS)
      )
    have h1 := wrP_add (s := ⟨y.1, y.2, x.2⟩) (St.selD [7, 3, 1, 1, 1, 1, 1] 1 hS)
    have el : (l5 ++ [(⟨y.1, y.2, x.2⟩ : Sl)]).length = l5.length + 1 := by simp
    have h2 := hTs_close (g := gs) (sv := sv) (A := A) (c := c) (l := l5 ++ [⟨y.1, y.2, x.2⟩]) (bs := (pre ++ [x]).map Prod.snd) (by rw [List.map_append, List.map_append, hl5]; rfl) (by
      rw [el, List.map_append]
      exact (St.selD [1, 1, 0, 0, 0, 0] 0 h1))
    exact (St.selD [1, 1, 1, 0] 0 h2)
  · clear hS
    intro D w hS
    rw [alFull_snd] at hS
    simp only [alBx, List.cons_append, List.nil_append] at hS
    obtain ⟨A5, c5, l5, hl5, hS⟩ := hTs_open (hS.focus (k := 4) rfl)
    simp only [List.eraseIdx_cons_succ, List.eraseIdx_cons_zero] at hS
    have hS2 : St w0 w (hMarks [D] :: hBlk gs 37 [sv, .slice A5 l5.length c5] :: hBlk g2 37 [.slice none 0 0, .slice none 0 0] :: hRow 34 1 A5 l5.length c5 (l5.map Sl.v) :: wrP l5 :: wrP (s :: sls) :: hBlk gw 89 [.pointer (some ⟨gd, 0, none⟩), .int .i64 (W.area : Int), .int .u32 (W.turn : Int), .slice A6 (s :: sls).length c6, .int .i64 (W.fin : Int), .bool W.broken] :: hRow 34 1 A6 (s :: sls).length c6 ((s :: sls).map Sl.v) :: hRow 5 1 A (W.list.headD []).length c (bys (W.list.headD [])) :: H) := (St.selD [3, 0, 8, 0, 0, 2, 2, 2, 2] 2 hS)
    clear hS; have hS := hS2; clear hS2
    have hvl : ([sv, Value.slice A5 l5.length c5] : List Value).length = 2 := rfl
    have hone : ∀ v ∈ ([sv, Value.slice A5 l5.length c5] : List Value), v.oneCell' = true := by
      intro v hv
      rcases List.mem_cons.1 hv with rfl | hv
      · exact hsv1
      · rw [List.mem_singleton] at hv; subst hv; rfl
    repeat' (first

      | (with_reducible refine wpList_nil ?_)
      | (with_reducible refine then_normal ?_)
      | (with_reducible refine block_normal ?_)
      | (with_reducible refine i_seq ?_)
      | (with_reducible refine i_ret ?_)
      | ((with_reducible refine ig_region ?_); refine i_region rfl (fun _ _ h => h) ?_)
      | ((with_reducible refine g_load ?_); (first | (refine s_loadW (k := 1) hS hE rfl rfl rfl rfl ?_) ); clear hE a; intro a hE)
      | ((with_reducible refine g_store ?_); (first | (refine s_storeW (k := 2) hS hE rfl rfl rfl rfl rfl (by first | assumption ) ?_) ); clear hS; intro w hS; simp only [List.set_cons_zero, List.set_cons_succ, Nat.add_zero] at hS)
      )
    refine im_retG (vs := [.agg #[sv, .slice A5 l5.length c5]]) hE [D] hS rfl fun w' hS' => ⟨⟨⟨_, rfl, res_W (k := 1) hS' rfl rfl⟩, trivial⟩, sv, .slice A5 l5.length c5, rfl, ?_⟩
    have h3 := hWl_close (W := W) hsl (St.selD [5, 5, 4, 4, 2, 2] 2 hS')
    have h4 := (St.selD [1, 1, 1, 0] 0 h3)
    exact hStt_close (s := ⟨A, c, W.list.headD []⟩) hsv rfl rfl hl5 h4.rowRd
  · intro j D pre x post w hx hS
    simp only [alBx, List.cons_append, List.nil_append] at hS
    exact ((hS.focus (k := 4) rfl).pure).elim
theorem same (s s2 : Sl) (A A2 : Option Addr) (c c2 : Nat) (l l2 : List Sl) (w0 : World) (hs : Rd w0 s.A (bys s.b)) (hsb : Bs s.b) (hs2 : Rd w0 s2.A (bys s2.b)) (hsb2 : Bs s2.b) (hl : Rd w0 A (l.map Sl.v)) (hl2 : Rd w0 A2 (l2.map Sl.v))
    (hx : ∀ x ∈ l, Rd w0 x.A (bys x.b) ∧ Bs x.b) (hx2 : ∀ x ∈ l2, Rd w0 x.A (bys x.b) ∧ Bs x.b) (hn : l.length ≤ 100000) (hn2 : l2.length ≤ 100000) :
    Fn Try.prog 21 [.agg #[s.v, .slice A l.length c], .agg #[s2.v, .slice A2 l2.length c2]] w0 fun v w' => v = .bool (decide (s.b = s2.b ∧ l.map Sl.b = l2.map Sl.b)) ∧ St w0 w' [] := by
  have hS := St.start w0
  refine enter 40 Try.func21 rfl rfl rfl ?_
  intro a hE
  repeat' (first

    | (with_reducible refine wp_seq ?_)
    | (with_reducible refine c_region ?_)
    | (with_reducible refine wpList_nil ?_)
    | (with_reducible refine then_normal ?_)
    | ((with_reducible refine g_assign ?_); refine s_assign hE rfl rfl ?_; clear hE a; intro a hE)
    | ((with_reducible refine g_fa ?_); refine s_fieldL hE rfl rfl rfl ?_; clear hE a; intro a hE)
    | ((with_reducible refine g_load ?_); (first | (refine s_loadB (k := 0) hS hE rfl rfl rfl rfl ?_) | (refine s_loadB (k := 1) hS hE rfl rfl rfl rfl ?_) ); clear hE a; intro a hE)
    | ((with_reducible refine g_box ?_); refine s_boxS hE hS rfl rfl ?_; clear hE a hS; intro g a w hE hS)
    )
  obtain ⟨g3, rfl⟩ : ∃ x, x = g := ⟨_, rfl⟩
  obtain ⟨g2, rfl⟩ : ∃ x, x = g := ⟨_, rfl⟩
  refine s_call hE rfl rfl rfl (bequal s.A s2.A _ _ s.b s2.b _ _ w (hs.st hS) (hs2.st hS) hsb hsb2 rfl rfl) ?_
  rintro _ w ⟨rfl, hS1⟩; clear hE a; intro a hE; replace hS := hS.frame hS1; clear hS1; try simp only [List.cons_append, List.nil_append] at hS
  by_cases hb : s.b = s2.b
  · rw [decide_eq_true hb] at hE
    by_cases hlen : l.length = l2.length
    · repeat' (first

        | (with_reducible refine wp_seq ?_)
        | (with_reducible refine c_region ?_)
        | (with_reducible refine wpList_nil ?_)
        | (with_reducible refine then_normal ?_)
        | (with_reducible refine wp_skip ?_)
        | (with_reducible refine wp_block ?_)
        | ((with_reducible refine g_move ?_); refine s_move hE rfl rfl ?_; clear hE a; intro a hE)
        | ((with_reducible refine g_bin .neq ?_); refine s_neq hE rfl rfl rfl ?_; clear hE a; intro a hE)
        | ((with_reducible refine g_un .not ?_); refine s_notb hE rfl rfl ?_; clear hE a; intro a hE)
        | ((with_reducible refine g_blt .len ?_); refine s_len hE rfl rfl ?_; clear hE a; intro a hE)
        | ((with_reducible refine g_fa ?_); refine s_fieldL hE rfl rfl rfl ?_; clear hE a; intro a hE)
        | ((with_reducible refine g_guard ?_); refine gd_yes hE rfl rfl rfl ?_)
        | ((with_reducible refine g_pick ?_); refine s_pickF hE rfl rfl rfl ?_; clear hE a; intro a hE)
        | ((with_reducible refine g_cond ?_); refine c_dec hE rfl (fun hc => ?_) (fun hc => ?_) <;> try omega)
        | ((with_reducible refine g_load ?_); (first | (refine s_loadB (k := 0) hS hE rfl rfl rfl rfl ?_) | (refine s_loadB (k := 1) hS hE rfl rfl rfl rfl ?_) ); clear hE a; intro a hE)
        )
      have hc1 : (l.map Sl.v).length = l.length := List.length_map _
      have hc2 : (l2.map Sl.v).length = l2.length := List.length_map _
      refine wp_loop_ghost (fun q a w => ∃ (k : Nat), k + q = l.length ∧ (l.map Sl.b).take k = (l2.map Sl.b).take k ∧ St w0 w [hBlk g3 37 [s2.v, .slice A2 l2.length c2], hBlk g2 37 [s.v, .slice A l.length c]] ∧ Env 40 [(2, .pointer (some ⟨g2, 0, none⟩)), (3, .pointer (some ⟨g3, 0, none⟩)), (23, .int .i64 (l.length : Int)), (24, .int .i64 (k : Int))] a) l.length ⟨0, by omega, rfl, hS, hE.sub ⟨rfl, rfl, rfl, rfl, trivial⟩⟩ ?_
      clear hE a hS
      rintro q a w ⟨k, hk, htk, hS, hE⟩
      by_cases hk1 : k < l.length
      · have hk2 : k < l2.length := by omega
        obtain ⟨hr1, hb1⟩ := hx _ (List.getElem_mem hk1)
        obtain ⟨hr2, hb2⟩ := hx2 _ (List.getElem_mem hk2)
        have hv1 : (l.map Sl.v)[((k : Nat) : Int).toNat * 1]? = some (Value.slice l[k].A l[k].b.length l[k].c) := by
          rw [Int.toNat_natCast, Nat.mul_one, List.getElem?_map, List.getElem?_eq_getElem hk1]; rfl
        have hv2 : (l2.map Sl.v)[((k : Nat) : Int).toNat * 1]? = some (Value.slice l2[k].A l2[k].b.length l2[k].c) := by
          rw [Int.toNat_natCast, Nat.mul_one, List.getElem?_map, List.getElem?_eq_getElem hk2]; rfl
        have ht1 : (l.map Sl.b).take (k + 1) = (l.map Sl.b).take k ++ [l[k].b] := by
          rw [List.take_succ_eq_append_getElem (by rw [List.length_map]; exact hk1), List.getElem_map]
        have ht2 : (l2.map Sl.b).take (k + 1) = (l2.map Sl.b).take k ++ [l2[k].b] := by
          rw [List.take_succ_eq_append_getElem (by rw [List.length_map]; exact hk2), List.getElem_map]
        have hg1 : (l.map Sl.b)[k]? = some l[k].b := by rw [List.getElem?_map, List.getElem?_eq_getElem hk1]; rfl
        have hg2 : (l2.map Sl.b)[k]? = some l2[k].b := by rw [List.getElem?_map, List.getElem?_eq_getElem hk2]; rfl
        generalize l[k] = x1 at hr1 hb1 hv1 ht1 hg1
        generalize l2[k] = x2 at hr2 hb2 hv2 ht2 hg2
        repeat' (first

          | (with_reducible refine wp_seq ?_)
          | (with_reducible refine c_region ?_)
          | (with_reducible refine wpList_nil ?_)
          | (with_reducible refine then_normal ?_)
          | (with_reducible refine wp_skip ?_)
          | (with_reducible refine wp_block ?_)
          | ((with_reducible refine g_move ?_); refine s_move hE rfl rfl ?_; clear hE a; intro a hE)
          | ((with_reducible refine g_assign ?_); refine s_assign hE rfl rfl ?_; clear hE a; intro a hE)
          | ((with_reducible refine g_bin .lss ?_); refine s_lss hE rfl rfl rfl ?_; clear hE a; intro a hE)
          | ((with_reducible refine g_cond ?_); refine c_dec hE rfl (fun hc => ?_) (fun hc => ?_) <;> try omega)
          )
        refine c_ordS hS 12 ((.rd 0 (.rd 1 (.rd 2 (.rd 3 (.rd 4 (.rd 5 (.rd 6 (.rd 7 (.rd 8 (.rd 9 (.ef 10 (.rd 11 .done))))))))))))) mixed (by decide +kernel) ?_
        clear hS; intro w hS
        have hw1 := hl.st hS
        have hw2 := hl2.st hS
        repeat' (first
          | (with_reducible refine o_rd rfl ?_)
          | ((with_reducible refine q_move ?_); refine d_val hE hS rfl (fun w hS => r_move hE rfl) ?_; clear hE a; intro a hE)
          | ((with_reducible refine q_fa ?_); refine d_val hE hS rfl (fun w hS => r_fieldL hE rfl rfl) ?_; clear hE a; intro a hE)
          | ((with_reducible refine q_ia ?_); refine d_val hE hS rfl (fun w hS => r_idxR hE rfl rfl (by omega) (by omega) (by (first | exact Rd.st (by assumption) hS )) (by first | omega )) ?_; clear hE a; intro a hE)
          | ((with_reducible refine q_load ?_); refine d_val hE hS rfl (fun w hS => r_loadR hE rfl (by (first | exact Rd.st (by assumption) hS )) (by first | exact hv1 | exact hv2)) ?_; clear hE a; intro a hE)
          | ((with_reducible refine q_load ?_); (first | (refine d_val hE hS rfl (fun w hS => r_loadB (k := 0) hS hE rfl rfl rfl) ?_) | (refine d_val hE hS rfl (fun w hS => r_loadB (k := 1) hS hE rfl rfl rfl) ?_) ); clear hE a; intro a hE)
          | ((with_reducible refine o_ef rfl ?_))
          )
        refine s_call hE rfl rfl rfl (bequal x1.A x2.A _ _ x1.b x2.b _ _ w (hr1.st hS) (hr2.st hS) hb1 hb2 rfl rfl) ?_
        rintro _ w ⟨rfl, hS1⟩; clear hE a; intro a hE; replace hS := hS.frame hS1; clear hS1; try simp only [List.cons_append, List.nil_append] at hS
        refine wpList_nil ?_
        refine o_same hS ?_
        by_cases hxx : x1.b = x2.b
        · rw [decide_eq_true hxx] at hE
          repeat' (first
            | (with_reducible refine o_rd rfl ?_)
            | (with_reducible refine o_done ?_)
            | ((with_reducible refine q_un .not ?_); refine d_val hE hS rfl (fun w hS => r_notb hE rfl) ?_; clear hE a; intro a hE)
            )
          repeat' (first

            | (with_reducible refine c_region ?_)
            | (with_reducible refine wpList_nil ?_)
            | (with_reducible refine then_normal ?_)
            | (with_reducible refine wp_skip ?_)
            | (with_reducible refine block_normal ?_)
            | ((with_reducible refine g_move ?_); refine s_move hE rfl rfl ?_; clear hE a; intro a hE)
            | ((with_reducible refine g_bin .add ?_); refine s_add hE rfl rfl rfl (by first  | exact wrap64_in (by omega) ) ?_; clear hE a; intro a hE)
            | ((with_reducible refine g_cond ?_); refine c_false hE rfl ?_)
            )
          exact ⟨q - 1, by omega, k + 1, by omega, by rw [ht1, ht2, htk, hxx], hS, hE.sub ⟨rfl, rfl, rfl, rfl, trivial⟩⟩
        · rw [decide_eq_false hxx] at hE
          have hno : ¬ (s.b = s2.b ∧ l.map Sl.b = l2.map Sl.b) := fun h => hxx (by
            rw [h.2, hg2] at hg1
            exact (Option.some.inj hg1).symm)
          rw [decide_eq_false hno]
          repeat' (first
            | (with_reducible refine o_rd rfl ?_)
            | (with_reducible refine o_done ?_)
            | ((with_reducible refine q_un .not ?_); refine d_val hE hS rfl (fun w hS => r_notb hE rfl) ?_; clear hE a; intro a hE)
            )
          repeat' (first

            | (with_reducible refine wp_seq ?_)
            | (with_reducible refine c_region ?_)
            | (with_reducible refine wpList_nil ?_)
            | (with_reducible refine then_normal ?_)
            | (with_reducible refine wp_ret ?_)
            | (with_reducible refine then_ret ?_)
            | (with_reducible refine block_ret ?_)
            | ((with_reducible refine g_assign ?_); refine s_assign hE rfl rfl ?_; clear hE a; intro a hE)
            | ((with_reducible refine g_cond ?_); refine c_true hE rfl ?_)
            )
          exact ret1 hE rfl rfl ⟨rfl, hS.nil⟩
      · obtain rfl : k = l.length := by omega
        have hyes : s.b = s2.b ∧ l.map Sl.b = l2.map Sl.b := ⟨hb, by
          rw [List.take_of_length_le (by rw [List.length_map]; exact Nat.le_refl _), List.take_of_length_le (by rw [List.length_map]; omega)] at htk
          exact htk⟩
        rw [decide_eq_true hyes]
        repeat' (first

          | (with_reducible refine wp_seq ?_)
          | (with_reducible refine c_region ?_)
          | (with_reducible refine wpList_nil ?_)
          | (with_reducible refine then_normal ?_)
          | (with_reducible refine wp_ret ?_)
          | (with_reducible refine wp_exit ?_)
          | (with_reducible refine then_exit ?_)
          | (with_reducible refine block_same ?_)
          | ((with_reducible refine g_assign ?_); refine s_assign hE rfl rfl ?_; clear hE a; intro a hE)
          | ((with_reducible refine g_bin .lss ?_); refine s_lss hE rfl rfl rfl ?_; clear hE a; intro a hE)
          | ((with_reducible refine g_cond ?_); refine c_dec hE rfl (fun hc => ?_) (fun hc => ?_) <;> try omega)
          )
        exact ret1 hE rfl rfl ⟨rfl, hS.nil⟩
    · have hno : ¬ (s.b = s2.b ∧ l.map Sl.b = l2.map Sl.b) := fun h => hlen (by have := congrArg List.length h.2; rw [List.length_map, List.length_map] at this; exact this)
      rw [decide_eq_false hno]
      repeat' (first

        | (with_reducible refine wp_seq ?_)
        | (with_reducible refine c_region ?_)
        | (with_reducible refine wpList_nil ?_)
        | (with_reducible refine then_normal ?_)
        | (with_reducible refine wp_ret ?_)
        | (with_reducible refine then_ret ?_)
        | ((with_reducible refine g_move ?_); refine s_move hE rfl rfl ?_; clear hE a; intro a hE)
        | ((with_reducible refine g_assign ?_); refine s_assign hE rfl rfl ?_; clear hE a; intro a hE)
        | ((with_reducible refine g_bin .neq ?_); refine s_neq hE rfl rfl rfl ?_; clear hE a; intro a hE)
        | ((with_reducible refine g_un .not ?_); refine s_notb hE rfl rfl ?_; clear hE a; intro a hE)
        | ((with_reducible refine g_blt .len ?_); refine s_len hE rfl rfl ?_; clear hE a; intro a hE)
        | ((with_reducible refine g_fa ?_); refine s_fieldL hE rfl rfl rfl ?_; clear hE a; intro a hE)
        | ((with_reducible refine g_guard ?_); refine gd_yes hE rfl rfl rfl ?_)
        | ((with_reducible refine g_pick ?_); refine s_pickF hE rfl rfl rfl ?_; clear hE a; intro a hE)
        | ((with_reducible refine g_cond ?_); refine c_dec hE rfl (fun hc => ?_) (fun hc => ?_) <;> try omega)
        | ((with_reducible refine g_load ?_); (first | (refine s_loadB (k := 0) hS hE rfl rfl rfl rfl ?_) | (refine s_loadB (k := 1) hS hE rfl rfl rfl rfl ?_) ); clear hE a; intro a hE)
        )
      exact ret1 hE rfl rfl ⟨rfl, hS.nil⟩
  · rw [decide_eq_false hb] at hE
    rw [decide_eq_false (fun h => hb h.1)]
    repeat' (first

      | (with_reducible refine wp_seq ?_)
      | (with_reducible refine c_region ?_)
      | (with_reducible refine wpList_nil ?_)
      | (with_reducible refine then_normal ?_)
      | (with_reducible refine wp_ret ?_)
      | (with_reducible refine then_ret ?_)
      | ((with_reducible refine g_move ?_); refine s_move hE rfl rfl ?_; clear hE a; intro a hE)
      | ((with_reducible refine g_assign ?_); refine s_assign hE rfl rfl ?_; clear hE a; intro a hE)
      | ((with_reducible refine g_un .not ?_); refine s_notb hE rfl rfl ?_; clear hE a; intro a hE)
      | ((with_reducible refine g_guard ?_); refine gd_no hE rfl rfl rfl rfl ?_; clear hE a; intro a hE)
      | ((with_reducible refine g_pick ?_); refine s_pickT hE rfl rfl rfl ?_; clear hE a; intro a hE)
      | ((with_reducible refine g_cond ?_); refine c_true hE rfl ?_)
      )
    exact ret1 hE rfl rfl ⟨rfl, hS.nil⟩
/-- two states, held against each other -/
theorem sameS {x y x2 y2 : Value} {sb sb2 : List Nat} {bs bs2 : List (List Nat)} (h1 : Bs sb ∧ ∀ b ∈ bs, Bs b) (h2 : Bs sb2 ∧ ∀ b ∈ bs2, Bs b) (hn : bs.length ≤ 100000) (hn2 : bs2.length ≤ 100000) (hS : St w0 w (hStt x y sb bs :: hStt x2 y2 sb2 bs2 :: H)) :
    Fn Try.prog 21 [.agg #[x, y], .agg #[x2, y2]] w fun v w' => v = .bool (decide (sb = sb2 ∧ bs = bs2)) ∧ St w w' [] := by
  have hA := hStt_open hS
  have hB := hStt_open hS.p1
  obtain ⟨s, A, c, l, rfl, rfl, rfl, rfl, hS1⟩ := hA
  obtain ⟨s2, A2, c2, l2, rfl, rfl, rfl, rfl, hS2⟩ := hB
  rw [List.length_map] at hn hn2
  exact same s s2 A A2 c c2 l l2 w hS1.rd2 h1.1 hS2.rd2 h2.1 (hS1.rdAt (k := 1) rfl) (hS2.rdAt (k := 1) rfl)
    (fun z hz => ⟨wrP_rd (hS1.focus (k := 2) rfl) z hz, h1.2 _ (List.mem_map_of_mem hz)⟩) (fun z hz => ⟨wrP_rd (hS2.focus (k := 2) rfl) z hz, h2.2 _ (List.mem_map_of_mem hz)⟩) hn hn2
/-- what is told behind what is done -/
def afterP (sb : List Nat) (bs : List (List Nat)) (o : WOp) : List Nat × List (List Nat) := if o.k = 1 then (o.b, []) else (sb, bs ++ [o.b])
theorem after (o : WOp) (hw : o.wf) {x y : Value} {sb : List Nat} {bs : List (List Nat)} (hn : bs.length ≤ 100000) (hS : St w0 w (hStt x y sb bs :: H)) :
    Fn Try.prog 19 [.agg #[x, y], .agg o.cells.toArray] w fun v w' => ∃ x' y', v = .agg #[x', y'] ∧ St w0 w' (hStt x' y' (afterP sb bs o).1 (afterP sb bs o).2 :: H) := by
  have hA := hStt_open hS
  clear hS
  obtain ⟨s, A, c, l, rfl, rfl, rfl, rfl, hS⟩ := hA
  rw [List.length_map] at hn
  refine enter 21 Try.func19 rfl rfl rfl ?_
  intro a hE
  unfold WOp.cells at hE
  repeat' (first

    | (with_reducible refine wp_seq ?_)
    | (with_reducible refine c_region ?_)
    | (with_reducible refine wpList_nil ?_)
    | (with_reducible refine then_normal ?_)
    | ((with_reducible refine g_alloc ?_); refine s_allocS hE hS rfl rfl ?_; clear hE a hS; intro g a w hE hS)
    | ((with_reducible refine g_box ?_); refine s_boxS hE hS rfl rfl ?_; clear hE a hS; intro g a w hE hS)
    | ((with_reducible refine g_load ?_); (first | (refine s_loadW (k := 1) hS hE rfl rfl rfl rfl ?_) ); clear hE a; intro a hE)
    )
  obtain ⟨g4, rfl⟩ : ∃ x, x = g := ⟨_, rfl⟩
  obtain ⟨g3, rfl⟩ : ∃ x, x = g := ⟨_, rfl⟩
  obtain ⟨g2, rfl⟩ : ∃ x, x = g := ⟨_, rfl⟩
  refine s_call hE rfl rfl rfl (kind o w) ?_
  rintro _ w ⟨rfl, hS1⟩; clear hE a; intro a hE; replace hS := hS.frame hS1; clear hS1; try simp only [List.cons_append, List.nil_append] at hS
  by_cases hk : o.k = 1
  · have hf : afterP s.b (l.map Sl.b) o = (o.b, []) := if_pos hk
    rw [hf]
    rw [hk] at hE
    repeat' (first

      | (with_reducible refine wp_seq ?_)
      | (with_reducible refine c_region ?_)
      | (with_reducible refine wpList_nil ?_)
      | (with_reducible refine then_normal ?_)
      | ((with_reducible refine g_bin .eql ?_); refine s_eql hE rfl rfl rfl ?_; clear hE a; intro a hE)
      | ((with_reducible refine g_cond ?_); refine c_true hE rfl ?_)
      | ((with_reducible refine g_load ?_); (first | (refine s_loadW (k := 1) hS hE rfl rfl rfl rfl ?_) ); clear hE a; intro a hE)
      )
    refine s_call hE rfl rfl rfl (obytes o hw w) ?_
    rintro _ w ⟨A2, c2, rfl, hS1⟩; clear hE a; intro a hE; replace hS := hS.frame hS1; clear hS1; try simp only [List.cons_append, List.nil_append] at hS
    have hvl : ([Value.slice A2 o.b.length c2, Value.slice none 0 0] : List Value).length = 2 := rfl
    have hone : ∀ v ∈ ([Value.slice A2 o.b.length c2, Value.slice none 0 0] : List Value), v.oneCell' = true := by
      intro v hv
      rcases List.mem_cons.1 hv with rfl | hv
      · rfl
      · rw [List.mem_singleton] at hv; subst hv; rfl
    repeat' (first

      | (with_reducible refine wpList_nil ?_)
      | (with_reducible refine then_normal ?_)
      | (with_reducible refine wp_ret ?_)
      | (with_reducible refine then_ret ?_)
      | ((with_reducible refine g_build ?_); refine s_build [_, _] hE rfl rfl rfl ?_; clear hE a; intro a hE)
      | ((with_reducible refine g_store ?_); (first | (refine s_storeW (k := 1) hS hE rfl rfl rfl rfl rfl (by first | assumption ) ?_) ); clear hS; intro w hS; simp only [List.set_cons_zero, List.set_cons_succ, Nat.add_zero] at hS)
      )
    refine retG (vs := [.agg #[.slice A2 o.b.length c2, .slice none 0 0]]) hE rfl ⟨⟨_, rfl, res_W (k := 1) hS rfl rfl⟩, trivial⟩ ⟨.slice A2 o.b.length c2, .slice none 0 0, rfl, ?_⟩
    have h1 := wrP_nil (St.rowNil hS 34 1)
    exact hStt_close (s := ⟨A2, c2, o.b⟩) (A := none) (c := 0) (l := []) rfl rfl rfl rfl ((St.selD [2, 1, 0] 6 h1)).rowRd
  · have hf : afterP s.b (l.map Sl.b) o = (s.b, l.map Sl.b ++ [o.b]) := if_neg hk
    rw [hf]
    repeat' (first

      | (with_reducible refine wp_seq ?_)
      | (with_reducible refine wpList_nil ?_)
      | (with_reducible refine then_normal ?_)
      | (with_reducible refine wp_skip ?_)
      | ((with_reducible refine g_bin .eql ?_); refine s_eql hE rfl rfl rfl ?_; clear hE a; intro a hE)
      | ((with_reducible refine g_cond ?_); refine c_dec hE rfl (fun hc => ?_) (fun hc => ?_) <;> try omega)
      )
    have hcl : (l.map Sl.v).length = l.length := List.length_map _
    have hlo : ∀ v ∈ l.map Sl.v, v.oneCell' = true := fun v hv => by obtain ⟨s, _, rfl⟩ := List.mem_map.1 hv; rfl
    refine c_ordS hS 8 ((.rd 1 (.rd 2 (.rd 4 (.ef 0 (.ef 3 (.ef 5 (.ef 6 (.ef 7 (.lt 8 (.lt 9 .done))))))))))) mixed (by decide +kernel) ?_
    clear hS; intro w hS
    repeat' (first
      | (with_reducible refine o_rd rfl ?_)
      | ((with_reducible refine q_fa ?_); refine d_val hE hS rfl (fun w hS => r_fieldL hE rfl rfl) ?_; clear hE a; intro a hE)
      | ((with_reducible refine q_load ?_); (first | (refine d_val hE hS rfl (fun w hS => r_loadB (k := 2) hS hE rfl rfl rfl) ?_) ); clear hE a; intro a hE)
      | ((with_reducible refine q_load ?_); (first | (refine d_val hE hS rfl (fun w hS => r_loadW (k := 1) hS hE rfl rfl rfl) ?_) ); clear hE a; intro a hE)
      | ((with_reducible refine o_ef rfl ?_))
      )
    refine s_lit (parts := []) (cs := []) hE hS rfl rfl rfl rfl rfl (by simp) rfl ?_
    clear hS hE a; intro g7 a w hE hF
    refine wpList_nil ?_
    refine o_back _ (fun _ h => h) hF.tail ?_
    have hS := hF.tail
    repeat' (first
      | ((with_reducible refine o_ef rfl ?_))
      )
    clear hS
    refine s_appendAt0 (k := 0) hE hF rfl rfl rfl (hF.rdAt (k := 5) rfl) (by rw [hcl, Nat.mul_one]) hlo (by omega) rfl rfl rfl rfl ?_
    clear hF hE a; intro A5 c5 a w hE hF
    simp only [List.set_cons_zero, List.set_cons_succ] at hF
    refine wpList_nil ?_
    refine o_back _ (fun _ h => h) hF.tail ?_
    have hS := hF.tail
    repeat' (first
      | ((with_reducible refine o_ef rfl ?_))
      )
    clear hS
    refine s_call hE rfl rfl rfl (obytes o hw w) ?_
    rintro _ w ⟨A2, c2, rfl, hS1⟩; clear hE a; intro a hE; replace hF := hF.frame hS1; clear hS1; simp only [List.cons_append, List.nil_append] at hF
    refine wpList_nil ?_
    refine o_back _ (fun _ h => h) hF.tail.tail ?_
    have hS := hF.tail.tail
    repeat' (first
      | ((with_reducible refine o_ef rfl ?_))
      )
    clear hS
    refine s_lit (parts := [(0, _)]) (cs := [_]) hE hF rfl rfl rfl rfl rfl (fun v hv => by cases hv with | head => rfl | tail _ h => cases h) rfl ?_
    clear hF hE a; intro g8 a w hE hF
    refine wpList_nil ?_
    refine o_back _ (fun _ h => h) hF.tail.tail.tail ?_
    have hS := hF.tail.tail.tail
    repeat' (first
      | ((with_reducible refine o_ef rfl ?_))
      )
    clear hS
    refine s_appendAt (k := 2) hE hF rfl rfl rfl hF.rd rfl (fun v hv => by cases hv with | head => rfl | tail _ h => cases h) (by omega) rfl rfl rfl rfl ?_
    clear hF hE a; intro A6 c6 a w hE hF
    simp only [List.set_cons_zero, List.set_cons_succ] at hF
    refine wpList_nil ?_
    refine o_back _ (fun _ h => h) hF.tail.tail.tail ?_
    have hS := hF.tail.tail.tail
    repeat' (first
      | ((with_reducible refine o_lt rfl ?_))
      )
    clear hS
    have hS := hF; clear hF
    repeat' (first

      | (with_reducible refine wpList_nil ?_)
      | ((with_reducible refine g_fa ?_); refine s_fieldL hE rfl rfl rfl ?_; clear hE a; intro a hE)
      )
    refine o_backL ?_
    repeat' (first
      | ((with_reducible refine o_lt rfl ?_))
      )
    repeat' (first

      | (with_reducible refine wpList_nil ?_)
      | ((with_reducible refine g_store ?_); (first | (refine s_storeB (k := 5) hS hE rfl rfl rfl rfl rfl rfl ?_) ); clear hS; intro w hS; simp only [List.set_cons_zero, List.set_cons_succ, Nat.add_zero] at hS)
      )
    refine o_backL ?_
    repeat' (first
      | (with_reducible refine o_done ?_)
      )
    have hvl : ([s.v, Value.slice A6 (l.length + 1) c6] : List Value).length = 2 := rfl
    have hone : ∀ v ∈ ([s.v, Value.slice A6 (l.length + 1) c6] : List Value), v.oneCell' = true := by
      intro v hv
      rcases List.mem_cons.1 hv with rfl | hv
      · rfl
      · rw [List.mem_singleton] at hv; subst hv; rfl
    repeat' (first

      | (with_reducible refine wp_seq ?_)
      | (with_reducible refine c_region ?_)
      | (with_reducible refine wpList_nil ?_)
      | (with_reducible refine then_normal ?_)
      | (with_reducible refine wp_ret ?_)
      | ((with_reducible refine g_load ?_); (first | (refine s_loadW (k := 5) hS hE rfl rfl rfl rfl ?_) ); clear hE a; intro a hE)
      | ((with_reducible refine g_store ?_); (first | (refine s_storeW (k := 3) hS hE rfl rfl rfl rfl rfl (by first | assumption ) ?_) ); clear hS; intro w hS; simp only [List.set_cons_zero, List.set_cons_succ, Nat.add_zero] at hS)
      )
    trace_state
    refine retG (vs := [.agg #[s.v, .slice A6 (l.length + 1) c6]]) hE rfl ⟨⟨_, rfl, res_W (k := 3) hS rfl rfl⟩, trivial⟩ ⟨s.v, .slice A6 (l.length + 1) c6, rfl, ?_⟩
    have h1 := wrP_add (s := ⟨A2, c2, o.b⟩) (St.selD [1, 7, 5, 1] 5 hS)
    have el : (l ++ [(⟨A2, c2, o.b⟩ : Sl)]).length = l.length + 1 := by simp
    exact hStt_close (s := s) (A := A6) (c := c6) (l := l ++ [⟨A2, c2, o.b⟩]) rfl (by rw [el]) rfl (by rw [List.map_append]; rfl) (by
      rw [el, List.map_append]
      exact (St.selD [1, 1, 0] 0 h1))
end
end Go.Proofs.Ytfoeelghehjanaa
