/-
  Contracts: where the next tuple goes; all tuples.
-/
import Derived.Test.YtaiahigeejodaaaHG
namespace Go.Proofs.Ytaiahigeejodaaa
open Go.RowKit
set_option linter.unusedVariables false
set_option linter.unusedSimpArgs false
attribute [local irreducible] Rd hRow hBlk hRd hRdr rowsP Fn hMarks

theorem find_at {α : Type} {pf : α → Bool} {x : α} {post : List α} : ∀ {pre : List α}, (∀ y ∈ pre, pf y = false) → pf x = true → (pre ++ x :: post).find? pf = some x
  | [], _, hx => by rw [List.nil_append, List.find?_cons, hx]
  | y :: pre, h, hx => by
    rw [List.cons_append, List.find?_cons, h y (List.mem_cons_self ..)]
    exact find_at (fun z hz => h z (List.mem_cons_of_mem _ hz)) hx
theorem find_none {α : Type} {pf : α → Bool} {l : List α} (h : ∀ y ∈ l, pf y = false) : l.find? pf = none := List.find?_eq_none.2 fun y hy => by rw [h y hy]; decide
def freeS (x : SpM) : Bool := decide (x.2.length = 0)
def placeM (l : List PM) : (Int × Nat) × Int := if wrongM l = 0 then (match (spM l).find? freeS with | some x => (x.1, 0) | none => ((0, 0), 6)) else ((0, 0), wrongM l)
abbrev StM := (Int × Nat) × TM
abbrev stc (x : StM) : List Value := .int .i64 x.1.1 :: .int .i64 (x.1.2 : Int) :: x.2.cells
def itM1 (x : SpM) : Option StM := (decT x.2).map fun t => (x.1, t)
def itemsM (l : List PM) : List StM := if wrongM l = 0 then (spM l).filterMap itM1 else []
theorem spotsM_len : ∀ {l : List Pg}, (∀ p ∈ l, p.wf) → (spotsM l).length = l.length * 4
  | [], _ => rfl
  | p :: l, h => by
    show (spotsP p ++ spotsM l).length = _
    rw [List.length_append, spotsP_len, (h p (List.mem_cons_self ..)).s4, spotsM_len fun q hq => h q (List.mem_cons_of_mem _ hq), List.length_cons]
    omega
theorem stc_len : ∀ x : StM, (stc x).length = 10 := fun _ => rfl
theorem stc_one (x : StM) : ∀ v ∈ stc x, v.oneCell' = true := by
  intro v hv
  rcases List.mem_cons.1 hv with rfl | hv
  · rfl
  · rcases List.mem_cons.1 hv with rfl | hv
    · rfl
    · exact TM.cells_one _ v hv
theorem its_one {l : List StM} : ∀ v ∈ l.flatMap stc, v.oneCell' = true := by
  intro v hv
  obtain ⟨x, _, hx⟩ := List.mem_flatMap.1 hv
  exact stc_one x v hx
def hIts (g : Nat) (its : List StM) : HP := hEx fun p : Option Addr × Nat => hAll [hBlk g 47 [.slice p.1 its.length p.2], hRow 56 10 p.1 its.length p.2 (its.flatMap stc)]
abbrev itsOf (l : List SpT) : List StM := l.filterMap fun x => itM1 (SpT.m x)
section
variable {H L : List HP} {w0 w : World}
theorem hIts_open {g : Nat} {its : List StM} (hS : St w0 w (hIts g its :: L)) : ∃ (A : Option Addr) (c : Nat), St w0 w (hBlk g 47 [.slice A its.length c] :: hRow 56 10 A its.length c (its.flatMap stc) :: L) := by
  obtain ⟨p, h⟩ := St.ex hS
  exact ⟨p.1, p.2, St.open_ h⟩
theorem hIts_close {g : Nat} {its : List StM} {A : Option Addr} {c : Nat} (hS : St w0 w (hBlk g 47 [.slice A its.length c] :: hRow 56 10 A its.length c (its.flatMap stc) :: L)) : St w0 w (hIts g its :: L) :=
  St.exI (A, c) (St.close_ (M := [hBlk g 47 [.slice A its.length c], hRow 56 10 A its.length c (its.flatMap stc)]) hS)
set_option maxHeartbeats 8000000
theorem place (l : List Pg) (A : Option Addr) (c n : Nat) (hn : n = l.length) (w0 : World) (hl : l.length ≤ 100000) (hwf : ∀ p ∈ l, p.wf) (hr : Rd w0 A (l.flatMap Pg.cells)) (hrd : ∀ p ∈ l, p.rd w0) :
    Fn Try.prog 21 [.slice A n c] w0 fun v w' => v = .tuple #[.agg #[.int .i64 (placeM (l.map Pg.m)).1.1, .int .i64 ((placeM (l.map Pg.m)).1.2 : Int)], .int .i64 (placeM (l.map Pg.m)).2] ∧ St w0 w' [] := by
  subst hn
  refine enterI 22 Try.func21 rfl rfl rfl ?_
  intro a hE
  have hS := St.start w0
  refine i_seq ?_
  refine i_region rfl (fun _ _ h => h) ?_
  refine s_allocS hE hS rfl rfl ?_
  clear hE a hS; intro g2 a w hE hS
  repeat' (first

    | (with_reducible refine wpList_nil ?_)
    | (with_reducible refine then_normal ?_)
    | (with_reducible refine i_seq ?_)
    | ((with_reducible refine ig_region ?_); refine i_region rfl (fun _ _ h => h) ?_)
    | ((with_reducible refine g_move ?_); refine s_move hE rfl rfl ?_; clear hE a; intro a hE)
    | ((with_reducible refine g_alloc ?_); refine s_alloc1 hE hS rfl rfl ?_; clear hE a hS; intro g a w hE hS)
    )
  obtain ⟨g3, rfl⟩ : ∃ x, x = g := ⟨g, rfl⟩
  refine s_call hE rfl rfl rfl (checked l A c l.length rfl w hl hwf (hr.st hS) (fun p hp => (hrd p hp).st hS)) ?_
  rintro _ w ⟨rfl, hS1⟩; clear hE a; intro a hE; replace hS := hS.frame hS1; clear hS1; try simp only [List.cons_append, List.nil_append] at hS
  by_cases hw0 : wrongM (l.map Pg.m) = 0
  · rw [hw0] at hE
    have hpl : placeM (l.map Pg.m) = match ((spotsM l).map SpT.m).find? freeS with | some x => (x.1, 0) | none => ((0, 0), 6) := by
      unfold placeM
      rw [if_pos hw0, spots_m]
    rw [hpl]
    repeat' (first

      | (with_reducible refine wpList_nil ?_)
      | (with_reducible refine then_normal ?_)
      | (with_reducible refine i_seq ?_)
      | (with_reducible refine i_skip ?_)
      | ((with_reducible refine ig_region ?_); refine i_region rfl (fun _ _ h => h) ?_)
      | ((with_reducible refine ig_cond ?_); refine i_false hE rfl ?_)
      | ((with_reducible refine g_move ?_); refine s_move hE rfl rfl ?_; clear hE a; intro a hE)
      | ((with_reducible refine g_assign ?_); refine s_assign hE rfl rfl ?_; clear hE a; intro a hE)
      | ((with_reducible refine g_bin .neq ?_); refine s_neq hE rfl rfl rfl ?_; clear hE a; intro a hE)
      )
    refine s_call hE rfl rfl rfl (spots A c l.length w) ?_
    rintro _ w ⟨b, rfl, hS1⟩; clear hE a; intro a hE; replace hS := hS.frame hS1; clear hS1; try simp only [List.cons_append, List.nil_append] at hS
    repeat' (first

      | (with_reducible refine wpList_nil ?_)
      | (with_reducible refine then_normal ?_)
      | (with_reducible refine i_block ?_)
      )
    refine i_range (ps := [15, 16]) hE rfl (spots_iter l A c b w0 hl hwf hr) (fun pre => [hPure (∀ x ∈ pre, freeS (SpT.m x) = false), hBlk g3 32 [.int .i64 0], hBlk g2 54 [.int .i64 0, .int .i64 0]])
      (fun j xs => [hPure (j = none ∧ ((spotsM l).map SpT.m).find? freeS = some (SpT.m (xs.getLastD ((0, 0), nilS)))), hBlk g3 32 [.int .i64 0], hBlk g2 54 [.int .i64 (xs.getLastD ((0, 0), nilS)).1.1, .int .i64 ((xs.getLastD ((0, 0), nilS)).1.2 : Int)]]) (own := []) ?_ (fun _ => rfl) (by decide)
      (Y := Nat) (fun pre x y => [(6, x.2.v), (5, .pointer (some ⟨y, 0, none⟩)), (2, .pointer (some ⟨g2, 0, none⟩)), (3, .pointer (some ⟨g3, 0, none⟩))])
      (fun pre x y => [hBlk y 54 [.int .i64 x.1.1, .int .i64 (x.1.2 : Int)], hPure (∀ x ∈ pre, freeS (SpT.m x) = false), hBlk g3 32 [.int .i64 0], hBlk g2 54 [.int .i64 0, .int .i64 0]]) ?_ ?_ ?_ ?_
    · exact (hS.pureI (p := ∀ x ∈ ([] : List SpT), freeS (SpT.m x) = false) (fun x hx => by cases hx)).p1
    · clear hS hE a
      intro own pre x w lp a hx hS hE
      simp only [List.cons_append, List.nil_append] at hS
      repeat' (first

        | (with_reducible refine wpList_nil ?_)
        | (with_reducible refine then_normal ?_)
        | (with_reducible refine i_seq ?_)
        | ((with_reducible refine ig_region ?_); refine i_region rfl (fun _ _ h => absurd h.1 (by simp)) ?_)
        | ((with_reducible refine g_assign ?_); refine s_assign hE rfl rfl ?_; clear hE a; intro a hE)
        | ((with_reducible refine g_alloc ?_); refine s_allocS hE hS rfl rfl ?_; clear hE a hS; intro g a w hE hS)
        | ((with_reducible refine g_store ?_); (first | (refine s_storeW (k := 0) hS hE rfl rfl rfl rfl rfl (by first | (simp [Value.oneCell']; done)) ?_) ); clear hS; intro w hS; simp only [List.set_cons_zero, List.set_cons_succ, Nat.add_zero] at hS)
        )
      exact ⟨rfl, rfl, _, hE.sub ⟨rfl, rfl, rfl, rfl, trivial⟩, hS.p1⟩
    · clear hS hE a
      intro own pre x y w lp a hx hS hE
      obtain ⟨post, hx⟩ := hx
      simp only [List.cons_append, List.nil_append] at hS
      have hpre := (hS.focus (k := 2) rfl).pure
      obtain ⟨⟨xn, xk⟩, s⟩ := x
      dsimp only at hS hE
      have hfr : freeS (SpT.m ((xn, xk), s)) = decide (s.b.length = 0) := rfl
      by_cases h0 : s.b.length = 0
      · rw [decide_eq_true h0] at hfr
        have hfi : ((spotsM l).map SpT.m).find? freeS = some (SpT.m ((xn, xk), s)) := by
          rw [← hx, List.map_append, List.map_cons]
          exact find_at (fun y hy => by obtain ⟨z, hz, rfl⟩ := List.mem_map.1 hy; exact hpre z hz) hfr
        repeat' (first

          | (with_reducible refine wpList_nil ?_)
          | (with_reducible refine then_normal ?_)
          | (with_reducible refine block_ret ?_)
          | (with_reducible refine i_seq ?_)
          | (with_reducible refine i_ret ?_)
          | (with_reducible refine i_block ?_)
          | ((with_reducible refine ig_region ?_); refine i_region rfl (fun _ _ h => h) ?_)
          | ((with_reducible refine ig_cond ?_); refine i_dec hE rfl (fun hc => ?_) (fun hc => ?_) <;> try omega)
          | ((with_reducible refine g_move ?_); refine s_move hE rfl rfl ?_; clear hE a; intro a hE)
          | ((with_reducible refine g_bin .eql ?_); refine s_eql hE rfl rfl rfl ?_; clear hE a; intro a hE)
          | ((with_reducible refine g_blt .len ?_); refine s_len hE rfl rfl ?_; clear hE a; intro a hE)
          | ((with_reducible refine g_store ?_); (first | (refine s_storeB (k := 3) hS hE rfl rfl rfl rfl rfl rfl ?_) ); clear hS; intro w hS; simp only [List.set_cons_zero, List.set_cons_succ, Nat.add_zero] at hS)
          | ((with_reducible refine g_load ?_); (first | (refine s_loadW (k := 1) hS hE rfl rfl rfl rfl ?_) ); clear hE a; intro a hE)
          | ((with_reducible refine g_store ?_); (first | (refine s_storeW (k := 4) hS hE rfl rfl rfl rfl rfl (by first | (simp [Value.oneCell']; done)) ?_) ); clear hS; intro w hS; simp only [List.set_cons_zero, List.set_cons_succ, Nat.add_zero] at hS)
          )
        have eL : (pre ++ [((xn, xk), s)]).getLastD ((0, 0), nilS) = ((xn, xk), s) := by simp
        show St w0 _ ([hBlk b 45 [.slice A l.length c]] ++ ([hPure (none = none ∧ ((spotsM l).map SpT.m).find? freeS = some (SpT.m ((pre ++ [((xn, xk), s)]).getLastD ((0, 0), nilS)))), hBlk g3 32 [.int .i64 0], hBlk g2 54 [.int .i64 ((pre ++ [((xn, xk), s)]).getLastD ((0, 0), nilS)).1.1, .int .i64 (((pre ++ [((xn, xk), s)]).getLastD ((0, 0), nilS)).1.2 : Int)]] ++ own))
        rw [eL]
        exact (hS.drop 1).convAt (k := 1) (h' := hPure (none = none ∧ ((spotsM l).map SpT.m).find? freeS = some (SpT.m ((xn, xk), s)))) rfl fun _ _ => ⟨rfl, hfi⟩
      · rw [decide_eq_false h0] at hfr
        repeat' (first

          | (with_reducible refine wpList_nil ?_)
          | (with_reducible refine then_normal ?_)
          | (with_reducible refine block_normal ?_)
          | (with_reducible refine i_seq ?_)
          | (with_reducible refine i_skip ?_)
          | (with_reducible refine i_block ?_)
          | ((with_reducible refine ig_region ?_); refine i_region rfl (fun _ _ h => h) ?_)
          | ((with_reducible refine ig_cond ?_); refine i_dec hE rfl (fun hc => ?_) (fun hc => ?_) <;> try omega)
          | ((with_reducible refine g_move ?_); refine s_move hE rfl rfl ?_; clear hE a; intro a hE)
          | ((with_reducible refine g_bin .eql ?_); refine s_eql hE rfl rfl rfl ?_; clear hE a; intro a hE)
          | ((with_reducible refine g_blt .len ?_); refine s_len hE rfl rfl ?_; clear hE a; intro a hE)
          )
        exact (hS.drop 1).convAt (k := 1) (h' := hPure (∀ x ∈ pre ++ [((xn, xk), s)], freeS (SpT.m x) = false)) rfl fun _ _ x hx => by
          rcases List.mem_append.1 hx with h | h
          · exact hpre x h
          · rw [List.mem_singleton] at h; subst h; exact hfr
    · clear hS
      intro D2 w hS
      simp only [List.cons_append, List.nil_append] at hS
      have hp := (hS.focus (k := 2) rfl).pure
      rw [find_none (fun y hy => by obtain ⟨z, hz, rfl⟩ := List.mem_map.1 hy; exact hp z hz)]
      repeat' (first

        | (with_reducible refine wpList_nil ?_)
        | (with_reducible refine then_normal ?_)
        | (with_reducible refine block_normal ?_)
        | (with_reducible refine i_seq ?_)
        | (with_reducible refine i_ret ?_)
        | ((with_reducible refine ig_region ?_); refine i_region rfl (fun _ _ h => h) ?_)
        | ((with_reducible refine g_store ?_); (first | (refine s_storeB (k := 3) hS hE rfl rfl rfl rfl rfl rfl ?_) ); clear hS; intro w hS; simp only [List.set_cons_zero, List.set_cons_succ, Nat.add_zero] at hS)
        | ((with_reducible refine g_build ?_); refine s_build [_, _] hE rfl rfl rfl ?_; clear hE a; intro a hE)
        | ((with_reducible refine g_store ?_); (first | (refine s_storeW (k := 4) hS hE rfl rfl rfl rfl rfl (by first | (simp [Value.oneCell']; done)) ?_) ); clear hS; intro w hS; simp only [List.set_cons_zero, List.set_cons_succ, Nat.add_zero] at hS)
        )
      exact im_retG (vs := [_, _]) hE [D2] hS rfl fun w' hS' => ⟨⟨⟨_, rfl, res_W (k := 3) hS' rfl rfl⟩, ⟨_, rfl, res_1 (k := 2) hS' rfl⟩, trivial⟩, rfl, hS'.nil⟩
    · clear hS
      intro j D2 pre x post w hx hS
      simp only [List.cons_append, List.nil_append] at hS
      obtain ⟨rfl, hfi⟩ := (hS.focus (k := 2) rfl).pure
      rw [hfi]
      show Exit.inBlock 0 _ .ret a w
      repeat' (first

        | (with_reducible refine then_ret ?_)
        | (with_reducible refine block_ret ?_)
        )
      exact im_retG (vs := [_, _]) hE [D2] hS rfl fun w' hS' => ⟨⟨⟨_, rfl, res_W (k := 3) hS' rfl rfl⟩, ⟨_, rfl, res_1 (k := 2) hS' rfl⟩, trivial⟩, rfl, hS'.nil⟩
  · have hpl : placeM (l.map Pg.m) = ((0, 0), wrongM (l.map Pg.m)) := if_neg hw0
    rw [hpl]
    generalize wrongM (l.map Pg.m) = e at hE hw0
    repeat' (first

      | (with_reducible refine wpList_nil ?_)
      | (with_reducible refine then_normal ?_)
      | (with_reducible refine then_ret ?_)
      | (with_reducible refine i_seq ?_)
      | (with_reducible refine i_ret ?_)
      | ((with_reducible refine ig_region ?_); refine i_region rfl (fun _ _ h => h) ?_)
      | ((with_reducible refine ig_cond ?_); refine i_dec hE rfl (fun hc => ?_) (fun hc => ?_) <;> try omega)
      | ((with_reducible refine g_move ?_); refine s_move hE rfl rfl ?_; clear hE a; intro a hE)
      | ((with_reducible refine g_assign ?_); refine s_assign hE rfl rfl ?_; clear hE a; intro a hE)
      | ((with_reducible refine g_bin .neq ?_); refine s_neq hE rfl rfl rfl ?_; clear hE a; intro a hE)
      | ((with_reducible refine g_store ?_); (first | (refine s_storeB (k := 0) hS hE rfl rfl rfl rfl rfl rfl ?_) ); clear hS; intro w hS; simp only [List.set_cons_zero, List.set_cons_succ, Nat.add_zero] at hS)
      | ((with_reducible refine g_build ?_); refine s_build [_, _] hE rfl rfl rfl ?_; clear hE a; intro a hE)
      | ((with_reducible refine g_store ?_); (first | (refine s_storeW (k := 1) hS hE rfl rfl rfl rfl rfl (by first | (simp [Value.oneCell']; done)) ?_) ); clear hS; intro w hS; simp only [List.set_cons_zero, List.set_cons_succ, Nat.add_zero] at hS)
      )
    exact im_retG (vs := [_, _]) hE [] hS.marks0 rfl fun w' hS' => ⟨⟨⟨_, rfl, res_W (k := 1) hS' rfl rfl⟩, ⟨_, rfl, res_1 (k := 0) hS' rfl⟩, trivial⟩, rfl, hS'.nil⟩
theorem items (l : List Pg) (A : Option Addr) (c n : Nat) (hn : n = l.length) (w0 : World) (hl : l.length ≤ 100000) (hwf : ∀ p ∈ l, p.wf) (hr : Rd w0 A (l.flatMap Pg.cells)) (hrd : ∀ p ∈ l, p.rd w0) :
    Fn Try.prog 17 [.slice A n c] w0 fun v w' => ∃ (A' : Option Addr) (c' : Nat), v = .tuple #[.slice A' (itemsM (l.map Pg.m)).length c', .int .i64 (wrongM (l.map Pg.m))] ∧ St w0 w' [hRow 56 10 A' (itemsM (l.map Pg.m)).length c' ((itemsM (l.map Pg.m)).flatMap stc)] := by
  subst hn
  refine enterI 33 Try.func17 rfl rfl rfl ?_
  intro a hE
  have hS := St.start w0
  repeat' (first

    | (with_reducible refine wpList_nil ?_)
    | (with_reducible refine then_normal ?_)
    | (with_reducible refine i_seq ?_)
    | ((with_reducible refine ig_region ?_); refine i_region rfl (fun _ _ h => h) ?_)
    | ((with_reducible refine g_move ?_); refine s_move hE rfl rfl ?_; clear hE a; intro a hE)
    | ((with_reducible refine g_assign ?_); refine s_assign hE rfl rfl ?_; clear hE a; intro a hE)
    )
  refine s_call hE rfl rfl rfl (checked l A c l.length rfl w0 hl hwf hr hrd) ?_
  rintro _ w ⟨rfl, hS1⟩; clear hE a; intro a hE; replace hS := hS.frame hS1; clear hS1; try simp only [List.cons_append, List.nil_append] at hS
  by_cases hw0 : wrongM (l.map Pg.m) = 0
  · have hit : itemsM (l.map Pg.m) = itsOf (spotsM l) := by
      unfold itemsM itsOf
      rw [if_pos hw0, ← spots_m, List.filterMap_map]
      rfl
    rw [hit]
    rw [hw0] at hE ⊢
    have hsl : (spotsM l).length ≤ 400000 := by
      have := spotsM_len hwf
      omega
    repeat' (first

      | (with_reducible refine wpList_nil ?_)
      | (with_reducible refine then_normal ?_)
      | (with_reducible refine i_seq ?_)
      | (with_reducible refine i_skip ?_)
      | ((with_reducible refine ig_region ?_); refine i_region rfl (fun _ _ h => h) ?_)
      | ((with_reducible refine ig_cond ?_); refine i_false hE rfl ?_)
      | ((with_reducible refine g_move ?_); refine s_move hE rfl rfl ?_; clear hE a; intro a hE)
      | ((with_reducible refine g_assign ?_); refine s_assign hE rfl rfl ?_; clear hE a; intro a hE)
      | ((with_reducible refine g_bin .neq ?_); refine s_neq hE rfl rfl rfl ?_; clear hE a; intro a hE)
      | ((with_reducible refine g_alloc ?_); refine s_alloc1 hE hS rfl rfl ?_; clear hE a hS; intro g a w hE hS)
      )
    refine s_call hE rfl rfl rfl (spots A c l.length w) ?_
    rintro _ w ⟨b, rfl, hS1⟩; clear hE a; intro a hE; replace hS := hS.frame hS1; clear hS1; try simp only [List.cons_append, List.nil_append] at hS
    obtain ⟨g5, rfl⟩ : ∃ x, x = g := ⟨g, rfl⟩
    repeat' (first

      | (with_reducible refine wpList_nil ?_)
      | (with_reducible refine then_normal ?_)
      | (with_reducible refine i_block ?_)
      )
    refine i_range (ps := [17, 18]) hE rfl (spots_iter l A c b w0 hl hwf hr) (fun pre => [hIts g5 (itsOf pre)])
      (fun j xs => [hPure False]) (own := []) ?_ (fun _ => rfl) (by decide)
      (Y := Nat) (fun pre x y => [(7, x.2.v), (6, .pointer (some ⟨y, 0, none⟩)), (5, .pointer (some ⟨g5, 0, none⟩))])
      (fun pre x y => [hBlk y 54 [.int .i64 x.1.1, .int .i64 (x.1.2 : Int)], hIts g5 (itsOf pre)]) ?_ ?_ ?_ ?_
    · have h1 : St w0 w (hBlk g5 47 [.slice none 0 0] :: hRow 56 10 none 0 0 [] :: [hBlk b 45 [.slice A l.length c]]) := (St.rowNil hS.p1 _ _).p1
      exact (hIts_close (its := []) h1).p1
    · clear hS hE a
      intro own pre x w lp a hx hS hE
      simp only [List.cons_append, List.nil_append] at hS
      repeat' (first

        | (with_reducible refine wpList_nil ?_)
        | (with_reducible refine then_normal ?_)
        | (with_reducible refine i_seq ?_)
        | ((with_reducible refine ig_region ?_); refine i_region rfl (fun _ _ h => absurd h.1 (by simp)) ?_)
        | ((with_reducible refine g_assign ?_); refine s_assign hE rfl rfl ?_; clear hE a; intro a hE)
        | ((with_reducible refine g_alloc ?_); refine s_allocS hE hS rfl rfl ?_; clear hE a hS; intro g a w hE hS)
        | ((with_reducible refine g_store ?_); (first | (refine s_storeW (k := 0) hS hE rfl rfl rfl rfl rfl (by first | (simp [Value.oneCell']; done)) ?_) ); clear hS; intro w hS; simp only [List.set_cons_zero, List.set_cons_succ, Nat.add_zero] at hS)
        )
      exact ⟨rfl, rfl, _, hE.sub ⟨rfl, rfl, rfl, trivial⟩, hS.p1⟩
    · clear hS hE a
      intro own pre x y w lp a hx hS hE
      obtain ⟨post, hx⟩ := hx
      have hxm : x ∈ spotsM l := by rw [← hx]; simp
      have hlen : pre.length ≤ 400000 := by rw [← hx, List.length_append] at hsl; omega
      obtain ⟨p, hp, hxp⟩ := spots_mem hxm
      have hxr := hrd p hp _ hxp
      obtain ⟨hs1, hs2, hs3⟩ := (hwf p hp).sl _ hxp
      simp only [List.cons_append, List.nil_append] at hS
      obtain ⟨⟨xn, xk⟩, s⟩ := x
      dsimp only at hS hE hxr hs1 hs2 hs3
      have hst : itsOf (pre ++ [((xn, xk), s)]) = itsOf pre ++ (itM1 ((xn, xk), s.b)).toList := by
        unfold itsOf
        rw [List.filterMap_append]
        congr 1
      have hil : (itsOf pre).length ≤ 400000 := Nat.le_trans (List.length_filterMap_le _ _) hlen
      have hone := TM.cells_one (decR s.b)
      have hcl : (decR s.b).cells.length = 8 := rfl
      repeat' (first

        | (with_reducible refine i_seq ?_)
        | (with_reducible refine i_block ?_)
        | ((with_reducible refine ig_region ?_); refine i_region rfl (fun _ _ h => h) ?_)
        | ((with_reducible refine g_move ?_); refine s_move hE rfl rfl ?_; clear hE a; intro a hE)
        )
      refine s_call hE rfl rfl rfl (hdecode s.A s.c s.b s.b.length rfl (hxr.st hS) hs3 hs2) ?_
      rintro _ w ⟨rfl, hS1⟩; clear hE a; intro a hE; replace hS := hS.frame hS1; clear hS1; try simp only [List.cons_append, List.nil_append] at hS
      cases hd : decT s.b with
      | some t =>
        have et : decR s.b = t := by unfold decR; rw [hd]; rfl
        have e1 : itM1 ((xn, xk), s.b) = some ((xn, xk), t) := by unfold itM1; rw [hd]; rfl
        rw [e1] at hst
        rw [hd] at hE
        rw [et] at hE hone hcl
        generalize itsOf pre = its at hS hil hst
        have hS2 := hIts_open (hS.focus (k := 2) rfl)
        obtain ⟨A', c', hS2⟩ := hS2
        simp only [List.eraseIdx_cons_succ, List.eraseIdx_cons_zero] at hS2
        clear hS; have hS := hS2; clear hS2
        have hfl : (its.flatMap stc).length = its.length * 10 := flat_len fun x _ => stc_len x
        repeat' (first

          | (with_reducible refine wpList_nil ?_)
          | (with_reducible refine then_normal ?_)
          | (with_reducible refine i_seq ?_)
          | ((with_reducible refine ig_region ?_); refine i_region rfl (fun _ _ h => h) ?_)
          | ((with_reducible refine ig_cond ?_); refine i_true hE rfl ?_)
          | ((with_reducible refine g_move ?_); refine s_move hE rfl rfl ?_; clear hE a; intro a hE)
          | ((with_reducible refine g_assign ?_); refine s_assign hE rfl rfl ?_; clear hE a; intro a hE)
          | ((with_reducible refine g_bin .eql ?_); refine s_eql hE rfl rfl rfl ?_; clear hE a; intro a hE)
          | ((with_reducible refine g_extract ?_); refine s_extract hE rfl rfl rfl ?_; clear hE a; intro a hE)
          | ((with_reducible refine g_load ?_); (first | (refine s_loadB (k := 1) hS hE rfl rfl rfl rfl ?_) ); clear hE a; intro a hE)
          | ((with_reducible refine g_alloc ?_); refine s_allocS hE hS rfl rfl ?_; clear hE a hS; intro g a w hE hS)
          | ((with_reducible refine g_load ?_); (first | (refine s_loadW (k := 0) hS hE rfl rfl rfl rfl ?_) | (refine s_loadW (k := 4) hS hE rfl rfl rfl rfl ?_) ); clear hE a; intro a hE)
          | ((with_reducible refine g_store ?_); (first | (refine s_storeW (k := 0) hS hE rfl rfl rfl rfl rfl (by first | assumption ) ?_) ); clear hS; intro w hS; simp only [List.set_cons_zero, List.set_cons_succ, Nat.add_zero] at hS)
          )
        refine s_build (stc ((xn, xk), t)) hE rfl rfl rfl ?_
        clear hE a; intro a hE
        skip
        refine s_litA (vs := stc ((xn, xk), t)) hE hS rfl rfl rfl rfl rfl ?_
        clear hE a hS; intro gl a w hE hS
        refine s_appendAt (k := 3) (size := 10) (bytes := 80) hE hS rfl rfl rfl (hS.rdAt (k := 0) rfl) rfl (stc_one _) (by omega) rfl rfl rfl rfl ?_
        clear hE a hS; intro A6 c6 a w hE hS
        simp only [List.set_cons_succ, List.set_cons_zero] at hS
        repeat' (first

          | (with_reducible refine wpList_nil ?_)
          | (with_reducible refine block_normal ?_)
          | ((with_reducible refine g_store ?_); (first | (refine s_storeB (k := 2) hS hE rfl rfl rfl rfl rfl rfl ?_) ); clear hS; intro w hS; simp only [List.set_cons_zero, List.set_cons_succ, Nat.add_zero] at hS)
          )
        have e2 : its.flatMap stc ++ stc ((xn, xk), t) = (its ++ [((xn, xk), t)]).flatMap stc := by rw [List.flatMap_append]; simp
        have e3 : its.length + 1 = (its ++ [((xn, xk), t)]).length := by simp
        rw [e2, e3] at hS
        show St w0 _ (hBlk b 45 [.slice A l.length c] :: hIts g5 (itsOf (pre ++ [((xn, xk), s)])) :: own)
        rw [hst, Option.toList_some]
        exact ((hIts_close ((hS.drop 0).drop 0)).drop 2).p1
      | none =>
        have e1 : itM1 ((xn, xk), s.b) = none := by unfold itM1; rw [hd]; rfl
        rw [e1] at hst
        rw [hd] at hE
        generalize decR s.b = t at hE hone hcl
        repeat' (first

          | (with_reducible refine wpList_nil ?_)
          | (with_reducible refine then_normal ?_)
          | (with_reducible refine block_normal ?_)
          | (with_reducible refine i_seq ?_)
          | (with_reducible refine i_skip ?_)
          | ((with_reducible refine ig_region ?_); refine i_region rfl (fun _ _ h => h) ?_)
          | ((with_reducible refine ig_cond ?_); refine i_false hE rfl ?_)
          | ((with_reducible refine g_move ?_); refine s_move hE rfl rfl ?_; clear hE a; intro a hE)
          | ((with_reducible refine g_assign ?_); refine s_assign hE rfl rfl ?_; clear hE a; intro a hE)
          | ((with_reducible refine g_bin .eql ?_); refine s_eql hE rfl rfl rfl ?_; clear hE a; intro a hE)
          | ((with_reducible refine g_extract ?_); refine s_extract hE rfl rfl rfl ?_; clear hE a; intro a hE)
          | ((with_reducible refine g_alloc ?_); refine s_allocS hE hS rfl rfl ?_; clear hE a hS; intro g a w hE hS)
          | ((with_reducible refine g_store ?_); (first | (refine s_storeW (k := 0) hS hE rfl rfl rfl rfl rfl (by first | assumption ) ?_) ); clear hS; intro w hS; simp only [List.set_cons_zero, List.set_cons_succ, Nat.add_zero] at hS)
          )
        show St w0 _ (hBlk b 45 [.slice A l.length c] :: hIts g5 (itsOf (pre ++ [((xn, xk), s)])) :: own)
        rw [hst, Option.toList_none, List.append_nil]
        exact (hS.drop 0).drop 1
    · clear hS
      intro D2 w hS
      simp only [List.cons_append, List.nil_append] at hS
      generalize itsOf (spotsM l) = its at hS ⊢
      obtain ⟨A', c', hS2⟩ := hIts_open (hS.focus (k := 2) rfl)
      simp only [List.eraseIdx_cons_succ, List.eraseIdx_cons_zero] at hS2
      clear hS; have hS := hS2; clear hS2
      repeat' (first

        | (with_reducible refine wpList_nil ?_)
        | (with_reducible refine then_normal ?_)
        | (with_reducible refine block_normal ?_)
        | (with_reducible refine i_seq ?_)
        | (with_reducible refine i_ret ?_)
        | ((with_reducible refine ig_region ?_); refine i_region rfl (fun _ _ h => h) ?_)
        | ((with_reducible refine g_assign ?_); refine s_assign hE rfl rfl ?_; clear hE a; intro a hE)
        | ((with_reducible refine g_load ?_); (first | (refine s_loadB (k := 0) hS hE rfl rfl rfl rfl ?_) ); clear hE a; intro a hE)
        )
      exact im_retG (vs := [_, _]) hE [D2] (hS.focus (k := 2) rfl) rfl fun w' hS' => ⟨⟨rfl, rfl, trivial⟩, A', c', rfl, hS'.only 1 rfl⟩
    · clear hS
      intro j D2 pre x post w hx hS
      simp only [List.cons_append, List.nil_append] at hS
      exact ((hS.focus (k := 2) rfl).pure).elim
  · have hit : itemsM (l.map Pg.m) = [] := if_neg hw0
    rw [hit]
    generalize wrongM (l.map Pg.m) = e at hE hw0
    repeat' (first

      | (with_reducible refine wpList_nil ?_)
      | (with_reducible refine then_normal ?_)
      | (with_reducible refine then_ret ?_)
      | (with_reducible refine i_seq ?_)
      | (with_reducible refine i_ret ?_)
      | ((with_reducible refine ig_region ?_); refine i_region rfl (fun _ _ h => h) ?_)
      | ((with_reducible refine ig_cond ?_); refine i_dec hE rfl (fun hc => ?_) (fun hc => ?_) <;> try omega)
      | ((with_reducible refine g_move ?_); refine s_move hE rfl rfl ?_; clear hE a; intro a hE)
      | ((with_reducible refine g_assign ?_); refine s_assign hE rfl rfl ?_; clear hE a; intro a hE)
      | ((with_reducible refine g_bin .neq ?_); refine s_neq hE rfl rfl rfl ?_; clear hE a; intro a hE)
      )
    exact im_retG (vs := [_, _]) hE [] hS.marks0 rfl fun w' hS' => ⟨⟨rfl, rfl, trivial⟩, none, 0, rfl, St.rowNil hS' _ _⟩
end
end Go.Proofs.Ytaiahigeejodaaa
