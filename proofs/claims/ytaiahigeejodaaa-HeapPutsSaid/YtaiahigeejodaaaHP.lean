/-
  Contracts: how many slots of pages are free, by the program; what is stored, held against each other.
-/
import Derived.Test.YtaiahigeejodaaaHN
import Derived.Test.YtaiahigeejodaaaHL
import Derived.Test.YtaiahigeejodaaaGQ
namespace Go.Proofs.Ytaiahigeejodaaa
open Go.RowKit
set_option linter.unusedVariables false
set_option linter.unusedSimpArgs false
attribute [local irreducible] Rd hRow hBlk hRd hRdr rowsP hPs Fn hMarks

instance : TyE Try.prog 56 [(0, 54), (2, 30)] := ⟨⟨_, Try.underlying56, rfl, rfl⟩, by kernel_rfl⟩
instance : TyG Try.prog 56 := ⟨by kernel_rfl⟩
theorem eq_stored {w : World} (d : Nat) (x y : StM) : (Op.equalIn (d + 4) 56 (.agg (stc x).toArray) (.agg (stc y).toArray)).run Try.prog w = .ok (decide (x = y)) w := by
  have h1 := eq_spot (w := w) (d + 1) x.1.1 (x.1.2 : Int) y.1.1 (y.1.2 : Int)
  have h2 := eq_tuple (w := w) d x.2 y.2
  rw [es_struct, es_cons (es_pA (ys := spc x.1.1 (x.1.2 : Int)) rfl) (es_pA (ys := spc y.1.1 (y.1.2 : Int)) rfl) h1 (es_cons (es_pA (ys := x.2.cells) rfl) (es_pA (ys := y.2.cells) rfl) h2 es_nil)]
  refine congrArg (fun r => Result.ok r w) ?_
  obtain ⟨⟨n, k⟩, t⟩ := x
  obtain ⟨⟨n', k'⟩, t'⟩ := y
  simp only [Prod.mk.injEq, Int.ofNat_inj, Bool.and_true, Bool.decide_and]
def roomP (p : PM) : Nat := (p.s.filter fun b => decide (b.length = 0)).length
def cntS (l : List SpT) : Nat := ((l.map fun x => x.2.b).filter fun b => decide (b.length = 0)).length
theorem cnt_spots (p : Pg) : cntS (spotsM [p]) = roomP p.m := by
  have : (spotsM [p]).map (fun x => x.2.b) = p.s.map Sl.b := by
    unfold spotsM spotsP
    rw [List.flatMap_cons, List.flatMap_nil, List.append_nil, List.map_map]
    show p.s.zipIdx.map (Sl.b ∘ Prod.fst) = _
    rw [← List.map_map]
    congr 1
    exact List.zipIdx_map_fst _ _
  unfold cntS roomP
  rw [this]
  rfl
theorem cnt_add (l : List SpT) (x : SpT) : cntS (l ++ [x]) = cntS l + if x.2.b.length = 0 then 1 else 0 := by
  unfold cntS
  rw [List.map_append, List.filter_append, List.length_append]
  congr 1
  by_cases h : x.2.b.length = 0
  · rw [if_pos h, List.map_cons, List.map_nil, List.filter_cons_of_pos (by simpa using h)]; rfl
  · rw [if_neg h, List.map_cons, List.map_nil, List.filter_cons_of_neg (by simpa using h)]; rfl
theorem cnt_le (l : List SpT) : cntS l ≤ l.length := by
  unfold cntS
  refine Nat.le_trans (List.length_filter_le ..) ?_
  rw [List.length_map]; exact Nat.le_refl _
def roomM (l : List PM) : List Nat := if wrongM l = 0 then l.map roomP else []
abbrev ints (l : List Nat) : List Value := l.map fun n : Nat => Value.int .i64 (n : Int)
section
variable {H : List HP} {w0 w : World}
set_option maxHeartbeats 8000000
theorem room (l : List Pg) (A : Option Addr) (c n : Nat) (hn : n = l.length) (hcap : l.length ≤ c) (w0 : World) (hl : l.length ≤ 100000) (hwf : ∀ p ∈ l, p.wf) (hr : Rd w0 A (l.flatMap Pg.cells)) (hrd : ∀ p ∈ l, p.rd w0) :
    Fn Try.prog 22 [.slice A n c] w0 fun v w' => ∃ (A' : Option Addr) (c' : Nat), v = .tuple #[.slice A' (roomM (l.map Pg.m)).length c', .int .i64 (wrongM (l.map Pg.m))] ∧ St w0 w' [hRow 3 1 A' (roomM (l.map Pg.m)).length c' (ints (roomM (l.map Pg.m)))] := by
  subst hn
  have hls : ∀ r ∈ l, (Pg.cells r).length = 6 := fun r hr => by simp [(hwf r hr).s4]
  have hfl : (l.flatMap Pg.cells).length = l.length * 6 := flat_len hls
  refine enterI 39 Try.func22 rfl rfl rfl ?_
  intro a hE
  have hS := St.start w0
  repeat' (first

    | (with_reducible refine wpList_nil ?_)
    | (with_reducible refine then_normal ?_)
    | (with_reducible refine i_seq ?_)
    | ((with_reducible refine ig_region ?_); refine i_region rfl (fun _ _ h => h) ?_)
    | ((with_reducible refine g_move ?_); refine s_move hE rfl rfl ?_; clear hE a; intro a hE)
    | ((with_reducible refine g_assign ?_); refine s_assign hE rfl rfl ?_; clear hE a; intro a hE)
    )
  refine s_call hE rfl rfl rfl (checked l A c l.length rfl w0 hl hwf hr hrd) ?_
  rintro _ w ⟨rfl, hS1⟩; clear hE a; intro a hE; replace hS := hS.frame hS1; clear hS1; try simp only [List.cons_append, List.nil_append] at hS
  by_cases hw0 : wrongM (l.map Pg.m) = 0
  · have hro : roomM (l.map Pg.m) = (l.map Pg.m).map roomP := if_pos hw0
    rw [hro]
    rw [hw0] at hE ⊢
    repeat' (first

      | (with_reducible refine wpList_nil ?_)
      | (with_reducible refine then_normal ?_)
      | (with_reducible refine i_seq ?_)
      | (with_reducible refine i_skip ?_)
      | (with_reducible refine i_block ?_)
      | ((with_reducible refine ig_region ?_); refine i_region rfl (fun _ _ h => h) ?_)
      | ((with_reducible refine ig_cond ?_); refine i_false hE rfl ?_)
      | ((with_reducible refine g_move ?_); refine s_move hE rfl rfl ?_; clear hE a; intro a hE)
      | ((with_reducible refine g_assign ?_); refine s_assign hE rfl rfl ?_; clear hE a; intro a hE)
      | ((with_reducible refine g_bin .neq ?_); refine s_neq hE rfl rfl rfl ?_; clear hE a; intro a hE)
      | ((with_reducible refine g_blt .len ?_); refine s_len hE rfl rfl ?_; clear hE a; intro a hE)
      )
    have hS2 : St w0 w [hMarks [], hRow 3 1 none 0 0 []] := (St.rowNil hS.nil _ _).marks0
    clear hS; have hS := hS2; clear hS2
    refine i_loop (fun q ds a w => ∃ (k : Nat) (Ds : List Nat) (A1 : Option Addr) (c1 : Nat), ds = Ds.map mark ∧ k + q = l.length ∧ St w0 w [hMarks Ds, hRow 3 1 A1 k c1 (ints (((l.take k).map Pg.m).map roomP))] ∧ Env 39 [(0, .slice A l.length c), (5, .slice A1 k c1), (16, .int .i64 (l.length : Int)), (17, .int .i64 (k : Int))] a) l.length ⟨0, [], none, 0, rfl, by omega, hS, hE.sub ⟨rfl, rfl, rfl, rfl, trivial⟩⟩ ?_
    clear hE a hS
    rintro q ds a w ⟨k, Ds, A1, c1, rfl, hk, hS, hE⟩
    by_cases hk1 : k < l.length
    · have hseg := flat_seg (c := Pg.cells) (size := 6) (l := l) hls hk1
      have hpw := hwf _ (List.getElem_mem hk1)
      have hst : (((l.take (k + 1)).map Pg.m).map roomP) = (((l.take k).map Pg.m).map roomP) ++ [roomP (l[k]'hk1).m] := by
        rw [List.take_succ_eq_append_getElem hk1, List.map_append, List.map_append]; rfl
      have hrk : Rd w0 (if c = k then A else A.map (·.add (k * 6))) ([l[k]'hk1].flatMap Pg.cells) := by
        have h1 := (hr.cutS (c := c) (l := k) (size := 6) (by rw [hfl]; exact Nat.mul_le_mul_right 6 hcap)).take 6
        rw [hseg] at h1
        rw [List.flatMap_cons, List.flatMap_nil, List.append_nil]
        exact h1
      generalize (l[k]'hk1) = p at hpw hst hrk
      generalize ((l.take k).map Pg.m).map roomP = ys at hS hst
      repeat' (first

        | (with_reducible refine wpList_nil ?_)
        | (with_reducible refine then_normal ?_)
        | (with_reducible refine i_seq ?_)
        | (with_reducible refine i_skip ?_)
        | (with_reducible refine i_block ?_)
        | ((with_reducible refine ig_region ?_); refine i_region rfl (fun _ _ h => h) ?_)
        | ((with_reducible refine ig_cond ?_); refine i_dec hE rfl (fun hc => ?_) (fun hc => ?_) <;> try omega)
        | ((with_reducible refine g_move ?_); refine s_move hE rfl rfl ?_; clear hE a; intro a hE)
        | ((with_reducible refine g_assign ?_); refine s_assign hE rfl rfl ?_; clear hE a; intro a hE)
        | ((with_reducible refine g_bin .lss ?_); refine s_lss hE rfl rfl rfl ?_; clear hE a; intro a hE)
        | ((with_reducible refine g_bin .add ?_); refine s_add hE rfl rfl rfl (by first  | exact wrap64_in (by omega) ) ?_; clear hE a; intro a hE)
        | ((with_reducible refine g_store ?_); (first | (refine s_storeB (k := 0) hS hE rfl rfl rfl rfl rfl rfl ?_) ); clear hS; intro w hS; simp only [List.set_cons_zero, List.set_cons_succ, Nat.add_zero] at hS)
        | ((with_reducible refine g_alloc ?_); refine s_alloc1 hE hS rfl rfl ?_; clear hE a hS; intro g a w hE hS)
        | ((with_reducible refine g_sliceLH ?_); refine s_val hE rfl rfl rfl (r_cutLH hE rfl rfl rfl (by omega) (by omega)) ?_; clear hE a; intro a hE)
        )
      rw [Int.toNat_natCast, show ((k : Int) + 1).toNat - k = 1 by omega] at hE
      generalize (if c = k then A else A.map (·.add (k * 6))) = B at hE hrk
      refine s_call hE rfl rfl rfl (spots B (c - k) 1 w) ?_
      rintro _ w ⟨b, rfl, hS1⟩; clear hE a; intro a hE; replace hS := hS.frame hS1; clear hS1; try simp only [List.cons_append, List.nil_append] at hS
      repeat' (first

        | (with_reducible refine wpList_nil ?_)
        | (with_reducible refine then_normal ?_)
        | (with_reducible refine i_block ?_)
        )
      refine i_range (ps := [26, 27]) hE rfl (spots_iter [p] B (c - k) b w0 (by show 1 ≤ 100000; decide) (fun q hq => by rw [List.mem_singleton] at hq; subst hq; exact hpw) hrk) (fun pre => [hBlk g 3 [.int .i64 (cntS pre : Int)]])
        (fun j xs => [hPure False]) (own := [hMarks Ds, hRow 3 1 A1 k c1 (ints ys)]) hS (fun _ => rfl) (by decide)
        (Y := Unit) (fun pre x y => [(9, x.2.v), (7, .pointer (some ⟨g, 0, none⟩))])
        (fun pre x y => [hBlk g 3 [.int .i64 (cntS pre : Int)]]) ?_ ?_ ?_ ?_
      · clear hS hE a
        intro own pre x w lp a hx hS hE
        simp only [List.cons_append, List.nil_append] at hS
        repeat' (first

          | (with_reducible refine wpList_nil ?_)
          | ((with_reducible refine ig_region ?_); refine i_region rfl (fun _ _ h => absurd h.1 (by simp)) ?_)
          | ((with_reducible refine g_assign ?_); refine s_assign hE rfl rfl ?_; clear hE a; intro a hE)
          )
        exact ⟨rfl, rfl, (), hE.sub ⟨rfl, rfl, trivial⟩, hS⟩
      · clear hS hE a
        intro own pre x y w lp a hx hS hE
        obtain ⟨post, hx⟩ := hx
        have hlen : pre.length ≤ 4 := by
          have h1 := congrArg List.length hx
          have h2 : (spotsM [p]).length = 1 * 4 := spotsM_len (l := [p]) fun q hq => by rw [List.mem_singleton] at hq; subst hq; exact hpw
          rw [List.length_append] at h1
          omega
        have hcnt := cnt_le pre
        have hca := cnt_add pre x
        simp only [List.cons_append, List.nil_append] at hS
        obtain ⟨xs, s⟩ := x
        dsimp only at hS hE hca
        generalize cntS pre = m at hS hcnt hca
        by_cases h0 : s.b.length = 0
        · rw [if_pos h0] at hca
          repeat' (first

            | (with_reducible refine wpList_nil ?_)
            | (with_reducible refine then_normal ?_)
            | (with_reducible refine block_normal ?_)
            | (with_reducible refine i_seq ?_)
            | (with_reducible refine i_block ?_)
            | ((with_reducible refine ig_region ?_); refine i_region rfl (fun _ _ h => h) ?_)
            | ((with_reducible refine ig_cond ?_); refine i_dec hE rfl (fun hc => ?_) (fun hc => ?_) <;> try omega)
            | ((with_reducible refine g_move ?_); refine s_move hE rfl rfl ?_; clear hE a; intro a hE)
            | ((with_reducible refine g_bin .eql ?_); refine s_eql hE rfl rfl rfl ?_; clear hE a; intro a hE)
            | ((with_reducible refine g_bin .add ?_); refine s_add hE rfl rfl rfl (by first  | exact wrap64_in (by omega) ) ?_; clear hE a; intro a hE)
            | ((with_reducible refine g_blt .len ?_); refine s_len hE rfl rfl ?_; clear hE a; intro a hE)
            | ((with_reducible refine g_load ?_); (first | (refine s_loadB (k := 1) hS hE rfl rfl rfl rfl ?_) ); clear hE a; intro a hE)
            | ((with_reducible refine g_store ?_); (first | (refine s_storeB (k := 1) hS hE rfl rfl rfl rfl rfl rfl ?_) ); clear hS; intro w hS; simp only [List.set_cons_zero, List.set_cons_succ, Nat.add_zero] at hS)
            )
          show St w0 _ (hBlk b 45 [.slice B 1 (c - k)] :: hBlk g 3 [.int .i64 (cntS (pre ++ [(xs, s)]) : Int)] :: own)
          rw [hca]
          exact hS
        · rw [if_neg h0] at hca
          repeat' (first

            | (with_reducible refine wpList_nil ?_)
            | (with_reducible refine then_normal ?_)
            | (with_reducible refine block_normal ?_)
            | (with_reducible refine i_seq ?_)
            | (with_reducible refine i_skip ?_)
            | (with_reducible refine i_block ?_)
            | ((with_reducible refine ig_region ?_); refine i_region rfl (fun _ _ h => h) ?_)
            | ((with_reducible refine ig_cond ?_); refine i_dec hE rfl (fun hc => ?_) (fun hc => ?_) <;> try omega)
            | ((with_reducible refine g_move ?_); refine s_move hE rfl rfl ?_; clear hE a; intro a hE)
            | ((with_reducible refine g_bin .eql ?_); refine s_eql hE rfl rfl rfl ?_; clear hE a; intro a hE)
            | ((with_reducible refine g_blt .len ?_); refine s_len hE rfl rfl ?_; clear hE a; intro a hE)
            )
          show St w0 _ (hBlk b 45 [.slice B 1 (c - k)] :: hBlk g 3 [.int .i64 (cntS (pre ++ [(xs, s)]) : Int)] :: own)
          rw [hca]
          exact hS
      · clear hS
        intro D2 w hS
        simp only [List.cons_append, List.nil_append] at hS
        rw [cnt_spots] at hS
        have hS2 := (((hS.focus (k := 3) rfl).p1.marks2).drop 1).focus (k := 2) rfl
        simp only [List.eraseIdx_cons_succ, List.eraseIdx_cons_zero] at hS2
        clear hS; have hS := hS2; clear hS2
        repeat' (first

          | (with_reducible refine wpList_nil ?_)
          | (with_reducible refine then_normal ?_)
          | (with_reducible refine block_normal ?_)
          | ((with_reducible refine ig_region ?_); refine i_region rfl (fun _ _ h => h) ?_)
          | ((with_reducible refine g_move ?_); refine s_move hE rfl rfl ?_; clear hE a; intro a hE)
          | ((with_reducible refine g_assign ?_); refine s_assign hE rfl rfl ?_; clear hE a; intro a hE)
          | ((with_reducible refine g_bin .add ?_); refine s_add hE rfl rfl rfl (by first  | exact wrap64_in (by omega) ) ?_; clear hE a; intro a hE)
          | ((with_reducible refine g_load ?_); (first | (refine s_loadB (k := 2) hS hE rfl rfl rfl rfl ?_) ); clear hE a; intro a hE)
          | ((with_reducible refine g_lit ?_); refine s_lit hE hS rfl rfl rfl rfl rfl (by first | (simp [Value.oneCell']; done)) rfl ?_; clear hE a hS; intro g a w hE hS)
          | ((with_reducible refine g_blt .append ?_); (first | (refine s_appendAt (k := 1) hE hS rfl rfl rfl (by (first | exact hS.rd )) (by (first | rfl )) (by (first | (simp [Value.oneCell']; done))) (by omega) rfl rfl rfl rfl ?_) ); clear hE a hS; intro A c a w hE hS; simp only [List.set_cons_zero, List.set_cons_succ, Nat.add_zero] at hS)
          )
        have hS3 := ((hS.drop 0).drop 2).p1
        simp only [List.eraseIdx_cons_succ, List.eraseIdx_cons_zero] at hS3
        have e5 : ints ys ++ [Value.int .i64 (roomP p.m : Int)] = ints (((l.take (k + 1)).map Pg.m).map roomP) := by rw [hst]; unfold ints; rw [List.map_append]; rfl
        rw [e5] at hS3
        exact ⟨q - 1, by omega, k + 1, D2 :: Ds, _, _, rfl, by omega, hS3, hE.sub ⟨rfl, rfl, rfl, rfl, trivial⟩⟩
      · clear hS
        intro j D2 pre x post w hx hS
        simp only [List.cons_append, List.nil_append] at hS
        exact ((hS.focus (k := 2) rfl).pure).elim
    · obtain rfl : k = l.length := by omega
      rw [List.take_of_length_le (Nat.le_refl _)] at hS
      have e3 : l.length = ((l.map Pg.m).map roomP).length := by simp
      repeat' (first

        | (with_reducible refine wpList_nil ?_)
        | (with_reducible refine then_normal ?_)
        | (with_reducible refine then_exit ?_)
        | (with_reducible refine block_same ?_)
        | (with_reducible refine i_seq ?_)
        | (with_reducible refine i_ret ?_)
        | (with_reducible refine i_exit ?_)
        | ((with_reducible refine ig_region ?_); refine i_region rfl (fun _ _ h => h) ?_)
        | ((with_reducible refine ig_cond ?_); refine i_dec hE rfl (fun hc => ?_) (fun hc => ?_) <;> try omega)
        | ((with_reducible refine g_move ?_); refine s_move hE rfl rfl ?_; clear hE a; intro a hE)
        | ((with_reducible refine g_assign ?_); refine s_assign hE rfl rfl ?_; clear hE a; intro a hE)
        | ((with_reducible refine g_bin .lss ?_); refine s_lss hE rfl rfl rfl ?_; clear hE a; intro a hE)
        )
      rw [e3] at hS
      exact im_retG (vs := [_, _]) hE Ds hS rfl fun w' hS' => ⟨⟨rfl, rfl, trivial⟩, A1, c1, by rw [← e3]; rfl, hS'⟩
  · have hro : roomM (l.map Pg.m) = [] := if_neg hw0
    rw [hro]
    generalize wrongM (l.map Pg.m) = e at hE hw0
    repeat' (first

      | (with_reducible refine wpList_nil ?_)
      | (with_reducible refine then_normal ?_)
      | (with_reducible refine then_ret ?_)
      | (with_reducible refine i_seq ?_)
      | (with_reducible refine i_ret ?_)
      | ((with_reducible refine ig_region ?_); refine i_region rfl (fun _ _ h => h) ?_)
      | ((with_reducible refine ig_cond ?_); refine i_dec hE rfl (fun hc => ?_) (fun hc => ?_) <;> try omega)
      | ((with_reducible refine g_move ?_); refine s_move hE rfl rfl ?_; clear hE a; intro a hE)
      | ((with_reducible refine g_assign ?_); refine s_assign hE rfl rfl ?_; clear hE a; intro a hE)
      | ((with_reducible refine g_bin .neq ?_); refine s_neq hE rfl rfl rfl ?_; clear hE a; intro a hE)
      )
    exact im_retG (vs := [_, _]) hE [] hS.marks0 rfl fun w' hS' => ⟨⟨rfl, rfl, trivial⟩, none, 0, rfl, St.rowNil hS' _ _⟩
end
end Go.Proofs.Ytaiahigeejodaaa
