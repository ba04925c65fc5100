/-
  Heaps (no program in sight); contract: are pages a heap's?
-/
import Derived.Test.YtaiahigeejodaaaHF
import Derived.Test.YtaiahigeejodaaaK2
namespace Go.Proofs.Ytaiahigeejodaaa
open Go.RowKit
set_option linter.unusedVariables false
set_option linter.unusedSimpArgs false
attribute [local irreducible] Rd hRow hBlk hRd hRdr rowsP Fn hMarks

theorem im_retG {P : Program} {fn : Func} {R : Value → World → Prop} {n : Nat} {L : List (Nat × Value)} {a : Act} {w w0 : World} {H : List HP} (hE : Env n L a) {rs : List ResultVar} {vs : List Value} (Ds : List Nat) (hS : St w0 w (hMarks Ds :: H)) (hr : fn.results = rs.toArray)
    (hv : ∀ w', St w0 w' H → Res P L w' rs vs ∧ R (mkRes vs) w') : PostI P fn R (Ds.map mark) .ret a w := by
  show LeavesInM (FW none) 0 P fn a.tmps _ (a.defers ++ Ds.map mark) .returning w
  rw [hE.defers]
  refine leave_marks (v := mkRes vs) Ds w hS fun w' hS' => ⟨?_, (hv w' hS').2⟩
  have h := Res.run hE (hv w' hS').1
  rw [results_eq, hr]
  simp only [Array.mapM_eq_mapM_toList, Sem.run_bind, Sem.run_map, h, Result.andThen_ok, Sem.run_pure]
  congr 1
  match vs with
  | [] => rfl
  | [v] => rfl
  | v :: u :: vs => simp [mkRes]

abbrev SpM := (Int × Nat) × List Nat
def spM1 (p : PM) : List SpM := p.s.zipIdx.map fun x => ((p.n, x.2), x.1)
def spM (l : List PM) : List SpM := l.flatMap spM1
abbrev SpT.m (x : SpT) : SpM := (x.1, x.2.b)
theorem spotsP_m (p : Pg) : (spotsP p).map SpT.m = spM1 p.m := by
  unfold spotsP spM1 Pg.m
  rw [List.map_map]
  dsimp only
  rw [List.zipIdx_map, List.map_map]
  rfl
theorem spots_m : ∀ l : List Pg, (spotsM l).map SpT.m = spM (l.map Pg.m)
  | [] => rfl
  | p :: l => by
    show (spotsP p ++ spotsM l).map SpT.m = spM1 p.m ++ spM (l.map Pg.m)
    rw [List.map_append, spotsP_m, spots_m l]
theorem spots_mem {l : List Pg} {x : SpT} (h : x ∈ spotsM l) : ∃ p ∈ l, x.2 ∈ p.s := by
  obtain ⟨p, hp, hx⟩ := List.mem_flatMap.1 h
  obtain ⟨y, hy, rfl⟩ := List.mem_map.1 hx
  exact ⟨p, hp, (List.mem_zipIdx' hy).2 ▸ List.getElem_mem _⟩
def okAt (l : List PM) (i : Nat) : Bool := (l.getD i PM.zero).right && (decide (i = 0) || decide ((l.getD (i - 1) PM.zero).n < (l.getD i PM.zero).n))
def okL (l : List PM) : Bool := (List.range l.length).all (okAt l)
def badS (x : SpM) : Bool := decide (0 < x.2.length) && (decT x.2).isNone
def wrongM (l : List PM) : Int := if 32 < l.length then 160 else if okL l = true then (if (spM l).any badS = true then 200 else 0) else 160
theorem getD_m {l : List Pg} {k : Nat} (hk : k < l.length) : (l.map Pg.m).getD k PM.zero = (l[k]'hk).m := by
  rw [List.getD_eq_getElem?_getD, List.getElem?_map, List.getElem?_eq_getElem hk]
  rfl
theorem flat_at {l : List Pg} (hl : ∀ r ∈ l, (Pg.cells r).length = 6) {k : Nat} (hk : k < l.length) : (l.flatMap Pg.cells)[k * 6 + 0]? = some (.int .i64 (l[k]'hk).n) := by
  have h := flat_seg (c := Pg.cells) (size := 6) (l := l) hl hk
  have h2 := congrArg (fun x => x[0]?) h
  simp only [List.getElem?_take, List.getElem?_drop] at h2
  exact h2
section
variable {H : List HP} {w0 w : World}
set_option maxHeartbeats 8000000
theorem checked (l : List Pg) (A : Option Addr) (c n : Nat) (hn : n = l.length) (w0 : World) (hl : l.length ≤ 100000) (hwf : ∀ p ∈ l, p.wf) (hr : Rd w0 A (l.flatMap Pg.cells)) (hrd : ∀ p ∈ l, p.rd w0) :
    Fn Try.prog 40 [.slice A n c] w0 fun v w' => v = .int .i64 (wrongM (l.map Pg.m)) ∧ St w0 w' [] := by
  subst hn
  have hls : ∀ r ∈ l, (Pg.cells r).length = 6 := fun r hr => by simp [(hwf r hr).s4]
  have hfl : (l.flatMap Pg.cells).length = l.length * 6 := flat_len hls
  have hml : (l.map Pg.m).length = l.length := List.length_map ..
  refine enterI 55 Try.func40 rfl rfl rfl ?_
  intro a hE
  have hS := St.start w0
  by_cases h32 : 32 < l.length
  · have e : wrongM (l.map Pg.m) = 160 := if_pos (by rw [hml]; exact h32)
    rw [e]
    repeat' (first

      | (with_reducible refine wpList_nil ?_)
      | (with_reducible refine then_normal ?_)
      | (with_reducible refine then_ret ?_)
      | (with_reducible refine i_seq ?_)
      | (with_reducible refine i_ret ?_)
      | ((with_reducible refine ig_region ?_); refine i_region rfl (fun _ _ h => h) ?_)
      | ((with_reducible refine ig_cond ?_); refine i_dec hE rfl (fun hc => ?_) (fun hc => ?_) <;> try omega)
      | ((with_reducible refine g_move ?_); refine s_move hE rfl rfl ?_; clear hE a; intro a hE)
      | ((with_reducible refine g_bin .gtr ?_); refine s_gtr hE rfl rfl rfl ?_; clear hE a; intro a hE)
      | ((with_reducible refine g_blt .len ?_); refine s_len hE rfl rfl ?_; clear hE a; intro a hE)
      | ((with_reducible refine g_store ?_); (first | (refine s_storeB (k := 0) hS hE rfl rfl rfl rfl rfl rfl ?_) ); clear hS; intro w hS; simp only [List.set_cons_zero, List.set_cons_succ, Nat.add_zero] at hS)
      | ((with_reducible refine g_alloc ?_); refine s_alloc1 hE hS rfl rfl ?_; clear hE a hS; intro g a w hE hS)
      )
    exact im_retG (vs := [_]) hE [] hS.marks0 rfl fun w' hS' => ⟨⟨⟨_, rfl, res_1 (k := 0) hS' rfl⟩, trivial⟩, rfl, hS'.nil⟩
  · repeat' (first

      | (with_reducible refine wpList_nil ?_)
      | (with_reducible refine then_normal ?_)
      | (with_reducible refine i_seq ?_)
      | (with_reducible refine i_skip ?_)
      | (with_reducible refine i_block ?_)
      | ((with_reducible refine ig_region ?_); refine i_region rfl (fun _ _ h => h) ?_)
      | ((with_reducible refine ig_cond ?_); refine i_dec hE rfl (fun hc => ?_) (fun hc => ?_) <;> try omega)
      | ((with_reducible refine g_move ?_); refine s_move hE rfl rfl ?_; clear hE a; intro a hE)
      | ((with_reducible refine g_bin .gtr ?_); refine s_gtr hE rfl rfl rfl ?_; clear hE a; intro a hE)
      | ((with_reducible refine g_blt .len ?_); refine s_len hE rfl rfl ?_; clear hE a; intro a hE)
      | ((with_reducible refine g_alloc ?_); refine s_alloc1 hE hS rfl rfl ?_; clear hE a hS; intro g a w hE hS)
      )
    obtain ⟨g2, rfl⟩ : ∃ x, x = g := ⟨g, rfl⟩
    refine i_loop (fun q ds a w => ds = [] ∧ ∃ (k : Nat), k + q = l.length ∧ (∀ i < k, okAt (l.map Pg.m) i = true) ∧ St w0 w [hBlk g2 32 [.int .i64 0]] ∧ Env 55 [(12, .slice A l.length c), (13, .int .i64 (l.length : Int)), (14, .int .i64 (k : Int)), (0, .slice A l.length c), (2, .pointer (some ⟨g2, 0, none⟩))] a) l.length ⟨rfl, 0, by omega, fun i hi => absurd hi (by omega), hS, hE.sub ⟨rfl, rfl, rfl, rfl, rfl, trivial⟩⟩ ?_
    clear hE a hS
    rintro q ds a w ⟨rfl, k, hk, hok, hS, hE⟩
    by_cases hk1 : k < l.length
    · have hseg := flat_seg (c := Pg.cells) (size := 6) (l := l) hls hk1
      have hpw := hwf _ (List.getElem_mem hk1)
      have hpl := hls _ (List.getElem_mem hk1)
      have hgd := getD_m hk1
      generalize (l[k]'hk1) = p at hseg hpw hpl hgd
      have hpo := Pg.cells_one p
      have hstep : okAt (l.map Pg.m) k = true → ∀ i < k + 1, okAt (l.map Pg.m) i = true := fun h i hi => by
        rcases (by omega : i < k ∨ i = k) with h1 | rfl
        · exact hok i h1
        · exact h
      have hfail : okAt (l.map Pg.m) k = false → wrongM (l.map Pg.m) = 160 := fun h => by
        have hF : ¬ okL (l.map Pg.m) = true := fun h2 => by
          have := List.all_eq_true.1 h2 k (by rw [List.mem_range, hml]; exact hk1)
          rw [h] at this
          cases this
        unfold wrongM
        rw [if_neg (by rw [hml]; exact h32), if_neg hF]
      repeat' (first

        | (with_reducible refine wpList_nil ?_)
        | (with_reducible refine then_normal ?_)
        | (with_reducible refine i_seq ?_)
        | (with_reducible refine i_skip ?_)
        | (with_reducible refine i_block ?_)
        | ((with_reducible refine ig_region ?_); refine i_region rfl (fun _ _ h => h) ?_)
        | ((with_reducible refine ig_cond ?_); refine i_dec hE rfl (fun hc => ?_) (fun hc => ?_) <;> try omega)
        | ((with_reducible refine g_move ?_); refine s_move hE rfl rfl ?_; clear hE a; intro a hE)
        | ((with_reducible refine g_assign ?_); refine s_assign hE rfl rfl ?_; clear hE a; intro a hE)
        | ((with_reducible refine g_bin .lss ?_); refine s_lss hE rfl rfl rfl ?_; clear hE a; intro a hE)
        | ((with_reducible refine g_ia ?_); refine s_idxR hE rfl rfl (by omega) (by omega) (by (first | exact Rd.st (by assumption) hS )) (by first | omega ) rfl ?_; clear hE a; intro a hE)
        | ((with_reducible refine g_alloc ?_); refine s_allocS hE hS rfl rfl ?_; clear hE a hS; intro g a w hE hS)
        | ((with_reducible refine g_store ?_); (first | (refine s_storeW (k := 0) hS hE rfl rfl rfl (by assumption) (by first | rfl ) (by first | assumption) ?_) ); clear hS; intro w hS; simp only [List.set_cons_zero, List.set_cons_succ, Nat.add_zero] at hS)
        | ((with_reducible refine g_load ?_); refine s_elemR hE rfl (by (first | exact Rd.st (by assumption) hS )) (by first | exact hseg ) (by first | assumption) (by rfl) rfl ?_; clear hE a; intro a hE))
      refine i_ordS hS 18 ((.rd 0 (.ef 1 (.rd 2 (.rd 3 (.rd 4 (.rd 5 (.rd 6 (.rd 7 (.rd 8 (.rd 9 (.rd 10 (.rd 11 (.rd 12 (.rd 13 (.rd 14 (.rd 15 (.rd 16 (.rd 17 .done))))))))))))))))))) mixed (by decide +kernel) (by decide +kernel) ?_
      clear hS; intro w hS
      repeat' (first
        | (with_reducible refine o_rd rfl ?_)
        | ((with_reducible refine o_ef rfl ?_))
        | ((with_reducible refine q_load ?_); (first | (refine d_val hE hS rfl (fun w hS => r_loadW (k := 0) hS hE rfl rfl (by assumption)) ?_) ); clear hE a; intro a hE)
        )
      refine s_call hE rfl rfl rfl (check p hpw w) ?_
      rintro _ w ⟨rfl, hS1⟩; clear hE a; intro a hE; replace hS := hS.frame hS1; clear hS1; try simp only [List.cons_append, List.nil_append] at hS
      refine wpList_nil ?_
      refine o_back _ (fun _ h => h) hS ?_
      by_cases hri : p.m.right = true
      · rw [if_pos hri] at hE
        by_cases hk0 : k = 0
        · subst hk0
          repeat' (first
            | (with_reducible refine o_rd rfl ?_)
            | (with_reducible refine o_done ?_)
            | ((with_reducible refine q_move ?_); refine d_val hE hS rfl (fun w hS => r_move hE rfl) ?_; clear hE a; intro a hE)
            | ((with_reducible refine q_bin .gtr ?_); refine d_val hE hS rfl (fun w hS => r_gtr hE rfl rfl) ?_; clear hE a; intro a hE)
            | ((with_reducible refine q_bin .neq ?_); refine d_val hE hS rfl (fun w hS => r_neq hE rfl rfl) ?_; clear hE a; intro a hE)
            | ((with_reducible refine q_guard ?_); refine d_yes hE rfl rfl rfl ?_)
            | ((with_reducible refine q_guard ?_); refine d_no hE hS rfl rfl rfl rfl ?_; clear hE a; intro a hE)
            | ((with_reducible refine q_pick ?_); refine d_val hE hS rfl (fun w hS => r_pickF hE rfl rfl) ?_; clear hE a; intro a hE)
            )
          repeat' (first

            | (with_reducible refine wpList_nil ?_)
            | (with_reducible refine then_normal ?_)
            | (with_reducible refine block_normal ?_)
            | (with_reducible refine i_skip ?_)
            | ((with_reducible refine ig_region ?_); refine i_region rfl (fun _ _ h => h) ?_)
            | ((with_reducible refine ig_cond ?_); refine i_false hE rfl ?_)
            | ((with_reducible refine g_move ?_); refine s_move hE rfl rfl ?_; clear hE a; intro a hE)
            | ((with_reducible refine g_bin .add ?_); refine s_add hE rfl rfl rfl (by first  | exact wrap64_in (by omega) ) ?_; clear hE a; intro a hE)
            )
          exact ⟨q - 1, by omega, rfl, 0 + 1, by omega, hstep (by unfold okAt; rw [hgd, hri]; rfl), hS.tail, hE.sub ⟨rfl, rfl, rfl, rfl, rfl, trivial⟩⟩
        · have hkm : k - 1 < l.length := by omega
          have hg0 := flat_at hls hkm
          have hgd0 := getD_m hkm
          rw [show (k - 1) * 6 + 0 = ((k : Int) - 1).toNat * 6 + 0 by omega] at hg0
          repeat' (first
            | (with_reducible refine o_rd rfl ?_)
            | (with_reducible refine o_done ?_)
            | ((with_reducible refine q_move ?_); refine d_val hE hS rfl (fun w hS => r_move hE rfl) ?_; clear hE a; intro a hE)
            | ((with_reducible refine q_bin .gtr ?_); refine d_val hE hS rfl (fun w hS => r_gtr hE rfl rfl) ?_; clear hE a; intro a hE)
            | ((with_reducible refine q_bin .geq ?_); refine d_val hE hS rfl (fun w hS => r_geq hE rfl rfl) ?_; clear hE a; intro a hE)
            | ((with_reducible refine q_bin .neq ?_); refine d_val hE hS rfl (fun w hS => r_neq hE rfl rfl) ?_; clear hE a; intro a hE)
            | ((with_reducible refine q_bin .sub ?_); refine d_val hE hS rfl (fun w hS => r_sub hE rfl rfl (by first | exact wrap64_in (by omega) )) ?_; clear hE a; intro a hE)
            | ((with_reducible refine q_fa ?_); refine d_val hE hS rfl (fun w hS => r_fieldL hE rfl rfl) ?_; clear hE a; intro a hE)
            | ((with_reducible refine q_fa ?_); refine d_val hE hS rfl (fun w hS => r_fieldR hE rfl rfl) ?_; clear hE a; intro a hE)
            | ((with_reducible refine q_guard ?_); refine d_yes hE rfl rfl rfl ?_)
            | ((with_reducible refine q_guard ?_); refine d_dec hE rfl rfl (fun hc hE2 => ?_) (fun hc hE2 => ?_) <;> (try omega) <;> (replace hE := hE2; clear hE2))
            | ((with_reducible refine q_pick ?_); refine d_val hE hS rfl (fun w hS => r_pickT hE rfl rfl) ?_; clear hE a; intro a hE)
            | ((with_reducible refine q_pick ?_); refine d_val hE hS rfl (fun w hS => r_pickF hE rfl rfl) ?_; clear hE a; intro a hE)
            | ((with_reducible refine q_ia ?_); refine d_val hE hS rfl (fun w hS => r_idxR hE rfl rfl (by omega) (by omega) (by (first | exact Rd.st (by assumption) hS )) (by first | omega )) ?_; clear hE a; intro a hE)
            | ((with_reducible refine q_load ?_); refine d_val hE hS rfl (fun w hS => r_loadR hE rfl (by (first | exact Rd.st (by assumption) hS )) (by first | exact hg0)) ?_; clear hE a; intro a hE)
            | ((with_reducible refine q_load ?_); (first | (refine d_val hE hS rfl (fun w hS => r_loadB (k := 0) hS hE rfl rfl rfl) ?_) ); clear hE a; intro a hE)
            )
          generalize (l[k - 1]'hkm) = p' at hgd0 hE
          by_cases hle : p.n ≤ p'.n
          · have hw := hfail (by unfold okAt; rw [hgd, hgd0, hri, decide_eq_false hk0, show p'.m.n = p'.n from rfl, show p.m.n = p.n from rfl, decide_eq_false (by omega)]; rfl)
            repeat' (first

              | (with_reducible refine wpList_nil ?_)
              | (with_reducible refine then_normal ?_)
              | (with_reducible refine then_ret ?_)
              | (with_reducible refine block_ret ?_)
              | (with_reducible refine i_seq ?_)
              | (with_reducible refine i_ret ?_)
              | ((with_reducible refine ig_region ?_); refine i_region rfl (fun _ _ h => h) ?_)
              | ((with_reducible refine ig_cond ?_); refine i_dec hE rfl (fun hc => ?_) (fun hc => ?_) <;> try omega)
              | ((with_reducible refine g_store ?_); (first | (refine s_storeB (k := 1) hS hE rfl rfl rfl rfl rfl rfl ?_) ); clear hS; intro w hS; simp only [List.set_cons_zero, List.set_cons_succ, Nat.add_zero] at hS)
              )
            exact im_retG (vs := [_]) hE [] hS.marks0 rfl fun w' hS' => ⟨⟨⟨_, rfl, res_1 (k := 1) hS' rfl⟩, trivial⟩, by rw [hw]; rfl, hS'.nil⟩
          · repeat' (first

              | (with_reducible refine wpList_nil ?_)
              | (with_reducible refine then_normal ?_)
              | (with_reducible refine block_normal ?_)
              | (with_reducible refine i_skip ?_)
              | ((with_reducible refine ig_region ?_); refine i_region rfl (fun _ _ h => h) ?_)
              | ((with_reducible refine ig_cond ?_); refine i_dec hE rfl (fun hc => ?_) (fun hc => ?_) <;> try omega)
              | ((with_reducible refine g_move ?_); refine s_move hE rfl rfl ?_; clear hE a; intro a hE)
              | ((with_reducible refine g_bin .add ?_); refine s_add hE rfl rfl rfl (by first  | exact wrap64_in (by omega) ) ?_; clear hE a; intro a hE)
              )
            exact ⟨q - 1, by omega, rfl, k + 1, by omega, hstep (by unfold okAt; rw [hgd, hgd0, hri, show p'.m.n = p'.n from rfl, show p.m.n = p.n from rfl, decide_eq_true (show p'.n < p.n by omega), Bool.or_true]; rfl), hS.tail, hE.sub ⟨rfl, rfl, rfl, rfl, rfl, trivial⟩⟩
      · rw [if_neg hri] at hE
        have hw := hfail (by unfold okAt; rw [hgd, show p.m.right = false from by simpa using hri]; rfl)
        repeat' (first
          | (with_reducible refine o_rd rfl ?_)
          | (with_reducible refine o_done ?_)
          | ((with_reducible refine q_move ?_); refine d_val hE hS rfl (fun w hS => r_move hE rfl) ?_; clear hE a; intro a hE)
          | ((with_reducible refine q_bin .neq ?_); refine d_val hE hS rfl (fun w hS => r_neq hE rfl rfl) ?_; clear hE a; intro a hE)
          | ((with_reducible refine q_guard ?_); refine d_no hE hS rfl rfl rfl rfl ?_; clear hE a; intro a hE)
          | ((with_reducible refine q_guard ?_); refine d_un hE hS rfl rfl rfl ?_; clear hE a; intro a hE)
          | ((with_reducible refine q_pick ?_); refine d_val hE hS rfl (fun w hS => r_pickT hE rfl rfl) ?_; clear hE a; intro a hE)
          )
        repeat' (first

          | (with_reducible refine wpList_nil ?_)
          | (with_reducible refine then_normal ?_)
          | (with_reducible refine then_ret ?_)
          | (with_reducible refine block_ret ?_)
          | (with_reducible refine i_seq ?_)
          | (with_reducible refine i_ret ?_)
          | ((with_reducible refine ig_region ?_); refine i_region rfl (fun _ _ h => h) ?_)
          | ((with_reducible refine ig_cond ?_); refine i_true hE rfl ?_)
          | ((with_reducible refine g_store ?_); (first | (refine s_storeB (k := 1) hS hE rfl rfl rfl rfl rfl rfl ?_) ); clear hS; intro w hS; simp only [List.set_cons_zero, List.set_cons_succ, Nat.add_zero] at hS)
          )
        exact im_retG (vs := [_]) hE [] hS.marks0 rfl fun w' hS' => ⟨⟨⟨_, rfl, res_1 (k := 1) hS' rfl⟩, trivial⟩, by rw [hw]; rfl, hS'.nil⟩
    · obtain rfl : k = l.length := by omega
      have hokL : okL (l.map Pg.m) = true := List.all_eq_true.2 fun i hi => hok i (by rw [List.mem_range, hml] at hi; exact hi)
      have hwr : wrongM (l.map Pg.m) = if (spM (l.map Pg.m)).any badS = true then 200 else 0 := by
        unfold wrongM
        rw [if_neg (by rw [hml]; exact h32), if_pos hokL]
      rw [hwr, ← spots_m]
      repeat' (first

        | (with_reducible refine wpList_nil ?_)
        | (with_reducible refine then_normal ?_)
        | (with_reducible refine then_exit ?_)
        | (with_reducible refine block_same ?_)
        | (with_reducible refine i_seq ?_)
        | (with_reducible refine i_exit ?_)
        | ((with_reducible refine ig_region ?_); refine i_region rfl (fun _ _ h => h) ?_)
        | ((with_reducible refine ig_cond ?_); refine i_dec hE rfl (fun hc => ?_) (fun hc => ?_) <;> try omega)
        | ((with_reducible refine g_move ?_); refine s_move hE rfl rfl ?_; clear hE a; intro a hE)
        | ((with_reducible refine g_bin .lss ?_); refine s_lss hE rfl rfl rfl ?_; clear hE a; intro a hE)
        )
      refine s_call hE rfl rfl rfl (spots A c l.length w) ?_
      rintro _ w ⟨b, rfl, hS1⟩; clear hE a; intro a hE; replace hS := hS.frame hS1; clear hS1; try simp only [List.cons_append, List.nil_append] at hS
      repeat' (first

        | (with_reducible refine wpList_nil ?_)
        | (with_reducible refine then_normal ?_)
        | (with_reducible refine i_block ?_)
        )
      refine i_range (ps := [40, 41]) hE rfl (spots_iter l A c b w0 hl hwf hr) (fun pre => [hPure (∀ x ∈ pre, badS (SpT.m x) = false), hBlk g2 32 [.int .i64 0]])
        (fun j xs => [hPure (j = none ∧ ∃ x ∈ spotsM l, badS (SpT.m x) = true), hBlk g2 32 [.int .i64 200]]) (own := []) ?_ (fun _ => rfl) (by decide)
        (Y := Unit) (fun pre x y => [(6, x.2.v), (2, .pointer (some ⟨g2, 0, none⟩))])
        (fun pre x y => [hPure (∀ x ∈ pre, badS (SpT.m x) = false), hBlk g2 32 [.int .i64 0]]) ?_ ?_ ?_ ?_
      · exact (hS.pureI (p := ∀ x ∈ ([] : List SpT), badS (SpT.m x) = false) (fun x hx => by cases hx)).p1
      · clear hS hE a
        intro own pre x w lp a hx hS hE
        simp only [List.cons_append, List.nil_append] at hS
        repeat' (first

          | (with_reducible refine wpList_nil ?_)
          | ((with_reducible refine ig_region ?_); refine i_region rfl (fun _ _ h => absurd h.1 (by simp)) ?_)
          | ((with_reducible refine g_assign ?_); refine s_assign hE rfl rfl ?_; clear hE a; intro a hE)
          )
        exact ⟨rfl, rfl, (), hE.sub ⟨rfl, rfl, trivial⟩, hS⟩
      · clear hS hE a
        intro own pre x y w lp a hx hS hE
        obtain ⟨post, hx⟩ := hx
        have hxm : x ∈ spotsM l := by rw [← hx]; simp
        obtain ⟨p, hp, hxp⟩ := spots_mem hxm
        have hxr := hrd p hp _ hxp
        obtain ⟨hs1, hs2, hs3⟩ := (hwf p hp).sl _ hxp
        simp only [List.cons_append, List.nil_append] at hS
        have hpre := (hS.focus (k := 1) rfl).pure
        obtain ⟨xs, s⟩ := x
        dsimp only at hxr hs1 hs2 hs3 hE
        have hone := TM.cells_one (decR s.b)
        have hcl : (decR s.b).cells.length = 8 := rfl
        repeat' (first

          | (with_reducible refine i_seq ?_)
          | (with_reducible refine i_block ?_)
          | ((with_reducible refine ig_region ?_); refine i_region rfl (fun _ _ h => h) ?_)
          | ((with_reducible refine g_move ?_); refine s_move hE rfl rfl ?_; clear hE a; intro a hE)
          )
        refine s_call hE rfl rfl rfl (hdecode s.A s.c s.b s.b.length rfl (hxr.st hS) hs3 hs2) ?_
        rintro _ w ⟨rfl, hS1⟩; clear hE a; intro a hE; replace hS := hS.frame hS1; clear hS1; try simp only [List.cons_append, List.nil_append] at hS
        generalize decR s.b = t at hE hone hcl
        have hbad : badS (SpT.m (xs, s)) = (decide (0 < s.b.length) && (decT s.b).isNone) := rfl
        cases hd : decT s.b with
        | some t2 =>
          rw [hd] at hE hbad
          have hbad2 : badS (SpT.m (xs, s)) = false := by rw [hbad]; exact Bool.and_false _
          repeat' (first

            | (with_reducible refine wpList_nil ?_)
            | (with_reducible refine then_normal ?_)
            | (with_reducible refine block_normal ?_)
            | (with_reducible refine i_seq ?_)
            | (with_reducible refine i_skip ?_)
            | ((with_reducible refine ig_region ?_); refine i_region rfl (fun _ _ h => h) ?_)
            | ((with_reducible refine ig_cond ?_); refine i_false hE rfl ?_)
            | ((with_reducible refine g_move ?_); refine s_move hE rfl rfl ?_; clear hE a; intro a hE)
            | ((with_reducible refine g_assign ?_); refine s_assign hE rfl rfl ?_; clear hE a; intro a hE)
            | ((with_reducible refine g_bin .neq ?_); refine s_neq hE rfl rfl rfl ?_; clear hE a; intro a hE)
            | ((with_reducible refine g_extract ?_); refine s_extract hE rfl rfl rfl ?_; clear hE a; intro a hE)
            | ((with_reducible refine g_guard ?_); refine gd_no hE rfl rfl rfl rfl ?_; clear hE a; intro a hE)
            | ((with_reducible refine g_pick ?_); refine s_pickF hE rfl rfl rfl ?_; clear hE a; intro a hE)
            | ((with_reducible refine g_alloc ?_); refine s_allocS hE hS rfl rfl ?_; clear hE a hS; intro g a w hE hS)
            | ((with_reducible refine g_store ?_); (first | (refine s_storeW (k := 0) hS hE rfl rfl rfl rfl rfl (by first | assumption ) ?_) ); clear hS; intro w hS; simp only [List.set_cons_zero, List.set_cons_succ, Nat.add_zero] at hS)
            )
          exact hS.tail.convAt (k := 1) (h' := hPure (∀ x ∈ pre ++ [(xs, s)], badS (SpT.m x) = false)) rfl fun _ _ x hx => by
            rcases List.mem_append.1 hx with h | h
            · exact hpre x h
            · rw [List.mem_singleton] at h; subst h; exact hbad2
        | none =>
          rw [hd] at hE hbad
          by_cases h0 : 0 < s.b.length
          · have hbad2 : badS (SpT.m (xs, s)) = true := by rw [hbad, decide_eq_true h0]; rfl
            repeat' (first

              | (with_reducible refine wpList_nil ?_)
              | (with_reducible refine then_normal ?_)
              | (with_reducible refine block_ret ?_)
              | (with_reducible refine i_seq ?_)
              | (with_reducible refine i_ret ?_)
              | ((with_reducible refine ig_region ?_); refine i_region rfl (fun _ _ h => h) ?_)
              | ((with_reducible refine ig_cond ?_); refine i_dec hE rfl (fun hc => ?_) (fun hc => ?_) <;> try omega)
              | ((with_reducible refine g_move ?_); refine s_move hE rfl rfl ?_; clear hE a; intro a hE)
              | ((with_reducible refine g_assign ?_); refine s_assign hE rfl rfl ?_; clear hE a; intro a hE)
              | ((with_reducible refine g_bin .gtr ?_); refine s_gtr hE rfl rfl rfl ?_; clear hE a; intro a hE)
              | ((with_reducible refine g_bin .neq ?_); refine s_neq hE rfl rfl rfl ?_; clear hE a; intro a hE)
              | ((with_reducible refine g_blt .len ?_); refine s_len hE rfl rfl ?_; clear hE a; intro a hE)
              | ((with_reducible refine g_extract ?_); refine s_extract hE rfl rfl rfl ?_; clear hE a; intro a hE)
              | ((with_reducible refine g_guard ?_); refine gd_yes hE rfl rfl rfl ?_)
              | ((with_reducible refine g_pick ?_); refine s_pickT hE rfl rfl rfl ?_; clear hE a; intro a hE)
              | ((with_reducible refine g_store ?_); (first | (refine s_storeB (k := 3) hS hE rfl rfl rfl rfl rfl rfl ?_) ); clear hS; intro w hS; simp only [List.set_cons_zero, List.set_cons_succ, Nat.add_zero] at hS)
              | ((with_reducible refine g_alloc ?_); refine s_allocS hE hS rfl rfl ?_; clear hE a hS; intro g a w hE hS)
              | ((with_reducible refine g_store ?_); (first | (refine s_storeW (k := 0) hS hE rfl rfl rfl rfl rfl (by first | assumption ) ?_) ); clear hS; intro w hS; simp only [List.set_cons_zero, List.set_cons_succ, Nat.add_zero] at hS)
              )
            exact hS.tail.convAt (k := 1) (h' := hPure (none = none ∧ ∃ x ∈ spotsM l, badS (SpT.m x) = true)) rfl fun _ _ => ⟨rfl, (xs, s), hxm, hbad2⟩
          · have hbad2 : badS (SpT.m (xs, s)) = false := by rw [hbad, decide_eq_false h0]; rfl
            repeat' (first

              | (with_reducible refine wpList_nil ?_)
              | (with_reducible refine then_normal ?_)
              | (with_reducible refine block_normal ?_)
              | (with_reducible refine i_seq ?_)
              | (with_reducible refine i_skip ?_)
              | ((with_reducible refine ig_region ?_); refine i_region rfl (fun _ _ h => h) ?_)
              | ((with_reducible refine ig_cond ?_); refine i_dec hE rfl (fun hc => ?_) (fun hc => ?_) <;> try omega)
              | ((with_reducible refine g_move ?_); refine s_move hE rfl rfl ?_; clear hE a; intro a hE)
              | ((with_reducible refine g_assign ?_); refine s_assign hE rfl rfl ?_; clear hE a; intro a hE)
              | ((with_reducible refine g_bin .gtr ?_); refine s_gtr hE rfl rfl rfl ?_; clear hE a; intro a hE)
              | ((with_reducible refine g_bin .neq ?_); refine s_neq hE rfl rfl rfl ?_; clear hE a; intro a hE)
              | ((with_reducible refine g_blt .len ?_); refine s_len hE rfl rfl ?_; clear hE a; intro a hE)
              | ((with_reducible refine g_extract ?_); refine s_extract hE rfl rfl rfl ?_; clear hE a; intro a hE)
              | ((with_reducible refine g_guard ?_); refine gd_yes hE rfl rfl rfl ?_)
              | ((with_reducible refine g_pick ?_); refine s_pickT hE rfl rfl rfl ?_; clear hE a; intro a hE)
              | ((with_reducible refine g_alloc ?_); refine s_allocS hE hS rfl rfl ?_; clear hE a hS; intro g a w hE hS)
              | ((with_reducible refine g_store ?_); (first | (refine s_storeW (k := 0) hS hE rfl rfl rfl rfl rfl (by first | assumption ) ?_) ); clear hS; intro w hS; simp only [List.set_cons_zero, List.set_cons_succ, Nat.add_zero] at hS)
              )
            exact hS.tail.convAt (k := 1) (h' := hPure (∀ x ∈ pre ++ [(xs, s)], badS (SpT.m x) = false)) rfl fun _ _ x hx => by
              rcases List.mem_append.1 hx with h | h
              · exact hpre x h
              · rw [List.mem_singleton] at h; subst h; exact hbad2
      · clear hS
        intro D2 w hS
        simp only [List.cons_append, List.nil_append] at hS
        have hp := (hS.focus (k := 2) rfl).pure
        have hany : ((spotsM l).map SpT.m).any badS = false := by
          rw [List.any_map]
          exact List.any_eq_false.2 fun x hx => by show ¬ badS (SpT.m x) = true; rw [hp x hx]; decide
        rw [hany]
        repeat' (first

          | (with_reducible refine wpList_nil ?_)
          | (with_reducible refine then_normal ?_)
          | (with_reducible refine block_normal ?_)
          | (with_reducible refine i_seq ?_)
          | (with_reducible refine i_ret ?_)
          | ((with_reducible refine ig_region ?_); refine i_region rfl (fun _ _ h => h) ?_)
          | ((with_reducible refine g_store ?_); (first | (refine s_storeB (k := 3) hS hE rfl rfl rfl rfl rfl rfl ?_) ); clear hS; intro w hS; simp only [List.set_cons_zero, List.set_cons_succ, Nat.add_zero] at hS)
          )
        exact im_retG (vs := [_]) hE [D2] hS rfl fun w' hS' => ⟨⟨⟨_, rfl, res_1 (k := 2) hS' rfl⟩, trivial⟩, rfl, hS'.nil⟩
      · clear hS
        intro j D2 pre x post w hx hS
        simp only [List.cons_append, List.nil_append] at hS
        obtain ⟨rfl, x0, hx0, hb0⟩ := (hS.focus (k := 2) rfl).pure
        have hany : ((spotsM l).map SpT.m).any badS = true := by
          rw [List.any_map]
          exact List.any_eq_true.2 ⟨x0, hx0, hb0⟩
        rw [hany]
        show Exit.inBlock 2 _ .ret a w
        repeat' (first

          | (with_reducible refine then_ret ?_)
          | (with_reducible refine block_ret ?_)
          )
        exact im_retG (vs := [_]) hE [D2] hS rfl fun w' hS' => ⟨⟨⟨_, rfl, res_1 (k := 2) hS' rfl⟩, trivial⟩, rfl, hS'.nil⟩
end
end Go.Proofs.Ytaiahigeejodaaa
