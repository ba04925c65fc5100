/-
  The document's heap: what is wrong with pages, all tuples, where the next one goes, how many slots are free.
-/
import Derived.Test.YtaiahigeejodaaaHP
namespace Go.Proofs.Ytaiahigeejodaaa
open Go.RowKit
set_option linter.unusedVariables false
set_option linter.unusedSimpArgs false
attribute [local irreducible] Rd hRow hBlk hRd hRdr rowsP hPs Fn hMarks

def itR (l : List PM) : List StM := (spM l).filterMap itM1
theorem itR_spots (l : List Pg) : itR (l.map Pg.m) = itsOf (spotsM l) := by
  unfold itR itsOf
  rw [← spots_m, List.filterMap_map]
  rfl
theorem its_ok {l : List PM} (h : wrongM l = 0) : itemsM l = itR l := if_pos h
def plR (l : List PM) : (Int × Nat) × Bool := match (spM l).find? freeS with | some x => (x.1, true) | none => ((0, 0), false)
section
variable {H : List HP} {w0 w : World}
set_option maxHeartbeats 8000000
theorem xwrong (l : List Pg) (A : Option Addr) (c n : Nat) (hn : n = l.length) (w0 : World) (hl : l.length ≤ 100000) (hwf : ∀ p ∈ l, p.wf) (hr : Rd w0 A (l.flatMap Pg.cells)) (hrd : ∀ p ∈ l, p.rd w0) :
    Fn Try.prog 20 [.slice A n c] w0 fun v w' => v = .int .i64 (wrongM (l.map Pg.m)) ∧ St w0 w' [] := by
  subst hn
  have hls : ∀ r ∈ l, (Pg.cells r).length = 6 := fun r hr => by simp [(hwf r hr).s4]
  have hfl : (l.flatMap Pg.cells).length = l.length * 6 := flat_len hls
  have hml : (l.map Pg.m).length = l.length := List.length_map ..
  refine enter 65 Try.func20 rfl rfl rfl ?_
  intro a hE
  have hS := St.start w0
  by_cases h32 : 32 < l.length
  · have e : wrongM (l.map Pg.m) = 160 := if_pos (by rw [hml]; exact h32)
    rw [e]
    repeat' (first

      | (with_reducible refine wp_seq ?_)
      | (with_reducible refine c_region ?_)
      | (with_reducible refine wpList_nil ?_)
      | (with_reducible refine then_normal ?_)
      | (with_reducible refine wp_ret ?_)
      | (with_reducible refine then_ret ?_)
      | ((with_reducible refine g_move ?_); refine s_move hE rfl rfl ?_; clear hE a; intro a hE)
      | ((with_reducible refine g_assign ?_); refine s_assign hE rfl rfl ?_; clear hE a; intro a hE)
      | ((with_reducible refine g_bin .gtr ?_); refine s_gtr hE rfl rfl rfl ?_; clear hE a; intro a hE)
      | ((with_reducible refine g_blt .len ?_); refine s_len hE rfl rfl ?_; clear hE a; intro a hE)
      | ((with_reducible refine g_cond ?_); refine c_dec hE rfl (fun hc => ?_) (fun hc => ?_) <;> try omega)
      )
    exact ret1 hE rfl rfl ⟨rfl, hS.nil⟩
  · repeat' (first

      | (with_reducible refine wp_seq ?_)
      | (with_reducible refine c_region ?_)
      | (with_reducible refine wpList_nil ?_)
      | (with_reducible refine then_normal ?_)
      | (with_reducible refine wp_skip ?_)
      | (with_reducible refine wp_block ?_)
      | ((with_reducible refine g_move ?_); refine s_move hE rfl rfl ?_; clear hE a; intro a hE)
      | ((with_reducible refine g_assign ?_); refine s_assign hE rfl rfl ?_; clear hE a; intro a hE)
      | ((with_reducible refine g_bin .gtr ?_); refine s_gtr hE rfl rfl rfl ?_; clear hE a; intro a hE)
      | ((with_reducible refine g_blt .len ?_); refine s_len hE rfl rfl ?_; clear hE a; intro a hE)
      | ((with_reducible refine g_cond ?_); refine c_dec hE rfl (fun hc => ?_) (fun hc => ?_) <;> try omega)
      )
    refine wp_loop_ghost (fun q a w => ∃ (k : Nat), k + q = l.length ∧ (∀ i < k, okAt (l.map Pg.m) i = true) ∧ St w0 w [] ∧ Env 65 [(14, .slice A l.length c), (15, .int .i64 (l.length : Int)), (16, .int .i64 (k : Int)), (0, .slice A l.length c)] a) l.length ⟨0, by omega, fun i hi => absurd hi (by omega), hS, hE.sub ⟨rfl, rfl, rfl, rfl, trivial⟩⟩ ?_
    clear hE a hS
    rintro q a w ⟨k, hk, hok, hS, hE⟩
    by_cases hk1 : k < l.length
    · have hseg := flat_seg (c := Pg.cells) (size := 6) (l := l) hls hk1
      have hpw := hwf _ (List.getElem_mem hk1)
      have hpl := hls _ (List.getElem_mem hk1)
      have hgd := getD_m hk1
      generalize (l[k]'hk1) = p at hseg hpw hpl hgd
      have hpo := Pg.cells_one p
      have hstep : okAt (l.map Pg.m) k = true → ∀ i < k + 1, okAt (l.map Pg.m) i = true := fun h i hi => by
        rcases (by omega : i < k ∨ i = k) with h1 | rfl
        · exact hok i h1
        · exact h
      have hfail : okAt (l.map Pg.m) k = false → wrongM (l.map Pg.m) = 160 := fun h => by
        have hF : ¬ okL (l.map Pg.m) = true := fun h2 => by
          have := List.all_eq_true.1 h2 k (by rw [List.mem_range, hml]; exact hk1)
          rw [h] at this
          cases this
        unfold wrongM
        rw [if_neg (by rw [hml]; exact h32), if_neg hF]
      repeat' (first

        | (with_reducible refine wp_seq ?_)
        | (with_reducible refine c_region ?_)
        | (with_reducible refine wpList_nil ?_)
        | (with_reducible refine then_normal ?_)
        | (with_reducible refine wp_skip ?_)
        | (with_reducible refine wp_block ?_)
        | ((with_reducible refine g_move ?_); refine s_move hE rfl rfl ?_; clear hE a; intro a hE)
        | ((with_reducible refine g_assign ?_); refine s_assign hE rfl rfl ?_; clear hE a; intro a hE)
        | ((with_reducible refine g_bin .lss ?_); refine s_lss hE rfl rfl rfl ?_; clear hE a; intro a hE)
        | ((with_reducible refine g_cond ?_); refine c_dec hE rfl (fun hc => ?_) (fun hc => ?_) <;> try omega)
        | ((with_reducible refine g_ia ?_); refine s_idxR hE rfl rfl (by omega) (by omega) (by (first | exact Rd.st (by assumption) hS )) (by first | omega ) rfl ?_; clear hE a; intro a hE)
        | ((with_reducible refine g_alloc ?_); refine s_allocS hE hS rfl rfl ?_; clear hE a hS; intro g a w hE hS)
        | ((with_reducible refine g_store ?_); (first | (refine s_storeW (k := 0) hS hE rfl rfl rfl (by assumption) (by first | rfl ) (by first | assumption) ?_) ); clear hS; intro w hS; simp only [List.set_cons_zero, List.set_cons_succ, Nat.add_zero] at hS)
        | ((with_reducible refine g_load ?_); refine s_elemR hE rfl (by (first | exact Rd.st (by assumption) hS )) (by first | exact hseg ) (by first | assumption) (by rfl) rfl ?_; clear hE a; intro a hE))
      refine c_ordS hS 18 ((.rd 0 (.ef 1 (.rd 2 (.rd 3 (.rd 4 (.rd 5 (.rd 6 (.rd 7 (.rd 8 (.rd 9 (.rd 10 (.rd 11 (.rd 12 (.rd 13 (.rd 14 (.rd 15 (.rd 16 (.rd 17 .done))))))))))))))))))) mixed (by decide +kernel) ?_
      clear hS; intro w hS
      repeat' (first
        | (with_reducible refine o_rd rfl ?_)
        | ((with_reducible refine o_ef rfl ?_))
        | ((with_reducible refine q_load ?_); (first | (refine d_val hE hS rfl (fun w hS => r_loadW (k := 0) hS hE rfl rfl (by assumption)) ?_) ); clear hE a; intro a hE)
        )
      refine s_call hE rfl rfl rfl (rright p hpw w) ?_
      rintro _ w ⟨rfl, hS1⟩; clear hE a; intro a hE; replace hS := hS.frame hS1; clear hS1; try simp only [List.cons_append, List.nil_append] at hS
      refine wpList_nil ?_
      refine o_back _ (fun _ h => h) hS ?_
      by_cases hri : p.m.right = true
      · rw [hri] at hE
        by_cases hk0 : k = 0
        · subst hk0
          repeat' (first
            | (with_reducible refine o_rd rfl ?_)
            | (with_reducible refine o_done ?_)
            | ((with_reducible refine q_move ?_); refine d_val hE hS rfl (fun w hS => r_move hE rfl) ?_; clear hE a; intro a hE)
            | ((with_reducible refine q_bin .gtr ?_); refine d_val hE hS rfl (fun w hS => r_gtr hE rfl rfl) ?_; clear hE a; intro a hE)
            | ((with_reducible refine q_un .not ?_); refine d_val hE hS rfl (fun w hS => r_notb hE rfl) ?_; clear hE a; intro a hE)
            | ((with_reducible refine q_guard ?_); refine d_yes hE rfl rfl rfl ?_)
            | ((with_reducible refine q_guard ?_); refine d_no hE hS rfl rfl rfl rfl ?_; clear hE a; intro a hE)
            | ((with_reducible refine q_pick ?_); refine d_val hE hS rfl (fun w hS => r_pickF hE rfl rfl) ?_; clear hE a; intro a hE)
            )
          repeat' (first

            | (with_reducible refine c_region ?_)
            | (with_reducible refine wpList_nil ?_)
            | (with_reducible refine then_normal ?_)
            | (with_reducible refine wp_skip ?_)
            | (with_reducible refine block_normal ?_)
            | ((with_reducible refine g_move ?_); refine s_move hE rfl rfl ?_; clear hE a; intro a hE)
            | ((with_reducible refine g_bin .add ?_); refine s_add hE rfl rfl rfl (by first  | exact wrap64_in (by omega) ) ?_; clear hE a; intro a hE)
            | ((with_reducible refine g_cond ?_); refine c_false hE rfl ?_)
            )
          exact ⟨q - 1, by omega, 0 + 1, by omega, hstep (by unfold okAt; rw [hgd, hri]; rfl), hS.tail, hE.sub ⟨rfl, rfl, rfl, rfl, trivial⟩⟩
        · have hkm : k - 1 < l.length := by omega
          have hg0 := flat_at hls hkm
          have hgd0 := getD_m hkm
          rw [show (k - 1) * 6 + 0 = ((k : Int) - 1).toNat * 6 + 0 by omega] at hg0
          repeat' (first
            | (with_reducible refine o_rd rfl ?_)
            | (with_reducible refine o_done ?_)
            | ((with_reducible refine q_move ?_); refine d_val hE hS rfl (fun w hS => r_move hE rfl) ?_; clear hE a; intro a hE)
            | ((with_reducible refine q_bin .gtr ?_); refine d_val hE hS rfl (fun w hS => r_gtr hE rfl rfl) ?_; clear hE a; intro a hE)
            | ((with_reducible refine q_bin .geq ?_); refine d_val hE hS rfl (fun w hS => r_geq hE rfl rfl) ?_; clear hE a; intro a hE)
            | ((with_reducible refine q_bin .sub ?_); refine d_val hE hS rfl (fun w hS => r_sub hE rfl rfl (by first | exact wrap64_in (by omega) )) ?_; clear hE a; intro a hE)
            | ((with_reducible refine q_un .not ?_); refine d_val hE hS rfl (fun w hS => r_notb hE rfl) ?_; clear hE a; intro a hE)
            | ((with_reducible refine q_fa ?_); refine d_val hE hS rfl (fun w hS => r_fieldL hE rfl rfl) ?_; clear hE a; intro a hE)
            | ((with_reducible refine q_fa ?_); refine d_val hE hS rfl (fun w hS => r_fieldR hE rfl rfl) ?_; clear hE a; intro a hE)
            | ((with_reducible refine q_guard ?_); refine d_yes hE rfl rfl rfl ?_)
            | ((with_reducible refine q_guard ?_); refine d_dec hE rfl rfl (fun hc hE2 => ?_) (fun hc hE2 => ?_) <;> (try omega) <;> (replace hE := hE2; clear hE2))
            | ((with_reducible refine q_pick ?_); refine d_val hE hS rfl (fun w hS => r_pickT hE rfl rfl) ?_; clear hE a; intro a hE)
            | ((with_reducible refine q_pick ?_); refine d_val hE hS rfl (fun w hS => r_pickF hE rfl rfl) ?_; clear hE a; intro a hE)
            | ((with_reducible refine q_ia ?_); refine d_val hE hS rfl (fun w hS => r_idxR hE rfl rfl (by omega) (by omega) (by (first | exact Rd.st (by assumption) hS )) (by first | omega )) ?_; clear hE a; intro a hE)
            | ((with_reducible refine q_load ?_); refine d_val hE hS rfl (fun w hS => r_loadR hE rfl (by (first | exact Rd.st (by assumption) hS )) (by first | exact hg0)) ?_; clear hE a; intro a hE)
            | ((with_reducible refine q_load ?_); (first | (refine d_val hE hS rfl (fun w hS => r_loadB (k := 0) hS hE rfl rfl rfl) ?_) ); clear hE a; intro a hE)
            )
          generalize (l[k - 1]'hkm) = p' at hgd0 hE
          by_cases hle : p.n ≤ p'.n
          · have hw := hfail (by unfold okAt; rw [hgd, hgd0, hri, decide_eq_false hk0, show p'.m.n = p'.n from rfl, show p.m.n = p.n from rfl, decide_eq_false (by omega)]; rfl)
            rw [hw]
            repeat' (first

              | (with_reducible refine wp_seq ?_)
              | (with_reducible refine c_region ?_)
              | (with_reducible refine wpList_nil ?_)
              | (with_reducible refine then_normal ?_)
              | (with_reducible refine wp_ret ?_)
              | (with_reducible refine then_ret ?_)
              | (with_reducible refine block_ret ?_)
              | ((with_reducible refine g_assign ?_); refine s_assign hE rfl rfl ?_; clear hE a; intro a hE)
              | ((with_reducible refine g_cond ?_); refine c_dec hE rfl (fun hc => ?_) (fun hc => ?_) <;> try omega)
              )
            exact ret1 hE rfl rfl ⟨rfl, hS.nil⟩
          · repeat' (first

              | (with_reducible refine c_region ?_)
              | (with_reducible refine wpList_nil ?_)
              | (with_reducible refine then_normal ?_)
              | (with_reducible refine wp_skip ?_)
              | (with_reducible refine block_normal ?_)
              | ((with_reducible refine g_move ?_); refine s_move hE rfl rfl ?_; clear hE a; intro a hE)
              | ((with_reducible refine g_bin .add ?_); refine s_add hE rfl rfl rfl (by first  | exact wrap64_in (by omega) ) ?_; clear hE a; intro a hE)
              | ((with_reducible refine g_cond ?_); refine c_dec hE rfl (fun hc => ?_) (fun hc => ?_) <;> try omega)
              )
            exact ⟨q - 1, by omega, k + 1, by omega, hstep (by unfold okAt; rw [hgd, hgd0, hri, show p'.m.n = p'.n from rfl, show p.m.n = p.n from rfl, decide_eq_true (show p'.n < p.n by omega), Bool.or_true]; rfl), hS.tail, hE.sub ⟨rfl, rfl, rfl, rfl, trivial⟩⟩
      · have hrf : p.m.right = false := by simpa using hri
        rw [hrf] at hE
        have hw := hfail (by unfold okAt; rw [hgd, hrf]; rfl)
        rw [hw]
        repeat' (first
          | (with_reducible refine o_rd rfl ?_)
          | (with_reducible refine o_done ?_)
          | ((with_reducible refine q_move ?_); refine d_val hE hS rfl (fun w hS => r_move hE rfl) ?_; clear hE a; intro a hE)
          | ((with_reducible refine q_un .not ?_); refine d_val hE hS rfl (fun w hS => r_notb hE rfl) ?_; clear hE a; intro a hE)
          | ((with_reducible refine q_guard ?_); refine d_no hE hS rfl rfl rfl rfl ?_; clear hE a; intro a hE)
          | ((with_reducible refine q_guard ?_); refine d_un hE hS rfl rfl rfl ?_; clear hE a; intro a hE)
          | ((with_reducible refine q_pick ?_); refine d_val hE hS rfl (fun w hS => r_pickT hE rfl rfl) ?_; clear hE a; intro a hE)
          )
        repeat' (first

          | (with_reducible refine wp_seq ?_)
          | (with_reducible refine c_region ?_)
          | (with_reducible refine wpList_nil ?_)
          | (with_reducible refine then_normal ?_)
          | (with_reducible refine wp_ret ?_)
          | (with_reducible refine then_ret ?_)
          | (with_reducible refine block_ret ?_)
          | ((with_reducible refine g_assign ?_); refine s_assign hE rfl rfl ?_; clear hE a; intro a hE)
          | ((with_reducible refine g_cond ?_); refine c_true hE rfl ?_)
          )
        exact ret1 hE rfl rfl ⟨rfl, hS.nil⟩
    · obtain rfl : k = l.length := by omega
      have hokL : okL (l.map Pg.m) = true := List.all_eq_true.2 fun i hi => hok i (by rw [List.mem_range, hml] at hi; exact hi)
      have hwr : wrongM (l.map Pg.m) = if (spM (l.map Pg.m)).any badS = true then 200 else 0 := by
        unfold wrongM
        rw [if_neg (by rw [hml]; exact h32), if_pos hokL]
      rw [hwr, ← spots_m]
      clear hwr hokL hok
      repeat' (first

        | (with_reducible refine wp_seq ?_)
        | (with_reducible refine c_region ?_)
        | (with_reducible refine wpList_nil ?_)
        | (with_reducible refine then_normal ?_)
        | (with_reducible refine wp_block ?_)
        | (with_reducible refine wp_exit ?_)
        | (with_reducible refine then_exit ?_)
        | (with_reducible refine block_same ?_)
        | ((with_reducible refine g_move ?_); refine s_move hE rfl rfl ?_; clear hE a; intro a hE)
        | ((with_reducible refine g_bin .lss ?_); refine s_lss hE rfl rfl rfl ?_; clear hE a; intro a hE)
        | ((with_reducible refine g_blt .len ?_); refine s_len hE rfl rfl ?_; clear hE a; intro a hE)
        | ((with_reducible refine g_cond ?_); refine c_dec hE rfl (fun hc => ?_) (fun hc => ?_) <;> try omega)
        )
      refine wp_loop_ghost (fun q a w => ∃ (k : Nat) (pre : List SpT), k + q = l.length ∧ pre ++ spotsM (l.drop k) = spotsM l ∧ (∀ x ∈ pre, badS (SpT.m x) = false) ∧ St w0 w [] ∧ Env 65 [(40, .slice A l.length c), (41, .int .i64 (l.length : Int)), (42, .int .i64 (k : Int))] a) l.length ⟨0, [], by omega, rfl, (fun x hx => by cases hx), hS, hE.sub ⟨rfl, rfl, rfl, trivial⟩⟩ ?_
      clear hE a hS
      rintro q a w ⟨k, pre, hk, hpre, hbad, hS, hE⟩
      by_cases hk1 : k < l.length
      · have hseg := flat_seg (c := Pg.cells) (size := 6) (l := l) hls hk1
        have hpw := hwf _ (List.getElem_mem hk1)
        have hpr := hrd _ (List.getElem_mem hk1)
        have hpl := hls _ (List.getElem_mem hk1)
        rw [spotsM_drop hk1] at hpre
        generalize (l[k]'hk1) = p at hseg hpw hpl hpre hpr
        have hpo := Pg.cells_one p
        have hsl := Pg.slots hpw
        repeat' (first

          | (with_reducible refine wp_seq ?_)
          | (with_reducible refine c_region ?_)
          | (with_reducible refine wpList_nil ?_)
          | (with_reducible refine then_normal ?_)
          | (with_reducible refine wp_skip ?_)
          | (with_reducible refine wp_block ?_)
          | ((with_reducible refine g_move ?_); refine s_move hE rfl rfl ?_; clear hE a; intro a hE)
          | ((with_reducible refine g_bin .lss ?_); refine s_lss hE rfl rfl rfl ?_; clear hE a; intro a hE)
          | ((with_reducible refine g_fa ?_); refine s_fieldL hE rfl rfl rfl ?_; clear hE a; intro a hE)
          | ((with_reducible refine g_cond ?_); refine c_dec hE rfl (fun hc => ?_) (fun hc => ?_) <;> try omega)
          | ((with_reducible refine g_ia ?_); refine s_idxR hE rfl rfl (by omega) (by omega) (by (first | exact Rd.st (by assumption) hS )) (by first | omega ) rfl ?_; clear hE a; intro a hE)
          | ((with_reducible refine g_alloc ?_); refine s_allocS hE hS rfl rfl ?_; clear hE a hS; intro g a w hE hS)
          | ((with_reducible refine g_load ?_); (first | (refine s_loadBs (k := 0) hS hE rfl rfl (by first | exact hseg | exact hsl ) (by omega) rfl ?_) ); clear hE a; intro a hE)
          | ((with_reducible refine g_store ?_); (first | (refine s_storeW (k := 0) hS hE rfl rfl rfl (by assumption) (by first | rfl ) (by first | assumption) ?_) ); clear hS; intro w hS; simp only [List.set_cons_zero, List.set_cons_succ, Nat.add_zero] at hS)
          | ((with_reducible refine g_load ?_); refine s_elemR hE rfl (by (first | exact Rd.st (by assumption) hS )) (by first | exact hseg ) (by first | assumption) (by rfl) rfl ?_; clear hE a; intro a hE))
        refine wp_loop_ghost (fun q2 a w => ∃ (j : Nat) (pre : List SpT), j + q2 = 4 ∧ pre ++ ((spotsP p).drop j ++ spotsM (l.drop (k + 1))) = spotsM l ∧ (∀ x ∈ pre, badS (SpT.m x) = false) ∧ St w0 w [hBlk g 74 p.cells] ∧ Env 65 [(47, .agg (p.s.map Sl.v).toArray), (48, .int .i64 (j : Int)), (40, .slice A l.length c), (41, .int .i64 (l.length : Int)), (42, .int .i64 (k : Int))] a) 4 ⟨0, pre, by omega, hpre, hbad, hS, hE.sub ⟨rfl, rfl, rfl, rfl, rfl, trivial⟩⟩ ?_
        clear hE a hS hpre hbad pre
        rintro q2 a w ⟨j, pre, hj, hpre, hbad, hS, hE⟩
        by_cases hj1 : j < 4
        · have hjs : j < p.s.length := by rw [hpw.s4]; exact hj1
          have hv := Pg.slot hjs
          have hsr := hpr _ (List.getElem_mem hjs)
          obtain ⟨hs1, hs2, hs3⟩ := hpw.sl _ (List.getElem_mem hjs)
          rw [spotsP_drop hjs] at hpre
          generalize (p.s[j]'hjs) = s at hv hpre hsr hs1 hs2 hs3
          have hone := TM.cells_one (decR s.b)
          have hcl : (decR s.b).cells.length = 8 := rfl
          repeat' (first

            | (with_reducible refine wp_seq ?_)
            | (with_reducible refine c_region ?_)
            | (with_reducible refine wpList_nil ?_)
            | (with_reducible refine then_normal ?_)
            | (with_reducible refine wp_skip ?_)
            | (with_reducible refine wp_block ?_)
            | ((with_reducible refine g_move ?_); refine s_move hE rfl rfl ?_; clear hE a; intro a hE)
            | ((with_reducible refine g_assign ?_); refine s_assign hE rfl rfl ?_; clear hE a; intro a hE)
            | ((with_reducible refine g_bin .lss ?_); refine s_lss hE rfl rfl rfl ?_; clear hE a; intro a hE)
            | ((with_reducible refine g_cond ?_); refine c_dec hE rfl (fun hc => ?_) (fun hc => ?_) <;> try omega)
            | ((with_reducible refine g_index ?_); refine s_val hE rfl rfl rfl (r_index1 hE rfl rfl (by omega) (by omega) (by assumption)) ?_; clear hE a; intro a hE)
            )
          refine s_call hE rfl rfl rfl (xdecode s.A s.c s.b s.b.length rfl w (hsr.st hS) hs3 hs1 hs2) ?_
          rintro _ w ⟨rfl, hS1⟩; clear hE a; intro a hE; replace hS := hS.frame hS1; clear hS1; try simp only [List.cons_append, List.nil_append] at hS
          generalize decR s.b = t at hE hone hcl
          have hbd : badS (SpT.m ((p.n, j), s)) = (decide (0 < s.b.length) && (decT s.b).isNone) := rfl
          have hnext : badS (SpT.m ((p.n, j), s)) = false → ∀ x ∈ pre ++ [((p.n, j), s)], badS (SpT.m x) = false := fun hb x hx => by
            rcases List.mem_append.1 hx with h | h
            · exact hbad x h
            · rw [List.mem_singleton] at h; subst h; exact hb
          cases hd : decT s.b with
          | some t2 =>
            rw [hd] at hE hbd
            have hb2 : badS (SpT.m ((p.n, j), s)) = false := by rw [hbd]; exact Bool.and_false _
            repeat' (first

              | (with_reducible refine wp_seq ?_)
              | (with_reducible refine c_region ?_)
              | (with_reducible refine wpList_nil ?_)
              | (with_reducible refine then_normal ?_)
              | (with_reducible refine wp_skip ?_)
              | (with_reducible refine block_normal ?_)
              | ((with_reducible refine g_move ?_); refine s_move hE rfl rfl ?_; clear hE a; intro a hE)
              | ((with_reducible refine g_assign ?_); refine s_assign hE rfl rfl ?_; clear hE a; intro a hE)
              | ((with_reducible refine g_bin .gtr ?_); refine s_gtr hE rfl rfl rfl ?_; clear hE a; intro a hE)
              | ((with_reducible refine g_bin .add ?_); refine s_add hE rfl rfl rfl (by first  | exact wrap64_in (by omega) ) ?_; clear hE a; intro a hE)
              | ((with_reducible refine g_un .not ?_); refine s_notb hE rfl rfl ?_; clear hE a; intro a hE)
              | ((with_reducible refine g_blt .len ?_); refine s_len hE rfl rfl ?_; clear hE a; intro a hE)
              | ((with_reducible refine g_extract ?_); refine s_extract hE rfl rfl rfl ?_; clear hE a; intro a hE)
              | ((with_reducible refine g_guard ?_); refine gd_yes hE rfl rfl rfl ?_)
              | ((with_reducible refine g_guard ?_); refine gd_no hE rfl rfl rfl rfl ?_; clear hE a; intro a hE)
              | ((with_reducible refine g_guard ?_); refine gd_dec hE rfl rfl (fun hc hE2 => ?_) (fun hc hE2 => ?_) <;> (try omega) <;> (replace hE := hE2; clear hE2))
              | ((with_reducible refine g_pick ?_); refine s_pickT hE rfl rfl rfl ?_; clear hE a; intro a hE)
              | ((with_reducible refine g_pick ?_); refine s_pickF hE rfl rfl rfl ?_; clear hE a; intro a hE)
              | ((with_reducible refine g_cond ?_); refine c_false hE rfl ?_)
              | ((with_reducible refine g_alloc ?_); refine s_allocS hE hS rfl rfl ?_; clear hE a hS; intro g a w hE hS)
              | ((with_reducible refine g_store ?_); (first | (refine s_storeW (k := 0) hS hE rfl rfl rfl rfl rfl (by first | assumption ) ?_) ); clear hS; intro w hS; simp only [List.set_cons_zero, List.set_cons_succ, Nat.add_zero] at hS)
              )
            all_goals exact ⟨q2 - 1, by omega, j + 1, pre ++ [((p.n, j), s)], by omega, by rw [List.append_assoc]; exact hpre, hnext hb2, hS.drop 0, hE.sub ⟨rfl, rfl, rfl, rfl, rfl, trivial⟩⟩
          | none =>
            rw [hd] at hE hbd
            by_cases h0 : 0 < s.b.length
            · have hb2 : badS (SpT.m ((p.n, j), s)) = true := by rw [hbd, decide_eq_true h0]; rfl
              have hany : ((spotsM l).map SpT.m).any badS = true := by
                rw [List.any_map]
                exact List.any_eq_true.2 ⟨((p.n, j), s), by rw [← hpre]; simp, hb2⟩
              rw [hany, if_pos rfl]
              repeat' (first

                | (with_reducible refine wp_seq ?_)
                | (with_reducible refine c_region ?_)
                | (with_reducible refine wpList_nil ?_)
                | (with_reducible refine then_normal ?_)
                | (with_reducible refine wp_ret ?_)
                | (with_reducible refine then_ret ?_)
                | (with_reducible refine block_ret ?_)
                | ((with_reducible refine g_move ?_); refine s_move hE rfl rfl ?_; clear hE a; intro a hE)
                | ((with_reducible refine g_assign ?_); refine s_assign hE rfl rfl ?_; clear hE a; intro a hE)
                | ((with_reducible refine g_bin .gtr ?_); refine s_gtr hE rfl rfl rfl ?_; clear hE a; intro a hE)
                | ((with_reducible refine g_un .not ?_); refine s_notb hE rfl rfl ?_; clear hE a; intro a hE)
                | ((with_reducible refine g_blt .len ?_); refine s_len hE rfl rfl ?_; clear hE a; intro a hE)
                | ((with_reducible refine g_extract ?_); refine s_extract hE rfl rfl rfl ?_; clear hE a; intro a hE)
                | ((with_reducible refine g_guard ?_); refine gd_yes hE rfl rfl rfl ?_)
                | ((with_reducible refine g_guard ?_); refine gd_dec hE rfl rfl (fun hc hE2 => ?_) (fun hc hE2 => ?_) <;> (try omega) <;> (replace hE := hE2; clear hE2))
                | ((with_reducible refine g_pick ?_); refine s_pickT hE rfl rfl rfl ?_; clear hE a; intro a hE)
                | ((with_reducible refine g_cond ?_); refine c_true hE rfl ?_)
                | ((with_reducible refine g_alloc ?_); refine s_allocS hE hS rfl rfl ?_; clear hE a hS; intro g a w hE hS)
                | ((with_reducible refine g_store ?_); (first | (refine s_storeW (k := 0) hS hE rfl rfl rfl rfl rfl (by first | assumption ) ?_) ); clear hS; intro w hS; simp only [List.set_cons_zero, List.set_cons_succ, Nat.add_zero] at hS)
                )
              exact ret1 hE rfl rfl ⟨rfl, hS.nil⟩
            · have hb2 : badS (SpT.m ((p.n, j), s)) = false := by rw [hbd, decide_eq_false h0]; rfl
              repeat' (first

                | (with_reducible refine wp_seq ?_)
                | (with_reducible refine c_region ?_)
                | (with_reducible refine wpList_nil ?_)
                | (with_reducible refine then_normal ?_)
                | (with_reducible refine wp_skip ?_)
                | (with_reducible refine block_normal ?_)
                | ((with_reducible refine g_move ?_); refine s_move hE rfl rfl ?_; clear hE a; intro a hE)
                | ((with_reducible refine g_assign ?_); refine s_assign hE rfl rfl ?_; clear hE a; intro a hE)
                | ((with_reducible refine g_bin .gtr ?_); refine s_gtr hE rfl rfl rfl ?_; clear hE a; intro a hE)
                | ((with_reducible refine g_bin .add ?_); refine s_add hE rfl rfl rfl (by first  | exact wrap64_in (by omega) ) ?_; clear hE a; intro a hE)
                | ((with_reducible refine g_blt .len ?_); refine s_len hE rfl rfl ?_; clear hE a; intro a hE)
                | ((with_reducible refine g_extract ?_); refine s_extract hE rfl rfl rfl ?_; clear hE a; intro a hE)
                | ((with_reducible refine g_guard ?_); refine gd_no hE rfl rfl rfl rfl ?_; clear hE a; intro a hE)
                | ((with_reducible refine g_guard ?_); refine gd_dec hE rfl rfl (fun hc hE2 => ?_) (fun hc hE2 => ?_) <;> (try omega) <;> (replace hE := hE2; clear hE2))
                | ((with_reducible refine g_pick ?_); refine s_pickF hE rfl rfl rfl ?_; clear hE a; intro a hE)
                | ((with_reducible refine g_cond ?_); refine c_false hE rfl ?_)
                | ((with_reducible refine g_alloc ?_); refine s_allocS hE hS rfl rfl ?_; clear hE a hS; intro g a w hE hS)
                | ((with_reducible refine g_store ?_); (first | (refine s_storeW (k := 0) hS hE rfl rfl rfl rfl rfl (by first | assumption ) ?_) ); clear hS; intro w hS; simp only [List.set_cons_zero, List.set_cons_succ, Nat.add_zero] at hS)
                )
              exact ⟨q2 - 1, by omega, j + 1, pre ++ [((p.n, j), s)], by omega, by rw [List.append_assoc]; exact hpre, hnext hb2, hS.drop 0, hE.sub ⟨rfl, rfl, rfl, rfl, rfl, trivial⟩⟩
        · obtain rfl : j = 4 := by omega
          rw [List.drop_eq_nil_of_le (by rw [spotsP_len, hpw.s4]; exact Nat.le_refl _), List.nil_append] at hpre
          repeat' (first

            | (with_reducible refine wp_seq ?_)
            | (with_reducible refine c_region ?_)
            | (with_reducible refine wpList_nil ?_)
            | (with_reducible refine then_normal ?_)
            | (with_reducible refine block_normal ?_)
            | (with_reducible refine wp_exit ?_)
            | (with_reducible refine then_exit ?_)
            | (with_reducible refine block_same ?_)
            | ((with_reducible refine g_move ?_); refine s_move hE rfl rfl ?_; clear hE a; intro a hE)
            | ((with_reducible refine g_bin .lss ?_); refine s_lss hE rfl rfl rfl ?_; clear hE a; intro a hE)
            | ((with_reducible refine g_bin .add ?_); refine s_add hE rfl rfl rfl (by first  | exact wrap64_in (by omega) ) ?_; clear hE a; intro a hE)
            | ((with_reducible refine g_cond ?_); refine c_false hE rfl ?_)
            )
          exact ⟨q - 1, by omega, k + 1, pre, by omega, hpre, hbad, hS.tail, hE.sub ⟨rfl, rfl, rfl, trivial⟩⟩
      · obtain rfl : k = l.length := by omega
        rw [List.drop_eq_nil_of_le (Nat.le_refl _), show spotsM [] = [] from rfl, List.append_nil] at hpre
        subst hpre
        have hany : ((spotsM l).map SpT.m).any badS = false := by
          rw [List.any_map]
          exact List.any_eq_false.2 fun x hx => by show ¬ badS (SpT.m x) = true; rw [hbad x hx]; decide
        rw [hany, if_neg (by decide)]
        repeat' (first

          | (with_reducible refine wp_seq ?_)
          | (with_reducible refine c_region ?_)
          | (with_reducible refine wpList_nil ?_)
          | (with_reducible refine then_normal ?_)
          | (with_reducible refine wp_ret ?_)
          | (with_reducible refine wp_exit ?_)
          | (with_reducible refine then_exit ?_)
          | (with_reducible refine block_same ?_)
          | ((with_reducible refine g_assign ?_); refine s_assign hE rfl rfl ?_; clear hE a; intro a hE)
          | ((with_reducible refine g_bin .lss ?_); refine s_lss hE rfl rfl rfl ?_; clear hE a; intro a hE)
          | ((with_reducible refine g_cond ?_); refine c_dec hE rfl (fun hc => ?_) (fun hc => ?_) <;> try omega)
          )
        exact ret1 hE rfl rfl ⟨rfl, hS.nil⟩
theorem xitems (l : List Pg) (A : Option Addr) (c n : Nat) (hn : n = l.length) (w0 : World) (hl : l.length ≤ 100000) (hwf : ∀ p ∈ l, p.wf) (hr : Rd w0 A (l.flatMap Pg.cells)) (hrd : ∀ p ∈ l, p.rd w0) :
    Fn Try.prog 24 [.slice A n c] w0 fun v w' => ∃ (A' : Option Addr) (c' : Nat), v = .slice A' (itR (l.map Pg.m)).length c' ∧ St w0 w' [hRow 56 10 A' (itR (l.map Pg.m)).length c' ((itR (l.map Pg.m)).flatMap stc)] := by
  subst hn
  rw [itR_spots]
  have hls : ∀ r ∈ l, (Pg.cells r).length = 6 := fun r hr => by simp [(hwf r hr).s4]
  have hfl : (l.flatMap Pg.cells).length = l.length * 6 := flat_len hls
  have hsl0 : (spotsM l).length ≤ 400000 := by
    have := spotsM_len hwf
    omega
  refine enter 40 Try.func24 rfl rfl rfl ?_
  intro a hE
  have hS := St.start w0
  repeat' (first

    | (with_reducible refine wp_seq ?_)
    | (with_reducible refine c_region ?_)
    | (with_reducible refine wpList_nil ?_)
    | (with_reducible refine then_normal ?_)
    | (with_reducible refine wp_block ?_)
    | ((with_reducible refine g_move ?_); refine s_move hE rfl rfl ?_; clear hE a; intro a hE)
    | ((with_reducible refine g_assign ?_); refine s_assign hE rfl rfl ?_; clear hE a; intro a hE)
    | ((with_reducible refine g_blt .len ?_); refine s_len hE rfl rfl ?_; clear hE a; intro a hE)
    )
  have hS2 : St w0 _ [hRow 56 10 none 0 0 []] := St.rowNil hS _ _
  refine wp_loop_ghost (fun q a w => ∃ (k : Nat) (pre : List SpT) (A1 : Option Addr) (c1 : Nat), k + q = l.length ∧ pre ++ spotsM (l.drop k) = spotsM l ∧ St w0 w [hRow 56 10 A1 (itsOf pre).length c1 ((itsOf pre).flatMap stc)] ∧ Env 40 [(3, .slice A1 (itsOf pre).length c1), (10, .slice A l.length c), (11, .int .i64 (l.length : Int)), (12, .int .i64 (k : Int))] a) l.length ⟨0, [], none, 0, by omega, rfl, hS2, hE.sub ⟨rfl, rfl, rfl, rfl, trivial⟩⟩ ?_
  clear hE a hS hS2
  rintro q a w ⟨k, pre, A1, c1, hk, hpre, hS, hE⟩
  by_cases hk1 : k < l.length
  · have hseg := flat_seg (c := Pg.cells) (size := 6) (l := l) hls hk1
    have hpw := hwf _ (List.getElem_mem hk1)
    have hpr := hrd _ (List.getElem_mem hk1)
    have hpl := hls _ (List.getElem_mem hk1)
    rw [spotsM_drop hk1] at hpre
    generalize (l[k]'hk1) = p at hseg hpw hpl hpre hpr
    have hpo := Pg.cells_one p
    have hsl := Pg.slots hpw
    repeat' (first

      | (with_reducible refine wp_seq ?_)
      | (with_reducible refine c_region ?_)
      | (with_reducible refine wpList_nil ?_)
      | (with_reducible refine then_normal ?_)
      | (with_reducible refine wp_skip ?_)
      | (with_reducible refine wp_block ?_)
      | ((with_reducible refine g_move ?_); refine s_move hE rfl rfl ?_; clear hE a; intro a hE)
      | ((with_reducible refine g_bin .lss ?_); refine s_lss hE rfl rfl rfl ?_; clear hE a; intro a hE)
      | ((with_reducible refine g_fa ?_); refine s_fieldL hE rfl rfl rfl ?_; clear hE a; intro a hE)
      | ((with_reducible refine g_cond ?_); refine c_dec hE rfl (fun hc => ?_) (fun hc => ?_) <;> try omega)
      | ((with_reducible refine g_ia ?_); refine s_idxR hE rfl rfl (by omega) (by omega) (by (first | exact Rd.st (by assumption) hS )) (by first | omega ) rfl ?_; clear hE a; intro a hE)
      | ((with_reducible refine g_alloc ?_); refine s_allocS hE hS rfl rfl ?_; clear hE a hS; intro g a w hE hS)
      | ((with_reducible refine g_load ?_); (first | (refine s_loadBs (k := 0) hS hE rfl rfl (by first | exact hseg | exact hsl ) (by omega) rfl ?_) ); clear hE a; intro a hE)
      | ((with_reducible refine g_store ?_); (first | (refine s_storeW (k := 0) hS hE rfl rfl rfl (by assumption) (by first | rfl ) (by first | assumption) ?_) ); clear hS; intro w hS; simp only [List.set_cons_zero, List.set_cons_succ, Nat.add_zero] at hS)
      | ((with_reducible refine g_load ?_); refine s_elemR hE rfl (by (first | exact Rd.st (by assumption) hS )) (by first | exact hseg ) (by first | assumption) (by rfl) rfl ?_; clear hE a; intro a hE))
    refine wp_loop_ghost (fun q2 a w => ∃ (j : Nat) (pre : List SpT) (A1 : Option Addr) (c1 : Nat), j + q2 = 4 ∧ pre ++ ((spotsP p).drop j ++ spotsM (l.drop (k + 1))) = spotsM l ∧ St w0 w [hBlk g 74 p.cells, hRow 56 10 A1 (itsOf pre).length c1 ((itsOf pre).flatMap stc)] ∧ Env 40 [(17, .agg (p.s.map Sl.v).toArray), (18, .int .i64 (j : Int)), (5, .pointer (some ⟨g, 0, none⟩)), (3, .slice A1 (itsOf pre).length c1), (10, .slice A l.length c), (11, .int .i64 (l.length : Int)), (12, .int .i64 (k : Int))] a) 4 ⟨0, pre, A1, c1, by omega, hpre, hS, hE.sub ⟨rfl, rfl, rfl, rfl, rfl, rfl, rfl, trivial⟩⟩ ?_
    clear hE a hS hpre pre A1 c1
    rintro q2 a w ⟨j, pre, A1, c1, hj, hpre, hS, hE⟩
    by_cases hj1 : j < 4
    · have hjs : j < p.s.length := by rw [hpw.s4]; exact hj1
      have hv := Pg.slot hjs
      have hsr := hpr _ (List.getElem_mem hjs)
      obtain ⟨hs1, hs2, hs3⟩ := hpw.sl _ (List.getElem_mem hjs)
      rw [spotsP_drop hjs] at hpre
      generalize (p.s[j]'hjs) = s at hv hpre hsr hs1 hs2 hs3
      have hst : itsOf (pre ++ [((p.n, j), s)]) = itsOf pre ++ (itM1 ((p.n, j), s.b)).toList := by
        unfold itsOf
        rw [List.filterMap_append]
        congr 1
      have hlen : pre.length ≤ 400000 := by rw [← hpre, List.length_append] at hsl0; omega
      have hil : (itsOf pre).length ≤ 400000 := Nat.le_trans (List.length_filterMap_le _ _) hlen
      have hone := TM.cells_one (decR s.b)
      have hcl : (decR s.b).cells.length = 8 := rfl
      repeat' (first

        | (with_reducible refine wp_seq ?_)
        | (with_reducible refine c_region ?_)
        | (with_reducible refine wpList_nil ?_)
        | (with_reducible refine then_normal ?_)
        | (with_reducible refine wp_skip ?_)
        | (with_reducible refine wp_block ?_)
        | ((with_reducible refine g_move ?_); refine s_move hE rfl rfl ?_; clear hE a; intro a hE)
        | ((with_reducible refine g_assign ?_); refine s_assign hE rfl rfl ?_; clear hE a; intro a hE)
        | ((with_reducible refine g_bin .lss ?_); refine s_lss hE rfl rfl rfl ?_; clear hE a; intro a hE)
        | ((with_reducible refine g_cond ?_); refine c_dec hE rfl (fun hc => ?_) (fun hc => ?_) <;> try omega)
        | ((with_reducible refine g_index ?_); refine s_val hE rfl rfl rfl (r_index1 hE rfl rfl (by omega) (by omega) (by assumption)) ?_; clear hE a; intro a hE)
        )
      refine s_call hE rfl rfl rfl (xdecode s.A s.c s.b s.b.length rfl w (hsr.st hS) hs3 hs1 hs2) ?_
      rintro _ w ⟨rfl, hS1⟩; clear hE a; intro a hE; replace hS := hS.frame hS1; clear hS1; try simp only [List.cons_append, List.nil_append] at hS
      cases hd : decT s.b with
      | some t =>
        have et : decR s.b = t := by unfold decR; rw [hd]; rfl
        have e1 : itM1 ((p.n, j), s.b) = some ((p.n, j), t) := by unfold itM1; rw [hd]; rfl
        rw [e1] at hst
        rw [hd] at hE
        rw [et] at hE hone hcl
        generalize itsOf pre = its at hS hE hil hst
        have hfl : (its.flatMap stc).length = its.length * 10 := flat_len fun x _ => stc_len x
        repeat' (first

          | (with_reducible refine wp_seq ?_)
          | (with_reducible refine c_region ?_)
          | (with_reducible refine wpList_nil ?_)
          | (with_reducible refine then_normal ?_)
          | ((with_reducible refine g_move ?_); refine s_move hE rfl rfl ?_; clear hE a; intro a hE)
          | ((with_reducible refine g_assign ?_); refine s_assign hE rfl rfl ?_; clear hE a; intro a hE)
          | ((with_reducible refine g_extract ?_); refine s_extract hE rfl rfl rfl ?_; clear hE a; intro a hE)
          | ((with_reducible refine g_fa ?_); refine s_fieldL hE rfl rfl rfl ?_; clear hE a; intro a hE)
          | ((with_reducible refine g_cond ?_); refine c_true hE rfl ?_)
          | ((with_reducible refine g_load ?_); (first | (refine s_loadB (k := 1) hS hE rfl rfl rfl rfl ?_) ); clear hE a; intro a hE)
          | ((with_reducible refine g_alloc ?_); refine s_allocS hE hS rfl rfl ?_; clear hE a hS; intro g a w hE hS)
          | ((with_reducible refine g_build ?_); refine s_build [_, _] hE rfl rfl rfl ?_; clear hE a; intro a hE)
          | ((with_reducible refine g_load ?_); (first | (refine s_loadW (k := 0) hS hE rfl rfl rfl rfl ?_) ); clear hE a; intro a hE)
          | ((with_reducible refine g_store ?_); (first | (refine s_storeW (k := 0) hS hE rfl rfl rfl rfl rfl (by first | assumption ) ?_) ); clear hS; intro w hS; simp only [List.set_cons_zero, List.set_cons_succ, Nat.add_zero] at hS)
          )
        refine s_build (stc ((p.n, j), t)) hE rfl rfl rfl ?_
        clear hE a; intro a hE
        skip
        refine s_litA (vs := stc ((p.n, j), t)) hE hS rfl rfl rfl rfl rfl ?_
        clear hE a hS; intro gl a w hE hS
        refine s_appendAt (k := 3) (size := 10) (bytes := 80) hE hS rfl rfl rfl (hS.rdAt (k := 0) rfl) rfl (stc_one _) (by omega) rfl rfl rfl rfl ?_
        clear hE a hS; intro A6 c6 a w hE hS
        simp only [List.set_cons_succ, List.set_cons_zero] at hS
        have e2 : its.flatMap stc ++ stc ((p.n, j), t) = (its ++ [((p.n, j), t)]).flatMap stc := by rw [List.flatMap_append]; simp
        have e3 : its.length + 1 = (its ++ [((p.n, j), t)]).length := by simp
        rw [e2, e3] at hS
        rw [e3] at hE
        rw [Option.toList_some] at hst
        rw [← hst] at hS hE
        repeat' (first

          | (with_reducible refine c_region ?_)
          | (with_reducible refine wpList_nil ?_)
          | (with_reducible refine then_normal ?_)
          | (with_reducible refine block_normal ?_)
          | ((with_reducible refine g_move ?_); refine s_move hE rfl rfl ?_; clear hE a; intro a hE)
          | ((with_reducible refine g_assign ?_); refine s_assign hE rfl rfl ?_; clear hE a; intro a hE)
          | ((with_reducible refine g_bin .add ?_); refine s_add hE rfl rfl rfl (by first  | exact wrap64_in (by omega) ) ?_; clear hE a; intro a hE)
          )
        exact ⟨q2 - 1, by omega, j + 1, pre ++ [((p.n, j), s)], A6, c6, by omega, by rw [List.append_assoc]; exact hpre, (hS.drop 0).drop 0, hE.sub ⟨rfl, rfl, rfl, rfl, rfl, rfl, rfl, trivial⟩⟩
      | none =>
        have e1 : itM1 ((p.n, j), s.b) = none := by unfold itM1; rw [hd]; rfl
        rw [e1, Option.toList_none, List.append_nil] at hst
        rw [hd] at hE
        generalize decR s.b = t at hE hone hcl
        rw [← hst] at hS hE
        repeat' (first

          | (with_reducible refine wp_seq ?_)
          | (with_reducible refine c_region ?_)
          | (with_reducible refine wpList_nil ?_)
          | (with_reducible refine then_normal ?_)
          | (with_reducible refine wp_skip ?_)
          | (with_reducible refine block_normal ?_)
          | ((with_reducible refine g_move ?_); refine s_move hE rfl rfl ?_; clear hE a; intro a hE)
          | ((with_reducible refine g_assign ?_); refine s_assign hE rfl rfl ?_; clear hE a; intro a hE)
          | ((with_reducible refine g_bin .add ?_); refine s_add hE rfl rfl rfl (by first  | exact wrap64_in (by omega) ) ?_; clear hE a; intro a hE)
          | ((with_reducible refine g_extract ?_); refine s_extract hE rfl rfl rfl ?_; clear hE a; intro a hE)
          | ((with_reducible refine g_cond ?_); refine c_false hE rfl ?_)
          | ((with_reducible refine g_alloc ?_); refine s_allocS hE hS rfl rfl ?_; clear hE a hS; intro g a w hE hS)
          | ((with_reducible refine g_store ?_); (first | (refine s_storeW (k := 0) hS hE rfl rfl rfl rfl rfl (by first | assumption ) ?_) ); clear hS; intro w hS; simp only [List.set_cons_zero, List.set_cons_succ, Nat.add_zero] at hS)
          )
        exact ⟨q2 - 1, by omega, j + 1, pre ++ [((p.n, j), s)], A1, c1, by omega, by rw [List.append_assoc]; exact hpre, hS.drop 0, hE.sub ⟨rfl, rfl, rfl, rfl, rfl, rfl, rfl, trivial⟩⟩
    · obtain rfl : j = 4 := by omega
      rw [List.drop_eq_nil_of_le (by rw [spotsP_len, hpw.s4]; exact Nat.le_refl _), List.nil_append] at hpre
      repeat' (first

        | (with_reducible refine wp_seq ?_)
        | (with_reducible refine c_region ?_)
        | (with_reducible refine wpList_nil ?_)
        | (with_reducible refine then_normal ?_)
        | (with_reducible refine block_normal ?_)
        | (with_reducible refine wp_exit ?_)
        | (with_reducible refine then_exit ?_)
        | (with_reducible refine block_same ?_)
        | ((with_reducible refine g_move ?_); refine s_move hE rfl rfl ?_; clear hE a; intro a hE)
        | ((with_reducible refine g_bin .lss ?_); refine s_lss hE rfl rfl rfl ?_; clear hE a; intro a hE)
        | ((with_reducible refine g_bin .add ?_); refine s_add hE rfl rfl rfl (by first  | exact wrap64_in (by omega) ) ?_; clear hE a; intro a hE)
        | ((with_reducible refine g_cond ?_); refine c_false hE rfl ?_)
        )
      exact ⟨q - 1, by omega, k + 1, pre, A1, c1, by omega, hpre, hS.tail, hE.sub ⟨rfl, rfl, rfl, rfl, trivial⟩⟩
  · obtain rfl : k = l.length := by omega
    rw [List.drop_eq_nil_of_le (Nat.le_refl _), show spotsM [] = [] from rfl, List.append_nil] at hpre
    subst hpre
    repeat' (first

      | (with_reducible refine wp_seq ?_)
      | (with_reducible refine c_region ?_)
      | (with_reducible refine wpList_nil ?_)
      | (with_reducible refine then_normal ?_)
      | (with_reducible refine wp_ret ?_)
      | (with_reducible refine wp_exit ?_)
      | (with_reducible refine then_exit ?_)
      | (with_reducible refine block_same ?_)
      | ((with_reducible refine g_move ?_); refine s_move hE rfl rfl ?_; clear hE a; intro a hE)
      | ((with_reducible refine g_assign ?_); refine s_assign hE rfl rfl ?_; clear hE a; intro a hE)
      | ((with_reducible refine g_bin .lss ?_); refine s_lss hE rfl rfl rfl ?_; clear hE a; intro a hE)
      | ((with_reducible refine g_cond ?_); refine c_dec hE rfl (fun hc => ?_) (fun hc => ?_) <;> try omega)
      )
    exact ret1 hE rfl rfl ⟨A1, c1, rfl, hS⟩
theorem xplace (l : List Pg) (A : Option Addr) (c n : Nat) (hn : n = l.length) (w0 : World) (hl : l.length ≤ 100000) (hwf : ∀ p ∈ l, p.wf) (hr : Rd w0 A (l.flatMap Pg.cells)) :
    Fn Try.prog 26 [.slice A n c] w0 fun v w' => v = .tuple #[.agg #[.int .i64 (plR (l.map Pg.m)).1.1, .int .i64 ((plR (l.map Pg.m)).1.2 : Int)], .bool (plR (l.map Pg.m)).2] ∧ St w0 w' [] := by
  subst hn
  have hls : ∀ r ∈ l, (Pg.cells r).length = 6 := fun r hr => by simp [(hwf r hr).s4]
  have hfl : (l.flatMap Pg.cells).length = l.length * 6 := flat_len hls
  have hpl : plR (l.map Pg.m) = match ((spotsM l).map SpT.m).find? freeS with | some x => (x.1, true) | none => ((0, 0), false) := by
    unfold plR
    rw [spots_m]
  rw [hpl]
  clear hpl
  refine enter 30 Try.func26 rfl rfl rfl ?_
  intro a hE
  have hS := St.start w0
  refine wp_seq ?_
  refine c_region ?_
  refine s_allocS hE hS rfl rfl ?_
  clear hE a hS; intro g2 a w hE hS
  repeat' (first

    | (with_reducible refine wp_seq ?_)
    | (with_reducible refine c_region ?_)
    | (with_reducible refine wpList_nil ?_)
    | (with_reducible refine then_normal ?_)
    | (with_reducible refine wp_block ?_)
    | ((with_reducible refine g_move ?_); refine s_move hE rfl rfl ?_; clear hE a; intro a hE)
    | ((with_reducible refine g_assign ?_); refine s_assign hE rfl rfl ?_; clear hE a; intro a hE)
    | ((with_reducible refine g_blt .len ?_); refine s_len hE rfl rfl ?_; clear hE a; intro a hE)
    )
  refine wp_loop_ghost (fun q a w => ∃ (k : Nat) (pre : List SpT), k + q = l.length ∧ pre ++ spotsM (l.drop k) = spotsM l ∧ (∀ x ∈ pre, freeS (SpT.m x) = false) ∧ St w0 w [hBlk g2 54 [.int .i64 0, .int .i64 0]] ∧ Env 30 [(2, .pointer (some ⟨g2, 0, none⟩)), (8, .slice A l.length c), (9, .int .i64 (l.length : Int)), (10, .int .i64 (k : Int))] a) l.length ⟨0, [], by omega, rfl, (fun x hx => by cases hx), hS, hE.sub ⟨rfl, rfl, rfl, rfl, trivial⟩⟩ ?_
  clear hE a hS
  rintro q a w ⟨k, pre, hk, hpre, hbad, hS, hE⟩
  by_cases hk1 : k < l.length
  · have hseg := flat_seg (c := Pg.cells) (size := 6) (l := l) hls hk1
    have hpw := hwf _ (List.getElem_mem hk1)
    have hpl := hls _ (List.getElem_mem hk1)
    rw [spotsM_drop hk1] at hpre
    generalize (l[k]'hk1) = p at hseg hpw hpl hpre
    have hpo := Pg.cells_one p
    have hsl := Pg.slots hpw
    repeat' (first

      | (with_reducible refine wp_seq ?_)
      | (with_reducible refine c_region ?_)
      | (with_reducible refine wpList_nil ?_)
      | (with_reducible refine then_normal ?_)
      | (with_reducible refine wp_skip ?_)
      | (with_reducible refine wp_block ?_)
      | ((with_reducible refine g_move ?_); refine s_move hE rfl rfl ?_; clear hE a; intro a hE)
      | ((with_reducible refine g_bin .lss ?_); refine s_lss hE rfl rfl rfl ?_; clear hE a; intro a hE)
      | ((with_reducible refine g_fa ?_); refine s_fieldL hE rfl rfl rfl ?_; clear hE a; intro a hE)
      | ((with_reducible refine g_cond ?_); refine c_dec hE rfl (fun hc => ?_) (fun hc => ?_) <;> try omega)
      | ((with_reducible refine g_ia ?_); refine s_idxR hE rfl rfl (by omega) (by omega) (by (first | exact Rd.st (by assumption) hS )) (by first | omega ) rfl ?_; clear hE a; intro a hE)
      | ((with_reducible refine g_alloc ?_); refine s_allocS hE hS rfl rfl ?_; clear hE a hS; intro g a w hE hS)
      | ((with_reducible refine g_load ?_); (first | (refine s_loadBs (k := 0) hS hE rfl rfl (by first | exact hsl ) (by omega) rfl ?_) ); clear hE a; intro a hE)
      | ((with_reducible refine g_store ?_); (first | (refine s_storeW (k := 0) hS hE rfl rfl rfl (by assumption) (by first | rfl ) (by first | assumption) ?_) ); clear hS; intro w hS; simp only [List.set_cons_zero, List.set_cons_succ, Nat.add_zero] at hS)
      | ((with_reducible refine g_load ?_); refine s_elemR hE rfl (by (first | exact Rd.st (by assumption) hS )) (by first | exact hseg ) (by first | assumption) (by rfl) rfl ?_; clear hE a; intro a hE))
    refine wp_loop_ghost (fun q2 a w => ∃ (j : Nat) (pre : List SpT), j + q2 = 4 ∧ pre ++ ((spotsP p).drop j ++ spotsM (l.drop (k + 1))) = spotsM l ∧ (∀ x ∈ pre, freeS (SpT.m x) = false) ∧ St w0 w [hBlk g 74 p.cells, hBlk g2 54 [.int .i64 0, .int .i64 0]] ∧ Env 30 [(2, .pointer (some ⟨g2, 0, none⟩)), (5, .pointer (some ⟨g, 0, none⟩)), (15, .agg (p.s.map Sl.v).toArray), (16, .int .i64 (j : Int)), (8, .slice A l.length c), (9, .int .i64 (l.length : Int)), (10, .int .i64 (k : Int))] a) 4 ⟨0, pre, by omega, hpre, hbad, hS, hE.sub ⟨rfl, rfl, rfl, rfl, rfl, rfl, rfl, trivial⟩⟩ ?_
    clear hE a hS hpre hbad pre
    rintro q2 a w ⟨j, pre, hj, hpre, hbad, hS, hE⟩
    by_cases hj1 : j < 4
    · have hjs : j < p.s.length := by rw [hpw.s4]; exact hj1
      have hv := Pg.slot hjs
      rw [spotsP_drop hjs] at hpre
      generalize (p.s[j]'hjs) = s at hv hpre
      have hfr : freeS (SpT.m ((p.n, j), s)) = decide (s.b.length = 0) := rfl
      by_cases h0 : s.b.length = 0
      · rw [decide_eq_true h0] at hfr
        have hfi : ((spotsM l).map SpT.m).find? freeS = some (SpT.m ((p.n, j), s)) := by
          rw [← hpre, List.map_append, List.map_append, List.map_cons, List.cons_append]
          exact find_at (fun y hy => by obtain ⟨z, hz, rfl⟩ := List.mem_map.1 hy; exact hbad z hz) hfr
        rw [hfi]
        repeat' (first

          | (with_reducible refine wp_seq ?_)
          | (with_reducible refine c_region ?_)
          | (with_reducible refine wpList_nil ?_)
          | (with_reducible refine then_normal ?_)
          | (with_reducible refine wp_skip ?_)
          | (with_reducible refine wp_ret ?_)
          | (with_reducible refine then_ret ?_)
          | (with_reducible refine wp_block ?_)
          | (with_reducible refine block_ret ?_)
          | ((with_reducible refine g_move ?_); refine s_move hE rfl rfl ?_; clear hE a; intro a hE)
          | ((with_reducible refine g_assign ?_); refine s_assign hE rfl rfl ?_; clear hE a; intro a hE)
          | ((with_reducible refine g_bin .lss ?_); refine s_lss hE rfl rfl rfl ?_; clear hE a; intro a hE)
          | ((with_reducible refine g_bin .eql ?_); refine s_eql hE rfl rfl rfl ?_; clear hE a; intro a hE)
          | ((with_reducible refine g_blt .len ?_); refine s_len hE rfl rfl ?_; clear hE a; intro a hE)
          | ((with_reducible refine g_fa ?_); refine s_fieldL hE rfl rfl rfl ?_; clear hE a; intro a hE)
          | ((with_reducible refine g_cond ?_); refine c_dec hE rfl (fun hc => ?_) (fun hc => ?_) <;> try omega)
          | ((with_reducible refine g_index ?_); refine s_val hE rfl rfl rfl (r_index1 hE rfl rfl (by omega) (by omega) (by assumption)) ?_; clear hE a; intro a hE)
          | ((with_reducible refine g_load ?_); (first | (refine s_loadB (k := 0) hS hE rfl rfl rfl rfl ?_) ); clear hE a; intro a hE)
          | ((with_reducible refine g_build ?_); refine s_build [_, _] hE rfl rfl rfl ?_; clear hE a; intro a hE)
          | ((with_reducible refine g_store ?_); (first | (refine s_storeW (k := 1) hS hE rfl rfl rfl rfl rfl (by first | (simp [Value.oneCell']; done)) ?_) ); clear hS; intro w hS; simp only [List.set_cons_zero, List.set_cons_succ, Nat.add_zero] at hS)
          )
        exact retG (vs := [_, _]) hE rfl ⟨⟨_, rfl, res_W (k := 1) hS rfl rfl⟩, rfl, trivial⟩ ⟨rfl, hS.nil⟩
      · rw [decide_eq_false h0] at hfr
        repeat' (first

          | (with_reducible refine wp_seq ?_)
          | (with_reducible refine c_region ?_)
          | (with_reducible refine wpList_nil ?_)
          | (with_reducible refine then_normal ?_)
          | (with_reducible refine wp_skip ?_)
          | (with_reducible refine wp_block ?_)
          | (with_reducible refine block_normal ?_)
          | ((with_reducible refine g_move ?_); refine s_move hE rfl rfl ?_; clear hE a; intro a hE)
          | ((with_reducible refine g_assign ?_); refine s_assign hE rfl rfl ?_; clear hE a; intro a hE)
          | ((with_reducible refine g_bin .lss ?_); refine s_lss hE rfl rfl rfl ?_; clear hE a; intro a hE)
          | ((with_reducible refine g_bin .eql ?_); refine s_eql hE rfl rfl rfl ?_; clear hE a; intro a hE)
          | ((with_reducible refine g_bin .add ?_); refine s_add hE rfl rfl rfl (by first  | exact wrap64_in (by omega) ) ?_; clear hE a; intro a hE)
          | ((with_reducible refine g_blt .len ?_); refine s_len hE rfl rfl ?_; clear hE a; intro a hE)
          | ((with_reducible refine g_cond ?_); refine c_dec hE rfl (fun hc => ?_) (fun hc => ?_) <;> try omega)
          | ((with_reducible refine g_index ?_); refine s_val hE rfl rfl rfl (r_index1 hE rfl rfl (by omega) (by omega) (by assumption)) ?_; clear hE a; intro a hE)
          )
        exact ⟨q2 - 1, by omega, j + 1, pre ++ [((p.n, j), s)], by omega, by rw [List.append_assoc]; exact hpre, (fun x hx => by
            rcases List.mem_append.1 hx with h | h
            · exact hbad x h
            · rw [List.mem_singleton] at h; subst h; exact hfr), hS, hE.sub ⟨rfl, rfl, rfl, rfl, rfl, rfl, rfl, trivial⟩⟩
    · obtain rfl : j = 4 := by omega
      rw [List.drop_eq_nil_of_le (by rw [spotsP_len, hpw.s4]; exact Nat.le_refl _), List.nil_append] at hpre
      repeat' (first

        | (with_reducible refine wp_seq ?_)
        | (with_reducible refine c_region ?_)
        | (with_reducible refine wpList_nil ?_)
        | (with_reducible refine then_normal ?_)
        | (with_reducible refine block_normal ?_)
        | (with_reducible refine wp_exit ?_)
        | (with_reducible refine then_exit ?_)
        | (with_reducible refine block_same ?_)
        | ((with_reducible refine g_move ?_); refine s_move hE rfl rfl ?_; clear hE a; intro a hE)
        | ((with_reducible refine g_bin .lss ?_); refine s_lss hE rfl rfl rfl ?_; clear hE a; intro a hE)
        | ((with_reducible refine g_bin .add ?_); refine s_add hE rfl rfl rfl (by first  | exact wrap64_in (by omega) ) ?_; clear hE a; intro a hE)
        | ((with_reducible refine g_cond ?_); refine c_false hE rfl ?_)
        )
      exact ⟨q - 1, by omega, k + 1, pre, by omega, hpre, hbad, hS.tail, hE.sub ⟨rfl, rfl, rfl, rfl, trivial⟩⟩
  · obtain rfl : k = l.length := by omega
    rw [List.drop_eq_nil_of_le (Nat.le_refl _), show spotsM [] = [] from rfl, List.append_nil] at hpre
    subst hpre
    rw [find_none (fun y hy => by obtain ⟨z, hz, rfl⟩ := List.mem_map.1 hy; exact hbad z hz)]
    repeat' (first

      | (with_reducible refine wp_seq ?_)
      | (with_reducible refine c_region ?_)
      | (with_reducible refine wpList_nil ?_)
      | (with_reducible refine then_normal ?_)
      | (with_reducible refine wp_ret ?_)
      | (with_reducible refine wp_exit ?_)
      | (with_reducible refine then_exit ?_)
      | (with_reducible refine block_same ?_)
      | ((with_reducible refine g_assign ?_); refine s_assign hE rfl rfl ?_; clear hE a; intro a hE)
      | ((with_reducible refine g_bin .lss ?_); refine s_lss hE rfl rfl rfl ?_; clear hE a; intro a hE)
      | ((with_reducible refine g_cond ?_); refine c_dec hE rfl (fun hc => ?_) (fun hc => ?_) <;> try omega)
      | ((with_reducible refine g_build ?_); refine s_build [_, _] hE rfl rfl rfl ?_; clear hE a; intro a hE)
      | ((with_reducible refine g_store ?_); (first | (refine s_storeW (k := 0) hS hE rfl rfl rfl rfl rfl (by first | (simp [Value.oneCell']; done)) ?_) ); clear hS; intro w hS; simp only [List.set_cons_zero, List.set_cons_succ, Nat.add_zero] at hS)
      )
    exact retG (vs := [_, _]) hE rfl ⟨⟨_, rfl, res_W (k := 0) hS rfl rfl⟩, rfl, trivial⟩ ⟨rfl, hS.nil⟩
theorem xroom (l : List Pg) (A : Option Addr) (c n : Nat) (hn : n = l.length) (w0 : World) (hl : l.length ≤ 100000) (hwf : ∀ p ∈ l, p.wf) (hr : Rd w0 A (l.flatMap Pg.cells)) :
    Fn Try.prog 27 [.slice A n c] w0 fun v w' => ∃ (A' : Option Addr) (c' : Nat), v = .slice A' ((l.map Pg.m).map roomP).length c' ∧ St w0 w' [hRow 3 1 A' ((l.map Pg.m).map roomP).length c' (ints ((l.map Pg.m).map roomP))] := by
  subst hn
  have hls : ∀ r ∈ l, (Pg.cells r).length = 6 := fun r hr => by simp [(hwf r hr).s4]
  have hfl : (l.flatMap Pg.cells).length = l.length * 6 := flat_len hls
  have e3 : ((l.map Pg.m).map roomP).length = l.length := by simp
  rw [e3]
  refine enter 32 Try.func27 rfl rfl rfl ?_
  intro a hE
  have hS := St.start w0
  repeat' (first

    | (with_reducible refine wp_seq ?_)
    | (with_reducible refine c_region ?_)
    | (with_reducible refine wpList_nil ?_)
    | (with_reducible refine then_normal ?_)
    | (with_reducible refine wp_block ?_)
    | ((with_reducible refine g_move ?_); refine s_move hE rfl rfl ?_; clear hE a; intro a hE)
    | ((with_reducible refine g_assign ?_); refine s_assign hE rfl rfl ?_; clear hE a; intro a hE)
    | ((with_reducible refine g_blt .len ?_); refine s_len hE rfl rfl ?_; clear hE a; intro a hE)
    )
  have hS2 : St w0 _ [hRow 3 1 none 0 0 []] := St.rowNil hS _ _
  refine wp_loop_ghost (fun q a w => ∃ (k : Nat) (A1 : Option Addr) (c1 : Nat), k + q = l.length ∧ St w0 w [hRow 3 1 A1 k c1 (ints (((l.take k).map Pg.m).map roomP))] ∧ Env 32 [(3, .slice A1 k c1), (9, .slice A l.length c), (10, .int .i64 (l.length : Int)), (11, .int .i64 (k : Int))] a) l.length ⟨0, none, 0, by omega, hS2, hE.sub ⟨rfl, rfl, rfl, rfl, trivial⟩⟩ ?_
  clear hE a hS hS2
  rintro q a w ⟨k, A1, c1, hk, hS, hE⟩
  by_cases hk1 : k < l.length
  · have hseg := flat_seg (c := Pg.cells) (size := 6) (l := l) hls hk1
    have hpw := hwf _ (List.getElem_mem hk1)
    have hpl := hls _ (List.getElem_mem hk1)
    have hst : (((l.take (k + 1)).map Pg.m).map roomP) = (((l.take k).map Pg.m).map roomP) ++ [roomP (l[k]'hk1).m] := by
      rw [List.take_succ_eq_append_getElem hk1, List.map_append, List.map_append]; rfl
    generalize (l[k]'hk1) = p at hseg hpw hpl hst
    generalize ((l.take k).map Pg.m).map roomP = ys at hS hst
    have hpo := Pg.cells_one p
    have hsl := Pg.slots hpw
    repeat' (first

      | (with_reducible refine wp_seq ?_)
      | (with_reducible refine c_region ?_)
      | (with_reducible refine wpList_nil ?_)
      | (with_reducible refine then_normal ?_)
      | (with_reducible refine wp_skip ?_)
      | (with_reducible refine wp_block ?_)
      | ((with_reducible refine g_move ?_); refine s_move hE rfl rfl ?_; clear hE a; intro a hE)
      | ((with_reducible refine g_assign ?_); refine s_assign hE rfl rfl ?_; clear hE a; intro a hE)
      | ((with_reducible refine g_bin .lss ?_); refine s_lss hE rfl rfl rfl ?_; clear hE a; intro a hE)
      | ((with_reducible refine g_fa ?_); refine s_fieldL hE rfl rfl rfl ?_; clear hE a; intro a hE)
      | ((with_reducible refine g_cond ?_); refine c_dec hE rfl (fun hc => ?_) (fun hc => ?_) <;> try omega)
      | ((with_reducible refine g_ia ?_); refine s_idxR hE rfl rfl (by omega) (by omega) (by (first | exact Rd.st (by assumption) hS )) (by first | omega ) rfl ?_; clear hE a; intro a hE)
      | ((with_reducible refine g_alloc ?_); refine s_allocS hE hS rfl rfl ?_; clear hE a hS; intro g a w hE hS)
      | ((with_reducible refine g_load ?_); (first | (refine s_loadBs (k := 0) hS hE rfl rfl (by first | exact hseg | exact hsl ) (by omega) rfl ?_) ); clear hE a; intro a hE)
      | ((with_reducible refine g_store ?_); (first | (refine s_storeW (k := 0) hS hE rfl rfl rfl (by assumption) (by first | rfl ) (by first | assumption) ?_) ); clear hS; intro w hS; simp only [List.set_cons_zero, List.set_cons_succ, Nat.add_zero] at hS)
      | ((with_reducible refine g_load ?_); refine s_elemR hE rfl (by (first | exact Rd.st (by assumption) hS )) (by first | exact hseg ) (by first | assumption) (by rfl) rfl ?_; clear hE a; intro a hE))
    have hS2 := hS.drop 0
    simp only [List.eraseIdx_cons_zero] at hS2
    clear hS; have hS := hS2; clear hS2
    refine wp_mono (?_ : Code.wp _ _ (fun e a w => e = .exit 2 ∧ St w0 w [hRow 3 1 A1 k c1 (ints ys)] ∧ Env 32 [(6, .int .i64 (roomP p.m : Int)), (3, .slice A1 k c1), (9, .slice A l.length c), (10, .int .i64 (l.length : Int)), (11, .int .i64 (k : Int))] a) _ _) ?_
    · refine wp_loop_ghost (fun q2 a w => ∃ (j : Nat), j + q2 = 4 ∧ St w0 w [hRow 3 1 A1 k c1 (ints ys)] ∧ Env 32 [(6, .int .i64 ((((p.s.map Sl.b).take j).filter fun b => decide (b.length = 0)).length : Int)), (16, .agg (p.s.map Sl.v).toArray), (17, .int .i64 (j : Int)), (3, .slice A1 k c1), (9, .slice A l.length c), (10, .int .i64 (l.length : Int)), (11, .int .i64 (k : Int))] a) 4 ⟨0, by omega, hS, hE.sub ⟨rfl, rfl, rfl, rfl, rfl, rfl, rfl, trivial⟩⟩ ?_
      clear hE a hS
      rintro q2 a w ⟨j, hj, hS, hE⟩
      by_cases hj1 : j < 4
      · have hjs : j < p.s.length := by rw [hpw.s4]; exact hj1
        have hv := Pg.slot hjs
        have hst2 : (((p.s.map Sl.b).take (j + 1)).filter fun b => decide (b.length = 0)).length = (((p.s.map Sl.b).take j).filter fun b => decide (b.length = 0)).length + ([(p.s[j]'hjs).b].filter fun b => decide (b.length = 0)).length := by
          rw [List.take_succ_eq_append_getElem (by rw [List.length_map]; exact hjs), List.filter_append, List.length_append, List.getElem_map]
        have hle : (((p.s.map Sl.b).take j).filter fun b => decide (b.length = 0)).length ≤ 4 := by
          refine Nat.le_trans (List.length_filter_le ..) ?_
          rw [List.length_take]; omega
        generalize (p.s[j]'hjs) = s at hv hst2
        generalize (((p.s.map Sl.b).take j).filter fun b => decide (b.length = 0)).length = m at hE hst2 hle
        by_cases h0 : s.b.length = 0
        · rw [List.filter_cons_of_pos (by simpa using h0), List.filter_nil] at hst2
          repeat' (first

            | (with_reducible refine wp_seq ?_)
            | (with_reducible refine c_region ?_)
            | (with_reducible refine wpList_nil ?_)
            | (with_reducible refine then_normal ?_)
            | (with_reducible refine wp_skip ?_)
            | (with_reducible refine wp_block ?_)
            | (with_reducible refine block_normal ?_)
            | ((with_reducible refine g_move ?_); refine s_move hE rfl rfl ?_; clear hE a; intro a hE)
            | ((with_reducible refine g_assign ?_); refine s_assign hE rfl rfl ?_; clear hE a; intro a hE)
            | ((with_reducible refine g_bin .lss ?_); refine s_lss hE rfl rfl rfl ?_; clear hE a; intro a hE)
            | ((with_reducible refine g_bin .eql ?_); refine s_eql hE rfl rfl rfl ?_; clear hE a; intro a hE)
            | ((with_reducible refine g_bin .add ?_); refine s_add hE rfl rfl rfl (by first  | exact wrap64_in (by omega) ) ?_; clear hE a; intro a hE)
            | ((with_reducible refine g_blt .len ?_); refine s_len hE rfl rfl ?_; clear hE a; intro a hE)
            | ((with_reducible refine g_cond ?_); refine c_dec hE rfl (fun hc => ?_) (fun hc => ?_) <;> try omega)
            | ((with_reducible refine g_index ?_); refine s_val hE rfl rfl rfl (r_index1 hE rfl rfl (by omega) (by omega) (by assumption)) ?_; clear hE a; intro a hE)
            )
          exact ⟨q2 - 1, by omega, j + 1, by omega, hS, hE.sub ⟨by rw [hst2]; rfl, rfl, rfl, rfl, rfl, rfl, rfl, trivial⟩⟩
        · rw [List.filter_cons_of_neg (by simpa using h0), List.filter_nil] at hst2
          repeat' (first

            | (with_reducible refine wp_seq ?_)
            | (with_reducible refine c_region ?_)
            | (with_reducible refine wpList_nil ?_)
            | (with_reducible refine then_normal ?_)
            | (with_reducible refine wp_skip ?_)
            | (with_reducible refine wp_block ?_)
            | (with_reducible refine block_normal ?_)
            | ((with_reducible refine g_move ?_); refine s_move hE rfl rfl ?_; clear hE a; intro a hE)
            | ((with_reducible refine g_assign ?_); refine s_assign hE rfl rfl ?_; clear hE a; intro a hE)
            | ((with_reducible refine g_bin .lss ?_); refine s_lss hE rfl rfl rfl ?_; clear hE a; intro a hE)
            | ((with_reducible refine g_bin .eql ?_); refine s_eql hE rfl rfl rfl ?_; clear hE a; intro a hE)
            | ((with_reducible refine g_bin .add ?_); refine s_add hE rfl rfl rfl (by first  | exact wrap64_in (by omega) ) ?_; clear hE a; intro a hE)
            | ((with_reducible refine g_blt .len ?_); refine s_len hE rfl rfl ?_; clear hE a; intro a hE)
            | ((with_reducible refine g_cond ?_); refine c_dec hE rfl (fun hc => ?_) (fun hc => ?_) <;> try omega)
            | ((with_reducible refine g_index ?_); refine s_val hE rfl rfl rfl (r_index1 hE rfl rfl (by omega) (by omega) (by assumption)) ?_; clear hE a; intro a hE)
            )
          exact ⟨q2 - 1, by omega, j + 1, by omega, hS, hE.sub ⟨by rw [hst2]; rfl, rfl, rfl, rfl, rfl, rfl, rfl, trivial⟩⟩
      · obtain rfl : j = 4 := by omega
        rw [List.take_of_length_le (by rw [List.length_map, hpw.s4]; exact Nat.le_refl _)] at hE
        repeat' (first

          | (with_reducible refine wp_seq ?_)
          | (with_reducible refine c_region ?_)
          | (with_reducible refine wpList_nil ?_)
          | (with_reducible refine then_normal ?_)
          | (with_reducible refine wp_exit ?_)
          | (with_reducible refine then_exit ?_)
          | ((with_reducible refine g_bin .lss ?_); refine s_lss hE rfl rfl rfl ?_; clear hE a; intro a hE)
          | ((with_reducible refine g_cond ?_); refine c_false hE rfl ?_)
          )
        exact ⟨rfl, hS, hE.sub ⟨rfl, rfl, rfl, rfl, rfl, trivial⟩⟩
    clear hS hE a
    rintro _ a w ⟨rfl, hS, hE⟩
    repeat' (first

      | (with_reducible refine c_region ?_)
      | (with_reducible refine wpList_nil ?_)
      | (with_reducible refine then_normal ?_)
      | (with_reducible refine block_normal ?_)
      | (with_reducible refine block_same ?_)
      | ((with_reducible refine g_move ?_); refine s_move hE rfl rfl ?_; clear hE a; intro a hE)
      | ((with_reducible refine g_assign ?_); refine s_assign hE rfl rfl ?_; clear hE a; intro a hE)
      | ((with_reducible refine g_bin .add ?_); refine s_add hE rfl rfl rfl (by first  | exact wrap64_in (by omega) ) ?_; clear hE a; intro a hE)
      | ((with_reducible refine g_lit ?_); refine s_lit hE hS rfl rfl rfl rfl rfl (by first | (simp [Value.oneCell']; done)) rfl ?_; clear hE a hS; intro g a w hE hS)
      | ((with_reducible refine g_blt .append ?_); (first | (refine s_appendAt (k := 1) hE hS rfl rfl rfl (by (first | exact hS.rd )) (by (first | rfl )) (by (first | (simp [Value.oneCell']; done))) (by omega) rfl rfl rfl rfl ?_) ); clear hE a hS; intro A c a w hE hS; simp only [List.set_cons_zero, List.set_cons_succ, Nat.add_zero] at hS)
      )
    have hS3 := hS.drop 0
    simp only [List.eraseIdx_cons_succ, List.eraseIdx_cons_zero] at hS3
    have e5 : ints ys ++ [Value.int .i64 (roomP p.m : Int)] = ints (((l.take (k + 1)).map Pg.m).map roomP) := by rw [hst]; unfold ints; rw [List.map_append]; rfl
    rw [e5] at hS3
    exact ⟨q - 1, by omega, k + 1, _, _, by omega, hS3, hE.sub ⟨rfl, rfl, rfl, rfl, trivial⟩⟩
  · obtain rfl : k = l.length := by omega
    rw [List.take_of_length_le (Nat.le_refl _)] at hS
    repeat' (first

      | (with_reducible refine wp_seq ?_)
      | (with_reducible refine c_region ?_)
      | (with_reducible refine wpList_nil ?_)
      | (with_reducible refine then_normal ?_)
      | (with_reducible refine wp_ret ?_)
      | (with_reducible refine wp_exit ?_)
      | (with_reducible refine then_exit ?_)
      | (with_reducible refine block_same ?_)
      | ((with_reducible refine g_move ?_); refine s_move hE rfl rfl ?_; clear hE a; intro a hE)
      | ((with_reducible refine g_assign ?_); refine s_assign hE rfl rfl ?_; clear hE a; intro a hE)
      | ((with_reducible refine g_bin .lss ?_); refine s_lss hE rfl rfl rfl ?_; clear hE a; intro a hE)
      | ((with_reducible refine g_cond ?_); refine c_dec hE rfl (fun hc => ?_) (fun hc => ?_) <;> try omega)
      )
    exact ret1 hE rfl rfl ⟨A1, c1, rfl, hS⟩
end
end Go.Proofs.Ytaiahigeejodaaa
