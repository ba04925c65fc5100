/-
  Rows are decoded as they were encoded, and the other way round.
-/
import Derived.Test.YtmfcffeoooegcaaRows
import Derived.Test.YtmfcffeoooegcaaTG
import Derived.Test.YtmfcffeoooegcaaKr
import Derived.Test.YtmfcffeoooegcaaKp
import Derived.OpenShut
import Derived.ChangeOld
namespace Go.Proofs.Ytmfcffeoooegcaa.recordAgain
open Go.ChangeShapes Go.WideShapes Go.ChangeAt Go.RowKit
set_option linter.unusedVariables false
set_option linter.unusedSimpArgs false

theorem own : ownKnob Try.prog.godebug = none := by kernel_rfl
theorem laidOut : laidOutB Try.prog = true := by kernel_rfl

set_option maxRecDepth 100000 in
theorem lifted (os : Os) (started : os.Started) (H : Type) (enc : TypeId × Value → H) :
    ReturnsInHanded {} Try.checked os 8 .any (Rows.recordAgainSpec.pre6 enc Try.prog Try.f8 Rows.recordAgainRow.domain false) (Rows.recordAgainSpec.post enc Try.prog Try.f8 false true false false) := by
  refine returnsInHanded_of_change_sized (C := Try.checked) own started (by kernel_rfl) Try.func8
    (ChangeSpec.witness6 (enc := enc) (C := Try.checked) false ⟨#[], #[.slice none 0 0, .slice none 0 0], []⟩ 8 (by kernel_rfl) (by kernel_rfl) (by kernel_rfl) (by kernel_rfl)) ?_
  intro W base args ds gs before hval0 hW hcnd hsz _
  have hval : ∀ (j : Nat) t v, Try.f8.params[j]? = some t → args[j]? = some v → Value.okWide Try.prog W .any base t v := hval0
  have hW' := hW
  obtain ⟨p, q, hA0, hV, rfl, hfz, hnd⟩ := hW
  have hA : DataW.TrodAll enc Try.prog W 0 (fun _ => true) true Try.f8.params.toList args.toList ds p := hA0
  rw [Try.params8] at hA hval
  obtain ⟨v0, vs0, d0, ds0, p0, q0, hargs, rfl, rfl, k0, s0⟩ := trodAll_cons hA
  obtain ⟨v1, vs1, d1, ds1, p1, q1, rfl, rfl, rfl, k1, s1⟩ := trodAll_cons s0
  obtain ⟨rfl, rfl, rfl⟩ := trodAll_nil s1
  obtain rfl : args = #[v0, v1] := by cases args; simp_all
  obtain ⟨rfl, rfl⟩ := trodVars_none hV
  have kk0 := k0
  have lt0 : ∀ x ∈ p0, x.block < W.heap.size := by obtain ⟨m, hm⟩ := kk0; exact DataW.trod_lt m _ _ _ hm
  have kk1 := k1
  have lt1 : ∀ x ∈ p1, x.block < W.heap.size := by obtain ⟨m, hm⟩ := kk1; exact DataW.trod_lt m _ _ _ hm
  have zz0 : (Sz.reach H Try.prog).S 28 d0 := Sz.reach_at (j := 0) hsz (by first | rfl | (rw [Try.params8]; rfl)) rfl
  obtain ⟨a0, n0, c0, rfl⟩ := okWide_slice Try.underlying28 (hval 0 28 v0 rfl rfl)
  obtain ⟨fu0, hfu0⟩ := k0
  obtain ⟨y0, hy0, ok0⟩ := ((rds_slice (size := 9) (bytes := 104) Try.underlying28 (by kernel_rfl) (by kernel_rfl) (by decide) (rds_struct (fs := [(0, 22, 1), (1, 3, 1), (2, 22, 1), (3, 22, 1), (4, 3, 1), (5, 3, 1), (6, 23, 1), (7, 23, 1), (8, 22, 1)]) (n := 9) Try.underlying25 (by kernel_rfl) (by kernel_rfl) rfl (rdsL_cons (rds_int Try.underlying22) (rdsL_cons (rds_int Try.underlying3) (rdsL_cons (rds_int Try.underlying22) (rdsL_cons (rds_int Try.underlying22) (rdsL_cons (rds_int Try.underlying3) (rdsL_cons (rds_int Try.underlying3) (rdsL_cons (rds_slice (size := 1) (bytes := 1) Try.underlying23 (by kernel_rfl) (by kernel_rfl) (by decide) (rds_int Try.underlying5)) (rdsL_cons (rds_slice (size := 1) (bytes := 1) Try.underlying23 (by kernel_rfl) (by kernel_rfl) (by decide) (rds_int Try.underlying5)) (rdsL_cons (rds_int Try.underlying22) rdsL_nil))))))))))) : Rds enc Try.prog W 0 (fun _ => true) true (Sz.reach H Try.prog) 28 _ _) fu0 _ _ hfu0 zz0
  obtain ⟨rfl, rfl, rfl⟩ : a0 = y0.1 ∧ n0 = y0.2.2.length ∧ c0 = y0.2.1 := by injection hy0 with hy; injection hy with h1 h2 h3; exact ⟨h1, h2, h3⟩
  have zz1 : (Sz.reach H Try.prog).S 23 d1 := Sz.reach_at (j := 1) hsz (by first | rfl | (rw [Try.params8]; rfl)) rfl
  obtain ⟨a1, n1, c1, rfl⟩ := okWide_slice Try.underlying23 (hval 1 23 v1 rfl rfl)
  obtain ⟨x1, rfl, r1_, b1, l1, m1⟩ := arg_bytes Try.underlying23 Try.underlying5 (by kernel_rfl) k1
  have q1 : x1.length ≤ 140737488351232 := by
    obtain ⟨fu, hfu⟩ := kk1
    obtain ⟨y, hy, _, _, _, hz, _⟩ := ((rds_slice (size := 1) (bytes := 1) Try.underlying23 (by kernel_rfl) (by kernel_rfl) (by decide) (rds_int Try.underlying5)) : Rds enc Try.prog W 0 (fun _ => true) true (Sz.reach H Try.prog) 23 _ _) fu _ _ hfu zz1
    have e : y.2.2.length = x1.length := by injection hy with hy; injection hy with _ hy _; exact hy.symm
    rw [← e]
    have hz2 : y.2.2.length * 1 ≤ 140737488351232 := hz
    omega
  clear hA0 hval0
  refine Calls.mono (law_RecordAgain y0 a1 c1 x1 W ok0 r1_ b1 l1 (by omega)) fun e W' hp => ?_
  obtain ⟨v, rfl, rfl, hS⟩ := hp
  have bel := hS.below
  exact ⟨_, rfl, _, _, _, [], _, [], hW', trodAll_mk1 (shut_bool Try.underlying4 _), (trodAll_cons_mk (Below.trod laidOut (by kernel_rfl) (of_decide_eq_true (by kernel_rfl)) kk0 bel lt0) (trodAll_cons_mk (Below.trod laidOut (by kernel_rfl) (of_decide_eq_true (by kernel_rfl)) kk1 bel lt1) trodAll_mk0)), rfl, bel.frame _, fun h => by cases h⟩

theorem over : Rows.recordAgainRow.holds Try.pinned (OpenSpec.ofChange Rows.recordAgainSpec) :=
  OpenClaim.holds_of_wide 8 Try.f8 rfl rfl rfl rfl rfl rfl rfl ⟨rfl, rfl, rfl, rfl, rfl⟩ rfl rfl rfl rfl rfl (by kernel_rfl) Try.func8 (by kernel_rfl)
    (of_decide_eq_true (by kernel_rfl)) (by unfold Func.isWrapper; first | (rw [if_pos (by decide +kernel)]; kernel_rfl) | (rw [if_neg (by decide +kernel)]; exact ⟨rfl, rfl⟩))
    (fun os started H enc _ => lifted os started H enc)

theorem proved : Rows.RecordAgainSaid := over
#print axioms proved
end Go.Proofs.Ytmfcffeoooegcaa.recordAgain
