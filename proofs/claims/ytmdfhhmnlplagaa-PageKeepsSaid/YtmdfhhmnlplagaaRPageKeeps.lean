/-
  What is set in a slot is there, and all other slots of the page are as they were.
-/
import Derived.Test.YtmdfhhmnlplagaaRows
import Derived.Test.YtmdfhhmnlplagaaGP
import Derived.Test.YtmdfhhmnlplagaaKr
import Derived.Test.YtmdfhhmnlplagaaKp
import Derived.OpenShut
import Derived.ChangeOld
namespace Go.Proofs.Ytmdfhhmnlplagaa.pageKeeps
open Go.ChangeShapes Go.WideShapes Go.ChangeAt Go.RowKit
set_option linter.unusedVariables false
set_option linter.unusedSimpArgs false

theorem own : ownKnob Try.prog.godebug = none := by kernel_rfl
theorem laidOut : laidOutB Try.prog = true := by kernel_rfl

set_option maxRecDepth 100000 in
theorem lifted (os : Os) (started : os.Started) (H : Type) (enc : TypeId × Value → H) :
    ReturnsInHanded {} Try.checked os 8 .any (Rows.pageKeepsSpec.pre6 enc Try.prog Try.f8 Rows.pageKeepsRow.domain false) (Rows.pageKeepsSpec.post enc Try.prog Try.f8 false true false false) := by
  refine returnsInHanded_of_change_sized (C := Try.checked) own started (by kernel_rfl) Try.func8
    (ChangeSpec.witness6 (enc := enc) (C := Try.checked) false ⟨#[], #[.agg #[.int .i64 0, .int .u64 0, .slice none 0 0, .slice none 0 0, .slice none 0 0, .slice none 0 0], .int .i64 0, .slice none 0 0], []⟩ 8 (by kernel_rfl) (by kernel_rfl) (by kernel_rfl) (by kernel_rfl)) ?_
  intro W base args ds gs before hval0 hW hcnd hsz _
  have hval : ∀ (j : Nat) t v, Try.f8.params[j]? = some t → args[j]? = some v → Value.okWide Try.prog W .any base t v := hval0
  have hW' := hW
  obtain ⟨p, q, hA0, hV, rfl, hfz, hnd⟩ := hW
  have hA : DataW.TrodAll enc Try.prog W 0 (fun _ => true) true Try.f8.params.toList args.toList ds p := hA0
  rw [Try.params8] at hA hval
  obtain ⟨v0, vs0, d0, ds0, p0, q0, hargs, rfl, rfl, k0, s0⟩ := trodAll_cons hA
  obtain ⟨v1, vs1, d1, ds1, p1, q1, rfl, rfl, rfl, k1, s1⟩ := trodAll_cons s0
  obtain ⟨v2, vs2, d2, ds2, p2, q2, rfl, rfl, rfl, k2, s2⟩ := trodAll_cons s1
  obtain ⟨rfl, rfl, rfl⟩ := trodAll_nil s2
  obtain rfl : args = #[v0, v1, v2] := by cases args; simp_all
  obtain ⟨rfl, rfl⟩ := trodVars_none hV
  have kk0 := k0
  have lt0 : ∀ x ∈ p0, x.block < W.heap.size := by obtain ⟨m, hm⟩ := kk0; exact DataW.trod_lt m _ _ _ hm
  have kk1 := k1
  have lt1 : ∀ x ∈ p1, x.block < W.heap.size := by obtain ⟨m, hm⟩ := kk1; exact DataW.trod_lt m _ _ _ hm
  have kk2 := k2
  have lt2 : ∀ x ∈ p2, x.block < W.heap.size := by obtain ⟨m, hm⟩ := kk2; exact DataW.trod_lt m _ _ _ hm
  have zz0 : (Sz.reach H Try.prog).S 30 d0 := Sz.reach_at (j := 0) hsz (by first | rfl | (rw [Try.params8]; rfl)) rfl
  obtain ⟨cs0, rfl, _⟩ := okWide_struct Try.underlying30 (hval 0 30 v0 rfl rfl)
  obtain ⟨fu0, hfu0⟩ := k0
  obtain ⟨y0, hy0, ok0⟩ := ((rds_struct (fs := [(0, 3, 1), (1, 27, 1), (2, 28, 4)]) (n := 6) Try.underlying30 (by kernel_rfl) (by kernel_rfl) rfl (rdsL_cons (rds_int Try.underlying3) (rdsL_cons (rds_int Try.underlying27) (rdsL_cons (rds_array (n := 4) (size := 1) Try.underlying28 (by kernel_rfl) (by kernel_rfl) (rds_slice (size := 1) (bytes := 1) Try.underlying24 (by kernel_rfl) (by kernel_rfl) (by decide) (rds_int Try.underlying5))) rdsL_nil)))) : Rds enc Try.prog W 0 (fun _ => true) true (Sz.reach H Try.prog) 30 _ _) fu0 _ _ hfu0 zz0
  obtain ⟨l0⟩ := cs0
  have hl0 : l0 = _ := hy0
  subst hl0
  obtain ⟨i1, rfl, rfl, rfl, w1⟩ := open_int Try.underlying3 (hval 1 3 v1 rfl rfl) k1
  have zz2 : (Sz.reach H Try.prog).S 24 d2 := Sz.reach_at (j := 2) hsz (by first | rfl | (rw [Try.params8]; rfl)) rfl
  obtain ⟨a2, n2, c2, rfl⟩ := okWide_slice Try.underlying24 (hval 2 24 v2 rfl rfl)
  obtain ⟨x2, rfl, r2_, b2, l2, m2⟩ := arg_bytes Try.underlying24 Try.underlying5 (by kernel_rfl) k2
  have q2 : x2.length ≤ 140737488351232 := by
    obtain ⟨fu, hfu⟩ := kk2
    obtain ⟨y, hy, _, _, _, hz, _⟩ := ((rds_slice (size := 1) (bytes := 1) Try.underlying24 (by kernel_rfl) (by kernel_rfl) (by decide) (rds_int Try.underlying5)) : Rds enc Try.prog W 0 (fun _ => true) true (Sz.reach H Try.prog) 24 _ _) fu _ _ hfu zz2
    have e : y.2.2.length = x2.length := by injection hy with hy; injection hy with _ hy _; exact hy.symm
    rw [← e]
    have hz2 : y.2.2.length * 1 ≤ 140737488351232 := hz
    omega
  clear hA0 hval0
  refine Calls.mono (law_PageKeeps y0 i1 a2 c2 x2 W ok0 w1 r2_ b2 l2 (by omega)) fun e W' hp => ?_
  obtain ⟨v, rfl, rfl, hS⟩ := hp
  have bel := hS.below
  exact ⟨_, rfl, _, _, _, [], _, [], hW', trodAll_mk1 (shut_bool Try.underlying4 _), (trodAll_cons_mk (Below.trod laidOut (by kernel_rfl) (of_decide_eq_true (by kernel_rfl)) kk0 bel lt0) (trodAll_cons_mk (Below.trod laidOut (by kernel_rfl) (of_decide_eq_true (by kernel_rfl)) kk1 bel lt1) (trodAll_cons_mk (Below.trod laidOut (by kernel_rfl) (of_decide_eq_true (by kernel_rfl)) kk2 bel lt2) trodAll_mk0))), rfl, bel.frame _, fun h => by cases h⟩

theorem over : Rows.pageKeepsRow.holds Try.pinned (OpenSpec.ofChange Rows.pageKeepsSpec) :=
  OpenClaim.holds_of_wide 8 Try.f8 rfl rfl rfl rfl rfl rfl rfl ⟨rfl, rfl, rfl, rfl, rfl⟩ rfl rfl rfl rfl rfl (by kernel_rfl) Try.func8 (by kernel_rfl)
    (of_decide_eq_true (by kernel_rfl)) (by unfold Func.isWrapper; first | (rw [if_pos (by decide +kernel)]; kernel_rfl) | (rw [if_neg (by decide +kernel)]; exact ⟨rfl, rfl⟩))
    (fun os started H enc _ => lifted os started H enc)

theorem proved : Rows.PageKeepsSaid := over
#print axioms proved
end Go.Proofs.Ytmdfhhmnlplagaa.pageKeeps
