/-
  Whatever tuple is encoded and whatever bytes are decoded, both lead back to one another.
-/
import Derived.Test.YtaiahigeejodaaaRows
import Derived.Test.YtaiahigeejodaaaHK
import Derived.Test.YtaiahigeejodaaaKr
import Derived.Test.YtaiahigeejodaaaKp
import Derived.OpenShut
import Derived.ChangeOld
namespace Go.Proofs.Ytaiahigeejodaaa.heapBack
open Go.ChangeShapes Go.WideShapes Go.ChangeAt Go.RowKit
set_option linter.unusedVariables false
set_option linter.unusedSimpArgs false

theorem own : ownKnob Try.prog.godebug = none := by kernel_rfl
theorem laidOut : laidOutB Try.prog = true := by kernel_rfl

set_option maxRecDepth 100000 in
theorem lifted (os : Os) (started : os.Started) (H : Type) (enc : TypeId × Value → H) :
    ReturnsInHanded {} Try.checked os 4 .any (Rows.heapBackSpec.pre6 enc Try.prog Try.f4 Rows.heapBackRow.domain false) (Rows.heapBackSpec.post enc Try.prog Try.f4 false true false false) := by
  refine returnsInHanded_of_change_sized (C := Try.checked) own started (by kernel_rfl) Try.func4
    (ChangeSpec.witness6 (enc := enc) (C := Try.checked) false ⟨#[], #[.agg #[.int .u32 0, .int .u64 0, .int .u64 0, .int .i64 0, .int .i64 0, .int .i64 0, .int .i64 0, .int .i64 0], .slice none 0 0], []⟩ 8 (by kernel_rfl) (by kernel_rfl) (by kernel_rfl) (by kernel_rfl)) ?_
  intro W base args ds gs before hval0 hW hcnd hsz _
  have hval : ∀ (j : Nat) t v, Try.f4.params[j]? = some t → args[j]? = some v → Value.okWide Try.prog W .any base t v := hval0
  have hW' := hW
  obtain ⟨p, q, hA0, hV, rfl, hfz, hnd⟩ := hW
  have hA : DataW.TrodAll enc Try.prog W 0 (fun _ => true) true Try.f4.params.toList args.toList ds p := hA0
  rw [Try.params4] at hA hval
  obtain ⟨v0, vs0, d0, ds0, p0, q0, hargs, rfl, rfl, k0, s0⟩ := trodAll_cons hA
  obtain ⟨v1, vs1, d1, ds1, p1, q1, rfl, rfl, rfl, k1, s1⟩ := trodAll_cons s0
  obtain ⟨rfl, rfl, rfl⟩ := trodAll_nil s1
  obtain rfl : args = #[v0, v1] := by cases args; simp_all
  obtain ⟨rfl, rfl⟩ := trodVars_none hV
  have kk0 := k0
  have lt0 : ∀ x ∈ p0, x.block < W.heap.size := by obtain ⟨m, hm⟩ := kk0; exact DataW.trod_lt m _ _ _ hm
  have kk1 := k1
  have lt1 : ∀ x ∈ p1, x.block < W.heap.size := by obtain ⟨m, hm⟩ := kk1; exact DataW.trod_lt m _ _ _ hm
  have zz0 : (Sz.reach H Try.prog).S 30 d0 := Sz.reach_at (j := 0) hsz (by first | rfl | (rw [Try.params4]; rfl)) rfl
  obtain ⟨cs0, rfl, _⟩ := okWide_struct Try.underlying30 (hval 0 30 v0 rfl rfl)
  obtain ⟨fu0, hfu0⟩ := k0
  obtain ⟨y0, hy0, ok0⟩ := ((rds_struct (fs := [(0, 25, 1), (1, 26, 1), (2, 26, 1), (3, 28, 4), (7, 2, 1)]) (n := 8) Try.underlying30 (by kernel_rfl) (by kernel_rfl) rfl (rdsL_cons (rds_int Try.underlying25) (rdsL_cons (rds_int Try.underlying26) (rdsL_cons (rds_int Try.underlying26) (rdsL_cons (rds_struct (fs := [(0, 2, 1), (1, 2, 1), (2, 2, 1), (3, 2, 1)]) (n := 4) Try.underlying28 (by kernel_rfl) (by kernel_rfl) rfl (rdsL_cons (rds_int Try.underlying2) (rdsL_cons (rds_int Try.underlying2) (rdsL_cons (rds_int Try.underlying2) (rdsL_cons (rds_int Try.underlying2) rdsL_nil))))) (rdsL_cons (rds_int Try.underlying2) rdsL_nil)))))) : Rds enc Try.prog W 0 (fun _ => true) true (Sz.reach H Try.prog) 30 _ _) fu0 _ _ hfu0 zz0
  obtain ⟨l0⟩ := cs0
  have hl0 : l0 = _ := hy0
  subst hl0
  have zz1 : (Sz.reach H Try.prog).S 31 d1 := Sz.reach_at (j := 1) hsz (by first | rfl | (rw [Try.params4]; rfl)) rfl
  obtain ⟨a1, n1, c1, rfl⟩ := okWide_slice Try.underlying31 (hval 1 31 v1 rfl rfl)
  obtain ⟨x1, rfl, r1_, b1, l1, m1⟩ := arg_bytes Try.underlying31 Try.underlying5 (by kernel_rfl) k1
  have q1 : x1.length ≤ 140737488351232 := by
    obtain ⟨fu, hfu⟩ := kk1
    obtain ⟨y, hy, _, _, _, hz, _⟩ := ((rds_slice (size := 1) (bytes := 1) Try.underlying31 (by kernel_rfl) (by kernel_rfl) (by decide) (rds_int Try.underlying5)) : Rds enc Try.prog W 0 (fun _ => true) true (Sz.reach H Try.prog) 31 _ _) fu _ _ hfu zz1
    have e : y.2.2.length = x1.length := by injection hy with hy; injection hy with _ hy _; exact hy.symm
    rw [← e]
    have hz2 : y.2.2.length * 1 ≤ 140737488351232 := hz
    omega
  clear hA0 hval0
  refine Calls.mono (law_HeapBack y0 a1 c1 x1 W ok0 r1_ b1 l1 (by omega)) fun e W' hp => ?_
  obtain ⟨v, rfl, rfl, hS⟩ := hp
  have bel := hS.below
  exact ⟨_, rfl, _, _, _, [], _, [], hW', trodAll_mk1 (shut_bool Try.underlying4 _), (trodAll_cons_mk (Below.trod laidOut (by kernel_rfl) (of_decide_eq_true (by kernel_rfl)) kk0 bel lt0) (trodAll_cons_mk (Below.trod laidOut (by kernel_rfl) (of_decide_eq_true (by kernel_rfl)) kk1 bel lt1) trodAll_mk0)), rfl, bel.frame _, fun h => by cases h⟩

theorem over : Rows.heapBackRow.holds Try.pinned (OpenSpec.ofChange Rows.heapBackSpec) :=
  OpenClaim.holds_of_wide 4 Try.f4 rfl rfl rfl rfl rfl rfl rfl ⟨rfl, rfl, rfl, rfl, rfl⟩ rfl rfl rfl rfl rfl (by kernel_rfl) Try.func4 (by kernel_rfl)
    (of_decide_eq_true (by kernel_rfl)) (by unfold Func.isWrapper; first | (rw [if_pos (by decide +kernel)]; kernel_rfl) | (rw [if_neg (by decide +kernel)]; exact ⟨rfl, rfl⟩))
    (fun os started H enc _ => lifted os started H enc)

theorem proved : Rows.HeapBackSaid := over
#print axioms proved
end Go.Proofs.Ytaiahigeejodaaa.heapBack
