/-
  Without a disk there is no log, and a nil one tells nothing.
-/
import Derived.Test.YtfoeelghehjanaaRows
import Derived.Test.YtfoeelghehjanaaWT
import Derived.Test.YtfoeelghehjanaaKr
import Derived.Test.YtfoeelghehjanaaKp
import Derived.OpenShut
import Derived.ChangeOld
namespace Go.Proofs.Ytfoeelghehjanaa.walNone
open Go.ChangeShapes Go.WideShapes Go.ChangeAt Go.RowKit
set_option linter.unusedVariables false
set_option linter.unusedSimpArgs false

theorem own : ownKnob Try.prog.godebug = none := by kernel_rfl
theorem laidOut : laidOutB Try.prog = true := by kernel_rfl

set_option maxRecDepth 100000 in
theorem lifted (os : Os) (started : os.Started) (H : Type) (enc : TypeId × Value → H) :
    ReturnsInHanded {} Try.checked os 4 .any (Rows.walNoneSpec.pre6 enc Try.prog Try.f4 Rows.walNoneRow.domain false) (Rows.walNoneSpec.post enc Try.prog Try.f4 false true false false) := by
  refine returnsInHanded_of_change_sized (C := Try.checked) own started (by kernel_rfl) Try.func4
    (ChangeSpec.witness6 (enc := enc) (C := Try.checked) false ⟨#[], #[.slice none 0 0, .int .i64 0], []⟩ 8 (by kernel_rfl) (by kernel_rfl) (by kernel_rfl) (by kernel_rfl)) ?_
  intro W base args ds gs before hval0 hW hcnd hsz _
  have hval : ∀ (j : Nat) t v, Try.f4.params[j]? = some t → args[j]? = some v → Value.okWide Try.prog W .any base t v := hval0
  have hW' := hW
  obtain ⟨p, q, hA0, hV, rfl, hfz, hnd⟩ := hW
  have hA : DataW.TrodAll enc Try.prog W 0 (fun _ => true) true Try.f4.params.toList args.toList ds p := hA0
  rw [Try.params4] at hA hval
  obtain ⟨v0, vs0, d0, ds0, p0, q0, hargs, rfl, rfl, k0, s0⟩ := trodAll_cons hA
  obtain ⟨v1, vs1, d1, ds1, p1, q1, rfl, rfl, rfl, k1, s1⟩ := trodAll_cons s0
  obtain ⟨rfl, rfl, rfl⟩ := trodAll_nil s1
  obtain rfl : args = #[v0, v1] := by cases args; simp_all
  obtain ⟨rfl, rfl⟩ := trodVars_none hV
  have kk0 := k0
  have lt0 : ∀ x ∈ p0, x.block < W.heap.size := by obtain ⟨m, hm⟩ := kk0; exact DataW.trod_lt m _ _ _ hm
  have kk1 := k1
  have lt1 : ∀ x ∈ p1, x.block < W.heap.size := by obtain ⟨m, hm⟩ := kk1; exact DataW.trod_lt m _ _ _ hm
  have zz0 : (Sz.reach H Try.prog).S 34 d0 := Sz.reach_at (j := 0) hsz (by first | rfl | (rw [Try.params4]; rfl)) rfl
  obtain ⟨a0, n0, c0, rfl⟩ := okWide_slice Try.underlying34 (hval 0 34 v0 rfl rfl)
  obtain ⟨x0, rfl, r0_, b0, l0, m0⟩ := arg_bytes Try.underlying34 Try.underlying5 (by kernel_rfl) k0
  have q0 : x0.length ≤ 140737488351232 := by
    obtain ⟨fu, hfu⟩ := kk0
    obtain ⟨y, hy, _, _, _, hz, _⟩ := ((rds_slice (size := 1) (bytes := 1) Try.underlying34 (by kernel_rfl) (by kernel_rfl) (by decide) (rds_int Try.underlying5)) : Rds enc Try.prog W 0 (fun _ => true) true (Sz.reach H Try.prog) 34 _ _) fu _ _ hfu zz0
    have e : y.2.2.length = x0.length := by injection hy with hy; injection hy with _ hy _; exact hy.symm
    rw [← e]
    have hz2 : y.2.2.length * 1 ≤ 140737488351232 := hz
    omega
  obtain ⟨i1, rfl, rfl, rfl, w1⟩ := open_int Try.underlying3 (hval 1 3 v1 rfl rfl) k1
  clear hA0 hval0
  refine Calls.mono (law_WalNone a0 c0 x0 i1 W r0_ b0 l0 (by omega) w1) fun e W' hp => ?_
  obtain ⟨v, rfl, rfl, hS⟩ := hp
  have bel := hS.below
  exact ⟨_, rfl, _, _, _, [], _, [], hW', trodAll_mk1 (shut_bool Try.underlying4 _), (trodAll_cons_mk (Below.trod laidOut (by kernel_rfl) (of_decide_eq_true (by kernel_rfl)) kk0 bel lt0) (trodAll_cons_mk (Below.trod laidOut (by kernel_rfl) (of_decide_eq_true (by kernel_rfl)) kk1 bel lt1) trodAll_mk0)), rfl, bel.frame _, fun h => by cases h⟩

theorem over : Rows.walNoneRow.holds Try.pinned (OpenSpec.ofChange Rows.walNoneSpec) :=
  OpenClaim.holds_of_wide 4 Try.f4 rfl rfl rfl rfl rfl rfl rfl ⟨rfl, rfl, rfl, rfl, rfl⟩ rfl rfl rfl rfl rfl (by kernel_rfl) Try.func4 (by kernel_rfl)
    (of_decide_eq_true (by kernel_rfl)) (by unfold Func.isWrapper; first | (rw [if_pos (by decide +kernel)]; kernel_rfl) | (rw [if_neg (by decide +kernel)]; exact ⟨rfl, rfl⟩))
    (fun os started H enc _ => lifted os started H enc)

theorem proved : Rows.WalNoneSaid := over
#print axioms proved
end Go.Proofs.Ytfoeelghehjanaa.walNone
