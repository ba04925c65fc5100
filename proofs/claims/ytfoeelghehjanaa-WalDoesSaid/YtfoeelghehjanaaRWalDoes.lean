/-
  A log does as the document says, write by write, whatever fails, and whenever the power goes; for every area and row of what is done.
-/
import Derived.Test.YtfoeelghehjanaaRows
import Derived.Test.YtfoeelghehjanaaYN
import Derived.Test.YtfoeelghehjanaaKr
import Derived.Test.YtfoeelghehjanaaKp
import Derived.OpenShut
import Derived.ChangeOld
namespace Go.Proofs.Ytfoeelghehjanaa.walDoes
open Go.ChangeShapes Go.WideShapes Go.ChangeAt Go.RowKit
set_option linter.unusedVariables false
set_option linter.unusedSimpArgs false

theorem own : ownKnob Try.prog.godebug = none := by kernel_rfl
theorem laidOut : laidOutB Try.prog = true := by kernel_rfl

set_option maxRecDepth 100000 in
theorem lifted (os : Os) (started : os.Started) (H : Type) (enc : TypeId × Value → H) :
    ReturnsInHanded {} Try.checked os 8 .any (Rows.walDoesSpec.pre6 enc Try.prog Try.f8 Rows.walDoesRow.domain false) (Rows.walDoesSpec.post enc Try.prog Try.f8 false true false false) := by
  refine returnsInHanded_of_change_sized (C := Try.checked) own started (by kernel_rfl) Try.func8
    (ChangeSpec.witness6 (enc := enc) (C := Try.checked) false ⟨#[], #[.int .i64 0, .slice none 0 0], []⟩ 8 (by kernel_rfl) (by kernel_rfl) (by kernel_rfl) (by kernel_rfl)) ?_
  intro W base args ds gs before hval0 hW hcnd hsz _
  have hval : ∀ (j : Nat) t v, Try.f8.params[j]? = some t → args[j]? = some v → Value.okWide Try.prog W .any base t v := hval0
  have hW' := hW
  obtain ⟨p, q, hA0, hV, rfl, hfz, hnd⟩ := hW
  have hA : DataW.TrodAll enc Try.prog W 0 (fun _ => true) true Try.f8.params.toList args.toList ds p := hA0
  rw [Try.params8] at hA hval
  obtain ⟨v0, vs0, d0, ds0, p0, q0, hargs, rfl, rfl, k0, s0⟩ := trodAll_cons hA
  obtain ⟨v1, vs1, d1, ds1, p1, q1, rfl, rfl, rfl, k1, s1⟩ := trodAll_cons s0
  obtain ⟨rfl, rfl, rfl⟩ := trodAll_nil s1
  obtain rfl : args = #[v0, v1] := by cases args; simp_all
  obtain ⟨rfl, rfl⟩ := trodVars_none hV
  have kk0 := k0
  have lt0 : ∀ x ∈ p0, x.block < W.heap.size := by obtain ⟨m, hm⟩ := kk0; exact DataW.trod_lt m _ _ _ hm
  have kk1 := k1
  have lt1 : ∀ x ∈ p1, x.block < W.heap.size := by obtain ⟨m, hm⟩ := kk1; exact DataW.trod_lt m _ _ _ hm
  obtain ⟨i0, rfl, rfl, rfl, w0⟩ := open_int Try.underlying3 (hval 0 3 v0 rfl rfl) k0
  have zz1 : (Sz.reach H Try.prog).S 22 d1 := Sz.reach_at (j := 1) hsz (by first | rfl | (rw [Try.params8]; rfl)) rfl
  obtain ⟨a1, n1, c1, rfl⟩ := okWide_slice Try.underlying22 (hval 1 22 v1 rfl rfl)
  obtain ⟨fu1, hfu1⟩ := k1
  obtain ⟨y1, hy1, ok1⟩ := ((rds_slice (size := 4) (bytes := 48) Try.underlying22 (by kernel_rfl) (by kernel_rfl) (by decide) (rds_struct (fs := [(0, 3, 1), (1, 3, 1), (2, 5, 1), (3, 31, 1)]) (n := 4) Try.underlying33 (by kernel_rfl) (by kernel_rfl) rfl (rdsL_cons (rds_int Try.underlying3) (rdsL_cons (rds_int Try.underlying3) (rdsL_cons (rds_int Try.underlying5) (rdsL_cons (rds_slice (size := 1) (bytes := 1) Try.underlying31 (by kernel_rfl) (by kernel_rfl) (by decide) (rds_bool Try.underlying4)) rdsL_nil)))))) : Rds enc Try.prog W 0 (fun _ => true) true (Sz.reach H Try.prog) 22 _ _) fu1 _ _ hfu1 zz1
  obtain ⟨rfl, rfl, rfl⟩ : a1 = y1.1 ∧ n1 = y1.2.2.length ∧ c1 = y1.2.1 := by injection hy1 with hy; injection hy with h1 h2 h3; exact ⟨h1, h2, h3⟩
  clear hA0 hval0
  refine Calls.mono (law_WalDoes i0 y1 W w0 ok1) fun e W' hp => ?_
  obtain ⟨v, rfl, rfl, hS⟩ := hp
  have bel := hS.below
  exact ⟨_, rfl, _, _, _, [], _, [], hW', trodAll_mk1 (shut_bool Try.underlying4 _), (trodAll_cons_mk (Below.trod laidOut (by kernel_rfl) (of_decide_eq_true (by kernel_rfl)) kk0 bel lt0) (trodAll_cons_mk (Below.trod laidOut (by kernel_rfl) (of_decide_eq_true (by kernel_rfl)) kk1 bel lt1) trodAll_mk0)), rfl, bel.frame _, fun h => by cases h⟩

theorem over : Rows.walDoesRow.holds Try.pinned (OpenSpec.ofChange Rows.walDoesSpec) :=
  OpenClaim.holds_of_wide 8 Try.f8 rfl rfl rfl rfl rfl rfl rfl ⟨rfl, rfl, rfl, rfl, rfl⟩ rfl rfl rfl rfl rfl (by kernel_rfl) Try.func8 (by kernel_rfl)
    (of_decide_eq_true (by kernel_rfl)) (by unfold Func.isWrapper; first | (rw [if_pos (by decide +kernel)]; kernel_rfl) | (rw [if_neg (by decide +kernel)]; exact ⟨rfl, rfl⟩))
    (fun os started H enc _ => lifted os started H enc)

theorem proved : Rows.WalDoesSaid := over
#print axioms proved
end Go.Proofs.Ytfoeelghehjanaa.walDoes
