/-
  Guards, picks, cuts of slices.
-/
import Derived.Test.YtaiahigeejodaaaKg
namespace Go.Proofs.Ytaiahigeejodaaa
open Go.RowKit
set_option linter.unusedVariables false
set_option linter.unusedSimpArgs false

section
variable {P : Program} {ops : Array Oper} {Q : Exit → Act → World → Prop} {rest : List Oper} {n d : Nat} {L : List (Nat × Value)} {a : Act} {w w0 : World} {H : List HP}
variable {ty xt yt : TypeId} {ps : String} {af : Array Edge} {x y z : Operand} {op : Op} {dd : Option Tmp} {j dj : Nat} {want : Bool}

theorem g_guard (h : wpList P ops Q (⟨dd, op, ty, ps, af, some (j, want)⟩ :: rest) a w) : wpList P ops Q (⟨dd, op, ty, ps, af, some (j, want)⟩ :: rest) a w := h
theorem g_pick (h : wpList P ops Q (⟨some d, .pick x y z, ty, ps, af, none⟩ :: rest) a w) : wpList P ops Q (⟨some d, .pick x y z, ty, ps, af, none⟩ :: rest) a w := h

theorem Env.more {v : Value} (hE : Env n L a) (h : find L d = some v) : Env n ((d, v) :: L) a := by
  refine ⟨hE.size, hE.defers, fun t u hu => ?_⟩
  simp only [find] at hu
  cases hb : Nat.beq d t with
  | true =>
    have e : d = t := Nat.eq_of_beq_eq_true hb
    rw [hb] at hu
    simp only [cond_true, Option.some.injEq] at hu
    subst e
    subst hu
    exact hE.has _ _ h
  | false =>
    rw [hb] at hu
    simp only [cond_false] at hu
    exact hE.has _ _ hu
theorem Env.as {v u : Value} (hE : Env n L a) (h : find L d = some v) (e : v = u) : Env n ((d, u) :: L) a := e ▸ hE.more h

theorem gd_yes {b : Bool} (hE : Env n L a) (hj : (ops[j]?).bind (·.dst) = some dj) (hb : find L dj = some (.bool b)) (hw : b = want) (h : wpList P ops Q (⟨dd, op, ty, ps, af, none⟩ :: rest) a w) :
    wpList P ops Q (⟨dd, op, ty, ps, af, some (j, want)⟩ :: rest) a w := by
  have hy : yielded ops a.tmps j = some b := by
    have h1 := hE.has _ _ hb
    simp only [yielded, hj, Option.bind_some, h1]
  unfold wpList at h ⊢
  rw [if_pos (by simp [Region.wanted])] at h
  rw [if_pos (by simp [Region.wanted, hy, hw])]
  exact h
theorem gd_no {b : Bool} (hE : Env n L a) (hj : (ops[j]?).bind (·.dst) = some dj) (hb : find L dj = some (.bool b)) (hw : b = !want) (hd : Nat.blt d n = true) (h : ∀ a', Env n ((d, undef) :: L) a' → wpList P ops Q rest a' w) :
    wpList P ops Q (⟨some d, op, ty, ps, af, some (j, want)⟩ :: rest) a w := by
  have hy : yielded ops a.tmps j = some b := by
    have h1 := hE.has _ _ hb
    simp only [yielded, hj, Option.bind_some, h1]
  unfold wpList
  have hw : Region.wanted ⟨some d, op, ty, ps, af, some (j, want)⟩ (yielded ops a.tmps) = false := by
    simp only [Region.wanted, hy]
    subst hw
    cases want <;> rfl
  rw [if_neg (by rw [hw]; simp)]
  exact h _ (hE.put hd undef)
theorem gd_un (hE : Env n L a) (hj : (ops[j]?).bind (·.dst) = some dj) (hb : find L dj = some undef) (hd : Nat.blt d n = true) (h : ∀ a', Env n ((d, undef) :: L) a' → wpList P ops Q rest a' w) :
    wpList P ops Q (⟨some d, op, ty, ps, af, some (j, want)⟩ :: rest) a w := by
  have hy : yielded ops a.tmps j = none := by
    have h1 := hE.has _ _ hb
    simp only [yielded, hj, Option.bind_some, h1]
    rfl
  unfold wpList
  have hw : Region.wanted ⟨some d, op, ty, ps, af, some (j, want)⟩ (yielded ops a.tmps) = false := by
    simp only [Region.wanted, hy]
    cases want <;> rfl
  rw [if_neg (by rw [hw]; simp)]
  exact h _ (hE.put hd undef)
theorem gd_dec {p : Prop} [Decidable p] (hE : Env n L a) (hj : (ops[j]?).bind (·.dst) = some dj) (hb : find L dj = some (.bool (decide p)))
    (ht : p → Env n ((dj, .bool true) :: L) a → wpList P ops Q (⟨dd, op, ty, ps, af, some (j, want)⟩ :: rest) a w) (hf : ¬ p → Env n ((dj, .bool false) :: L) a → wpList P ops Q (⟨dd, op, ty, ps, af, some (j, want)⟩ :: rest) a w) :
    wpList P ops Q (⟨dd, op, ty, ps, af, some (j, want)⟩ :: rest) a w := by
  by_cases hp : p
  · exact ht hp (hE.as hb (by simp [hp]))
  · exact hf hp (hE.as hb (by simp [hp]))
theorem gd_bool {b : Bool} (hE : Env n L a) (hj : (ops[j]?).bind (·.dst) = some dj) (hb : find L dj = some (.bool b))
    (ht : b = true → Env n ((dj, .bool true) :: L) a → wpList P ops Q (⟨dd, op, ty, ps, af, some (j, want)⟩ :: rest) a w) (hf : b = false → Env n ((dj, .bool false) :: L) a → wpList P ops Q (⟨dd, op, ty, ps, af, some (j, want)⟩ :: rest) a w) :
    wpList P ops Q (⟨dd, op, ty, ps, af, some (j, want)⟩ :: rest) a w := by
  cases b
  · exact hf rfl (hE.more hb)
  · exact ht rfl (hE.more hb)
theorem s_pickT {v : Value} (hE : Env n L a) (hx : ev L x = some (.bool true)) (hv : ev L y = some v) (hd : Nat.blt d n = true) (k : ∀ a', Env n ((d, v) :: L) a' → wpList P ops Q rest a' w) :
    wpList P ops Q (⟨some d, .pick x y z, ty, ps, af, none⟩ :: rest) a w :=
  s_val hE rfl rfl hd (by simp [execOp, hE.eval hx, hE.eval hv, asBool]) k
theorem s_pickF {v : Value} (hE : Env n L a) (hx : ev L x = some (.bool false)) (hv : ev L z = some v) (hd : Nat.blt d n = true) (k : ∀ a', Env n ((d, v) :: L) a' → wpList P ops Q rest a' w) :
    wpList P ops Q (⟨some d, .pick x y z, ty, ps, af, none⟩ :: rest) a w :=
  s_val hE rfl rfl hd (by simp [execOp, hE.eval hx, hE.eval hv, asBool]) k

/-- truth values held against each other -/
theorem s_eqb {b c : Bool} [TyU P xt .bool] (hE : Env n L a) (hx : ev L x = some (.bool b)) (hy : ev L y = some (.bool c)) (hd : Nat.blt d n = true) (K : ∀ a', Env n ((d, .bool (b == c)) :: L) a' → wpList P ops Q rest a' w) :
    wpList P ops Q (⟨some d, .binOp .eql xt x y yt, ty, ps, af, none⟩ :: rest) a w := by
  refine s_val (v := .bool (b == c)) (w' := w) hE rfl rfl hd ?_ K
  have hg : (eqGuard .eql xt x y (.bool b) (.bool c)).run P w = .ok () w := rfl
  have h1 : (Op.equal xt (.bool b) (.bool c)).run P w = .ok (b == c) w := by
    have e : Op.maxDepth = 9999 + 1 := rfl
    unfold Op.equal
    rw [e]
    unfold Op.equalIn
    simp only [Sem.run_bind, run_under (d := .bool), Result.andThen_ok, Sem.run_pure]
  simp only [execOp, hE.eval hx, hE.eval hy, Sem.run_bind, hg, Result.andThen_ok, binOp, h1, Sem.run_pure]
theorem s_neb {b c : Bool} [TyU P xt .bool] (hE : Env n L a) (hx : ev L x = some (.bool b)) (hy : ev L y = some (.bool c)) (hd : Nat.blt d n = true) (K : ∀ a', Env n ((d, .bool (b != c)) :: L) a' → wpList P ops Q rest a' w) :
    wpList P ops Q (⟨some d, .binOp .neq xt x y yt, ty, ps, af, none⟩ :: rest) a w := by
  refine s_val (v := .bool (b != c)) (w' := w) hE rfl rfl hd ?_ K
  have hg : (eqGuard .neq xt x y (.bool b) (.bool c)).run P w = .ok () w := rfl
  have h1 : (Op.equal xt (.bool b) (.bool c)).run P w = .ok (b == c) w := by
    have e : Op.maxDepth = 9999 + 1 := rfl
    unfold Op.equal
    rw [e]
    unfold Op.equalIn
    simp only [Sem.run_bind, run_under (d := .bool), Result.andThen_ok, Sem.run_pure]
  simp only [execOp, hE.eval hx, hE.eval hy, Sem.run_bind, hg, Result.andThen_ok, binOp, h1, Sem.run_pure]
  rfl

/-- a conversion that changes nothing -/
theorem s_convS {t e : TypeId} {A : Option Addr} {m c : Nat} (hE : Env n L a) (hx : ev L x = some (.slice A m c)) : True := trivial

theorem run_bound (x : Int) (k : IntKind) (y : Nat) (code : BoundsCode) (h : 0 ≤ x ∧ x ≤ y) : (Instr.sliceBound (.int k x) y code).run P w = .ok x.toNat w := by
  simp [Instr.sliceBound, asIntOf, h]

/-- xs[:h] -/
theorem s_cutH {t e : TypeId} {size b : Nat} {zz : Value} {A : Option Addr} {m c : Nat} {k : IntKind} {h : Int} [TyU P t (.slice e)] [TyI P e size zz b] (hE : Env n L a) (hx : ev L x = some (.slice A m c)) (hy : ev L y = some (.int k h)) (hb : 0 ≤ h ∧ h ≤ c) (hd : Nat.blt d n = true)
    (K : ∀ a', Env n ((d, .slice A h.toNat c) :: L) a' → wpList P ops Q rest a' w) :
    wpList P ops Q (⟨some d, .slice t x none (some y) none, ty, ps, af, none⟩ :: rest) a w := by
  refine s_val (v := .slice A h.toNat c) (w' := w) hE rfl rfl hd ?_ K
  have hA : (if c = 0 then A else A.map (·.add (0 * size))) = A := by
    split
    · rfl
    · cases A <;> simp [Addr.add]
  simp [execOp, Instr.sliceAt, Instr.slice, Instr.sliceBounds, hE.eval hx, hE.eval hy, run_under (d := .slice e), run_bound h k c _ hb, run_size (size := size) (zero := zz) (bytes := b), hA]
  simpa using hA
/-- xs[:h:m] -/
theorem s_cutHM {t e : TypeId} {size b : Nat} {zz : Value} {A : Option Addr} {m c : Nat} {k k2 : IntKind} {h mx : Int} [TyU P t (.slice e)] [TyI P e size zz b] (hE : Env n L a) (hx : ev L x = some (.slice A m c)) (hy : ev L y = some (.int k h)) (hz : ev L z = some (.int k2 mx)) (hb : 0 ≤ mx ∧ mx ≤ c) (hb2 : 0 ≤ h ∧ h ≤ mx) (hd : Nat.blt d n = true)
    (K : ∀ a', Env n ((d, .slice A h.toNat mx.toNat) :: L) a' → wpList P ops Q rest a' w) :
    wpList P ops Q (⟨some d, .slice t x none (some y) (some z), ty, ps, af, none⟩ :: rest) a w := by
  refine s_val (v := .slice A h.toNat mx.toNat) (w' := w) hE rfl rfl hd ?_ K
  have hA : (if mx.toNat = 0 then A else A.map (·.add (0 * size))) = A := by
    split
    · rfl
    · cases A <;> simp [Addr.add]
  have hb3 : 0 ≤ h ∧ h ≤ (mx.toNat : Int) := by omega
  simp [execOp, Instr.sliceAt, Instr.slice, Instr.sliceBounds, hE.eval hx, hE.eval hy, hE.eval hz, run_under (d := .slice e), run_bound mx k2 c _ hb, run_bound h k mx.toNat _ hb3, run_size (size := size) (zero := zz) (bytes := b)]
  simpa using hA
/-- xs[l:] : what it reads -/
theorem s_cutL {t e : TypeId} {size b : Nat} {zz : Value} {A : Option Addr} {m c : Nat} {k : IntKind} {l : Int} [TyU P t (.slice e)] [TyI P e size zz b] (hE : Env n L a) (hx : ev L x = some (.slice A m c)) (hy : ev L y = some (.int k l)) (hb : 0 ≤ l ∧ l ≤ m) (hmc : m ≤ c) (hd : Nat.blt d n = true)
    (K : ∀ A' a', (∀ w' cs, cs.length = m * size → Rd w' A cs → Rd w' A' (cs.drop (l.toNat * size))) → Env n ((d, .slice A' (m - l.toNat) (c - l.toNat)) :: L) a' → wpList P ops Q rest a' w) :
    wpList P ops Q (⟨some d, .slice t x (some y) none none, ty, ps, af, none⟩ :: rest) a w := by
  refine s_val (v := .slice (if c = l.toNat then A else A.map (·.add (l.toNat * size))) (m - l.toNat) (c - l.toNat)) (w' := w) hE rfl rfl hd ?_ fun a' hE' => K _ a' ?_ hE'
  · simp [execOp, Instr.sliceAt, Instr.slice, Instr.sliceBounds, hE.eval hx, hE.eval hy, run_under (d := .slice e), run_bound l k m _ hb, run_size (size := size) (zero := zz) (bytes := b)]
  · intro w' cs hl hr
    split
    · rename_i hc
      have hm : m = l.toNat := by omega
      have : cs.drop (l.toNat * size) = [] := List.drop_eq_nil_of_le (by rw [hl, hm]; exact Nat.le_refl _)
      rw [this]
      exact Rd.nil
    · exact hr.drop _
end
end Go.Proofs.Ytaiahigeejodaaa
