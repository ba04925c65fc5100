/-
  Operations on memory, and calls.
-/
import Derived.Test.YtaiahigeejodaaaKc
import Derived.Laws.Tables
namespace Go.Proofs.Ytaiahigeejodaaa
open Go.RowKit
set_option linter.unusedVariables false
set_option linter.unusedSimpArgs false

/-- a field: where it begins, its type -/
class TyF (P : Program) (t : TypeId) (i : Nat) (off ft : outParam Nat) : Prop where
  out : ∃ fs f, P.underlying t = some (.struct fs) ∧ fs[i]? = some f ∧ f.offset = off ∧ f.type = ft

/-- a function with a body of its own -/
class TyFn (P : Program) (f : FuncId) : Prop where
  out : ∃ fn c, P.funcs[f]? = some fn ∧ (fn.name == "runtime.NumGoroutine") = false ∧ fn.body = some c
theorem run_callFunc {P : Program} {f : FuncId} [h : TyFn P f] {args : Array Value} {w : World} : (callFunc f args).run P w = .ok (.enter f args) w := by
  obtain ⟨fn, c, h1, h2, h3⟩ := h.out
  unfold callFunc
  simp only [Sem.run_bind, run_program, Result.andThen_ok, h1, h2, h3]
  rfl

def isA : TypeDesc → Bool
  | .struct _ | .array _ _ => true
  | _ => false

/-- is it a struct or an array? -/
class TyA (P : Program) (t : TypeId) (agg : outParam Bool) : Prop where out : (P.underlying t).map isA = some agg

section
variable {P : Program} {w : World}
theorem run_isA {t : TypeId} {b : Bool} [h : TyA P t b] : (isAgg t).run P w = .ok b w := by
  obtain ⟨d, hd, he⟩ := Option.map_eq_some_iff.1 h.out
  unfold isAgg
  rw [Sem.run_bind, run_underlying hd w, ← he]
  cases d <;> rfl
theorem run_loadVar1 {t : TypeId} [TyA P t false] {ad : Addr} {v : Value} (hc : w.cell? ad = some v) : (loadVar t ad).run P w = .ok v w := by
  simp [loadVar, run_isA (b := false), hc]
theorem run_loadVarA {t : TypeId} {size b : Nat} {z : Value} [TyA P t true] [TyI P t size z b] {ad : Addr} {cs : List Value} (hl : cs.length = size) (hc : ∀ j u, cs[j]? = some u → w.cell? (ad.add j) = some u) :
    (loadVar t ad).run P w = .ok (.agg cs.toArray) w := by
  have := run_loadCells_list (P := P) w ad cs hc
  simp [loadVar, run_isA (b := true), run_size (size := size) (zero := z) (bytes := b), ← hl, this]
end

section
variable {P : Program} {ops : Array Oper} {Q : Exit → Act → World → Prop} {rest : List Oper} {n d : Nat} {L : List (Nat × Value)} {a : Act} {w w0 : World} {H : List HP}
variable {ty : TypeId} {ps : String} {af : Array Edge} {x y : Operand}

theorem s_call {f : FuncId} {fo : Operand} {xs : List Operand} {first cap : Array Value} {vs : List Value} {ts : Array TypeId} {R : Value → World → Prop} [TyFn P f] (hE : Env n L a)
    (hf : ev L fo = some (.func (.func f) first cap)) (hx : evs L xs = some vs)
    (hd : Nat.blt d n = true) (hc : Fn P f (first.toList ++ vs ++ cap.toList) w R) (K : ∀ v w', R v w' → ∀ a', Env n ((d, v) :: L) a' → wpList P ops Q rest a' w') :
    wpList P ops Q (⟨some d, .call ⟨.value fo, xs.toArray, ts⟩, ty, ps, af, none⟩ :: rest) a w :=
  wpList_plain rfl fun KK hK => by
    have hrun : (execOp a.eval ⟨some d, .call ⟨.value fo, xs.toArray, ts⟩, ty, ps, af, none⟩).run P w = .ok (.enter f (first.toList ++ vs ++ cap.toList).toArray) w := by
      have he := hE.evals hx
      simp [execOp, resolve, Deferred.ofValue, hE.eval hf, invoke, run_callFunc, he]
    unfold Oper.wp
    rw [hrun]
    refine Calls.mono hc ?_
    rintro e w' ⟨v, rfl, hR⟩
    exact hK _ _ (K v w' hR _ (hE.put hd v))
/-- a call whose result nobody takes -/
theorem s_call0 {f : FuncId} {fo : Operand} {xs : List Operand} {first cap : Array Value} {vs : List Value} {ts : Array TypeId} {R : Value → World → Prop} [TyFn P f] (hE : Env n L a)
    (hf : ev L fo = some (.func (.func f) first cap)) (hx : evs L xs = some vs)
    (hc : Fn P f (first.toList ++ vs ++ cap.toList) w R) (K : ∀ v w', R v w' → Env n L a → wpList P ops Q rest a w') :
    wpList P ops Q (⟨none, .call ⟨.value fo, xs.toArray, ts⟩, ty, ps, af, none⟩ :: rest) a w :=
  wpList_plain rfl fun KK hK => by
    have hrun : (execOp a.eval ⟨none, .call ⟨.value fo, xs.toArray, ts⟩, ty, ps, af, none⟩).run P w = .ok (.enter f (first.toList ++ vs ++ cap.toList).toArray) w := by
      have he := hE.evals hx
      simp [execOp, resolve, Deferred.ofValue, hE.eval hf, invoke, run_callFunc, he]
    unfold Oper.wp
    rw [hrun]
    refine Calls.mono hc ?_
    rintro e w' ⟨v, rfl, hR⟩
    exact hK _ _ (K v w' hR hE)

theorem s_extract {i : Nat} {vs : List Value} {v : Value} (hE : Env n L a) (hx : ev L x = some (.tuple vs.toArray)) (hv : vs[i]? = some v) (hd : Nat.blt d n = true) (K : ∀ a', Env n ((d, v) :: L) a' → wpList P ops Q rest a' w) :
    wpList P ops Q (⟨some d, .extract x i, ty, ps, af, none⟩ :: rest) a w :=
  s_val hE rfl rfl hd (by simp [execOp, hE.eval hx, Instr.extract, hv]) K

theorem s_load {t : TypeId} {ad : Addr} {v : Value} [TyA P t false] (hE : Env n L a) (hx : ev L x = some (.pointer (some ad))) (hc : w.cell? ad = some v) (hd : Nat.blt d n = true) (K : ∀ a', Env n ((d, v) :: L) a' → wpList P ops Q rest a' w) :
    wpList P ops Q (⟨some d, .load t x, ty, ps, af, none⟩ :: rest) a w :=
  s_val hE rfl rfl hd (by simp [execOp, Instr.loadAt, Instr.sureAddr, hE.eval hx, run_loadVar1 hc]) K
theorem s_loadA {t : TypeId} {ad : Addr} {cs : List Value} {size b : Nat} {z : Value} [TyA P t true] [TyI P t size z b] (hE : Env n L a) (hx : ev L x = some (.pointer (some ad))) (hl : cs.length = size) (hc : ∀ j u, cs[j]? = some u → w.cell? (ad.add j) = some u) (hd : Nat.blt d n = true) (K : ∀ a', Env n ((d, .agg cs.toArray) :: L) a' → wpList P ops Q rest a' w) :
    wpList P ops Q (⟨some d, .load t x, ty, ps, af, none⟩ :: rest) a w :=
  s_val hE rfl rfl hd (by simp [execOp, Instr.loadAt, Instr.sureAddr, hE.eval hx, run_loadVarA (size := size) (z := z) (b := b) hl hc]) K

/-- the address of a slice's element -/
theorem s_idx {t e : TypeId} {size b : Nat} {z : Value} {A : Option Addr} {m c : Nat} {ad : Addr} {k : IntKind} {i : Int} [TyU P t (.slice e)] [TyI P e size z b] (hE : Env n L a) (hx : ev L x = some (.slice A m c)) (hy : ev L y = some (.int k i)) (h0 : 0 ≤ i) (h1 : i < m) (hA : A = some ad) (hd : Nat.blt d n = true) (K : ∀ a', Env n ((d, .pointer (some (ad.add (i.toNat * size)))) :: L) a' → wpList P ops Q rest a' w) :
    wpList P ops Q (⟨some d, .indexAddr t x y, ty, ps, af, none⟩ :: rest) a w :=
  s_val hE rfl rfl hd (by subst hA; simp [execOp, Instr.indexAt, asIntOf, hE.eval hx, hE.eval hy, run_under (d := .slice e), run_size (size := size) (zero := z) (bytes := b), h0, h1]) K

/-- one element of a slice, read -/
theorem s_get {t e t' : TypeId} {b : Nat} {z : Value} {A : Option Addr} {m c d2 : Nat} {k : IntKind} {i : Int} {cs : List Value} {v : Value} {ty2 : TypeId} {ps2 : String} {af2 : Array Edge} [TyU P t (.slice e)] [TyI P e 1 z b] [TyA P t' false] (hE : Env n L a) (hx : ev L x = some (.slice A m c)) (hy : ev L y = some (.int k i)) (h0 : 0 ≤ i) (h1 : i < m) (hr : Rd w A cs) (hv : cs[i.toNat]? = some v) (hd : Nat.blt d n = true) (hd2 : Nat.blt d2 n = true) (K : ∀ a' p, Env n ((d2, v) :: (d, p) :: L) a' → wpList P ops Q rest a' w) :
    wpList P ops Q (⟨some d, .indexAddr t x y, ty, ps, af, none⟩ :: ⟨some d2, .load t' (.tmp d), ty2, ps2, af2, none⟩ :: rest) a w := by
  obtain ⟨ad, hA, hc⟩ := hr.cell hv
  refine s_idx (size := 1) (z := z) (b := b) hE hx hy h0 h1 hA hd fun a' hE' => ?_
  refine s_load (ad := ad.add (i.toNat * 1)) (v := v) hE' ?_ ?_ hd2 fun a2 hE2 => K _ _ hE2
  · simp [ev, find]
  · rw [Nat.mul_one]; exact hc

theorem s_field {t ft : TypeId} {i off size b : Nat} {z : Value} {ad : Addr} [TyF P t i off ft] [TyI P ft size z b] (hE : Env n L a) (hx : ev L x = some (.pointer (some ad))) (hs : Nat.beq size 0 = false) (hd : Nat.blt d n = true) (K : ∀ a', Env n ((d, .pointer (some (ad.add off))) :: L) a' → wpList P ops Q rest a' w) :
    wpList P ops Q (⟨some d, .fieldAddr t x i, ty, ps, af, none⟩ :: rest) a w := by
  obtain ⟨fs, f, h1, h2, h3, h4⟩ := TyF.out (P := P) (t := t) (i := i) (off := off) (ft := ft)
  have hs' : ¬ size = 0 := Nat.ne_of_beq_eq_false hs
  refine s_val hE rfl rfl hd ?_ K
  simp [execOp, Instr.fieldAt, Instr.sureAddr, hE.eval hx, run_underlying h1, h2, fieldPlace, h3, h4, run_size (size := size) (zero := z) (bytes := b), hs']
theorem s_nilCheck {ad : Addr} (hE : Env n L a) (hx : ev L x = some (.pointer (some ad))) (hd : Nat.blt d n = true) (K : ∀ a', Env n ((d, .pointer (some ad)) :: L) a' → wpList P ops Q rest a' w) :
    wpList P ops Q (⟨some d, .nilCheck x, ty, ps, af, none⟩ :: rest) a w :=
  s_val hE rfl rfl hd (by simp [execOp, hE.eval hx]) K

/-- a variable in memory -/
theorem s_box {t : TypeId} {v : Value} {cs : List Value} (hE : Env n L a) (hS : St w0 w H) (hx : ev L x = some v) (hv : v.cells = cs.toArray) (hd : Nat.blt d n = true) (K : ∀ g a' w', Env n ((d, .pointer (some ⟨g, 0, none⟩)) :: L) a' → St w0 w' (hBlk g t cs :: H) → wpList P ops Q rest a' w') :
    wpList P ops Q (⟨some d, .box t x, ty, ps, af, none⟩ :: rest) a w :=
  s_val (w' := w.alloc (.cells cs.toArray t)) (v := .pointer (some ⟨w.heap.size, 0, none⟩)) hE rfl rfl hd (by simp [execOp, Instr.box, newVar, newRow, hE.eval hx, hv]) fun a' hE' => K _ _ _ hE' (hS.alloc cs t)
theorem s_alloc {t size b : Nat} {z : Value} {cs : List Value} [TyI P t size z b] (hE : Env n L a) (hS : St w0 w H) (hv : z.cells = cs.toArray) (hd : Nat.blt d n = true) (K : ∀ g a' w', Env n ((d, .pointer (some ⟨g, 0, none⟩)) :: L) a' → St w0 w' (hBlk g t cs :: H) → wpList P ops Q rest a' w') :
    wpList P ops Q (⟨some d, .alloc t, ty, ps, af, none⟩ :: rest) a w :=
  s_val (w' := w.alloc (.cells cs.toArray t)) (v := .pointer (some ⟨w.heap.size, 0, none⟩)) hE rfl rfl hd (by simp [execOp, Instr.alloc, newVar, newRow, run_zero (size := size) (zero := z) (bytes := b), hv]) fun a' hE' => K _ _ _ hE' (hS.alloc cs t)
end
end Go.Proofs.Ytaiahigeejodaaa
