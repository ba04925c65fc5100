/-
  Structs of numbers, held against each other.
-/
import Derived.Test.YtaiahigeejodaaaKx
namespace Go.Proofs.Ytaiahigeejodaaa
open Go.RowKit
set_option linter.unusedVariables false
set_option linter.unusedSimpArgs false

/-- a struct's fields: where each stands, and its type -/
class TyE (P : Program) (t : TypeId) (fs : outParam (List (Nat × TypeId))) : Prop where
  out : ∃ F : Array Field, P.underlying t = some (.struct F) ∧ (F.toList.all fun f => f.name != "_") = true ∧ F.toList.map (fun f => (f.offset, f.type)) = fs
  held : P.stoodInHeld t = false
def eqF (d : Nat) (xs ys : Array Value) : List (Nat × TypeId) → Sem Bool
  | [] => pure true
  | (o, t) :: fs => do
    let a ← part t xs o
    let b ← part t ys o
    let r ← Op.equalIn d t a b
    if (!r) = true then pure false else eqF d xs ys fs
theorem eqF_of {d : Nat} {xs ys : Array Value} : ∀ (F : List Field), (F.all fun f => f.name != "_") = true → Op.eqFields d xs ys F = eqF d xs ys (F.map fun f => (f.offset, f.type))
  | [], _ => rfl
  | f :: F, h => by
    rw [List.all_cons, Bool.and_eq_true] at h
    have hn : f.name ≠ "_" := by simpa using h.1
    rw [List.map_cons]
    unfold Op.eqFields eqF
    rw [if_pos hn, eqF_of F h.2]
section
variable {P : Program} {w : World}
theorem es_struct {d : Nat} {t : TypeId} {fs : List (Nat × TypeId)} {xs ys : Array Value} [h : TyE P t fs] : (Op.equalIn (d + 1) t (.agg xs) (.agg ys)).run P w = (eqF d xs ys fs).run P w := by
  obtain ⟨F, h1, h2, h3⟩ := h.out
  have hf : P.fieldsOf t = F := by unfold Program.fieldsOf; rw [h1]
  rw [run_equalIn_struct w d t xs ys (by rw [hf]; exact h1) h.held, hf, eqF_of _ h2, h3]
theorem es_cons {d o : Nat} {t : TypeId} {fs : List (Nat × TypeId)} {xs ys : Array Value} {a b : Value} {r r2 : Bool} (pa : (part t xs o).run P w = .ok a w) (pb : (part t ys o).run P w = .ok b w) (he : (Op.equalIn d t a b).run P w = .ok r w) (hr : (eqF d xs ys fs).run P w = .ok r2 w) :
    (eqF d xs ys ((o, t) :: fs)).run P w = .ok (r && r2) w := by
  unfold eqF
  simp only [Sem.run_bind, pa, pb, he, Result.andThen_ok, Sem.run_ite]
  cases r
  · simp
  · simpa using hr
theorem es_nil {d : Nat} {xs ys : Array Value} : (eqF d xs ys []).run P w = .ok true w := by simp [eqF]
theorem es_int {d : Nat} {t : TypeId} {k k' : IntKind} {m n : Int} [TyU P t (.int k')] : (Op.equalIn (d + 1) t (.int k m) (.int k n)).run P w = .ok (decide (m = n)) w := by
  rw [run_equalIn_int w d t k k' m n (TyU.out (P := P) (t := t))]
  congr 1
theorem es_p1 {t : TypeId} {xs : List Value} {o : Nat} {v : Value} [TyA P t false] (h : xs[o]? = some v) : (part t xs.toArray o).run P w = .ok v w := by
  unfold part
  simp only [Sem.run_bind, run_isA (P := P) (w := w) (t := t) (b := false), Result.andThen_ok]
  simp [h]
theorem es_pA {t : TypeId} {xs ys : List Value} {o size b : Nat} {z : Value} [TyA P t true] [TyI P t size z b] (h : (xs.drop o).take size = ys) : (part t xs.toArray o).run P w = .ok (.agg ys.toArray) w := by
  unfold part
  simp only [Sem.run_bind, run_isA (P := P) (w := w) (t := t) (b := true), Result.andThen_ok, if_true, run_size (P := P) (t := t) (size := size) (zero := z) (bytes := b)]
  subst h
  simp [List.extract]
variable {n d : Nat} {L : List (Nat × Value)} {a : Act} {ty xt yt : TypeId} {ps : String} {af : Array Edge} {x y : Operand} {gd : Option (Nat × Bool)}
theorem r_eqT {xs ys : Array Value} {r : Bool} [TyG P xt] (hE : Env n L a) (hx : ev L x = some (.agg xs)) (hy : ev L y = some (.agg ys)) (h : (Op.equalIn 10000 xt (.agg xs) (.agg ys)).run P w = .ok r w) :
    (execOp a.eval ⟨some d, .binOp .eql xt x y yt, ty, ps, af, gd⟩).run P w = .ok (.value (.bool r)) w := by
  have hg := run_eqGuard_agg w .eql xt x y xs ys (TyG.out (P := P) (t := xt))
  have h1 := run_eql_struct (P := P) w xt xs ys
  rw [h] at h1
  simp only [execOp, hE.eval hx, hE.eval hy, Sem.run_bind, hg, Result.andThen_ok, h1, Sem.run_pure]
theorem r_neT {xs ys : Array Value} {r : Bool} [TyG P xt] (hE : Env n L a) (hx : ev L x = some (.agg xs)) (hy : ev L y = some (.agg ys)) (h : (Op.equalIn 10000 xt (.agg xs) (.agg ys)).run P w = .ok r w) :
    (execOp a.eval ⟨some d, .binOp .neq xt x y yt, ty, ps, af, gd⟩).run P w = .ok (.value (.bool (!r))) w := by
  have hg := run_eqGuard_agg w .neq xt x y xs ys (TyG.out (P := P) (t := xt))
  have h1 := run_neq_struct (P := P) w xt xs ys
  rw [h] at h1
  simp only [execOp, hE.eval hx, hE.eval hy, Sem.run_bind, hg, Result.andThen_ok, h1, Sem.run_pure]
end
end Go.Proofs.Ytaiahigeejodaaa
