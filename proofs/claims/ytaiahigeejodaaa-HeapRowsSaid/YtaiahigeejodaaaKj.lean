/-
  A statement whose order is open, walked in one order: what only reads is taken first; what acts comes up alone, or way by way.
-/
import Derived.Test.YtaiahigeejodaaaKi
import Derived.OrdersHeld
namespace Go.Proofs.Ytaiahigeejodaaa
open Go.RowKit
set_option linter.unusedVariables false
set_option linter.unusedSimpArgs false

/-! ## What one operation yields -/
section
variable {P : Program} {n d : Nat} {L : List (Nat × Value)} {a : Act} {w : World} {gd : Option (Nat × Bool)}
variable {ty xt yt : TypeId} {ps : String} {af : Array Edge} {x y z : Operand} {k : IntKind} {i j : Int}
theorem r_move {v : Value} (hE : Env n L a) (hx : ev L x = some v) : (execOp a.eval ⟨some d, .move x, ty, ps, af, gd⟩).run P w = .ok (.value v) w := by simp [execOp, hE.eval hx]
theorem r_assign {v : Value} (hE : Env n L a) (hx : ev L x = some v) : (execOp a.eval ⟨some d, .assign x, ty, ps, af, gd⟩).run P w = .ok (.value v) w := by simp [execOp, hE.eval hx]
theorem r_pickT {v : Value} (hE : Env n L a) (hx : ev L x = some (.bool true)) (hv : ev L y = some v) : (execOp a.eval ⟨some d, .pick x y z, ty, ps, af, gd⟩).run P w = .ok (.value v) w := by simp [execOp, hE.eval hx, hE.eval hv, asBool]
theorem r_pickF {v : Value} (hE : Env n L a) (hx : ev L x = some (.bool false)) (hv : ev L z = some v) : (execOp a.eval ⟨some d, .pick x y z, ty, ps, af, gd⟩).run P w = .ok (.value v) w := by simp [execOp, hE.eval hx, hE.eval hv, asBool]
theorem r_eqb {b c : Bool} [TyU P xt .bool] (hE : Env n L a) (hx : ev L x = some (.bool b)) (hy : ev L y = some (.bool c)) : (execOp a.eval ⟨some d, .binOp .eql xt x y yt, ty, ps, af, gd⟩).run P w = .ok (.value (.bool (b == c))) w := by
  have hg : (eqGuard .eql xt x y (.bool b) (.bool c)).run P w = .ok () w := rfl
  have h1 : (Op.equal xt (.bool b) (.bool c)).run P w = .ok (b == c) w := by
    have e : Op.maxDepth = 9999 + 1 := rfl
    unfold Op.equal
    rw [e]
    unfold Op.equalIn
    simp only [Sem.run_bind, run_under (d := .bool), Result.andThen_ok, Sem.run_pure]
  simp only [execOp, hE.eval hx, hE.eval hy, Sem.run_bind, hg, Result.andThen_ok, binOp, h1, Sem.run_pure]
theorem r_neb {b c : Bool} [TyU P xt .bool] (hE : Env n L a) (hx : ev L x = some (.bool b)) (hy : ev L y = some (.bool c)) : (execOp a.eval ⟨some d, .binOp .neq xt x y yt, ty, ps, af, gd⟩).run P w = .ok (.value (.bool (b != c))) w := by
  have hg : (eqGuard .neq xt x y (.bool b) (.bool c)).run P w = .ok () w := rfl
  have h1 : (Op.equal xt (.bool b) (.bool c)).run P w = .ok (b == c) w := by
    have e : Op.maxDepth = 9999 + 1 := rfl
    unfold Op.equal
    rw [e]
    unfold Op.equalIn
    simp only [Sem.run_bind, run_under (d := .bool), Result.andThen_ok, Sem.run_pure]
  simp only [execOp, hE.eval hx, hE.eval hy, Sem.run_bind, hg, Result.andThen_ok, binOp, h1, Sem.run_pure]
  rfl
theorem r_eqnil {t e : TypeId} {A : Option Addr} {m c m2 c2 : Nat} [TyU P t (.slice e)] (hE : Env n L a) (hx : ev L x = some (.slice A m c)) (hy : ev L y = some (.slice none m2 c2)) : (execOp a.eval ⟨some d, .binOp .eql t x y yt, ty, ps, af, gd⟩).run P w = .ok (.value (.bool A.isNone)) w := by
  have hg : (eqGuard .eql t x y (.slice A m c) (.slice none m2 c2)).run P w = .ok () w := rfl
  have h1 := Lib.run_eql_slice_nil (P := P) w t e A m c m2 c2 TyU.out
  simp only [execOp, hE.eval hx, hE.eval hy, Sem.run_bind, hg, Result.andThen_ok, h1, Sem.run_pure]
theorem r_field {t ft : TypeId} {i off size b : Nat} {z : Value} {ad : Addr} [TyF P t i off ft] [TyI P ft size z b] (hE : Env n L a) (hx : ev L x = some (.pointer (some ad))) (hs : Nat.beq size 0 = false) : (execOp a.eval ⟨some d, .fieldAddr t x i, ty, ps, af, gd⟩).run P w = .ok (.value (.pointer (some (ad.add off)))) w := by
  obtain ⟨fs, f, h1, h2, h3, h4⟩ := TyF.out (P := P) (t := t) (i := i) (off := off) (ft := ft)
  have hs' : ¬ size = 0 := Nat.ne_of_beq_eq_false hs
  simp [execOp, Instr.fieldAt, Instr.sureAddr, hE.eval hx, run_underlying h1, h2, fieldPlace, h3, h4, run_size (size := size) (zero := z) (bytes := b), hs']
theorem r_add (hE : Env n L a) (hx : ev L x = some (.int k i)) (hy : ev L y = some (.int k j)) {r : Int} (hr : k.wrap (i + j) = r) : (execOp a.eval ⟨some d, .binOp .add xt x y yt, ty, ps, af, gd⟩).run P w = .ok (.value (.int k r)) w := by simp [execOp, hE.eval hx, hE.eval hy, eqg, binOp, Op.intArith, hr]
theorem r_sub (hE : Env n L a) (hx : ev L x = some (.int k i)) (hy : ev L y = some (.int k j)) {r : Int} (hr : k.wrap (i - j) = r) : (execOp a.eval ⟨some d, .binOp .sub xt x y yt, ty, ps, af, gd⟩).run P w = .ok (.value (.int k r)) w := by simp [execOp, hE.eval hx, hE.eval hy, eqg, binOp, Op.intArith, hr]
theorem r_mul (hE : Env n L a) (hx : ev L x = some (.int k i)) (hy : ev L y = some (.int k j)) {r : Int} (hr : k.wrap (i * j) = r) : (execOp a.eval ⟨some d, .binOp .mul xt x y yt, ty, ps, af, gd⟩).run P w = .ok (.value (.int k r)) w := by simp [execOp, hE.eval hx, hE.eval hy, eqg, binOp, Op.intArith, hr]
theorem r_quo (hE : Env n L a) (hx : ev L x = some (.int k i)) (hy : ev L y = some (.int k j)) (hj : j ≠ 0) {r : Int} (hr : k.wrap (i.tdiv j) = r) : (execOp a.eval ⟨some d, .binOp .quo xt x y yt, ty, ps, af, gd⟩).run P w = .ok (.value (.int k r)) w := by simp [execOp, hE.eval hx, hE.eval hy, eqg, binOp, Op.intDiv, hj, hr]
theorem r_rem (hE : Env n L a) (hx : ev L x = some (.int k i)) (hy : ev L y = some (.int k j)) (hj : j ≠ 0) {r : Int} (hr : i.tmod j = r) : (execOp a.eval ⟨some d, .binOp .rem xt x y yt, ty, ps, af, gd⟩).run P w = .ok (.value (.int k r)) w := by simp [execOp, hE.eval hx, hE.eval hy, eqg, binOp, Op.intDiv, hj, hr]
theorem r_and (hE : Env n L a) (hx : ev L x = some (.int k i)) (hy : ev L y = some (.int k j)) {r : Int} (hr : bits .and k i j = r) : (execOp a.eval ⟨some d, .binOp .and xt x y yt, ty, ps, af, gd⟩).run P w = .ok (.value (.int k r)) w := by simp [execOp, hE.eval hx, hE.eval hy, eqg, binOp, intBits_and, hr]
theorem r_or (hE : Env n L a) (hx : ev L x = some (.int k i)) (hy : ev L y = some (.int k j)) {r : Int} (hr : bits .or k i j = r) : (execOp a.eval ⟨some d, .binOp .or xt x y yt, ty, ps, af, gd⟩).run P w = .ok (.value (.int k r)) w := by simp [execOp, hE.eval hx, hE.eval hy, eqg, binOp, intBits_or, hr]
theorem r_xor (hE : Env n L a) (hx : ev L x = some (.int k i)) (hy : ev L y = some (.int k j)) {r : Int} (hr : bits .xor k i j = r) : (execOp a.eval ⟨some d, .binOp .xor xt x y yt, ty, ps, af, gd⟩).run P w = .ok (.value (.int k r)) w := by simp [execOp, hE.eval hx, hE.eval hy, eqg, binOp, intBits_xor, hr]
theorem r_shl {k' : IntKind} (hE : Env n L a) (hx : ev L x = some (.int k i)) (hy : ev L y = some (.int k' j)) (hj : 0 ≤ j) {r : Int} (hr : k.wrap (i * 2 ^ min j.toNat k.bits) = r) : (execOp a.eval ⟨some d, .binOp .shl xt x y yt, ty, ps, af, gd⟩).run P w = .ok (.value (.int k r)) w := by simp [execOp, hE.eval hx, hE.eval hy, eqg, binOp, Op.shift, show ¬ j < 0 from by omega, hr]
theorem r_shr {k' : IntKind} (hE : Env n L a) (hx : ev L x = some (.int k i)) (hy : ev L y = some (.int k' j)) (hj : 0 ≤ j) {r : Int} (hr : i.fdiv (2 ^ min j.toNat k.bits) = r) : (execOp a.eval ⟨some d, .binOp .shr xt x y yt, ty, ps, af, gd⟩).run P w = .ok (.value (.int k r)) w := by simp [execOp, hE.eval hx, hE.eval hy, eqg, binOp, Op.shift, show ¬ j < 0 from by omega, hr]
theorem r_lss (hE : Env n L a) (hx : ev L x = some (.int k i)) (hy : ev L y = some (.int k j)) : (execOp a.eval ⟨some d, .binOp .lss xt x y yt, ty, ps, af, gd⟩).run P w = .ok (.value (.bool (decide (i < j)))) w := by simp [execOp, hE.eval hx, hE.eval hy, eqg, binOp, Op.intCmp]
theorem r_leq (hE : Env n L a) (hx : ev L x = some (.int k i)) (hy : ev L y = some (.int k j)) : (execOp a.eval ⟨some d, .binOp .leq xt x y yt, ty, ps, af, gd⟩).run P w = .ok (.value (.bool (decide (i ≤ j)))) w := by simp [execOp, hE.eval hx, hE.eval hy, eqg, binOp, Op.intCmp]
theorem r_gtr (hE : Env n L a) (hx : ev L x = some (.int k i)) (hy : ev L y = some (.int k j)) : (execOp a.eval ⟨some d, .binOp .gtr xt x y yt, ty, ps, af, gd⟩).run P w = .ok (.value (.bool (decide (j < i)))) w := by simp [execOp, hE.eval hx, hE.eval hy, eqg, binOp, Op.intCmp]
theorem r_geq (hE : Env n L a) (hx : ev L x = some (.int k i)) (hy : ev L y = some (.int k j)) : (execOp a.eval ⟨some d, .binOp .geq xt x y yt, ty, ps, af, gd⟩).run P w = .ok (.value (.bool (decide (j ≤ i)))) w := by simp [execOp, hE.eval hx, hE.eval hy, eqg, binOp, Op.intCmp]
theorem r_eql (hE : Env n L a) (hx : ev L x = some (.int k i)) (hy : ev L y = some (.int k j)) : (execOp a.eval ⟨some d, .binOp .eql xt x y yt, ty, ps, af, gd⟩).run P w = .ok (.value (.bool (decide (i = j)))) w := by simp [execOp, hE.eval hx, hE.eval hy, eqg, binOp, Op.intCmp]; rfl
theorem r_neq (hE : Env n L a) (hx : ev L x = some (.int k i)) (hy : ev L y = some (.int k j)) : (execOp a.eval ⟨some d, .binOp .neq xt x y yt, ty, ps, af, gd⟩).run P w = .ok (.value (.bool (decide (i ≠ j)))) w := by simp [execOp, hE.eval hx, hE.eval hy, eqg, binOp, Op.intCmp, bne, instBEqOfDecidableEq]; rfl
theorem r_not {p : Prop} [Decidable p] (hE : Env n L a) (hx : ev L x = some (.bool (decide p))) : (execOp a.eval ⟨some d, .unOp .not xt x, ty, ps, af, gd⟩).run P w = .ok (.value (.bool (decide (¬ p)))) w := by simp [execOp, hE.eval hx, Op.unary]
theorem r_notb {b : Bool} (hE : Env n L a) (hx : ev L x = some (.bool b)) : (execOp a.eval ⟨some d, .unOp .not xt x, ty, ps, af, gd⟩).run P w = .ok (.value (.bool (!b))) w := by simp [execOp, hE.eval hx, Op.unary]
theorem r_com (hE : Env n L a) (hx : ev L x = some (.int k i)) {r : Int} (hr : bits .xor k (if k.signed then -1 else k.max) i = r) : (execOp a.eval ⟨some d, .unOp .xor xt x, ty, ps, af, gd⟩).run P w = .ok (.value (.int k r)) w := by simp [execOp, hE.eval hx, Op.unary, intBits_xor, hr]
theorem r_conv {k' : IntKind} {src dst : TypeId} {ds : TypeDesc} [TyU P src ds] [TyU P dst (.int k')] (hE : Env n L a) (hx : ev L x = some (.int k i)) {r : Int} (hr : k'.wrap i = r) : (execOp a.eval ⟨some d, .convert src dst x, ty, ps, af, gd⟩).run P w = .ok (.value (.int k' r)) w := by simp [execOp, hE.eval hx, convert, run_under (d := ds), run_under (d := .int k'), Conv.intToInt, hr]
theorem r_len {e : TypeId} {t : TypeId} {A : Option Addr} {m c : Nat} [TyU P t (.slice e)] (hE : Env n L a) (hx : ev L x = some (.slice A m c)) : (execOp a.eval ⟨some d, .call ⟨.builtin .len, #[x], #[t]⟩, ty, ps, af, gd⟩).run P w = .ok (.value (.int .i64 (m : Int))) w := by simp [execOp, resolve, invoke, builtin, Builtin.len_, hE.eval hx, run_under (d := .slice e), goInt]
theorem r_min {ts : Array TypeId} (hE : Env n L a) (hx : ev L x = some (.int k i)) (hy : ev L y = some (.int k j)) {r : Int} (hr : (if j < i then j else i) = r) : (execOp a.eval ⟨some d, .call ⟨.builtin .min, #[x, y], ts⟩, ty, ps, af, gd⟩).run P w = .ok (.value (.int k r)) w := by simp [execOp, resolve, invoke, builtin, Builtin.min_, Builtin.min2, hE.eval hx, hE.eval hy, hr]
theorem r_max {ts : Array TypeId} (hE : Env n L a) (hx : ev L x = some (.int k i)) (hy : ev L y = some (.int k j)) {r : Int} (hr : (if i < j then j else i) = r) : (execOp a.eval ⟨some d, .call ⟨.builtin .max, #[x, y], ts⟩, ty, ps, af, gd⟩).run P w = .ok (.value (.int k r)) w := by simp [execOp, resolve, invoke, builtin, Builtin.max_, Builtin.max2, hE.eval hx, hE.eval hy, hr]
theorem r_extract {i : Nat} {vs : List Value} {v : Value} (hE : Env n L a) (hx : ev L x = some (.tuple vs.toArray)) (hv : vs[i]? = some v) : (execOp a.eval ⟨some d, .extract x i, ty, ps, af, gd⟩).run P w = .ok (.value (v)) w := by simp [execOp, hE.eval hx, Instr.extract, hv]
theorem r_load {t : TypeId} {ad : Addr} {v : Value} [TyA P t false] (hE : Env n L a) (hx : ev L x = some (.pointer (some ad))) (hc : w.cell? ad = some v) : (execOp a.eval ⟨some d, .load t x, ty, ps, af, gd⟩).run P w = .ok (.value (v)) w := by simp [execOp, Instr.loadAt, Instr.sureAddr, hE.eval hx, run_loadVar1 hc]
theorem r_loadA {t : TypeId} {ad : Addr} {cs : List Value} {size b : Nat} {z : Value} [TyA P t true] [TyI P t size z b] (hE : Env n L a) (hx : ev L x = some (.pointer (some ad))) (hl : cs.length = size) (hc : ∀ j u, cs[j]? = some u → w.cell? (ad.add j) = some u) : (execOp a.eval ⟨some d, .load t x, ty, ps, af, gd⟩).run P w = .ok (.value (.agg cs.toArray)) w := by simp [execOp, Instr.loadAt, Instr.sureAddr, hE.eval hx, run_loadVarA (size := size) (z := z) (b := b) hl hc]
theorem r_idx {t e : TypeId} {size b : Nat} {z : Value} {A : Option Addr} {m c : Nat} {ad : Addr} {k : IntKind} {i : Int} [TyU P t (.slice e)] [TyI P e size z b] (hE : Env n L a) (hx : ev L x = some (.slice A m c)) (hy : ev L y = some (.int k i)) (h0 : 0 ≤ i) (h1 : i < m) (hA : A = some ad) : (execOp a.eval ⟨some d, .indexAddr t x y, ty, ps, af, gd⟩).run P w = .ok (.value (.pointer (some (ad.add (i.toNat * size))))) w := by subst hA; simp [execOp, Instr.indexAt, asIntOf, hE.eval hx, hE.eval hy, run_under (d := .slice e), run_size (size := size) (zero := z) (bytes := b), h0, h1]
theorem r_nilCheck {ad : Addr} (hE : Env n L a) (hx : ev L x = some (.pointer (some ad))) : (execOp a.eval ⟨some d, .nilCheck x, ty, ps, af, gd⟩).run P w = .ok (.value (.pointer (some ad))) w := by simp [execOp, hE.eval hx]
end

/-! ## A region that draws its order, in one order -/
section
variable {P : Program} {ops : Array Oper} {Q : Exit → Act → World → Prop} {S : World → Prop} {lt : Nat}
/-- whatever order is picked from here on; behind what comes up early S holds -/
def wpAnyT (P : Program) (ops : Array Oper) (Q : Exit → Act → World → Prop) (lt : Nat) : (World → Prop) → Nat → Array Bool → Act → World → Prop
  | _, 0, listed, a, w => Region.ready .any ops listed = [] ∧ Q .normal a w
  | S, fuel + 1, listed, a, w =>
    (Region.ready .any ops listed = [] → Q .normal a w) ∧
    ∀ i ∈ Region.ready .any ops listed, wpOp P ops Q i (fun a' w' => ∃ S' : World → Prop, (i < lt → (∀ u, S' u → S u) ∧ S' w') ∧ wpAnyT P ops Q lt S' fuel (listed.setIfInBounds i true) a' w') a w
theorem wpAny_of_T : ∀ (S : World → Prop) (fuel : Nat) (listed : Array Bool) (a : Act) (w : World), wpAnyT P ops Q lt S fuel listed a w → wpAny P .any ops Q fuel listed a w
  | _, 0, _, _, _, h => h
  | _, fuel + 1, _, _, _, h => ⟨h.1, fun i hi => wpOp_mono (fun a' w' ⟨S', _, h'⟩ => wpAny_of_T S' fuel _ a' w' h') (h.2 i hi)⟩
theorem yieldsIf_strong {S S' : World → Prop} {o : Oper} {v : Value} {a : Act} (h : YieldsIf P ops S o v a) (hs : ∀ u, S' u → S u) : YieldsIf P ops S' o v a :=
  h.imp (fun ⟨h1, h2⟩ => ⟨h1, fun w hw => h2 w (hs w hw)⟩) id
/-- an operation that does not act -/
def rdOp (o : Oper) : Bool := match o.op with
  | .store .. => false
  | .alloc .. => false
  | .box .. => false
  | .buildSlice .. => false
  | .makeSlice .. => false
  | .call c => match c.callee with
    | .value _ => false
    | .builtin .append => false
    | _ => true
  | _ => true
/-- those from lt on wait for all ahead of lt that do not act -/
def lateOk (ops : Array Oper) (lt : Nat) : Bool := (List.range ops.size).all fun j => Nat.blt j lt || match ops[j]? with
  | some o => (List.range lt).all fun i => ((ops[i]?).any rdOp).not || o.after.any fun e => Region.binds .any e && e.on == i
  | none => true
theorem late_early (hl : lateOk ops lt = true) {i j : Nat} {listed : Array Bool} {oi : Oper} (hoi : ops[i]? = some oi) (hrd : rdOp oi = true) (hi : i < lt) (hun : listed.getD i true = false) (hj : j ∈ Region.ready .any ops listed) : j < lt := by
  obtain ⟨_, o, ho, hall⟩ := mem_ready.1 hj
  have hjs : j < ops.size := (Array.getElem?_eq_some_iff.1 ho).1
  have h := List.all_eq_true.1 hl j (List.mem_range.2 hjs)
  simp only [ho, Bool.or_eq_true] at h
  rcases h with h | h
  · simpa [Nat.blt_eq] using h
  · have h2 := List.all_eq_true.1 h i (List.mem_range.2 hi)
    simp only [hoi, Option.any_some, hrd, Bool.not_true, Bool.false_or] at h2
    obtain ⟨e, he, hb⟩ := Array.any_eq_true'.1 h2
    simp only [Bool.and_eq_true, beq_iff_eq] at hb
    have h3 := hall e he hb.1
    rw [hb.2] at h3
    rcases Nat.lt_or_ge i listed.size with h' | h'
    · simp [h'] at hun h3; rw [hun] at h3; cases h3
    · simp [Array.getElem?_eq_none h'] at h3
theorem wpAnyT_first {i : Nat} {oi : Oper} {v : Value} (hlt : lateOk ops lt = true) (hrd : rdOp oi = true) (hil : i < lt) (hi : ops[i]? = some oi) (hsel : ∀ (j : Nat) (o : Oper) cs b, ops[j]? = some o → o.op ≠ .select cs b)
    (hQ : ∀ c a w, Q (.panic c) (a.put oi.dst v) w → Q (.panic c) a w) :
    ∀ (fuel : Nat) (S : World → Prop) (listed : Array Bool) (a : Act) (w : World),
      (∀ j oj, ops[j]? = some oj → j ≠ i → listed.getD j true = false → (∀ e ∈ oj.after, Region.binds .any e = true → e.on ≠ i) → oi.apart ops oj = true) →
      i ∈ Region.ready .any ops listed → YieldsIf P ops S oi v a → S w →
      wpAnyT P ops Q lt S fuel (listed.setIfInBounds i true) (a.put oi.dst v) w → wpAnyT P ops Q lt S (fuel + 1) listed a w := by
  intro fuel
  induction fuel with
  | zero =>
    intro S listed a w _ hr hy hS H
    refine ⟨fun h => (by rw [h] at hr; cases hr), fun j hj => ?_⟩
    by_cases hji : j = i
    · subst hji; exact hy.wpOp hi hS ⟨S, fun _ => ⟨fun _ h => h, hS⟩, H⟩
    · have := ready_mono hj hji
      rw [H.1] at this
      cases this
  | succ fuel ih =>
    intro S listed a w hfree hr hy hS H
    refine ⟨fun h => (by rw [h] at hr; cases hr), fun j hj => ?_⟩
    by_cases hji : j = i
    · subst hji; exact hy.wpOp hi hS ⟨S, fun _ => ⟨fun _ h => h, hS⟩, H⟩
    · have h1 := H.2 j (ready_mono hj hji)
      have hjl : j < lt := late_early hlt hi hrd hil (mem_ready.1 hr).1 hj
      obtain ⟨hjun, oj, hoj, hall⟩ := mem_ready.1 hj
      have hnot : ∀ e ∈ oj.after, Region.binds .any e = true → e.on ≠ i := fun e he hb heq => by
        have h1 := hall e he hb
        have h0 := (mem_ready.1 hr).1
        rw [heq] at h1
        rcases Nat.lt_or_ge i listed.size with h' | h'
        · simp [h'] at h0 h1; rw [h0] at h1; cases h1
        · simp [Array.getElem?_eq_none h'] at h1
      have h2 := wpOp_putIf hoj (hfree j oj hoj hji hjun hnot) (fun cs b => hsel i oi cs b hi) (fun cs b => hsel j oj cs b hoj) hQ hy h1
      have hfree' : ∀ k ok, ops[k]? = some ok → k ≠ i → (listed.setIfInBounds j true).getD k true = false →
          (∀ e ∈ ok.after, Region.binds .any e = true → e.on ≠ i) → oi.apart ops ok = true := fun k ok hk hki hun hno => by
        refine hfree k ok hk hki ?_ hno
        by_cases hjk : j = k
        · subst hjk; exact hjun
        · rw [getD_set_ne true hjk] at hun; exact hun
      refine wpOp_mono (fun a' w' h3 => ?_) h2
      obtain ⟨h31, S', h32, h33⟩ := h3
      obtain ⟨hs1, hs2⟩ := h32 hjl
      refine ⟨S', fun _ => ⟨hs1, hs2⟩, ih S' (listed.setIfInBounds j true) a' w' hfree' (ready_mono hr (Ne.symm hji)) (yieldsIf_strong h31 hs1) hs2 ?_⟩
      rw [Array.setIfInBounds_comm _ _ hji]
      exact h33
theorem wpAnyT_take {i : Nat} {oi : Oper} {v : Value} {fuel : Nat} {listed : Array Bool} {a : Act} {w : World} (hlt : lateOk ops lt = true) (hrd : rdOp oi = true) (hil : i < lt) (hi : ops[i]? = some oi)
    (hs : Region.noSelect ops = true) (hf : Region.free .any ops listed i = true) (hr : (Region.ready .any ops listed).contains i = true)
    (hQ : ∀ c a w, Q (.panic c) (a.put oi.dst v) w → Q (.panic c) a w) (hy : YieldsIf P ops S oi v a) (hS : S w)
    (h : wpAnyT P ops Q lt S fuel (listed.setIfInBounds i true) (a.put oi.dst v) w) : wpAnyT P ops Q lt S (fuel + 1) listed a w :=
  wpAnyT_first hlt hrd hil hi (Region.noSelect_spec hs) hQ fuel S listed a w (Region.free_spec hi hf) (by simpa using hr) hy hS h
theorem wpAnyT_all {rs : List Nat} {fuel : Nat} {listed : Array Bool} {a : Act} {w : World} (hr : Region.ready .any ops listed = rs) (hne : rs ≠ [])
    (h : ∀ i ∈ rs, wpOp P ops Q i (fun a' w' => ∃ S' : World → Prop, (i < lt → (∀ u, S' u → S u) ∧ S' w') ∧ wpAnyT P ops Q lt S' fuel (listed.setIfInBounds i true) a' w') a w) : wpAnyT P ops Q lt S (fuel + 1) listed a w :=
  ⟨fun h0 => absurd (hr ▸ h0) hne, hr ▸ h⟩
theorem wpAnyT_done {listed : Array Bool} {a : Act} {w : World} (hr : Region.ready .any ops listed = []) (h : Q .normal a w) :
    ∀ fuel, wpAnyT P ops Q lt S fuel listed a w
  | 0 => ⟨hr, h⟩
  | _ + 1 => ⟨fun _ => h, by rw [hr]; simp⟩
end

inductive Pl where
  | done
  | rd (i : Nat) (p : Pl)
  | ef (i : Nat) (p : Pl)
  | lt (i : Nat) (p : Pl)
  | ef2 (i : Nat) (p : Pl) (j : Nat) (q : Pl)
  | ef3 (i : Nat) (p : Pl) (j : Nat) (q : Pl) (m : Nat) (r : Pl)

def Pl.ok (l : List Oper) (k : Nat) : Pl → Nat → Array Bool → Bool
  | .done, f, b => Nat.beq f 0 && (Region.ready .any l.toArray b).isEmpty
  | .rd i p, f + 1, b => (l[i]?).any rdOp && Nat.blt i k && Region.free .any l.toArray b i && (Region.ready .any l.toArray b).contains i && p.ok l k f (b.setIfInBounds i true)
  | .ef i p, f + 1, b => (l[i]?).isSome && (Region.ready .any l.toArray b == [i]) && p.ok l k f (b.setIfInBounds i true)
  | .lt i p, f + 1, b => (l[i]?).isSome && Nat.ble k i && (Region.ready .any l.toArray b == [i]) && p.ok l k f (b.setIfInBounds i true)
  | .ef2 i p j q, f + 1, b => (l[i]?).isSome && (l[j]?).isSome && (Region.ready .any l.toArray b == [i, j]) && p.ok l k f (b.setIfInBounds i true) && q.ok l k f (b.setIfInBounds j true)
  | .ef3 i p j q m r, f + 1, b => (l[i]?).isSome && (l[j]?).isSome && (l[m]?).isSome && (Region.ready .any l.toArray b == [i, j, m]) && p.ok l k f (b.setIfInBounds i true) && q.ok l k f (b.setIfInBounds j true) && r.ok l k f (b.setIfInBounds m true)
  | _, 0, _ => false

def QN (Q : Act → World → Prop) : Exit → Act → World → Prop := fun e a w => e = .normal ∧ Q a w

/-- what is to be shown for one operation that acts -/
def wpE (P : Program) (l : List Oper) (i : Nat) (K : Act → World → Prop) (a : Act) (w : World) : Prop :=
  ∀ o, l[i]? = some o → wpList P l.toArray (fun e a' w' => e = .normal ∧ K a' w') [o] a w
def wpO (P : Program) (l : List Oper) (Q : Act → World → Prop) : (World → Prop) → Pl → Act → World → Prop
  | _, .done, a, w => Q a w
  | S, .rd i p, a, w => ∃ o v, l[i]? = some o ∧ YieldsIf P l.toArray S o v a ∧ S w ∧ wpO P l Q S p (a.put o.dst v) w
  | S, .ef i p, a, w => wpE P l i (fun a w => ∃ S' : World → Prop, (∀ u, S' u → S u) ∧ S' w ∧ wpO P l Q S' p a w) a w
  | S, .lt i p, a, w => wpE P l i (fun a w => wpO P l Q S p a w) a w
  | S, .ef2 i p j q, a, w => wpE P l i (fun a w => ∃ S' : World → Prop, (∀ u, S' u → S u) ∧ S' w ∧ wpO P l Q S' p a w) a w ∧ wpE P l j (fun a w => ∃ S' : World → Prop, (∀ u, S' u → S u) ∧ S' w ∧ wpO P l Q S' q a w) a w
  | S, .ef3 i p j q m r, a, w => wpE P l i (fun a w => ∃ S' : World → Prop, (∀ u, S' u → S u) ∧ S' w ∧ wpO P l Q S' p a w) a w ∧ wpE P l j (fun a w => ∃ S' : World → Prop, (∀ u, S' u → S u) ∧ S' w ∧ wpO P l Q S' q a w) a w ∧ wpE P l m (fun a w => ∃ S' : World → Prop, (∀ u, S' u → S u) ∧ S' w ∧ wpO P l Q S' r a w) a w

section
variable {P : Program} {l : List Oper} {Q : Act → World → Prop} {S : World → Prop}

theorem wpE_op {i : Nat} {a : Act} {w : World} {o : Oper} {K0 : Act → World → Prop} (ho : l[i]? = some o) (h : wpE P l i K0 a w) {K : Act → World → Prop} (hk : ∀ a' w', K0 a' w' → K a' w') :
    wpOp P l.toArray (QN Q) i K a w := by
  unfold wpE at h
  have h := h o ho
  unfold wpOp
  simp only [List.getElem?_toArray, ho]
  unfold wpList at h
  have fin : ∀ a' w', wpList P l.toArray (fun e a' w' => e = .normal ∧ K0 a' w') [] a' w' → K a' w' := by
    intro a' w' h'
    unfold wpList at h'
    exact hk _ _ h'.2
  split
  · rename_i hw
    rw [if_pos hw] at h
    left
    rcases h with h | ⟨_, a0, w0, h0, _⟩
    · unfold Oper.wp at h ⊢
      generalize (execOp a.eval o).run P w = r at h ⊢
      cases r with
      | ok nx w2 =>
        cases nx <;> simp only [Oper.upon] at h ⊢ <;> first
          | exact fin _ _ h
          | exact Calls.mono h (fun e w3 he => by
              cases e with
              | returned u => exact fin _ _ he
              | panicked ch => exact absurd he.1 (by simp)
              | outgrown => obtain ⟨a0, w0, h0, _⟩ := he; cases h0)
          | exact Rows.mono h (fun _ _ he => fin _ _ he)
          | exact absurd h.1 (by simp)
      | halt x w2 => cases x <;> simp only [Oper.upon] at h ⊢ <;> exact absurd h.1 (by simp)
    · cases h0
  · rename_i hw
    rw [if_neg hw] at h
    exact fin _ _ h

theorem Pl.sound (k : Nat) (hk0 : lateOk l.toArray k = true) : ∀ (S : World → Prop) (p : Pl) (f : Nat) (b : Array Bool) (a : Act) (w : World), Region.noSelect l.toArray = true → p.ok l k f b = true → wpO P l Q S p a w → wpAnyT P l.toArray (QN Q) k S f b a w
  | S, .done, f, b, a, w, hs, hk, h => by
    unfold wpO at h
    simp only [Pl.ok, Bool.and_eq_true] at hk
    exact wpAnyT_done (by simpa using hk.2) ⟨rfl, h⟩ f
  | S, .rd i p, 0, b, a, w, hs, hk, h => by simp [Pl.ok] at hk
  | S, .rd i p, f + 1, b, a, w, hs, hk, h => by
    unfold wpO at h
    obtain ⟨o, v, ho, hy, hS, h⟩ := h
    simp only [Pl.ok, Bool.and_eq_true] at hk
    exact wpAnyT_take (oi := o) (v := v) hk0 (by have := hk.1.1.1.1; rw [ho] at this; simpa using this) (by simpa [Nat.blt_eq] using hk.1.1.1.2) (by simpa using ho) hs hk.1.1.2 hk.1.2 (fun c a w h => absurd h.1 (by simp)) hy hS (Pl.sound k hk0 S p f _ _ _ hs hk.2 h)
  | S, .ef i p, 0, b, a, w, hs, hk, h => by simp [Pl.ok] at hk
  | S, .ef i p, f + 1, b, a, w, hs, hk, h => by
    unfold wpO at h
    simp only [Pl.ok, Bool.and_eq_true, beq_iff_eq] at hk
    obtain ⟨o, ho⟩ := Option.isSome_iff_exists.1 hk.1.1
    refine wpAnyT_all hk.1.2 (by simp) fun j hj => ?_
    simp only [List.mem_singleton] at hj
    subst hj
    exact wpE_op ho h fun a' w' ⟨S', h1, h2, h'⟩ => ⟨S', fun _ => ⟨h1, h2⟩, Pl.sound k hk0 S' p f _ _ _ hs hk.2 h'⟩
  | S, .lt i p, 0, b, a, w, hs, hk, h => by simp [Pl.ok] at hk
  | S, .lt i p, f + 1, b, a, w, hs, hk, h => by
    unfold wpO at h
    simp only [Pl.ok, Bool.and_eq_true, beq_iff_eq] at hk
    obtain ⟨o, ho⟩ := Option.isSome_iff_exists.1 hk.1.1.1
    have hle : k ≤ i := Nat.le_of_ble_eq_true hk.1.1.2
    refine wpAnyT_all hk.1.2 (by simp) fun j hj => ?_
    simp only [List.mem_singleton] at hj
    subst hj
    exact wpE_op ho h fun a' w' h' => ⟨S, fun hlt => absurd hlt (by omega), Pl.sound k hk0 S p f _ _ _ hs hk.2 h'⟩
  | S, .ef2 i p j q, 0, b, a, w, hs, hk, h => by simp [Pl.ok] at hk
  | S, .ef2 i p j q, f + 1, b, a, w, hs, hk, h => by
    unfold wpO at h
    simp only [Pl.ok, Bool.and_eq_true, beq_iff_eq] at hk
    obtain ⟨o, ho⟩ := Option.isSome_iff_exists.1 hk.1.1.1.1
    obtain ⟨o2, ho2⟩ := Option.isSome_iff_exists.1 hk.1.1.1.2
    refine wpAnyT_all hk.1.1.2 (by simp) fun m hm => ?_
    simp only [List.mem_cons, List.not_mem_nil, or_false] at hm
    rcases hm with rfl | rfl
    · exact wpE_op ho h.1 fun a' w' ⟨S', h1, h2, h'⟩ => ⟨S', fun _ => ⟨h1, h2⟩, Pl.sound k hk0 S' p f _ _ _ hs hk.1.2 h'⟩
    · exact wpE_op ho2 h.2 fun a' w' ⟨S', h1, h2, h'⟩ => ⟨S', fun _ => ⟨h1, h2⟩, Pl.sound k hk0 S' q f _ _ _ hs hk.2 h'⟩
  | S, .ef3 i p j q m r, 0, b, a, w, hs, hk, h => by simp [Pl.ok] at hk
  | S, .ef3 i p j q m r, f + 1, b, a, w, hs, hk, h => by
    unfold wpO at h
    simp only [Pl.ok, Bool.and_eq_true, beq_iff_eq] at hk
    obtain ⟨o, ho⟩ := Option.isSome_iff_exists.1 hk.1.1.1.1.1.1
    obtain ⟨o2, ho2⟩ := Option.isSome_iff_exists.1 hk.1.1.1.1.1.2
    obtain ⟨o3, ho3⟩ := Option.isSome_iff_exists.1 hk.1.1.1.1.2
    refine wpAnyT_all hk.1.1.1.2 (by simp) fun n hn => ?_
    simp only [List.mem_cons, List.not_mem_nil, or_false] at hn
    rcases hn with rfl | rfl | rfl
    · exact wpE_op ho h.1 fun a' w' ⟨S', h1, h2, h'⟩ => ⟨S', fun _ => ⟨h1, h2⟩, Pl.sound k hk0 S' p f _ _ _ hs hk.1.1.2 h'⟩
    · exact wpE_op ho2 h.2.1 fun a' w' ⟨S', h1, h2, h'⟩ => ⟨S', fun _ => ⟨h1, h2⟩, Pl.sound k hk0 S' q f _ _ _ hs hk.1.2 h'⟩
    · exact wpE_op ho3 h.2.2 fun a' w' ⟨S', h1, h2, h'⟩ => ⟨S', fun _ => ⟨h1, h2⟩, Pl.sound k hk0 S' r f _ _ _ hs hk.2 h'⟩

/-- the beginning; those from k on come last -/
theorem c_ord {id : Nat} {Q' : Exit → Act → World → Prop} {a : Act} {w : World} (S : World → Prop) (k : Nat) (p : Pl) (hm : P.follows .mixedOrders = true)
    (hk : (Region.noSelect l.toArray && lateOk l.toArray k && p.ok l k l.length (Array.replicate l.length false)) = true)
    (h : wpO P l (Q' .normal) S p a { w with drawn := w.drawn + 1 }) : (Code.region id l.toArray true).wp P Q' a w := by
  simp only [Bool.and_eq_true] at hk
  have h1 := Pl.sound k hk.1.2 S p _ _ _ _ hk.1.1 hk.2 h
  have h2 : (Code.region id l.toArray true).wp P (QN (Q' .normal)) a w := wp_region_any hm (wpAny_of_T S _ _ _ _ (by simpa using h1))
  refine wp_mono h2 ?_
  rintro e a w ⟨rfl, h⟩
  exact h

/-- an operation that reads, taken now -/
def wpR (P : Program) (l : List Oper) (Q : Act → World → Prop) (S : World → Prop) (o : Oper) (p : Pl) (a : Act) (w : World) : Prop :=
  ∃ v, YieldsIf P l.toArray S o v a ∧ S w ∧ wpO P l Q S p (a.put o.dst v) w

variable {n d : Nat} {L : List (Nat × Value)} {a : Act} {w : World}
theorem o_rd {i : Nat} {p : Pl} {o : Oper} (hi : l[i]? = some o) (h : wpR P l Q S o p a w) : wpO P l Q S (.rd i p) a w := by
  obtain ⟨v, h1, h2, h3⟩ := h
  unfold wpO
  exact ⟨o, v, hi, h1, h2, h3⟩
theorem o_ef {i : Nat} {p : Pl} {o : Oper} (hi : l[i]? = some o) (h : wpList P l.toArray (fun e a' w' => e = .normal ∧ ∃ S' : World → Prop, (∀ u, S' u → S u) ∧ S' w' ∧ wpO P l Q S' p a' w') [o] a w) : wpO P l Q S (.ef i p) a w := by
  unfold wpO wpE
  intro o' ho'
  obtain rfl : o = o' := Option.some.inj (hi.symm.trans ho')
  exact h
theorem o_lt {i : Nat} {p : Pl} {o : Oper} (hi : l[i]? = some o) (h : wpList P l.toArray (fun e a' w' => e = .normal ∧ wpO P l Q S p a' w') [o] a w) : wpO P l Q S (.lt i p) a w := by
  unfold wpO wpE
  intro o' ho'
  obtain rfl : o = o' := Option.some.inj (hi.symm.trans ho')
  exact h
theorem o_ef2 {i j : Nat} {p q : Pl} {o o2 : Oper} (hi : l[i]? = some o) (hj : l[j]? = some o2)
    (h : wpList P l.toArray (fun e a' w' => e = .normal ∧ ∃ S' : World → Prop, (∀ u, S' u → S u) ∧ S' w' ∧ wpO P l Q S' p a' w') [o] a w) (h2 : wpList P l.toArray (fun e a' w' => e = .normal ∧ ∃ S' : World → Prop, (∀ u, S' u → S u) ∧ S' w' ∧ wpO P l Q S' q a' w') [o2] a w) : wpO P l Q S (.ef2 i p j q) a w := by
  unfold wpO wpE
  refine ⟨fun o' ho' => ?_, fun o' ho' => ?_⟩
  · obtain rfl : o = o' := Option.some.inj (hi.symm.trans ho')
    exact h
  · obtain rfl : o2 = o' := Option.some.inj (hj.symm.trans ho')
    exact h2
theorem o_ef3 {i j m : Nat} {p q r : Pl} {o o2 o3 : Oper} (hi : l[i]? = some o) (hj : l[j]? = some o2) (hm : l[m]? = some o3)
    (h : wpList P l.toArray (fun e a' w' => e = .normal ∧ ∃ S' : World → Prop, (∀ u, S' u → S u) ∧ S' w' ∧ wpO P l Q S' p a' w') [o] a w) (h2 : wpList P l.toArray (fun e a' w' => e = .normal ∧ ∃ S' : World → Prop, (∀ u, S' u → S u) ∧ S' w' ∧ wpO P l Q S' q a' w') [o2] a w) (h3 : wpList P l.toArray (fun e a' w' => e = .normal ∧ ∃ S' : World → Prop, (∀ u, S' u → S u) ∧ S' w' ∧ wpO P l Q S' r a' w') [o3] a w) : wpO P l Q S (.ef3 i p j q m r) a w := by
  unfold wpO wpE
  refine ⟨fun o' ho' => ?_, fun o' ho' => ?_, fun o' ho' => ?_⟩
  · obtain rfl : o = o' := Option.some.inj (hi.symm.trans ho')
    exact h
  · obtain rfl : o2 = o' := Option.some.inj (hj.symm.trans ho')
    exact h2
  · obtain rfl : o3 = o' := Option.some.inj (hm.symm.trans ho')
    exact h3
theorem o_back {p : Pl} (S' : World → Prop) (h1 : ∀ u, S' u → S u) (hS : S' w) (h : wpO P l Q S' p a w) : (fun (e : Exit) (a' : Act) (w' : World) => e = .normal ∧ ∃ S' : World → Prop, (∀ u, S' u → S u) ∧ S' w' ∧ wpO P l Q S' p a' w') .normal a w := ⟨rfl, S', h1, hS, h⟩
theorem o_backL {p : Pl} (h : wpO P l Q S p a w) : (fun (e : Exit) (a' : Act) (w' : World) => e = .normal ∧ wpO P l Q S p a' w') .normal a w := ⟨rfl, h⟩
theorem o_done (h : Q a w) : wpO P l Q S .done a w := by unfold wpO; exact h

variable {dd : Option Tmp} {op : Op} {ty : TypeId} {ps : String} {af : Array Edge} {v : Value}
theorem d_val (hE : Env n L a) (hS : S w) (hd : Nat.blt d n = true) {p : Pl}
    (hrun : ∀ w, S w → (execOp a.eval ⟨some d, op, ty, ps, af, none⟩).run P w = .ok (.value v) w) (k : ∀ a', Env n ((d, v) :: L) a' → wpO P l Q S p a' w) : wpR P l Q S ⟨some d, op, ty, ps, af, none⟩ p a w :=
  ⟨v, .inl ⟨by simp [Region.wanted], hrun⟩, hS, k _ (hE.put hd v)⟩
variable {j dj : Nat} {want : Bool}
theorem d_yes {b : Bool} {p : Pl} (hE : Env n L a) (hj : (l[j]?).bind (·.dst) = some dj) (hb : find L dj = some (.bool b)) (hw : b = want) (h : wpR P l Q S ⟨some d, op, ty, ps, af, none⟩ p a w) : wpR P l Q S ⟨some d, op, ty, ps, af, some (j, want)⟩ p a w := by
  have hy : yielded l.toArray a.tmps j = some b := by
    have h1 := hE.has _ _ hb
    simp only [yielded, List.getElem?_toArray, hj, Option.bind_some, h1]
  obtain ⟨v, h1, h2, h3⟩ := h
  refine ⟨v, ?_, h2, h3⟩
  rcases h1 with ⟨_, h1⟩ | ⟨h1, _⟩
  · exact .inl ⟨by simp [Region.wanted, hy, hw], h1⟩
  · simp [Region.wanted] at h1
theorem d_no {b : Bool} {p : Pl} (hE : Env n L a) (hS : S w) (hj : (l[j]?).bind (·.dst) = some dj) (hb : find L dj = some (.bool b)) (hw : b = !want) (hd : Nat.blt d n = true) (k : ∀ a', Env n ((d, undef) :: L) a' → wpO P l Q S p a' w) : wpR P l Q S ⟨some d, op, ty, ps, af, some (j, want)⟩ p a w := by
  have hy : yielded l.toArray a.tmps j = some b := by
    have h1 := hE.has _ _ hb
    simp only [yielded, List.getElem?_toArray, hj, Option.bind_some, h1]
  refine ⟨undef, .inr ⟨?_, rfl⟩, hS, k _ (hE.put hd undef)⟩
  simp only [Region.wanted, hy]
  subst hw
  cases want <;> rfl
theorem d_un {p : Pl} (hE : Env n L a) (hS : S w) (hj : (l[j]?).bind (·.dst) = some dj) (hb : find L dj = some undef) (hd : Nat.blt d n = true) (k : ∀ a', Env n ((d, undef) :: L) a' → wpO P l Q S p a' w) : wpR P l Q S ⟨some d, op, ty, ps, af, some (j, want)⟩ p a w := by
  have hy : yielded l.toArray a.tmps j = none := by
    have h1 := hE.has _ _ hb
    simp only [yielded, List.getElem?_toArray, hj, Option.bind_some, h1]
    rfl
  refine ⟨undef, .inr ⟨?_, rfl⟩, hS, k _ (hE.put hd undef)⟩
  simp only [Region.wanted, hy]
  cases want <;> rfl
theorem d_dec {q : Prop} [Decidable q] {p : Pl} (hE : Env n L a) (hj : (l[j]?).bind (·.dst) = some dj) (hb : find L dj = some (.bool (decide q)))
    (ht : q → Env n ((dj, .bool true) :: L) a → wpR P l Q S ⟨some d, op, ty, ps, af, some (j, want)⟩ p a w) (hf : ¬ q → Env n ((dj, .bool false) :: L) a → wpR P l Q S ⟨some d, op, ty, ps, af, some (j, want)⟩ p a w) : wpR P l Q S ⟨some d, op, ty, ps, af, some (j, want)⟩ p a w := by
  by_cases hp : q
  · exact ht hp (hE.as hb (by simp [hp]))
  · exact hf hp (hE.as hb (by simp [hp]))
theorem d_bool {b : Bool} {p : Pl} (hE : Env n L a) (hj : (l[j]?).bind (·.dst) = some dj) (hb : find L dj = some (.bool b))
    (ht : b = true → Env n ((dj, .bool true) :: L) a → wpR P l Q S ⟨some d, op, ty, ps, af, some (j, want)⟩ p a w) (hf : b = false → Env n ((dj, .bool false) :: L) a → wpR P l Q S ⟨some d, op, ty, ps, af, some (j, want)⟩ p a w) : wpR P l Q S ⟨some d, op, ty, ps, af, some (j, want)⟩ p a w := by
  cases b
  · exact hf rfl (hE.more hb)
  · exact ht rfl (hE.more hb)
/-! ### Gates -/
variable {xt yt : TypeId} {x y z : Operand} {gd : Nat × Bool} {i : Nat} {p : Pl}
theorem q_move (h : wpR P l Q S ⟨some d, .move x, ty, ps, af, none⟩ p a w) : wpR P l Q S ⟨some d, .move x, ty, ps, af, none⟩ p a w := h
theorem q_assign (h : wpR P l Q S ⟨some d, .assign x, ty, ps, af, none⟩ p a w) : wpR P l Q S ⟨some d, .assign x, ty, ps, af, none⟩ p a w := h
theorem q_bin (op : BinOp) (h : wpR P l Q S ⟨some d, .binOp op xt x y yt, ty, ps, af, none⟩ p a w) : wpR P l Q S ⟨some d, .binOp op xt x y yt, ty, ps, af, none⟩ p a w := h
theorem q_un (op : UnOp) (h : wpR P l Q S ⟨some d, .unOp op xt x, ty, ps, af, none⟩ p a w) : wpR P l Q S ⟨some d, .unOp op xt x, ty, ps, af, none⟩ p a w := h
theorem q_conv (h : wpR P l Q S ⟨some d, .convert xt yt x, ty, ps, af, none⟩ p a w) : wpR P l Q S ⟨some d, .convert xt yt x, ty, ps, af, none⟩ p a w := h
theorem q_blt (b : Builtin) {xs : Array Operand} {ts : Array TypeId} (h : wpR P l Q S ⟨some d, .call ⟨.builtin b, xs, ts⟩, ty, ps, af, none⟩ p a w) : wpR P l Q S ⟨some d, .call ⟨.builtin b, xs, ts⟩, ty, ps, af, none⟩ p a w := h
theorem q_extract (h : wpR P l Q S ⟨some d, .extract x i, ty, ps, af, none⟩ p a w) : wpR P l Q S ⟨some d, .extract x i, ty, ps, af, none⟩ p a w := h
theorem q_fa (h : wpR P l Q S ⟨some d, .fieldAddr xt x i, ty, ps, af, none⟩ p a w) : wpR P l Q S ⟨some d, .fieldAddr xt x i, ty, ps, af, none⟩ p a w := h
theorem q_nc (h : wpR P l Q S ⟨some d, .nilCheck x, ty, ps, af, none⟩ p a w) : wpR P l Q S ⟨some d, .nilCheck x, ty, ps, af, none⟩ p a w := h
theorem q_pick (h : wpR P l Q S ⟨some d, .pick x y z, ty, ps, af, none⟩ p a w) : wpR P l Q S ⟨some d, .pick x y z, ty, ps, af, none⟩ p a w := h
theorem q_ia (h : wpR P l Q S ⟨some d, .indexAddr xt x y, ty, ps, af, none⟩ p a w) : wpR P l Q S ⟨some d, .indexAddr xt x y, ty, ps, af, none⟩ p a w := h
theorem q_load (h : wpR P l Q S ⟨some d, .load xt x, ty, ps, af, none⟩ p a w) : wpR P l Q S ⟨some d, .load xt x, ty, ps, af, none⟩ p a w := h
theorem q_guard (h : wpR P l Q S ⟨dd, op, ty, ps, af, some (j, want)⟩ p a w) : wpR P l Q S ⟨dd, op, ty, ps, af, some (j, want)⟩ p a w := h
end
end Go.Proofs.Ytaiahigeejodaaa
