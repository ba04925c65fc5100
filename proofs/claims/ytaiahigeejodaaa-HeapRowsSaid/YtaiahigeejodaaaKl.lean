/-
  Structs, nil pointers, strings, cuts; what a function hands back out of memory.
-/
import Derived.Test.YtaiahigeejodaaaKk
import Derived.Laws.BytesString
import Derived.Laws.Strings
namespace Go.Proofs.Ytaiahigeejodaaa
open Go.RowKit
set_option linter.unusedVariables false
set_option linter.unusedSimpArgs false

/-! ## What is handed back -/
def Res (P : Program) (L : List (Nat × Value)) (w : World) : List ResultVar → List Value → Prop
  | [], [] => True
  | .tmp t :: rs, v :: vs => find L t = some v ∧ Res P L w rs vs
  | .cell t ty :: rs, v :: vs => (∃ ad, find L t = some (.pointer (some ad)) ∧ (loadVar ty ad).run P w = .ok v w) ∧ Res P L w rs vs
  | _, _ => False
def mkRes : List Value → Value
  | [v] => v
  | vs => .tuple vs.toArray
section
variable {P : Program} {fn : Func} {R : Value → World → Prop} {n : Nat} {L : List (Nat × Value)} {a : Act} {w : World}
def resOne (tmps : Array Value) : ResultVar → Sem Value
  | .tmp t => pure (tmps.getD t undef)
  | .cell a t => do loadVar t (← asAddr (tmps.getD a undef))
theorem Res.run (hE : Env n L a) : ∀ {rs : List ResultVar} {vs : List Value}, Res P L w rs vs → (rs.mapM (resOne a.tmps) : Sem (List Value)).run P w = .ok vs w
  | [], [], _ => rfl
  | .tmp t :: rs, v :: vs, h => by
    have h1 := hE.has t v h.1
    have h2 := Res.run hE h.2
    have e : a.tmps.getD t undef = v := by simp [Array.getD_eq_getD_getElem?, h1]
    simp only [List.mapM_cons, Sem.run_bind, resOne, e, Sem.run_pure, Result.andThen_ok, h2]
  | .cell t ty :: rs, v :: vs, h => by
    obtain ⟨⟨ad, h0, hl⟩, h3⟩ := h
    have h1 := hE.has t _ h0
    have h2 := Res.run hE h3
    have e : a.tmps.getD t undef = .pointer (some ad) := by simp [Array.getD_eq_getD_getElem?, h1]
    have h4 : (resOne a.tmps (.cell t ty)).run P w = .ok v w := by
      simp only [resOne, e, asAddr, Sem.run_bind, Sem.run_pure, Result.andThen_ok, hl]
    simp only [List.mapM_cons, Sem.run_bind, h4, Sem.run_pure, Result.andThen_ok, h2]
  | [], _ :: _, h => h.elim
  | .tmp _ :: _, [], h => h.elim
  | .cell _ _ :: _, [], h => h.elim
theorem results_eq (fn : Func) (tmps : Array Value) : results fn tmps = (do let vs ← fn.results.mapM (resOne tmps); pure (if h : vs.size = 1 then vs[0] else .tuple vs)) := by
  unfold results
  congr 1
theorem retG (hE : Env n L a) {rs : List ResultVar} {vs : List Value} (hr : fn.results = rs.toArray) (hv : Res P L w rs vs) (hR : R (mkRes vs) w) : Post P fn R .ret a w := by
  have h := Res.run hE hv
  have h' : (results fn a.tmps).run P w = .ok (mkRes vs) w := by
    rw [results_eq, hr]
    simp only [Array.mapM_eq_mapM_toList, Sem.run_bind, Sem.run_map, h, Result.andThen_ok, Sem.run_pure]
    congr 1
    match vs with
    | [] => rfl
    | [v] => rfl
    | v :: u :: vs => simp [mkRes]
  exact ⟨hE.defers, mkRes vs, h', mkRes vs, rfl, hR⟩
end

section
variable {P : Program} {ops : Array Oper} {Q : Exit → Act → World → Prop} {rest : List Oper} {n d : Nat} {L : List (Nat × Value)} {a : Act} {w w0 : World} {H : List HP} {gd : Option (Nat × Bool)}
variable {ty xt yt : TypeId} {ps : String} {af : Array Edge} {x y z : Operand} {k : Nat}

/-! ## Nil pointers -/
theorem r_eqp {e : TypeId} {p : Option Addr} [TyU P xt (.pointer e)] (hE : Env n L a) (hx : ev L x = some (.pointer p)) (hy : ev L y = some (.pointer none)) : (execOp a.eval ⟨some d, .binOp .eql xt x y yt, ty, ps, af, gd⟩).run P w = .ok (.value (.bool p.isNone)) w := by
  have hg : (eqGuard .eql xt x y (.pointer p) (.pointer none)).run P w = .ok () w := rfl
  have h1 : (Op.equal xt (.pointer p) (.pointer none)).run P w = .ok p.isNone w := by
    have e : Op.maxDepth = 9999 + 1 := rfl
    unfold Op.equal
    rw [e]
    unfold Op.equalIn
    cases p <;> simp only [Sem.run_bind, run_under (d := .pointer _), Result.andThen_ok, Sem.run_pure] <;> rfl
  simp only [execOp, hE.eval hx, hE.eval hy, Sem.run_bind, hg, Result.andThen_ok, binOp, h1, Sem.run_pure]
theorem r_nep {e : TypeId} {p : Option Addr} [TyU P xt (.pointer e)] (hE : Env n L a) (hx : ev L x = some (.pointer p)) (hy : ev L y = some (.pointer none)) : (execOp a.eval ⟨some d, .binOp .neq xt x y yt, ty, ps, af, gd⟩).run P w = .ok (.value (.bool (!p.isNone))) w := by
  have hg : (eqGuard .neq xt x y (.pointer p) (.pointer none)).run P w = .ok () w := rfl
  have h1 : (Op.equal xt (.pointer p) (.pointer none)).run P w = .ok p.isNone w := by
    have e : Op.maxDepth = 9999 + 1 := rfl
    unfold Op.equal
    rw [e]
    unfold Op.equalIn
    cases p <;> simp only [Sem.run_bind, run_under (d := .pointer _), Result.andThen_ok, Sem.run_pure] <;> rfl
  simp only [execOp, hE.eval hx, hE.eval hy, Sem.run_bind, hg, Result.andThen_ok, binOp, h1, Sem.run_pure]

/-! ## Cuts -/
theorem r_cutLH {t e : TypeId} {size b : Nat} {zz : Value} {A : Option Addr} {m c : Nat} {k k2 : IntKind} {l h : Int} [TyU P t (.slice e)] [TyI P e size zz b] (hE : Env n L a) (hx : ev L x = some (.slice A m c)) (hy : ev L y = some (.int k l)) (hz : ev L z = some (.int k2 h)) (hb : 0 ≤ h ∧ h ≤ c) (hb2 : 0 ≤ l ∧ l ≤ h) :
    (execOp a.eval ⟨some d, .slice t x (some y) (some z) none, ty, ps, af, gd⟩).run P w = .ok (.value (.slice (if c = l.toNat then A else A.map (·.add (l.toNat * size))) (h.toNat - l.toNat) (c - l.toNat))) w := by
  have hb3 : 0 ≤ l ∧ l ≤ (h.toNat : Int) := by omega
  simp [execOp, Instr.sliceAt, Instr.slice, Instr.sliceBounds, hE.eval hx, hE.eval hy, hE.eval hz, run_under (d := .slice e), run_bound h k2 c _ hb, run_bound l k h.toNat _ hb3, run_size (size := size) (zero := zz) (bytes := b)]
theorem r_cutL {t e : TypeId} {size b : Nat} {zz : Value} {A : Option Addr} {m c : Nat} {k : IntKind} {l : Int} [TyU P t (.slice e)] [TyI P e size zz b] (hE : Env n L a) (hx : ev L x = some (.slice A m c)) (hy : ev L y = some (.int k l)) (hb : 0 ≤ l ∧ l ≤ m) :
    (execOp a.eval ⟨some d, .slice t x (some y) none none, ty, ps, af, gd⟩).run P w = .ok (.value (.slice (if c = l.toNat then A else A.map (·.add (l.toNat * size))) (m - l.toNat) (c - l.toNat))) w := by
  simp [execOp, Instr.sliceAt, Instr.slice, Instr.sliceBounds, hE.eval hx, hE.eval hy, run_under (d := .slice e), run_bound l k m _ hb, run_size (size := size) (zero := zz) (bytes := b)]
theorem r_cutH {t e : TypeId} {size b : Nat} {zz : Value} {A : Option Addr} {m c : Nat} {k : IntKind} {h : Int} [TyU P t (.slice e)] [TyI P e size zz b] (hE : Env n L a) (hx : ev L x = some (.slice A m c)) (hy : ev L y = some (.int k h)) (hb : 0 ≤ h ∧ h ≤ c) :
    (execOp a.eval ⟨some d, .slice t x none (some y) none, ty, ps, af, gd⟩).run P w = .ok (.value (.slice A h.toNat c)) w := by
  have hA : (if c = 0 then A else A.map (·.add (0 * size))) = A := by
    split
    · rfl
    · cases A <;> simp [Addr.add]
  simp [execOp, Instr.sliceAt, Instr.slice, Instr.sliceBounds, hE.eval hx, hE.eval hy, run_under (d := .slice e), run_bound h k c _ hb, run_size (size := size) (zero := zz) (bytes := b)]
  simpa using hA
/-- what a cut reads -/
theorem Rd.cut {A : Option Addr} {cs : List Value} (h : Rd w A cs) {c l : Nat} (hl : cs.length ≤ c) (o : Nat) (ho : o = l) : Rd w (if c = l then A else A.map (·.add o)) (cs.drop o) := by
  subst ho
  split
  · have : cs.drop o = [] := List.drop_eq_nil_of_le (by omega)
    rw [this]
    exact Rd.nil
  · exact h.drop _
theorem Rd.cutS {A : Option Addr} {cs : List Value} (h : Rd w A cs) {c l size : Nat} (hl : cs.length ≤ c * size) : Rd w (if c = l then A else A.map (·.add (l * size))) (cs.drop (l * size)) := by
  split
  · rename_i hc
    subst hc
    have : cs.drop (c * size) = [] := List.drop_eq_nil_of_le hl
    rw [this]
    exact Rd.nil
  · exact h.drop _

/-! ## Strings -/
def str (xs : List Nat) : ByteArray := ⟨(xs.map UInt8.ofNat).toArray⟩
theorem r_str {e : TypeId} {A : Option Addr} {m c : Nat} {xs : List Nat} [TyU P xt (.slice e)] [TyU P yt .string] [TyU P e (.int .u8)] (hE : Env n L a) (hx : ev L x = some (.slice A m c)) (hr : Rd w A (bys xs)) (hl : xs.length = m) :
    (execOp a.eval ⟨some d, .convert xt yt x, ty, ps, af, gd⟩).run P w = .ok (.value (.string (str xs))) w := by
  subst hl
  have h1 : (Conv.bytesToString (.slice A xs.length c)).run P w = .ok (.string (str xs)) w := by
    cases A with
    | none =>
      have : xs = [] := by
        cases xs with
        | nil => rfl
        | cons x xs => exact absurd (hr (by simp [bys])) (by rintro ⟨ad, h, _⟩; cases h)
      subst this
      rfl
    | some ad =>
      have h3 : (loadCells ad xs.length).run P w = .ok ((xs.map fun (x : Nat) => (x : Int)).map (Value.int .u8)).toArray w := by
        have hq : ∀ j v, (bys xs)[j]? = some v → w.cell? (ad.add j) = some v := by
          intro j v hv
          obtain ⟨ad', e, hc⟩ := hr (by rintro h0; rw [h0] at hv; simp at hv)
          obtain rfl : ad = ad' := Option.some.inj e
          exact hc j v hv
        have := run_loadCells_list (P := P) w ad (bys xs) hq
        rw [bys_length] at this
        rw [this]
        simp [bys, Function.comp_def]
      have h2 := run_bytesToString (P := P) w ad xs.length c _ h3
      rw [h2]
      congr 2
      unfold str
      have : ∀ (l : List Nat) (s : ByteArray), (l.map fun (x : Nat) => (x : Int)).foldl (fun r n => r.push (UInt8.ofNat n.toNat)) s = ⟨s.data ++ (l.map UInt8.ofNat).toArray⟩ := by
        intro l
        induction l with
        | nil => intro s; simp
        | cons x l ih =>
          intro s
          simp only [List.map_cons, List.foldl_cons, ih, Int.toNat_natCast]
          simp [ByteArray.push]
      rw [this]
      simp [ByteArray.empty, ByteArray.emptyWithCapacity]
      rfl
  simp only [execOp, hE.eval hx, convert, Sem.run_bind, run_under (d := .slice e), run_under (d := .string), run_under (d := .int .u8), Result.andThen_ok, h1, Sem.run_pure]
theorem r_slt {p q : ByteArray} (hE : Env n L a) (hx : ev L x = some (.string p)) (hy : ev L y = some (.string q)) : (execOp a.eval ⟨some d, .binOp .lss xt x y yt, ty, ps, af, gd⟩).run P w = .ok (.value (.bool (Op.bytesLess p.toList q.toList))) w := by
  have hg : (eqGuard .lss xt x y (.string p) (.string q)).run P w = .ok () w := rfl
  simp only [execOp, hE.eval hx, hE.eval hy, Sem.run_bind, hg, Result.andThen_ok, binOp, Op.stringOp, Sem.run_pure]
theorem r_seq {p q : ByteArray} (hE : Env n L a) (hx : ev L x = some (.string p)) (hy : ev L y = some (.string q)) : (execOp a.eval ⟨some d, .binOp .eql xt x y yt, ty, ps, af, gd⟩).run P w = .ok (.value (.bool (p.toList == q.toList))) w := by
  have hg : (eqGuard .eql xt x y (.string p) (.string q)).run P w = .ok () w := rfl
  simp only [execOp, hE.eval hx, hE.eval hy, Sem.run_bind, hg, Result.andThen_ok, binOp, Op.stringOp, Sem.run_pure]
theorem r_sne {p q : ByteArray} (hE : Env n L a) (hx : ev L x = some (.string p)) (hy : ev L y = some (.string q)) : (execOp a.eval ⟨some d, .binOp .neq xt x y yt, ty, ps, af, gd⟩).run P w = .ok (.value (.bool (!(p.toList == q.toList)))) w := by
  have hg : (eqGuard .neq xt x y (.string p) (.string q)).run P w = .ok () w := rfl
  simp only [execOp, hE.eval hx, hE.eval hy, Sem.run_bind, hg, Result.andThen_ok, binOp, Op.stringOp, Sem.run_pure]
end
end Go.Proofs.Ytaiahigeejodaaa
