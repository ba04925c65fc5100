/-
  Structs built, kept, handed on.
-/
import Derived.Test.YtaiahigeejodaaaKl
namespace Go.Proofs.Ytaiahigeejodaaa
open Go.RowKit
set_option linter.unusedVariables false
set_option linter.unusedSimpArgs false

def placesOf (P : Program) (t : TypeId) : Option (List (Nat × Nat)) :=
  match P.underlying t with
  | some (.struct fs) => fs.toList.mapM (fun f => (P.info? f.type).map fun i => (f.offset, i.size))
  | some (.array len e) => (P.info? e).map fun i => (List.range len).map fun j => (j * i.size, i.size)
  | _ => none
/-- a struct: where its parts lie, its zero cells -/
class TyS (P : Program) (t : TypeId) (places : outParam (List (Nat × Nat))) (zero : outParam (List Value)) : Prop where
  zero : (P.info? t).bind (·.zero) = some (.agg zero.toArray)
  places : placesOf P t = some places

def fillL (places : List (Nat × Nat)) : List Value → List (Nat × Value) → Option (List Value)
  | cur, [] => some cur
  | cur, (i, v) :: rest => match places[i]? with
    | none => none
    | some (off, size) => bif Nat.beq v.cells.toList.length size && Nat.ble (off + v.cells.toList.length) cur.length then fillL places (splice cur off v.cells.toList) rest else none
theorem foldl_splice : ∀ (vs : List Value) (cur : List Value) (off i : Nat), off + i + vs.length ≤ cur.length →
    ((vs.zipIdx i).foldl (fun (cs : Array Value) (x : Value × Nat) => cs.setIfInBounds (off + x.2) x.1) cur.toArray) = (splice cur (off + i) vs).toArray
  | [], cur, off, i, _ => by simp [splice]
  | v :: vs, cur, off, i, h => by
    have ih := foldl_splice vs (cur.set (off + i) v) off (i + 1) (by simp at h ⊢; omega)
    simp only [List.zipIdx_cons, List.foldl_cons]
    have e : (cur.toArray.setIfInBounds (off + i) v) = (cur.set (off + i) v).toArray := by simp
    rw [e, ih]
    congr 1
    have := list_seg_step cur (off + i) v vs (by simp at h; omega)
    simpa [splice, Nat.add_assoc] using this
theorem fill_fillG (places : List (Nat × Nat)) (pl : Nat → Option (Nat × Nat)) (hpl : ∀ i q, places[i]? = some q → pl i = some q) : ∀ (ps : List (Nat × Value)) (cur cs : List Value), fillL places cur ps = some cs → Instr.fill pl cur.toArray ps = some cs.toArray
  | [], cur, cs, h => by simp [fillL] at h; subst h; rfl
  | (i, v) :: rest, cur, cs, h => by
    unfold fillL at h
    cases hp : places[i]? with
    | none => simp [hp] at h
    | some p =>
      obtain ⟨off, size⟩ := p
      simp only [hp] at h
      cases hb : (Nat.beq v.cells.toList.length size && Nat.ble (off + v.cells.toList.length) cur.length) with
      | false => rw [hb] at h; cases h
      | true =>
        rw [hb] at h
        simp only [cond_true] at h
        simp only [Bool.and_eq_true] at hb
        have h1 : v.cells.size = size := by have := Nat.eq_of_beq_eq_true hb.1; simpa using this
        have h2 : off + v.cells.size ≤ cur.length := by have := Nat.le_of_ble_eq_true hb.2; simpa using this
        unfold Instr.fill
        simp only [hpl _ _ hp]
        rw [if_neg (by simp; omega)]
        have e := foldl_splice v.cells.toList cur off 0 (by simpa using h2)
        have e2 : v.cells.zipIdx.foldl (fun (cs : Array Value) (x : Value × Nat) => cs.setIfInBounds (off + x.2) x.1) cur.toArray = (splice cur off v.cells.toList).toArray := by
          rw [← Array.foldl_toList, Array.toList_zipIdx]
          simpa using e
        have := fill_fillG places pl hpl rest _ cs h
        rw [← e2] at this
        exact this
theorem fill_fillL (places : List (Nat × Nat)) (ps : List (Nat × Value)) (cur cs : List Value) (h : fillL places cur ps = some cs) : Instr.fill (fun i => places[i]?) cur.toArray ps = some cs.toArray := fill_fillG places _ (fun _ _ h => h) ps cur cs h
def zipI : List Nat → List Value → List (Nat × Value)
  | i :: is, v :: vs => (i, v) :: zipI is vs
  | _, _ => []
section
variable {P : Program} {ops : Array Oper} {Q : Exit → Act → World → Prop} {rest : List Oper} {n d : Nat} {L : List (Nat × Value)} {a : Act} {w w0 : World} {H : List HP} {gd : Option (Nat × Bool)}
variable {ty xt yt : TypeId} {ps : String} {af : Array Edge} {x y z : Operand} {k : Nat}
theorem built_of {t : TypeId} {places : List (Nat × Nat)} {zero cs : List Value} [h : TyS P t places zero] {parts : List (Nat × Value)} (hf : fillL places zero parts = some cs) : P.built t parts = some cs.toArray := by
  have h1 := h.zero
  have h2 := h.places
  unfold placesOf at h2
  obtain ⟨it, hit, hz⟩ := Option.bind_eq_some_iff.1 h1
  unfold Program.built
  cases hu : P.underlying t with
  | none => simp [hu] at h2
  | some dd =>
    rw [hu] at h2
    cases dd <;> try (simp at h2; done)
    · rename_i len e
      simp only [hit, hz] at h2 ⊢
      cases hi : P.info? e with
      | none => rw [hi] at h2; cases h2
      | some ie =>
        rw [hi] at h2
        simp only [Option.map_some, Option.some.injEq] at h2
        subst h2
        have := fill_fillG _ (fun i => some (i * ie.size, ie.size)) (fun i q hq => by
          rw [List.getElem?_map] at hq
          cases hr : (List.range len)[i]? with
          | none => rw [hr] at hq; cases hq
          | some j =>
            rw [hr] at hq
            have := List.getElem?_eq_some_iff.1 hr
            obtain ⟨h3, h4⟩ := this
            rw [List.getElem_range] at h4
            subst h4
            exact hq) parts zero cs hf
        simpa [Value.cells] using this
    · rename_i fs
      simp only [hit, hz] at h2 ⊢
      rw [h2]
      have := fill_fillL places parts zero cs hf
      simpa [Value.cells] using this
/-- T{..} -/
theorem r_build {t : TypeId} {places : List (Nat × Nat)} {zero vs : List Value} {parts : List (Nat × Operand)} [TyS P t places zero] (cs : List Value) (hE : Env n L a) (hv : evs L (parts.map (·.2)) = some vs) (hf : fillL places zero (zipI (parts.map (·.1)) vs) = some cs) :
    (execOp a.eval ⟨some d, .build t parts.toArray, ty, ps, af, gd⟩).run P w = .ok (.value (.agg cs.toArray)) w := by
  have hv2 := hE.evals hv
  have key : ∀ (q : List (Nat × Operand)) (vs : List Value), (q.map (·.2)).map a.eval = vs → q.map (fun p => (p.1, a.eval p.2)) = zipI (q.map (·.1)) vs := by
    intro q
    induction q with
    | nil => intro vs h; rfl
    | cons p q ih =>
      intro vs h
      cases vs with
      | nil => simp at h
      | cons v vs =>
        simp only [List.map_cons, List.cons.injEq] at h
        simp only [List.map_cons, zipI, ih vs h.2, h.1]
  have hb := built_of (P := P) (t := t) (parts := zipI (parts.map (·.1)) vs) hf
  rw [← key parts vs hv2] at hb
  have := run_build (P := P) w t (parts.map fun p => (p.1, a.eval p.2)).toArray cs.toArray (by simpa using hb)
  simp only [execOp, List.map_toArray, Sem.run_bind, this, Result.andThen_ok, Sem.run_pure]
theorem s_build {t : TypeId} {places : List (Nat × Nat)} {zero vs : List Value} {parts : List (Nat × Operand)} [TyS P t places zero] (cs : List Value) (hE : Env n L a) (hv : evs L (parts.map (·.2)) = some vs) (hf : fillL places zero (zipI (parts.map (·.1)) vs) = some cs) (hd : Nat.blt d n = true) (K : ∀ a', Env n ((d, .agg cs.toArray) :: L) a' → wpList P ops Q rest a' w) :
    wpList P ops Q (⟨some d, .build t parts.toArray, ty, ps, af, none⟩ :: rest) a w := s_val hE rfl rfl hd (r_build cs hE hv hf) K
/-- a struct laid into a block, told anew -/
theorem s_storeBs' {t u g o b size : Nat} {z : Value} {cs vs : List Value} (cs' : List Value) [TyI P t size z b] (hS : St w0 w H) (hE : Env n L a) (hx : ev L x = some (.pointer (some ⟨g, o, none⟩))) (hy : ev L y = some (.agg vs.toArray)) (hk : H[k]? = some (hBlk g u cs)) (hcs : splice cs o vs = cs') (hs : vs.length = size) (ho : o + size ≤ cs.length) (h1 : ∀ v ∈ vs, v.oneCell' = true)
    (K : ∀ w', St w0 w' (H.set k (hBlk g u cs')) → wpList P ops Q rest a w') :
    wpList P ops Q (⟨none, .store t x y, ty, ps, af, none⟩ :: rest) a w := by
  subst hcs
  exact s_storeBs hS hE hx hy hk hs ho h1 K
/-- a new variable -/
theorem s_allocL {t size b : Nat} {zz : Value} (cs : List Value) [TyI P t size zz b] (hE : Env n L a) (hS : St w0 w H) (hv : zz.cells = cs.toArray) (hd : Nat.blt d n = true) (K : ∀ g a' w', Env n ((d, .pointer (some ⟨g, 0, none⟩)) :: L) a' → St w0 w' (hBlk g t cs :: H) → wpList P ops Q rest a' w') :
    wpList P ops Q (⟨some d, .alloc t, ty, ps, af, none⟩ :: rest) a w := s_alloc hE hS hv hd K
/-- a part of a struct's value -/
theorem r_part1 {t ft : TypeId} {i off : Nat} {cs : List Value} {v : Value} [TyF P t i off ft] [TyA P ft false] (hE : Env n L a) (hx : ev L x = some (.agg cs.toArray)) (hv : cs[off]? = some v) :
    (execOp a.eval ⟨some d, .field t x i, ty, ps, af, gd⟩).run P w = .ok (.value v) w := by
  obtain ⟨fs, f, h1, h2, h3, h4⟩ := TyF.out (P := P) (t := t) (i := i) (off := off) (ft := ft)
  subst h3 h4
  simp [execOp, Instr.field, hE.eval hx, run_underlying h1, h2, asAgg, part, run_isA (b := false), hv]
theorem r_partA {t ft : TypeId} {i off size b : Nat} {zz : Value} {cs vs : List Value} [TyF P t i off ft] [TyA P ft true] [TyI P ft size zz b] (hE : Env n L a) (hx : ev L x = some (.agg cs.toArray)) (hv : (cs.drop off).take size = vs) :
    (execOp a.eval ⟨some d, .field t x i, ty, ps, af, gd⟩).run P w = .ok (.value (.agg vs.toArray)) w := by
  obtain ⟨fs, f, h1, h2, h3, h4⟩ := TyF.out (P := P) (t := t) (i := i) (off := off) (ft := ft)
  subst h3 h4 hv
  simp [execOp, Instr.field, hE.eval hx, run_underlying h1, h2, asAgg, part, run_isA (b := true), run_size (size := size) (zero := zz) (bytes := b), List.extract_toArray, List.extract_eq_take_drop]
/-- a part of an array's value -/
theorem r_index1 {t e : TypeId} {len size b : Nat} {zz v : Value} {cs : List Value} {k : IntKind} {i : Int} [TyU P t (.array len e)] [TyA P e false] [TyI P e size zz b] (hE : Env n L a) (hx : ev L x = some (.agg cs.toArray)) (hy : ev L y = some (.int k i)) (h0 : 0 ≤ i) (h1 : i < (len : Int)) (hv : cs[i.toNat * size]? = some v) :
    (execOp a.eval ⟨some d, .index t x y, ty, ps, af, gd⟩).run P w = .ok (.value v) w := by
  simp [execOp, Instr.index, asIntOf, hE.eval hx, hE.eval hy, run_under (d := .array len e), part, run_isA (b := false), run_size (size := size) (zero := zz) (bytes := b), h0, h1, hv]
theorem r_indexA {t e : TypeId} {len size b : Nat} {zz : Value} {cs vs : List Value} {k : IntKind} {i : Int} [TyU P t (.array len e)] [TyA P e true] [TyI P e size zz b] (hE : Env n L a) (hx : ev L x = some (.agg cs.toArray)) (hy : ev L y = some (.int k i)) (h0 : 0 ≤ i) (h1 : i < (len : Int)) (hv : (cs.drop (i.toNat * size)).take size = vs) :
    (execOp a.eval ⟨some d, .index t x y, ty, ps, af, gd⟩).run P w = .ok (.value (.agg vs.toArray)) w := by
  subst hv
  simp [execOp, Instr.index, asIntOf, hE.eval hx, hE.eval hy, run_under (d := .array len e), part, run_isA (b := true), run_size (size := size) (zero := zz) (bytes := b), h0, h1, List.extract_toArray, List.extract_eq_take_drop]
theorem g_index (h : wpList P ops Q (⟨some d, .index xt x y, ty, ps, af, none⟩ :: rest) a w) : wpList P ops Q (⟨some d, .index xt x y, ty, ps, af, none⟩ :: rest) a w := h
theorem r_func {fn : Go.Fn} {first cap : List Operand} {fv cv : List Value} (hE : Env n L a) (hf : evs L first = some fv) (hc : evs L cap = some cv) :
    (execOp a.eval ⟨some d, .makeFunc fn first.toArray cap.toArray, ty, ps, af, gd⟩).run P w = .ok (.value (.func fn fv.toArray cv.toArray)) w := by
  have h1 := hE.evals hf
  have h2 := hE.evals hc
  simp [execOp, Instr.makeFunc, h1, h2]
end
section
variable {P : Program} {ops : Array Oper} {Q : Exit → Act → World → Prop} {rest : List Oper} {d : Nat} {a : Act} {w : World}
variable {ty xt yt : TypeId} {ps : String} {af : Array Edge} {x y z : Operand} {xs : Array Operand} {ts : Array TypeId}
theorem g_call {f : FuncId} (h : wpList P ops Q (⟨some d, .call ⟨.value (.func f), xs, ts⟩, ty, ps, af, none⟩ :: rest) a w) : wpList P ops Q (⟨some d, .call ⟨.value (.func f), xs, ts⟩, ty, ps, af, none⟩ :: rest) a w := h
theorem g_lit {t : TypeId} {k : Nat} {parts : Array (Nat × Operand)} (h : wpList P ops Q (⟨some d, .buildSlice t k parts, ty, ps, af, none⟩ :: rest) a w) : wpList P ops Q (⟨some d, .buildSlice t k parts, ty, ps, af, none⟩ :: rest) a w := h
theorem g_build {t : TypeId} {parts : Array (Nat × Operand)} (h : wpList P ops Q (⟨some d, .build t parts, ty, ps, af, none⟩ :: rest) a w) : wpList P ops Q (⟨some d, .build t parts, ty, ps, af, none⟩ :: rest) a w := h
theorem g_slice {l h m : Option Operand} (q : wpList P ops Q (⟨some d, .slice xt x l h m, ty, ps, af, none⟩ :: rest) a w) : wpList P ops Q (⟨some d, .slice xt x l h m, ty, ps, af, none⟩ :: rest) a w := q
end
end Go.Proofs.Ytaiahigeejodaaa
