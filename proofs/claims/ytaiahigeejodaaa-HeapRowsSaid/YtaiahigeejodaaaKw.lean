/-
  More rules: empty rows of structs, made rows of bytes' blocks.
-/
import Derived.Test.YtaiahigeejodaaaKv
import Derived.ChangeKeysEq
import Derived.Laws.StructEq
namespace Go.Proofs.Ytaiahigeejodaaa
open Go.RowKit
set_option linter.unusedVariables false
set_option linter.unusedSimpArgs false

theorem run_build0 {P : Program} {w : World} {t e size b : Nat} {z : Value} [TyU P t (.slice e)] [TyI P e size z b] :
    (Instr.buildSlice t 0 #[]).run P w = .ok (.slice (some ⟨w.heap.size, 0, none⟩) 0 0) (w.alloc (.cells ([] : List Value).toArray e)) := by
  simp [Instr.buildSlice, run_under (d := .slice e), run_size (size := size) (zero := z) (bytes := b), newRow, Instr.fill]
  have e0 : Array.range 0 = #[] := Array.eq_empty_of_size_eq_zero (by simp)
  rw [e0, List.map_toArray]
  rfl
section
variable {P : Program} {ops : Array Oper} {Q : Exit → Act → World → Prop} {rest : List Oper} {n d : Nat} {L : List (Nat × Value)} {a : Act} {w w0 : World} {H : List HP}
variable {ty xt yt : TypeId} {ps : String} {af : Array Edge}
theorem s_lit0 {t e size b : Nat} {z : Value} [TyU P t (.slice e)] [TyI P e size z b] (hE : Env n L a) (hS : St w0 w H) (hd : Nat.blt d n = true)
    (K : ∀ g a' w', Env n ((d, .slice (some ⟨g, 0, none⟩) 0 0) :: L) a' → St w0 w' (hRow e size (some ⟨g, 0, none⟩) 0 0 [] :: H) → wpList P ops Q rest a' w') :
    wpList P ops Q (⟨some d, .buildSlice t 0 #[], ty, ps, af, none⟩ :: rest) a w := by
  have hrun := run_build0 (P := P) (w := w) (t := t) (e := e) (size := size) (b := b) (z := z)
  refine s_val (v := .slice (some ⟨w.heap.size, 0, none⟩) 0 0) (w' := w.alloc (.cells ([] : List Value).toArray e)) hE rfl rfl hd ?_ fun a' hE' => K _ _ _ hE' ((hS.alloc [] e).blkRow size 0 (by simp) (by decide))
  simp [execOp, hrun]
variable {x y : Operand} {gd : Option (Nat × Bool)}
/-- an element's address in an array -/
theorem r_idxP {t e : TypeId} {len size b g o : Nat} {z : Value} {k : IntKind} {i : Int} [TyU P t (.array len e)] [TyI P e size z b] (hE : Env n L a) (hx : ev L x = some (.pointer (some ⟨g, o, none⟩))) (hy : ev L y = some (.int k i)) (h0 : 0 ≤ i) (h1 : i < len) :
    (execOp a.eval ⟨some d, .indexAddr t x y, ty, ps, af, gd⟩).run P w = .ok (.value (.pointer (some ⟨g, o + i.toNat * size, none⟩))) w := by
  have hadd : (⟨g, o, none⟩ : Addr).add (i.toNat * size) = ⟨g, o + i.toNat * size, none⟩ := add_lit _ _ _
  simp [execOp, Instr.indexAt, Instr.sureAddr, asIntOf, hE.eval hx, hE.eval hy, run_under (d := .array len e), run_size (size := size) (zero := z) (bytes := b), h0, h1, hadd]
end
theorem made_rep (n m : Nat) (v : Value) (z : Array Value) (hz : z = (List.replicate (m + 1) v).toArray) : (madeCells z (n * (m + 1))).toList.take (n * (m + 1)) = List.replicate (n * (m + 1)) v := by
  have hs : z.size = m + 1 := by rw [hz]; simp
  rw [List.take_of_length_le (by simp [madeCells])]
  refine List.eq_replicate_iff.2 ⟨by simp [madeCells], fun b hb => ?_⟩
  have e : (madeCells z (n * (m + 1))).toList = (Array.range (n * (m + 1))).toList.map (z[· % z.size]!) := by unfold madeCells; exact Array.toList_map ..
  rw [e] at hb
  obtain ⟨i, _, rfl⟩ := List.mem_map.1 hb
  have hi : i % z.size < z.size := Nat.mod_lt _ (by omega)
  show z[i % z.size]! = v
  rw [getElem!_pos z _ hi]
  simp [hz]
/-! ## arrays of bytes, held against each other -/
class TyG (P : Program) (t : TypeId) : Prop where out : P.eqGuardType P.depth t = false
theorem run_items {P : Program} {w : World} {e : TypeId} (d : Nat) (he : P.underlying e = some (.int .u8)) (xs ys : List Nat) (n : Nat) (hx : xs.length = n) (hy : ys.length = n) :
    ∀ (m s : Nat), s + m = n → (Op.eqItems (d + 1) e 1 (bys xs).toArray (bys ys).toArray (List.range' s m)).run P w = .ok (decide (xs.drop s = ys.drop s)) w
  | 0, s, h => by
    rw [List.drop_eq_nil_of_le (by omega), List.drop_eq_nil_of_le (by omega)]
    simp [Op.eqItems]
  | m + 1, s, h => by
    have ih := run_items (w := w) d he xs ys n hx hy m (s + 1) (by omega)
    have h1 : s < xs.length := by omega
    have h2 : s < ys.length := by omega
    have hp : P.plainKey e = true := by unfold Program.plainKey; rw [he]
    have p1 : (part e (bys xs).toArray (s * 1)).run P w = .ok (.int .u8 (xs[s] : Int)) w := run_part_plain w hp (by simp [bys, h1])
    have p2 : (part e (bys ys).toArray (s * 1)).run P w = .ok (.int .u8 (ys[s] : Int)) w := run_part_plain w hp (by simp [bys, h2])
    rw [List.range'_succ]
    simp only [Op.eqItems, Sem.run_bind, p1, p2, Result.andThen_ok, run_equalIn_int w d e .u8 .u8 _ _ he]
    have hd : (xs.drop s = ys.drop s) ↔ (xs[s] = ys[s] ∧ xs.drop (s + 1) = ys.drop (s + 1)) := by
      rw [List.drop_eq_getElem_cons h1, List.drop_eq_getElem_cons h2, List.cons.injEq]
    by_cases hc : xs[s] = ys[s]
    · have e1 : ((xs[s] : Int) == (ys[s] : Int)) = true := by rw [hc]; exact beq_self_eq_true _
      rw [e1]
      simp only [Bool.not_true, Bool.false_eq_true, if_false]
      rw [ih]
      congr 1
      exact decide_eq_decide.2 ⟨fun q => hd.2 ⟨hc, q⟩, fun q => (hd.1 q).2⟩
    · have e1 : ((xs[s] : Int) == (ys[s] : Int)) = false := by
        rw [beq_eq_false_iff_ne]; omega
      rw [e1, decide_eq_false fun q => hc (hd.1 q).1]
      rfl
theorem run_bytesEq {P : Program} {w : World} {t e n b : Nat} {z : Value} {xs ys : List Nat} [TyU P t (.array n e)] [TyU P e (.int .u8)] [TyI P e 1 z b] (hx : xs.length = n) (hy : ys.length = n) :
    (Op.equalIn 10000 t (.agg (bys xs).toArray) (.agg (bys ys).toArray)).run P w = .ok (decide (xs = ys)) w := by
  obtain ⟨i, hi, hi1, hi2, hi3⟩ := TyI.info (P := P) (t := e) (size := 1) (zero := z) (bytes := b)
  have hc : P.cellsOf e = 1 := by unfold Program.cellsOf; rw [hi]; exact hi1
  rw [run_equalIn_array w 9999 _ _ (TyU.out (P := P) (t := t) (d := .array n e)) hi, hc, List.range_eq_range']
  exact run_items 9998 (TyU.out (P := P) (t := e) (d := .int .u8)) xs ys n hx hy n 0 (by omega)
section
variable {P : Program} {n d : Nat} {L : List (Nat × Value)} {a : Act} {w : World} {ty xt yt : TypeId} {ps : String} {af : Array Edge} {x y : Operand} {gd : Option (Nat × Bool)}
theorem r_eqA {e m b : Nat} {z : Value} {xs ys : List Nat} [TyU P xt (.array m e)] [TyU P e (.int .u8)] [TyI P e 1 z b] [TyG P xt] (hE : Env n L a) (hx : ev L x = some (.agg (bys xs).toArray)) (hy : ev L y = some (.agg (bys ys).toArray)) (hxl : xs.length = m) (hyl : ys.length = m) :
    (execOp a.eval ⟨some d, .binOp .eql xt x y yt, ty, ps, af, gd⟩).run P w = .ok (.value (.bool (decide (xs = ys)))) w := by
  have hg := run_eqGuard_agg w .eql xt x y (bys xs).toArray (bys ys).toArray (TyG.out (P := P) (t := xt))
  have h1 := run_eql_struct (P := P) w xt (bys xs).toArray (bys ys).toArray
  rw [run_bytesEq (e := e) (z := z) (b := b) hxl hyl] at h1
  simp only [execOp, hE.eval hx, hE.eval hy, Sem.run_bind, hg, Result.andThen_ok, h1, Sem.run_pure]
theorem r_neA {e m b : Nat} {z : Value} {xs ys : List Nat} [TyU P xt (.array m e)] [TyU P e (.int .u8)] [TyI P e 1 z b] [TyG P xt] (hE : Env n L a) (hx : ev L x = some (.agg (bys xs).toArray)) (hy : ev L y = some (.agg (bys ys).toArray)) (hxl : xs.length = m) (hyl : ys.length = m) :
    (execOp a.eval ⟨some d, .binOp .neq xt x y yt, ty, ps, af, gd⟩).run P w = .ok (.value (.bool (decide (xs ≠ ys)))) w := by
  have hg := run_eqGuard_agg w .neq xt x y (bys xs).toArray (bys ys).toArray (TyG.out (P := P) (t := xt))
  have h1 := run_neq_struct (P := P) w xt (bys xs).toArray (bys ys).toArray
  rw [run_bytesEq (e := e) (z := z) (b := b) hxl hyl] at h1
  simp only [execOp, hE.eval hx, hE.eval hy, Sem.run_bind, hg, Result.andThen_ok, h1, Sem.run_pure]
  simp
theorem r_eqS {e m b : Nat} {z : Value} {xs : List Nat} [TyU P xt (.array m e)] [TyU P e (.int .u8)] [TyI P e 1 z b] [TyG P xt] (hE : Env n L a) (hx : ev L x = some (.agg (bys xs).toArray)) (hy : ev L y = some (.agg (bys xs).toArray)) (hxl : xs.length = m) :
    (execOp a.eval ⟨some d, .binOp .eql xt x y yt, ty, ps, af, gd⟩).run P w = .ok (.value (.bool true)) w := by
  have := r_eqA (P := P) (d := d) (w := w) (ty := ty) (xt := xt) (yt := yt) (ps := ps) (af := af) (gd := gd) (e := e) (z := z) (b := b) hE hx hy hxl hxl
  rw [decide_eq_true rfl] at this
  exact this
theorem r_neS {e m b : Nat} {z : Value} {xs : List Nat} [TyU P xt (.array m e)] [TyU P e (.int .u8)] [TyI P e 1 z b] [TyG P xt] (hE : Env n L a) (hx : ev L x = some (.agg (bys xs).toArray)) (hy : ev L y = some (.agg (bys xs).toArray)) (hxl : xs.length = m) :
    (execOp a.eval ⟨some d, .binOp .neq xt x y yt, ty, ps, af, gd⟩).run P w = .ok (.value (.bool false)) w := by
  have := r_neA (P := P) (d := d) (w := w) (ty := ty) (xt := xt) (yt := yt) (ps := ps) (af := af) (gd := gd) (e := e) (z := z) (b := b) hE hx hy hxl hxl
  rw [decide_eq_false (fun h => h rfl)] at this
  exact this
end
end Go.Proofs.Ytaiahigeejodaaa
