/-
  Pieces by their place: a block's cells read and written, a row's elements read and written.
-/
import Derived.Test.YtaiahigeejodaaaKj
namespace Go.Proofs.Ytaiahigeejodaaa
open Go.RowKit
set_option linter.unusedVariables false
set_option linter.unusedSimpArgs false

section
variable {w w' w0 : World} {L : List HP} {h h' : HP}
theorem Sep.focus : ∀ {L : List HP} {k : Nat} {h : HP} {T : Nat → Prop}, L[k]? = some h → Sep w L T → Sep w (h :: L.eraseIdx k) T
  | [], _, _, _, hk, _ => by simp at hk
  | a :: L, 0, h, T, hk, hs => by
    simp at hk
    subst hk
    exact hs
  | a :: L, k + 1, h, T, hk, hs => by
    rw [List.eraseIdx_cons_succ]
    exact Sep.swap (Sep.cons_mono (fun T q => Sep.focus (by simpa using hk) q) hs)
theorem Sep.unfocus : ∀ {L : List HP} {k : Nat} {h h' : HP} {T : Nat → Prop}, L[k]? = some h → Sep w (h' :: L.eraseIdx k) T → Sep w (L.set k h') T
  | [], _, _, _, _, hk, _ => by simp at hk
  | a :: L, 0, h, h', T, hk, hs => hs
  | a :: L, k + 1, h, h', T, hk, hs => by
    rw [List.eraseIdx_cons_succ] at hs
    rw [List.set_cons_succ]
    exact Sep.cons_mono (fun T q => Sep.unfocus (by simpa using hk) q) (Sep.swap hs)
theorem Sep.drop_ : ∀ {L : List HP} {k : Nat} {T : Nat → Prop}, Sep w L T → Sep w (L.eraseIdx k) T
  | [], _, _, hs => hs
  | a :: L, 0, T, hs => by
    obtain ⟨S, _, _, r⟩ := hs
    exact Sep.mono (fun k hk => hk.1) r
  | a :: L, k + 1, T, hs => Sep.cons_mono (fun T q => Sep.drop_ q) hs
theorem St.focus {k : Nat} (hS : St w0 w L) (hk : L[k]? = some h) : St w0 w (h :: L.eraseIdx k) := ⟨hS.below, hS.sep.focus hk⟩
theorem St.unfocus {k : Nat} (hk : L[k]? = some h) (hS : St w0 w (h' :: L.eraseIdx k)) : St w0 w (L.set k h') := ⟨hS.below, hS.sep.unfocus hk⟩
/-- a piece is let go -/
theorem St.drop (k : Nat) (hS : St w0 w L) : St w0 w (L.eraseIdx k) := ⟨hS.below, hS.sep.drop_⟩
theorem St.at {k : Nat} (hS : St w0 w L) (hk : L[k]? = some h) : ∃ S : Nat → Prop, (∀ j, S j → w0.heap.size ≤ j ∧ j < w.heap.size) ∧ h.at_ S w := (hS.focus hk).head
/-- a piece is said otherwise -/
theorem St.convAt {k : Nat} (hS : St w0 w L) (hk : L[k]? = some h) (hh : ∀ S : Nat → Prop, h.at_ S w → h'.at_ S w) : St w0 w (L.set k h') := St.unfocus hk ((hS.focus hk).conv hh)
theorem St.updAt {k : Nat} (hS : St w0 w L) (hk : L[k]? = some h) (ho : w'.os = w.os) (ht : w'.tape = w.tape) (hp : w'.output = w.output) (hz : w.heap.size ≤ w'.heap.size)
    (hh : ∀ S : Nat → Prop, h.at_ S w → ∃ S' : Nat → Prop, h'.at_ S' w' ∧ (∀ j, S' j → S j ∨ (w.heap.size ≤ j ∧ j < w'.heap.size)) ∧ ∀ j, j < w.heap.size → ¬ S j → w'.heap[j]? = w.heap[j]?) : St w0 w' (L.set k h') :=
  St.unfocus hk ((hS.focus hk).upd ho ht hp hz hh)
/-- a piece that is many -/
theorem St.open_ {M : List HP} (hS : St w0 w (hAll M :: L)) : St w0 w (M ++ L) := by
  obtain ⟨hb, S, h1, h2, r⟩ := hS
  refine ⟨hb, Sep.append (T := S) (T' := fun k => (w0.heap.size ≤ k ∧ k < w.heap.size) ∧ ¬ S k) h2 r (fun k hk hk' => hk'.2 hk) h1 (fun k hk => hk.1)⟩
theorem Sep.split : ∀ {M L : List HP} {T : Nat → Prop}, Sep w (M ++ L) T → ∃ S : Nat → Prop, (∀ k, S k → T k) ∧ Sep w M S ∧ Sep w L (fun k => T k ∧ ¬ S k)
  | [], L, T, hs => ⟨fun _ => False, fun _ h => h.elim, trivial, Sep.mono (fun k hk => ⟨hk, fun h => h⟩) hs⟩
  | m :: M, L, T, ⟨S, h1, h2, r⟩ => by
    obtain ⟨S2, g1, g2, g3⟩ := Sep.split r
    refine ⟨fun k => S k ∨ S2 k, fun k hk => ?_, ⟨S, fun k hk => .inl hk, h2, Sep.mono (fun k hk => ⟨.inr hk, (g1 k hk).2⟩) g2⟩, Sep.mono (fun k hk => ⟨hk.1.1, fun h => ?_⟩) g3⟩
    · rcases hk with hk | hk
      · exact h1 k hk
      · exact (g1 k hk).1
    · rcases h with h | h
      · exact hk.1.2 h
      · exact hk.2 h
theorem St.close_ {M : List HP} (hS : St w0 w (M ++ L)) : St w0 w (hAll M :: L) := by
  obtain ⟨S, h1, h2, h3⟩ := hS.sep.split
  exact ⟨hS.below, S, h1, h2, h3⟩
/-- a piece that is something or other -/
theorem St.ex {α : Sort _} {f : α → HP} (hS : St w0 w (hEx f :: L)) : ∃ x, St w0 w (f x :: L) := by
  obtain ⟨hb, S, h1, ⟨x, h2⟩, r⟩ := hS
  exact ⟨x, hb, S, h1, h2, r⟩
theorem St.exI {α : Sort _} {f : α → HP} (x : α) (hS : St w0 w (f x :: L)) : St w0 w (hEx f :: L) := hS.conv fun S h => ⟨x, h⟩
theorem St.pure {p : Prop} (hS : St w0 w (hPure p :: L)) : p := by
  obtain ⟨hb, S, h1, h2, r⟩ := hS
  exact h2
theorem St.pureI {p : Prop} (hp : p) (hS : St w0 w L) : St w0 w (hPure p :: L) := hS.new (Below.refl _ _) (fun _ => False) (fun _ h => h.elim) hp
/-- two pieces are one -/
theorem St.nth {k : Nat} (hS : St w0 w L) (hk : L[k]? = some h) : ∃ S : Nat → Prop, h.at_ S w := by
  obtain ⟨S, _, h2⟩ := hS.at hk
  exact ⟨S, h2⟩
end

section
variable {w w' w0 : World} {L : List HP} {g t : Nat} {cs : List Value} {k : Nat}
theorem St.blkAt (hS : St w0 w L) (hk : L[k]? = some (hBlk g t cs)) : w.heap[g]? = some (.cells cs.toArray t (0, 0)) ∧ w0.heap.size ≤ g ∧ g < w.heap.size := (hS.focus hk).blk
theorem St.cellAt (hS : St w0 w L) (hk : L[k]? = some (hBlk g t cs)) (j : Nat) : w.cell? ⟨g, j, none⟩ = cs[j]? := (hS.focus hk).blkCell j
theorem St.setAt (hS : St w0 w L) (hk : L[k]? = some (hBlk g t cs)) (j : Nat) (u : Value) : St w0 (w.setCell ⟨g, j, none⟩ u) (L.set k (hBlk g t (cs.set j u))) := St.unfocus hk ((hS.focus hk).setBlk j u)
/-- cells one behind the other, set -/
def splice (cs : List Value) (o : Nat) (vs : List Value) : List Value := cs.take o ++ vs ++ cs.drop (o + vs.length)
theorem splice_length (cs : List Value) (o : Nat) (vs : List Value) (h : o + vs.length ≤ cs.length) : (splice cs o vs).length = cs.length := by
  simp [splice]; omega
theorem setRow_size (w : World) (g : Nat) (c : Array Value) : (w.setRow g c).heap.size = w.heap.size := by simp [World.setRow]
theorem setRow_other (w : World) (g j : Nat) (c : Array Value) (h : j ≠ g) : (w.setRow g c).heap[j]? = w.heap[j]? := by
  simp only [World.setRow, Array.getElem?_modify]
  rw [if_neg (fun e => h e.symm)]
theorem St.spliceAt (hS : St w0 w L) (hk : L[k]? = some (hBlk g t cs)) (o : Nat) (vs : List Value) : St w0 (w.setRow g (splice cs o vs).toArray) (L.set k (hBlk g t (splice cs o vs))) := by
  refine hS.updAt hk rfl rfl rfl (by rw [setRow_size]; exact Nat.le_refl _) fun S ⟨h1, h2⟩ => ⟨S, ⟨h1, setRow_heap w g _ _ t _ h2⟩, fun j hj => .inl hj, fun j _ hj => setRow_other w g j _ (fun e => hj (e ▸ h1))⟩
end

section
variable {P : Program} {ops : Array Oper} {Q : Exit → Act → World → Prop} {rest : List Oper} {n d : Nat} {L : List (Nat × Value)} {a : Act} {w w0 : World} {H : List HP}
variable {ty : TypeId} {ps : String} {af : Array Edge} {x y : Operand} {k : Nat} {gd : Option (Nat × Bool)}

/-- a pointer's field -/
theorem r_fieldL {t ft : TypeId} {i off size b g o : Nat} {z : Value} [TyF P t i off ft] [TyI P ft size z b] (hE : Env n L a) (hx : ev L x = some (.pointer (some ⟨g, o, none⟩))) (hs : Nat.beq size 0 = false) : (execOp a.eval ⟨some d, .fieldAddr t x i, ty, ps, af, gd⟩).run P w = .ok (.value (.pointer (some ⟨g, o + off, none⟩))) w := by
  have := r_field (P := P) (d := d) (ty := ty) (ps := ps) (af := af) (gd := gd) (w := w) (t := t) (i := i) (off := off) hE hx hs
  rw [add_lit] at this
  exact this
theorem s_fieldL {t ft : TypeId} {i off size b g o : Nat} {z : Value} [TyF P t i off ft] [TyI P ft size z b] (hE : Env n L a) (hx : ev L x = some (.pointer (some ⟨g, o, none⟩))) (hs : Nat.beq size 0 = false) (hd : Nat.blt d n = true) (K : ∀ a', Env n ((d, .pointer (some ⟨g, o + off, none⟩)) :: L) a' → wpList P ops Q rest a' w) :
    wpList P ops Q (⟨some d, .fieldAddr t x i, ty, ps, af, none⟩ :: rest) a w :=
  s_val hE rfl rfl hd (r_fieldL hE hx hs) K
/-- one cell of a block, read -/
theorem r_loadB {t u g o : Nat} {cs : List Value} {v : Value} [TyA P t false] (hS : St w0 w H) (hE : Env n L a) (hx : ev L x = some (.pointer (some ⟨g, o, none⟩))) (hk : H[k]? = some (hBlk g u cs)) (hv : cs[o]? = some v) : (execOp a.eval ⟨some d, .load t x, ty, ps, af, gd⟩).run P w = .ok (.value v) w :=
  r_load hE hx ((hS.cellAt hk o).trans hv)
theorem s_loadB {t u g o : Nat} {cs : List Value} {v : Value} [TyA P t false] (hS : St w0 w H) (hE : Env n L a) (hx : ev L x = some (.pointer (some ⟨g, o, none⟩))) (hk : H[k]? = some (hBlk g u cs)) (hv : cs[o]? = some v) (hd : Nat.blt d n = true) (K : ∀ a', Env n ((d, v) :: L) a' → wpList P ops Q rest a' w) :
    wpList P ops Q (⟨some d, .load t x, ty, ps, af, none⟩ :: rest) a w :=
  s_val hE rfl rfl hd (r_loadB hS hE hx hk hv) K
/-- cells of a block one behind the other, read -/
theorem r_loadBs {t u g o size b : Nat} {z : Value} {cs vs : List Value} [TyA P t true] [TyI P t size z b] (hS : St w0 w H) (hE : Env n L a) (hx : ev L x = some (.pointer (some ⟨g, o, none⟩))) (hk : H[k]? = some (hBlk g u cs)) (hv : (cs.drop o).take size = vs) (hl : o + size ≤ cs.length) : (execOp a.eval ⟨some d, .load t x, ty, ps, af, gd⟩).run P w = .ok (.value (.agg vs.toArray)) w := by
  subst hv
  refine r_loadA (size := size) (z := z) (b := b) hE hx (by simp; omega) fun j u hu => ?_
  rw [add_lit, hS.cellAt hk]
  rw [List.getElem?_take, List.getElem?_drop] at hu
  split at hu
  · exact hu
  · cases hu
theorem s_loadBs {t u g o size b : Nat} {z : Value} {cs vs : List Value} [TyA P t true] [TyI P t size z b] (hS : St w0 w H) (hE : Env n L a) (hx : ev L x = some (.pointer (some ⟨g, o, none⟩))) (hk : H[k]? = some (hBlk g u cs)) (hv : (cs.drop o).take size = vs) (hl : o + size ≤ cs.length) (hd : Nat.blt d n = true) (K : ∀ a', Env n ((d, .agg vs.toArray) :: L) a' → wpList P ops Q rest a' w) :
    wpList P ops Q (⟨some d, .load t x, ty, ps, af, none⟩ :: rest) a w :=
  s_val hE rfl rfl hd (r_loadBs hS hE hx hk hv hl) K

theorem one_cells {v : Value} (h : v.oneCell' = true) : v.cells = #[v] := by cases v <;> first | rfl | simp [Value.oneCell'] at h
/-- one cell of a block, written -/
theorem s_storeB {t u g o b : Nat} {z : Value} {cs : List Value} {v : Value} {s1 : Nat} [TyI P t s1 z b] (hS : St w0 w H) (hE : Env n L a) (hx : ev L x = some (.pointer (some ⟨g, o, none⟩))) (hy : ev L y = some v) (hk : H[k]? = some (hBlk g u cs)) (hs : s1 = 1) (ho : Nat.blt o cs.length = true) (h1 : v.oneCell' = true)
    (K : ∀ w', St w0 w' (H.set k (hBlk g u (cs.set o v))) → wpList P ops Q rest a w') :
    wpList P ops Q (⟨none, .store t x y, ty, ps, af, none⟩ :: rest) a w := by
  subst hs
  have ho' : o < cs.length := by simpa [Nat.blt_eq] using ho
  have hb := hS.blkAt hk
  refine s_skip (w' := w.setCell ⟨g, o, none⟩ v) hE rfl rfl ?_ fun _ => K _ (hS.setAt hk o v)
  have hcell : w.cell? ⟨g, o, none⟩ = some cs[o] := by rw [hS.cellAt hk]; simp [ho']
  have hfro : w.frozen? ⟨g, o, none⟩ = false := by simp [World.frozen?, hb.1]
  have hst : (store ⟨g, o, none⟩ v).run P w = .ok () (w.setCell ⟨g, o, none⟩ v) := by
    rw [run_store P w _ v _ h1, hcell]
    simp [hfro]
  have hst' : (storeCells ⟨g, o, none⟩ [v]).run P w = .ok () (w.setCell ⟨g, o, none⟩ v) := by
    simp only [storeCells]
    rw [add_lit]
    simp only [Nat.add_zero, Sem.run_bind, hst, Result.andThen_ok, Sem.run_pure]
  simp [execOp, Instr.storeAt, Instr.sureAddr, storeVar, hE.eval hx, hE.eval hy, one_cells h1, run_size (size := 1) (zero := z) (bytes := b), hst']
/-- cells of a block one behind the other, written -/
theorem s_storeBs {t u g o b size : Nat} {z : Value} {cs vs : List Value} [TyI P t size z b] (hS : St w0 w H) (hE : Env n L a) (hx : ev L x = some (.pointer (some ⟨g, o, none⟩))) (hy : ev L y = some (.agg vs.toArray)) (hk : H[k]? = some (hBlk g u cs)) (hs : vs.length = size) (ho : o + size ≤ cs.length) (h1 : ∀ v ∈ vs, v.oneCell' = true)
    (K : ∀ w', St w0 w' (H.set k (hBlk g u (splice cs o vs))) → wpList P ops Q rest a w') :
    wpList P ops Q (⟨none, .store t x y, ty, ps, af, none⟩ :: rest) a w := by
  subst hs
  have hb := hS.blkAt hk
  refine s_skip (w' := w.setRow g (splice cs o vs).toArray) hE rfl rfl ?_ fun _ => K _ (hS.spliceAt hk o vs)
  have hst := run_storeCells_at P g o u vs 0 cs.toArray w hb.1 (by simpa using ho) h1
  simp [execOp, Instr.storeAt, Instr.sureAddr, storeVar, hE.eval hx, hE.eval hy, Value.cells, run_size (size := vs.length) (zero := z) (bytes := b), hst, splice]
end

/-! ## Rows whose elements have several cells -/
section
variable {P : Program} {ops : Array Oper} {Q : Exit → Act → World → Prop} {rest : List Oper} {n d : Nat} {L : List (Nat × Value)} {a : Act} {w w0 : World} {H : List HP}
variable {ty : TypeId} {ps : String} {af : Array Edge} {x y : Operand} {k : Nat} {gd : Option (Nat × Bool)}
theorem St.rdAt {e size m c : Nat} {A : Option Addr} {cs : List Value} (hS : St w0 w H) (hk : H[k]? = some (hRow e size A m c cs)) : Rd w A cs := (hS.focus hk).rd
theorem St.lenAt {e size m c : Nat} {A : Option Addr} {cs : List Value} (hS : St w0 w H) (hk : H[k]? = some (hRow e size A m c cs)) : cs.length = m * size ∧ m ≤ c ∧ c ≤ maxLen := (hS.focus hk).rowLen
theorem Rd.seg {A : Option Addr} {cs : List Value} (h : Rd w A cs) {ad : Addr} (hA : A = some ad) (o m : Nat) : ∀ j u, ((cs.drop o).take m)[j]? = some u → w.cell? ((ad.add o).add j) = some u := by
  intro j u hu
  rw [List.getElem?_take, List.getElem?_drop] at hu
  split at hu
  · have hne : cs ≠ [] := by rintro rfl; simp at hu
    obtain ⟨ad', e, hc⟩ := h hne
    rw [hA] at e
    obtain rfl : ad = ad' := Option.some.inj e
    rw [add_add]
    exact hc _ u hu
  · cases hu
/-- an element of several cells, read -/
theorem r_elem {t size b o : Nat} {z : Value} {A : Option Addr} {ad : Addr} {cs vs : List Value} [TyA P t true] [TyI P t size z b] (hE : Env n L a) (hr : Rd w A cs) (hA : A = some ad) (hx : ev L x = some (.pointer (some (ad.add o)))) (hv : (cs.drop o).take size = vs) (hl : vs.length = size) : (execOp a.eval ⟨some d, .load t x, ty, ps, af, gd⟩).run P w = .ok (.value (.agg vs.toArray)) w := by
  subst hv
  exact r_loadA (size := size) (z := z) (b := b) hE hx hl (hr.seg hA o size)
theorem s_elem {t size b o : Nat} {z : Value} {A : Option Addr} {ad : Addr} {cs vs : List Value} [TyA P t true] [TyI P t size z b] (hE : Env n L a) (hr : Rd w A cs) (hA : A = some ad) (hx : ev L x = some (.pointer (some (ad.add o)))) (hv : (cs.drop o).take size = vs) (hl : vs.length = size) (hd : Nat.blt d n = true) (K : ∀ a', Env n ((d, .agg vs.toArray) :: L) a' → wpList P ops Q rest a' w) :
    wpList P ops Q (⟨some d, .load t x, ty, ps, af, none⟩ :: rest) a w :=
  s_val hE rfl rfl hd (r_elem hE hr hA hx hv hl) K
theorem St.spliceRow {e size m c : Nat} {A : Option Addr} {cs vs : List Value} {ad : Addr} {o : Nat} (hS : St w0 w H) (hk : H[k]? = some (hRow e size A m c cs)) (hA : A = some ad) (ho : o + vs.length ≤ cs.length) (h1 : ∀ v ∈ vs, v.oneCell' = true) :
    ∃ w', (storeCells (ad.add o) vs).run P w = .ok () w' ∧ St w0 w' (H.set k (hRow e size A m c (splice cs o vs))) := by
  obtain ⟨S, _, h1', hown⟩ := hS.at hk
  rcases hown.2 with ⟨h0, hn⟩ | ⟨g, cap, cur, he, hb, hh, hnc, hcm, hsz, htk⟩
  · rw [hA] at h0; cases h0
  · have hA' : A = some ⟨g, 0, none⟩ := by injection he
    have hc : c = cap := by injection he
    rw [hA'] at hA
    injection hA with hA
    subst hA
    subst hc
    subst hA'
    have hlen := hown.1
    have hcur : o + 0 + vs.length ≤ cur.size := by
      have : cs.length ≤ cur.size := by rw [hsz, hlen]; exact Nat.mul_le_mul_right _ hnc
      omega
    have hst := run_storeCells_at P g o e vs 0 cur w hh hcur h1
    rw [add_lit, Nat.zero_add]
    refine ⟨_, hst, ?_⟩
    refine hS.updAt hk rfl rfl rfl (by rw [setRow_size]; exact Nat.le_refl _) fun S ⟨g1, g2⟩ => ⟨S, ⟨g1, ?_⟩, fun j hj => .inl hj, fun j _ hj => setRow_other w g j _ (fun e => hj (e ▸ g1 _ rfl))⟩
    refine ⟨by rw [splice_length _ _ _ ho]; exact hown.1, .inr ⟨g, c, _, rfl, hb, setRow_heap w g _ _ e _ hh, hnc, hcm, ?_, ?_⟩⟩
    · simp only [Nat.add_zero] at hcur ⊢
      simp
      omega
    · simp only [Nat.add_zero, splice]
      rw [← htk]
      have h2 : m * size ≤ cur.toList.length := by rw [Array.length_toList, hsz]; exact Nat.mul_le_mul_right _ hnc
      have h3 : o + vs.length ≤ m * size := by rw [← hlen]; exact ho
      rw [List.take_append, List.take_append, List.take_take]
      have e1 : min (m * size) o = o := by omega
      have e2 : (cur.toList.take o).length = o := by rw [List.length_take]; omega
      rw [List.take_take, e1, e2, List.take_of_length_le (by omega : vs.length ≤ m * size - o), List.drop_take, List.length_append, e2]
      congr 2
      rw [Nat.min_eq_left (by omega)]
/-- an element's cells, written -/
theorem s_storeR {t e size size2 m c o b : Nat} {z : Value} {A : Option Addr} {ad : Addr} {cs vs : List Value} {v : Value} [TyI P t size2 z b] (hS : St w0 w H) (hE : Env n L a) (hx : ev L x = some (.pointer (some (ad.add o)))) (hy : ev L y = some v) (hvs : v.cells = vs.toArray) (hk : H[k]? = some (hRow e size A m c cs)) (hA : A = some ad) (hs : vs.length = size2) (ho : o + size2 ≤ cs.length) (h1 : ∀ v ∈ vs, v.oneCell' = true)
    (K : ∀ w', St w0 w' (H.set k (hRow e size A m c (splice cs o vs))) → wpList P ops Q rest a w') :
    wpList P ops Q (⟨none, .store t x y, ty, ps, af, none⟩ :: rest) a w := by
  subst hs
  obtain ⟨w', hrun, hS'⟩ := hS.spliceRow (P := P) (vs := vs) hk hA ho h1
  refine s_skip (w' := w') hE rfl rfl ?_ fun _ => K _ hS'
  simp [execOp, Instr.storeAt, Instr.sureAddr, storeVar, hE.eval hx, hE.eval hy, hvs, run_size (size := vs.length) (zero := z) (bytes := b), hrun]
end
theorem splice_one {cs : List Value} {o : Nat} {v : Value} (h : o < cs.length) : splice cs o [v] = cs.set o v := by
  simp only [splice, List.length_singleton]
  rw [List.set_eq_take_append_cons_drop, if_pos h]
  simp
theorem bys_set (xs : List Nat) (o y : Nat) : (bys xs).set o (.int .u8 (y : Int)) = bys (xs.set o y) := by simp [bys, List.map_set]

/-! ## A row's place, as a total function -/
def adr (A : Option Addr) : Addr := A.getD ⟨0, 0, none⟩
theorem Rd.some {w : World} {A : Option Addr} {cs : List Value} (h : Rd w A cs) {o : Nat} {v : Value} (hv : cs[o]? = some v) : A = some (adr A) ∧ w.cell? ((adr A).add o) = some v := by
  obtain ⟨ad, rfl, hc⟩ := h.cell hv
  exact ⟨rfl, hc⟩
section
variable {P : Program} {ops : Array Oper} {Q : Exit → Act → World → Prop} {rest : List Oper} {n d : Nat} {L : List (Nat × Value)} {a : Act} {w w0 : World} {H : List HP}
variable {ty : TypeId} {ps : String} {af : Array Edge} {x y : Operand} {k : Nat} {gd : Option (Nat × Bool)}
theorem r_idxR {t e size b m c : Nat} {z : Value} {A : Option Addr} {k : IntKind} {i : Int} {cs : List Value} [TyU P t (.slice e)] [TyI P e size z b] (hE : Env n L a) (hx : ev L x = some (.slice A m c)) (hy : ev L y = some (.int k i)) (h0 : 0 ≤ i) (h1 : i < m) (hr : Rd w A cs) (hl : i.toNat * size < cs.length) : (execOp a.eval ⟨some d, .indexAddr t x y, ty, ps, af, gd⟩).run P w = .ok (.value (.pointer (some ((adr A).add (i.toNat * size))))) w := by
  obtain ⟨hA, _⟩ := hr.some (List.getElem?_eq_getElem hl)
  exact r_idx (size := size) (z := z) (b := b) hE hx hy h0 h1 hA
theorem s_idxR {t e size b m c : Nat} {z : Value} {A : Option Addr} {k : IntKind} {i : Int} {cs : List Value} [TyU P t (.slice e)] [TyI P e size z b] (hE : Env n L a) (hx : ev L x = some (.slice A m c)) (hy : ev L y = some (.int k i)) (h0 : 0 ≤ i) (h1 : i < m) (hr : Rd w A cs) (hl : i.toNat * size < cs.length) (hd : Nat.blt d n = true) (K : ∀ a', Env n ((d, .pointer (some ((adr A).add (i.toNat * size)))) :: L) a' → wpList P ops Q rest a' w) :
    wpList P ops Q (⟨some d, .indexAddr t x y, ty, ps, af, none⟩ :: rest) a w :=
  s_val hE rfl rfl hd (r_idxR hE hx hy h0 h1 hr hl) K
theorem r_loadR {t o : Nat} {A : Option Addr} {cs : List Value} {v : Value} [TyA P t false] (hE : Env n L a) (hx : ev L x = some (.pointer (some ((adr A).add o)))) (hr : Rd w A cs) (hv : cs[o]? = some v) : (execOp a.eval ⟨some d, .load t x, ty, ps, af, gd⟩).run P w = .ok (.value v) w :=
  r_load hE hx (hr.some hv).2
theorem s_loadR {t o : Nat} {A : Option Addr} {cs : List Value} {v : Value} [TyA P t false] (hE : Env n L a) (hx : ev L x = some (.pointer (some ((adr A).add o)))) (hr : Rd w A cs) (hv : cs[o]? = some v) (hd : Nat.blt d n = true) (K : ∀ a', Env n ((d, v) :: L) a' → wpList P ops Q rest a' w) :
    wpList P ops Q (⟨some d, .load t x, ty, ps, af, none⟩ :: rest) a w :=
  s_val hE rfl rfl hd (r_loadR hE hx hr hv) K
theorem r_elemR {t size b o : Nat} {z : Value} {A : Option Addr} {cs vs : List Value} [TyA P t true] [TyI P t size z b] (hE : Env n L a) (hx : ev L x = some (.pointer (some ((adr A).add o)))) (hr : Rd w A cs) (hv : (cs.drop o).take size = vs) (hl : vs.length = size) (hs : Nat.blt 0 size = true) : (execOp a.eval ⟨some d, .load t x, ty, ps, af, gd⟩).run P w = .ok (.value (.agg vs.toArray)) w := by
  have hs' : 0 < size := by simpa [Nat.blt_eq] using hs
  have ho : o < cs.length := by
    subst hv
    simp at hl
    omega
  obtain ⟨hA, _⟩ := hr.some (List.getElem?_eq_getElem ho)
  exact r_elem (size := size) (z := z) (b := b) hE hr hA hx hv hl
theorem s_elemR {t size b o : Nat} {z : Value} {A : Option Addr} {cs vs : List Value} [TyA P t true] [TyI P t size z b] (hE : Env n L a) (hx : ev L x = some (.pointer (some ((adr A).add o)))) (hr : Rd w A cs) (hv : (cs.drop o).take size = vs) (hl : vs.length = size) (hs : Nat.blt 0 size = true) (hd : Nat.blt d n = true) (K : ∀ a', Env n ((d, .agg vs.toArray) :: L) a' → wpList P ops Q rest a' w) :
    wpList P ops Q (⟨some d, .load t x, ty, ps, af, none⟩ :: rest) a w :=
  s_val hE rfl rfl hd (r_elemR hE hx hr hv hl hs) K
/-- one cell of a row, written -/
theorem s_storeR1 {t e size m c o b : Nat} {z : Value} {A : Option Addr} {cs : List Value} {v : Value} {s1 : Nat} [TyI P t s1 z b] (hS : St w0 w H) (hE : Env n L a) (hx : ev L x = some (.pointer (some ((adr A).add o)))) (hy : ev L y = some v) (hk : H[k]? = some (hRow e size A m c cs)) (hs : s1 = 1) (ho : o < cs.length) (h1 : v.oneCell' = true)
    (K : ∀ w', St w0 w' (H.set k (hRow e size A m c (cs.set o v))) → wpList P ops Q rest a w') :
    wpList P ops Q (⟨none, .store t x y, ty, ps, af, none⟩ :: rest) a w := by
  subst hs
  obtain ⟨hA, _⟩ := (hS.rdAt hk).some (List.getElem?_eq_getElem ho)
  refine s_storeR (vs := [v]) hS hE hx hy (one_cells h1) hk hA rfl (by simp; omega) (by simpa using h1) ?_
  rw [splice_one ho]
  exact K
/-- an element of several cells, written -/
theorem s_storeRs {t e size size2 m c o b : Nat} {z : Value} {A : Option Addr} {cs vs : List Value} [TyI P t size2 z b] (hS : St w0 w H) (hE : Env n L a) (hx : ev L x = some (.pointer (some ((adr A).add o)))) (hy : ev L y = some (.agg vs.toArray)) (hk : H[k]? = some (hRow e size A m c cs)) (hs : vs.length = size2) (hs0 : Nat.blt 0 size2 = true) (ho : o + size2 ≤ cs.length) (h1 : ∀ v ∈ vs, v.oneCell' = true)
    (K : ∀ w', St w0 w' (H.set k (hRow e size A m c (splice cs o vs))) → wpList P ops Q rest a w') :
    wpList P ops Q (⟨none, .store t x y, ty, ps, af, none⟩ :: rest) a w := by
  have hs0' : 0 < size2 := by simpa [Nat.blt_eq] using hs0
  obtain ⟨hA, _⟩ := (hS.rdAt hk).some (List.getElem?_eq_getElem (show o < cs.length by omega))
  exact s_storeR (vs := vs) hS hE hx hy rfl hk hA hs ho h1 K
end

theorem bys_getM {xs : List Nat} {k : Nat} (h : k < xs.length) : (bys xs)[((k : Nat) : Int).toNat * 1]? = some (.int .u8 ((xs[k] : Nat) : Int)) := by
  rw [Nat.mul_one]; exact bys_getI h
section
variable {P : Program} {ops : Array Oper} {Q : Exit → Act → World → Prop} {rest : List Oper} {d : Nat} {dd : Option Nat} {a : Act} {w : World}
variable {ty xt yt : TypeId} {ps : String} {af : Array Edge} {x y z : Operand}
theorem g_ia (h : wpList P ops Q (⟨some d, .indexAddr xt x y, ty, ps, af, none⟩ :: rest) a w) : wpList P ops Q (⟨some d, .indexAddr xt x y, ty, ps, af, none⟩ :: rest) a w := h
theorem g_load (h : wpList P ops Q (⟨some d, .load xt x, ty, ps, af, none⟩ :: rest) a w) : wpList P ops Q (⟨some d, .load xt x, ty, ps, af, none⟩ :: rest) a w := h
theorem g_store (h : wpList P ops Q (⟨none, .store xt x y, ty, ps, af, none⟩ :: rest) a w) : wpList P ops Q (⟨none, .store xt x y, ty, ps, af, none⟩ :: rest) a w := h
theorem g_box (h : wpList P ops Q (⟨some d, .box xt x, ty, ps, af, none⟩ :: rest) a w) : wpList P ops Q (⟨some d, .box xt x, ty, ps, af, none⟩ :: rest) a w := h
theorem g_alloc (h : wpList P ops Q (⟨some d, .alloc xt, ty, ps, af, none⟩ :: rest) a w) : wpList P ops Q (⟨some d, .alloc xt, ty, ps, af, none⟩ :: rest) a w := h
end
end Go.Proofs.Ytaiahigeejodaaa
