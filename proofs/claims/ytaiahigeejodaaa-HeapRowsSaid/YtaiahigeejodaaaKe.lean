/-
  Rows: made, appended to, cut, stored into, copied onto.
-/
import Derived.Test.YtaiahigeejodaaaKd
import Derived.Laws.CopyRow
import Derived.Laws.IdiomCopy
import Derived.Lib.SliceRun
namespace Go.Proofs.Ytaiahigeejodaaa
open Go.RowKit
set_option linter.unusedVariables false
set_option linter.unusedSimpArgs false

section
variable {P : Program} {w w0 : World} {H : List HP}
theorem St.appendRun {t ty e size bytes n c m c2 : Nat} {z : Value} {A A2 : Option Addr} {cs news : List Value} [TyU P t (.slice e)] [TyI P e size z bytes] (hzs : z.cells.size = size) (hsz : 0 < size) (hby : 0 < bytes)
    (hS : St w0 w (hRow e size A n c cs :: H)) (hr : Rd w A2 news) (hl : news.length = m * size) (h1 : ∀ u ∈ news, u.oneCell' = true) (hb : (n + m) * bytes ≤ 140737488355328) :
    ∃ A' c' w', (Builtin.append_ #[t, t] ty #[.slice A n c, .slice A2 m c2]).run P w = .ok (.slice A' (n + m) c') w' ∧ St w0 w' (hRow e size A' (n + m) c' (cs ++ news) :: H) := by
  obtain ⟨i, hi, hi1, hi2, hi3⟩ := TyI.info (P := P) (t := e) (size := size) (zero := z) (bytes := bytes)
  have ht : P.underlying t = some (.slice e) := TyU.out
  have h63 : n + m ≤ maxLen := by
    have h0 : n + m ≤ (n + m) * bytes := Nat.le_mul_of_pos_right _ hby
    have h1 : n + m ≤ 140737488355328 := Nat.le_trans h0 hb
    exact Nat.le_trans h1 (by decide)
  obtain ⟨S0, hS0, _, hown⟩ := hS.head
  by_cases hm : m = 0
  · subst hm
    have hn : news = [] := List.eq_nil_of_length_eq_zero (by simpa using hl)
    subst hn
    refine ⟨A, c, w, ?_, by simpa using hS⟩
    rcases A2 with _ | a2
    · rcases hown.2 with ⟨h0, h00⟩ | ⟨g, cap, cur, he, _, _, hnc, _⟩
      · injection h0 with ha hn0 hc0
        subst ha; subst hc0; subst hn0
        simp [Builtin.append_, run_underlying ht, sizeOf, typeInfo, hi, Builtin.lenOf, Builtin.firstCells]
      · injection he with ha hn0 hc0
        subst ha; subst hc0
        simp [Builtin.append_, run_underlying ht, sizeOf, typeInfo, hi, Builtin.lenOf, Builtin.firstCells, hnc, storeCells]
    · have hload : (loadCells a2 0).run P w = .ok #[] w := by simpa using run_loadCells_list (P := P) w a2 [] (by simp)
      rcases hown.2 with ⟨h0, h00⟩ | ⟨g, cap, cur, he, _, _, hnc, _⟩
      · injection h0 with ha hn0 hc0
        subst ha; subst hc0; subst hn0
        simp [Builtin.append_, run_underlying ht, sizeOf, typeInfo, hi, Builtin.lenOf, Builtin.firstCells, hload]
      · injection he with ha hn0 hc0
        subst ha; subst hc0
        simp [Builtin.append_, run_underlying ht, sizeOf, typeInfo, hi, Builtin.lenOf, Builtin.firstCells, hnc, storeCells, hload]
  · have hne : news ≠ [] := by
      intro h0
      rw [h0, List.length_nil] at hl
      have := Nat.mul_pos (Nat.pos_of_ne_zero hm) hsz
      omega
    obtain ⟨ad, rfl, hc⟩ := hr hne
    obtain ⟨v', w', hrun, hown', hg, _, hat⟩ := run_append_own_at (P := P) w 0 t ty e i z size bytes ht hi hi2 hi1 hi3 hzs hsz _ n cs hown ad m c2 news hl hc h1 h63 hb (Nat.zero_le _)
    obtain ⟨A', c', hv'⟩ : ∃ A' c', v' = .slice A' (n + m) c' := by
      rcases hown'.2 with ⟨h0, h00⟩ | ⟨g, cap, cur, he, _⟩
      · exact ⟨none, 0, by rw [h0, h00]⟩
      · exact ⟨_, _, he⟩
    subst hv'
    refine ⟨A', c', w', hrun, hS.upd hg.os hg.tape hg.output hg.size fun S ⟨hs1, hs2⟩ => ?_⟩
    refine ⟨fun k => ∃ x, A' = some x ∧ x.block = k, ⟨fun x hx => ⟨x, hx, rfl⟩, hown'⟩, ?_, fun k hk hns => hg.block k hk fun e => hns ?_⟩
    · rintro k ⟨x, rfl, rfl⟩
      rcases hat with hat | hat
      · left
        rcases A with _ | x0
        · simp [Value.ownBlock] at hat
        · have : x.block = x0.block := by simpa [Value.ownBlock] using hat
          rw [this]
          exact hs1 x0 rfl
      · right
        have hb' : x.block = w.heap.size := by simpa [Value.ownBlock] using hat
        refine ⟨by omega, ?_⟩
        exact (hown'.lt x.block (by simp [Value.ownBlock])).2
    · rcases A with _ | x0
      · simp [Value.ownBlock] at e
      · have : k = x0.block := by simpa [Value.ownBlock] using e
        rw [this]
        exact hs1 x0 rfl
end

section
variable {P : Program} {ops : Array Oper} {Q : Exit → Act → World → Prop} {rest : List Oper} {n d : Nat} {L : List (Nat × Value)} {a : Act} {w w0 : World} {H : List HP}
variable {ty : TypeId} {ps : String} {af : Array Edge} {x y : Operand}

/-- append(v, xs...) -/
theorem s_append {t e size bytes k c m c2 : Nat} {z : Value} {A A2 : Option Addr} {cs news : List Value} [TyU P t (.slice e)] [TyI P e size z bytes] (hE : Env n L a) (hS : St w0 w (hRow e size A k c cs :: H))
    (hx : ev L x = some (.slice A k c)) (hy : ev L y = some (.slice A2 m c2)) (hr : Rd w A2 news) (hl : news.length = m * size) (h1 : ∀ u ∈ news, u.oneCell' = true) (hb : (k + m) * bytes ≤ 140737488355328)
    (hzs : z.cells.size = size) (hsz : Nat.blt 0 size = true) (hby : Nat.blt 0 bytes = true) (hd : Nat.blt d n = true)
    (K : ∀ A' c' a' w', Env n ((d, .slice A' (k + m) c') :: L) a' → St w0 w' (hRow e size A' (k + m) c' (cs ++ news) :: H) → wpList P ops Q rest a' w') :
    wpList P ops Q (⟨some d, .call ⟨.builtin .append, #[x, y], #[t, t]⟩, ty, ps, af, none⟩ :: rest) a w := by
  obtain ⟨A', c', w', hrun, hS'⟩ := hS.appendRun (P := P) (t := t) (ty := ty) (c2 := c2) (z := z) (bytes := bytes) hzs (by simpa [Nat.blt_eq] using hsz) (by simpa [Nat.blt_eq] using hby) hr hl h1 hb
  exact s_val (v := .slice A' (k + m) c') (w' := w') hE rfl rfl hd (by simp [execOp, resolve, invoke, builtin, hE.eval hx, hE.eval hy, hrun]) fun a' hE' => K _ _ _ _ hE' hS'


/-- the parts of a literal, one behind the other -/
def enumV : Nat → List Value → List (Nat × Value)
  | _, [] => []
  | k, v :: vs => (k, v) :: enumV (k + 1) vs

theorem fill_enum : ∀ (vs : List Value) (k : Nat) (cur : List Value), cur.length = k + vs.length → (∀ v ∈ vs, v.oneCell' = true) →
    Instr.fill (fun i => some (i * 1, 1)) cur.toArray (enumV k vs) = some (cur.take k ++ vs).toArray
  | [], k, cur, hl, _ => by
    have : cur.take k = cur := List.take_of_length_le (by simp at hl; omega)
    simp [enumV, Instr.fill, this]
  | v :: vs, k, cur, hl, h1 => by
    have hc : v.cells = #[v] := by
      have := h1 v (by simp)
      cases v <;> first | rfl | simp [Value.oneCell'] at this
    have hlt : k < cur.length := by simp at hl; omega
    have ih := fill_enum vs (k + 1) (cur.set k v) (by simp at hl ⊢; omega) (fun u hu => h1 u (by simp [hu]))
    have hn : ¬ (cur.toArray.size < k + 1) := by simp; omega
    simp only [enumV, Instr.fill, hc, Nat.mul_one, List.size_toArray, List.length_cons, List.length_nil, Nat.zero_add, ne_eq, not_true_eq_false, decide_false, Bool.false_or, Array.zipIdx]
    rw [if_neg (by simp; omega)]
    have hz : (#[v].mapIdx fun i a => (a, i)).foldl (fun cs (x : Value × Nat) => cs.setIfInBounds (k + x.2) x.1) cur.toArray = (cur.set k v).toArray := by simp
    simp only [Nat.mul_one] at ih
    rw [hz, ih]
    have hseg := list_seg_step cur k v vs (by simp at hl; omega)
    have d1 : (cur.set k v).drop (k + 1 + vs.length) = [] := List.drop_eq_nil_of_le (by simp at hl ⊢; omega)
    have d2 : cur.drop (k + (vs.length + 1)) = [] := List.drop_eq_nil_of_le (by simp at hl; omega)
    rw [d1, d2, List.append_nil, List.append_nil] at hseg
    rw [hseg]

theorem run_build1 {t e len b : Nat} {z : Value} [TyU P t (.slice e)] [TyI P e 1 z b] (hz : z.cells.size = 1) (hlen : len ≤ 16777216) (vs : List Value) (hl : vs.length = len) (h1 : ∀ v ∈ vs, v.oneCell' = true) :
    (Instr.buildSlice t len (enumV 0 vs).toArray).run P w = .ok (.slice (some ⟨w.heap.size, 0, none⟩) len len) (w.alloc (.cells vs.toArray e)) := by
  have hf := fill_enum vs 0 ((Array.range (len * 1)).map (z.cells[· % z.cells.size]!)).toList (by simp [hl]) h1
  simp only [List.take_zero, List.nil_append, Array.toArray_toList] at hf
  by_cases h0 : len = 0
  · have hv : vs = [] := List.eq_nil_of_length_eq_zero (by omega)
    subst hv
    subst h0
    simp [Instr.buildSlice, run_under (d := .slice e), run_size (size := 1) (zero := z) (bytes := b), newRow, enumV, Instr.fill]
    have e0 : Array.range 0 = #[] := Array.eq_empty_of_size_eq_zero (by simp)
    rw [e0, List.map_toArray]
    rfl
  · have hg : ¬ 16777216 < len * 1 := by omega
    have hg2 : ¬ len * 1 = 0 := by omega
    have e24 : (2 : Nat) ^ 24 = 16777216 := rfl
    simp only [Instr.buildSlice, Sem.run_bind, run_under (d := .slice e), run_size (size := 1) (zero := z) (bytes := b), Result.andThen_ok, e24, Sem.run_ite, if_neg hg, if_neg hg2, gt_iff_lt, Sem.run_pure, run_zero (size := 1) (zero := z) (bytes := b), hf, newRow, run_newObj]
    rfl

/-- a slice literal of one-cell elements -/
theorem s_lit {t e len b : Nat} {z : Value} {parts : List (Nat × Operand)} {cs : List Value} [TyU P t (.slice e)] [TyI P e 1 z b] (hE : Env n L a) (hS : St w0 w H) (hz : z.cells.size = 1) (hlen : Nat.ble len 16777216 = true)
    (hi : parts.map (·.1) = (enumV 0 cs).map (·.1)) (hv : evs L (parts.map (·.2)) = some cs) (hcl : cs.length = len) (h1 : ∀ v ∈ cs, v.oneCell' = true) (hd : Nat.blt d n = true)
    (K : ∀ g a' w', Env n ((d, .slice (some ⟨g, 0, none⟩) len len) :: L) a' → St w0 w' (hRow e 1 (some ⟨g, 0, none⟩) len len cs :: H) → wpList P ops Q rest a' w') :
    wpList P ops Q (⟨some d, .buildSlice t len parts.toArray, ty, ps, af, none⟩ :: rest) a w := by
  have hlen' : len ≤ 16777216 := Nat.le_of_ble_eq_true hlen
  have hrun := run_build1 (P := P) (w := w) (t := t) (e := e) (b := b) (z := z) hz hlen' cs hcl h1
  refine s_val (v := .slice (some ⟨w.heap.size, 0, none⟩) len len) (w' := w.alloc (.cells cs.toArray e)) hE rfl rfl hd ?_ fun a' hE' => K _ _ _ hE' ((hS.alloc cs e).blkRow 1 len (by simpa using hcl) (Nat.le_trans hlen' (by decide)))
  have hv2 := hE.evals hv
  have key : ∀ (ps : List (Nat × Operand)) (k : Nat) (cs : List Value), ps.map (·.1) = (enumV k cs).map (·.1) → (ps.map (·.2)).map a.eval = cs → ps.map (fun p => (p.1, a.eval p.2)) = enumV k cs := by
    intro ps
    induction ps with
    | nil =>
      intro k cs h1 h2
      cases cs with
      | nil => rfl
      | cons v vs => simp at h2
    | cons q qs ih =>
      intro k cs h1 h2
      cases cs with
      | nil => simp at h2
      | cons v vs =>
        simp only [enumV, List.map_cons, List.cons.injEq] at h1 h2 ⊢
        exact ⟨by rw [h1.1, h2.1], ih _ _ h1.2 h2.2⟩
  have hv' : (parts.map fun p => (p.1, a.eval p.2)).toArray = (enumV 0 cs).toArray := by rw [key parts 0 cs hi hv2]
  simp only [execOp, List.map_toArray, hv', Sem.run_bind, hrun, Result.andThen_ok, Sem.run_pure]

/-- append(v, x): one element of one cell -/
theorem s_append1 {t e bytes k c d2 : Nat} {z v : Value} {A : Option Addr} {cs : List Value} {s : Operand} {ty2 : TypeId} {ps2 : String} {af2 : Array Edge} [TyU P t (.slice e)] [TyI P e 1 z bytes] (hE : Env n L a) (hS : St w0 w (hRow e 1 A k c cs :: H))
    (hs : ev L s = some (.slice A k c)) (hx : ev L x = some v) (hne : ∀ t, s = .tmp t → Nat.beq d2 t = false) (h1 : v.oneCell' = true) (hb : (k + 1) * bytes ≤ 140737488355328)
    (hzs : z.cells.size = 1) (hby : Nat.blt 0 bytes = true) (hd2 : Nat.blt d2 n = true) (hd : Nat.blt d n = true)
    (K : ∀ A' c' u a' w', Env n ((d, .slice A' (k + 1) c') :: (d2, u) :: L) a' → St w0 w' (hRow e 1 A' (k + 1) c' (cs ++ [v]) :: H) → wpList P ops Q rest a' w') :
    wpList P ops Q (⟨some d2, .buildSlice t 1 #[(0, x)], ty2, ps2, af2, none⟩ :: ⟨some d, .call ⟨.builtin .append, #[s, .tmp d2], #[t, t]⟩, ty, ps, af, none⟩ :: rest) a w := by
  refine s_lit (z := z) (b := bytes) (parts := [(0, x)]) (cs := [v]) hE hS hzs rfl rfl (by simp [evs, hx]) rfl (by simpa using h1) hd2 fun g a' w' hE' hS' => ?_
  · have hs' : ev ((d2, .slice (some ⟨g, 0, none⟩) 1 1) :: L) s = some (.slice A k c) := by
      cases s with
      | tmp t => simp only [ev, find, hne t rfl, cond_false]; exact hs
      | const v => exact hs
      | func f => exact hs
      | global g => exact hs
    refine s_append (size := 1) (m := 1) (c2 := 1) (news := [v]) (z := z) (bytes := bytes) hE' hS'.p1 hs' (by simp [ev, find]) hS'.rd rfl (by simpa using h1) hb hzs rfl hby hd fun A' c' a2 w2 hE2 hS2 => K A' c' _ a2 w2 hE2 hS2.drop1

theorem s_eqnil {t e : TypeId} {A : Option Addr} {m c m2 c2 : Nat} {yt : TypeId} [TyU P t (.slice e)] (hE : Env n L a) (hx : ev L x = some (.slice A m c)) (hy : ev L y = some (.slice none m2 c2)) (hd : Nat.blt d n = true) (K : ∀ a', Env n ((d, .bool A.isNone) :: L) a' → wpList P ops Q rest a' w) :
    wpList P ops Q (⟨some d, .binOp .eql t x y yt, ty, ps, af, none⟩ :: rest) a w := by
  refine s_val (v := .bool A.isNone) (w' := w) hE rfl rfl hd ?_ K
  have hg : (eqGuard .eql t x y (.slice A m c) (.slice none m2 c2)).run P w = .ok () w := rfl
  have h1 := Lib.run_eql_slice_nil (P := P) w t e A m c m2 c2 TyU.out
  simp only [execOp, hE.eval hx, hE.eval hy, Sem.run_bind, hg, Result.andThen_ok, h1, Sem.run_pure]

theorem made1 (z : Value) (n : Nat) : (madeCells #[z] n).toList = List.replicate n z := by
  apply List.ext_getElem
  · simp [madeCells]
  · intro i h1 h2
    simp [madeCells, Nat.mod_one]

/-- make([]T, n, c) -/
theorem s_make {t e size b : Nat} {m c : Int} {z : Value} {k k2 : IntKind} [TyU P t (.slice e)] [TyI P e size z b] (hE : Env n L a) (hS : St w0 w H) (hx : ev L x = some (.int k m)) (hy : ev L y = some (.int k2 c)) (h0 : 0 ≤ m) (hmc : m ≤ c) (hb : (b : Int) * c ≤ 281474976710656) (h63 : c ≤ 9223372036854775807) (hd : Nat.blt d n = true)
    (K : ∀ g a' w', Env n ((d, .slice (some ⟨g, 0, none⟩) m.toNat c.toNat) :: L) a' → St w0 w' (hRow e size (some ⟨g, 0, none⟩) m.toNat c.toNat ((madeCells z.cells (c.toNat * size)).toList.take (m.toNat * size)) :: H) → wpList P ops Q rest a' w') :
    wpList P ops Q (⟨some d, .makeSlice t x y, ty, ps, af, none⟩ :: rest) a w := by
  obtain ⟨i, hi, hi1, hi2, hi3⟩ := TyI.info (P := P) (t := e) (size := size) (zero := z) (bytes := b)
  have hr := run_make (P := P) w t e i z TyU.out hi hi2 k k2 m c h0 hmc (by rw [hi3]; exact hb) h63
  rw [hi1] at hr
  have hS' := hS.alloc (madeCells z.cells (c.toNat * size)).toList e
  rw [Array.toArray_toList] at hS'
  refine s_val (v := .slice (some ⟨w.heap.size, 0, none⟩) m.toNat c.toNat) (w' := _) hE rfl rfl hd (by simp only [execOp, hE.eval hx, hE.eval hy, Sem.run_bind, hr, Result.andThen_ok, Sem.run_pure]) fun a' hE' => K _ _ _ hE' (hS'.conv ?_)
  intro S hs
  have hsz : (madeCells z.cells (c.toNat * size)).size = c.toNat * size := by simp [madeCells]
  have hle : m.toNat ≤ c.toNat := by omega
  refine ⟨fun ad h => by injection h with h; subst h; exact hs.1, ?_, .inr ⟨w.heap.size, c.toNat, madeCells z.cells (c.toNat * size), rfl, Nat.zero_le _, by simpa using hs.2, hle, ?_, hsz, rfl⟩⟩
  · rw [List.length_take, Array.length_toList, hsz]
    exact Nat.min_eq_left (Nat.mul_le_mul_right _ hle)
  · simp only [maxLen]; omega
end

/-! ## Gates: which step stands next (tried with reducible transparency) -/
section
variable {P : Program} {ops : Array Oper} {Q : Exit → Act → World → Prop} {rest : List Oper} {d : Nat} {dd : Option Nat} {a : Act} {w : World}
variable {ty xt yt : TypeId} {ps : String} {af : Array Edge} {x y z : Operand} {gd : Nat × Bool} {i : Nat}
theorem g_move (h : wpList P ops Q (⟨some d, .move x, ty, ps, af, none⟩ :: rest) a w) : wpList P ops Q (⟨some d, .move x, ty, ps, af, none⟩ :: rest) a w := h
theorem g_assign (h : wpList P ops Q (⟨some d, .assign x, ty, ps, af, none⟩ :: rest) a w) : wpList P ops Q (⟨some d, .assign x, ty, ps, af, none⟩ :: rest) a w := h
theorem g_bin (op : BinOp) (h : wpList P ops Q (⟨some d, .binOp op xt x y yt, ty, ps, af, none⟩ :: rest) a w) : wpList P ops Q (⟨some d, .binOp op xt x y yt, ty, ps, af, none⟩ :: rest) a w := h
theorem g_un (op : UnOp) (h : wpList P ops Q (⟨some d, .unOp op xt x, ty, ps, af, none⟩ :: rest) a w) : wpList P ops Q (⟨some d, .unOp op xt x, ty, ps, af, none⟩ :: rest) a w := h
theorem g_conv (h : wpList P ops Q (⟨some d, .convert xt yt x, ty, ps, af, none⟩ :: rest) a w) : wpList P ops Q (⟨some d, .convert xt yt x, ty, ps, af, none⟩ :: rest) a w := h
theorem g_blt (b : Builtin) {xs : Array Operand} {ts : Array TypeId} (h : wpList P ops Q (⟨some d, .call ⟨.builtin b, xs, ts⟩, ty, ps, af, none⟩ :: rest) a w) : wpList P ops Q (⟨some d, .call ⟨.builtin b, xs, ts⟩, ty, ps, af, none⟩ :: rest) a w := h
theorem g_extract (h : wpList P ops Q (⟨some d, .extract x i, ty, ps, af, none⟩ :: rest) a w) : wpList P ops Q (⟨some d, .extract x i, ty, ps, af, none⟩ :: rest) a w := h
theorem g_fa (h : wpList P ops Q (⟨some d, .fieldAddr xt x i, ty, ps, af, none⟩ :: rest) a w) : wpList P ops Q (⟨some d, .fieldAddr xt x i, ty, ps, af, none⟩ :: rest) a w := h
theorem g_nc (h : wpList P ops Q (⟨some d, .nilCheck x, ty, ps, af, none⟩ :: rest) a w) : wpList P ops Q (⟨some d, .nilCheck x, ty, ps, af, none⟩ :: rest) a w := h
theorem g_cond {c1 c2 : Code} (h : (Code.cond x c1 c2).wp P Q a w) : (Code.cond x c1 c2).wp P Q a w := h
end
end Go.Proofs.Ytaiahigeejodaaa
