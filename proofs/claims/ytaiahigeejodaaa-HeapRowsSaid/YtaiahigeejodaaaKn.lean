/-
  Appends by place; whole blocks read and written.
-/
import Derived.Test.YtaiahigeejodaaaKm
namespace Go.Proofs.Ytaiahigeejodaaa
open Go.RowKit
set_option linter.unusedVariables false
set_option linter.unusedSimpArgs false

section
variable {P : Program} {ops : Array Oper} {Q : Exit → Act → World → Prop} {rest : List Oper} {n d : Nat} {L : List (Nat × Value)} {a : Act} {w w0 : World} {H : List HP} {gd : Option (Nat × Bool)}
variable {ty xt yt : TypeId} {ps : String} {af : Array Edge} {x y z : Operand} {k : Nat}
theorem s_appendAt {t e size bytes m c m2 c2 : Nat} {z : Value} {A A2 : Option Addr} {cs news : List Value} [TyU P t (.slice e)] [TyI P e size z bytes] (hE : Env n L a) (hS : St w0 w H)
    (hx : ev L x = some (.slice A m c)) (hy : ev L y = some (.slice A2 m2 c2)) (hk : H[k]? = some (hRow e size A m c cs)) (hr : Rd w A2 news) (hl : news.length = m2 * size) (h1 : ∀ u ∈ news, u.oneCell' = true) (hb : (m + m2) * bytes ≤ 140737488355328)
    (hzs : z.cells.size = size) (hsz : Nat.blt 0 size = true) (hby : Nat.blt 0 bytes = true) (hd : Nat.blt d n = true)
    (K : ∀ A' c' a' w', Env n ((d, .slice A' (m + m2) c') :: L) a' → St w0 w' (H.set k (hRow e size A' (m + m2) c' (cs ++ news))) → wpList P ops Q rest a' w') :
    wpList P ops Q (⟨some d, .call ⟨.builtin .append, #[x, y], #[t, t]⟩, ty, ps, af, none⟩ :: rest) a w :=
  s_append hE (hS.focus hk) hx hy hr hl h1 hb hzs hsz hby hd fun A' c' a' w' hE' hS' => K A' c' a' w' hE' (St.unfocus hk hS')
theorem s_appendAt0 {t e size bytes c m2 c2 : Nat} {z : Value} {A A2 : Option Addr} {news : List Value} [TyU P t (.slice e)] [TyI P e size z bytes] (hE : Env n L a) (hS : St w0 w H)
    (hx : ev L x = some (.slice A 0 c)) (hy : ev L y = some (.slice A2 m2 c2)) (hk : H[k]? = some (hRow e size A 0 c [])) (hr : Rd w A2 news) (hl : news.length = m2 * size) (h1 : ∀ u ∈ news, u.oneCell' = true) (hb : m2 * bytes ≤ 140737488355328)
    (hzs : z.cells.size = size) (hsz : Nat.blt 0 size = true) (hby : Nat.blt 0 bytes = true) (hd : Nat.blt d n = true)
    (K : ∀ A' c' a' w', Env n ((d, .slice A' m2 c') :: L) a' → St w0 w' (H.set k (hRow e size A' m2 c' news)) → wpList P ops Q rest a' w') :
    wpList P ops Q (⟨some d, .call ⟨.builtin .append, #[x, y], #[t, t]⟩, ty, ps, af, none⟩ :: rest) a w := by
  refine s_append hE (hS.focus hk) hx hy hr hl h1 (by rw [Nat.zero_add]; exact hb) hzs hsz hby hd fun A' c' a' w' hE' hS' => ?_
  rw [Nat.zero_add] at hE' hS'
  rw [List.nil_append] at hS'
  exact K A' c' a' w' hE' (St.unfocus hk hS')
theorem s_appendNil {t e size bytes m2 c2 : Nat} {z : Value} {A2 : Option Addr} {news : List Value} [TyU P t (.slice e)] [TyI P e size z bytes] (hE : Env n L a) (hS : St w0 w H)
    (hx : ev L x = some (.slice none 0 0)) (hy : ev L y = some (.slice A2 m2 c2)) (hr : Rd w A2 news) (hl : news.length = m2 * size) (h1 : ∀ u ∈ news, u.oneCell' = true) (hb : m2 * bytes ≤ 140737488355328)
    (hzs : z.cells.size = size) (hsz : Nat.blt 0 size = true) (hby : Nat.blt 0 bytes = true) (hd : Nat.blt d n = true)
    (K : ∀ A' c' a' w', Env n ((d, .slice A' m2 c') :: L) a' → St w0 w' (hRow e size A' m2 c' news :: H) → wpList P ops Q rest a' w') :
    wpList P ops Q (⟨some d, .call ⟨.builtin .append, #[x, y], #[t, t]⟩, ty, ps, af, none⟩ :: rest) a w := by
  refine s_append hE (hS.rowNil e size) hx hy hr hl h1 (by rw [Nat.zero_add]; exact hb) hzs hsz hby hd fun A' c' a' w' hE' hS' => ?_
  rw [Nat.zero_add] at hE' hS'
  rw [List.nil_append] at hS'
  exact K A' c' a' w' hE' hS'
/-- bytes behind bytes -/
theorem s_appendB {t e bytes m2 c c2 : Nat} {z : Value} {A A2 : Option Addr} {news : List Value} {xs ys : List Nat} [TyU P t (.slice e)] [TyI P e 1 z bytes] (hE : Env n L a) (hS : St w0 w H)
    (hx : ev L x = some (.slice A xs.length c)) (hy : ev L y = some (.slice A2 m2 c2)) (hk : H[k]? = some (hRow e 1 A xs.length c (bys xs))) (hr : Rd w A2 news) (hn : news = bys ys) (hm : m2 = ys.length) (hb : (xs.length + ys.length) * bytes ≤ 140737488355328)
    (hzs : z.cells.size = 1) (hby : Nat.blt 0 bytes = true) (hd : Nat.blt d n = true)
    (K : ∀ A' c' a' w', Env n ((d, .slice A' (xs ++ ys).length c') :: L) a' → St w0 w' (H.set k (hRow e 1 A' (xs ++ ys).length c' (bys (xs ++ ys)))) → wpList P ops Q rest a' w') :
    wpList P ops Q (⟨some d, .call ⟨.builtin .append, #[x, y], #[t, t]⟩, ty, ps, af, none⟩ :: rest) a w := by
  subst hn hm
  refine s_appendAt hE hS hx hy hk hr (by rw [bys_length, Nat.mul_one]) (bys_one _) hb hzs rfl hby hd fun A' c' a' w' hE' hS' => ?_
  rw [← List.length_append] at hE' hS'
  rw [← bys_append] at hS'
  exact K A' c' a' w' hE' hS'
theorem s_appendBNil {t e bytes m2 c2 : Nat} {z : Value} {A2 : Option Addr} {news : List Value} {ys : List Nat} [TyU P t (.slice e)] [TyI P e 1 z bytes] (hE : Env n L a) (hS : St w0 w H)
    (hx : ev L x = some (.slice none 0 0)) (hy : ev L y = some (.slice A2 m2 c2)) (hr : Rd w A2 news) (hn : news = bys ys) (hm : m2 = ys.length) (hb : ys.length * bytes ≤ 140737488355328)
    (hzs : z.cells.size = 1) (hby : Nat.blt 0 bytes = true) (hd : Nat.blt d n = true)
    (K : ∀ A' c' a' w', Env n ((d, .slice A' ys.length c') :: L) a' → St w0 w' (hRow e 1 A' ys.length c' (bys ys) :: H) → wpList P ops Q rest a' w') :
    wpList P ops Q (⟨some d, .call ⟨.builtin .append, #[x, y], #[t, t]⟩, ty, ps, af, none⟩ :: rest) a w := by
  subst hn hm
  exact s_appendNil hE hS hx hy hr (by rw [bys_length, Nat.mul_one]) (bys_one _) hb hzs rfl hby hd K
theorem s_appendB0 {t e bytes c m2 c2 : Nat} {z : Value} {A A2 : Option Addr} {news : List Value} {ys : List Nat} [TyU P t (.slice e)] [TyI P e 1 z bytes] (hE : Env n L a) (hS : St w0 w H)
    (hx : ev L x = some (.slice A 0 c)) (hy : ev L y = some (.slice A2 m2 c2)) (hk : H[k]? = some (hRow e 1 A 0 c [])) (hr : Rd w A2 news) (hn : news = bys ys) (hm : m2 = ys.length) (hb : ys.length * bytes ≤ 140737488355328)
    (hzs : z.cells.size = 1) (hby : Nat.blt 0 bytes = true) (hd : Nat.blt d n = true)
    (K : ∀ A' c' a' w', Env n ((d, .slice A' ys.length c') :: L) a' → St w0 w' (H.set k (hRow e 1 A' ys.length c' (bys ys))) → wpList P ops Q rest a' w') :
    wpList P ops Q (⟨some d, .call ⟨.builtin .append, #[x, y], #[t, t]⟩, ty, ps, af, none⟩ :: rest) a w := by
  subst hn hm
  exact s_appendAt0 hE hS hx hy hk hr (by rw [bys_length, Nat.mul_one]) (bys_one _) hb hzs rfl hby hd K
/-- a row of bytes written out -/
theorem s_litB {t e len b : Nat} {z : Value} {parts : List (Nat × Operand)} {cs : List Value} (xs : List Nat) [TyU P t (.slice e)] [TyI P e 1 z b] (hE : Env n L a) (hS : St w0 w H) (hz : z.cells.size = 1) (hlen : Nat.ble len 16777216 = true)
    (hi : parts.map (·.1) = (enumV 0 cs).map (·.1)) (hv : evs L (parts.map (·.2)) = some cs) (hcl : cs.length = len) (hx : cs = bys xs) (hd : Nat.blt d n = true)
    (K : ∀ g a' w', Env n ((d, .slice (some ⟨g, 0, none⟩) xs.length len) :: L) a' → St w0 w' (hRow e 1 (some ⟨g, 0, none⟩) xs.length len (bys xs) :: H) → wpList P ops Q rest a' w') :
    wpList P ops Q (⟨some d, .buildSlice t len parts.toArray, ty, ps, af, none⟩ :: rest) a w := by
  subst hx
  have hl : xs.length = len := by rw [← hcl, bys_length]
  subst hl
  exact s_lit hE hS hz hlen hi hv hcl (bys_one _) hd K
theorem bys1 (x : Nat) : [(.int .u8 (x : Int) : Value)] = bys [x] := rfl
theorem bys2 (x y : Nat) : [(.int .u8 (x : Int) : Value), .int .u8 (y : Int)] = bys [x, y] := rfl
theorem wrap8_nat {x : Int} (h : 0 ≤ x ∧ x < 256) : IntKind.u8.wrap x = ((x.toNat : Nat) : Int) := by
  rw [wrap_u8_in (by omega)]; omega
theorem wrap8_len {x : Nat} (h : x < 256) : IntKind.u8.wrap (x : Int) = (x : Int) := wrap_u8_in (by omega)
theorem r_loadW {t u g size b : Nat} {z : Value} {cs : List Value} [TyA P t true] [TyI P t size z b] (hS : St w0 w H) (hE : Env n L a) (hx : ev L x = some (.pointer (some ⟨g, 0, none⟩))) (hk : H[k]? = some (hBlk g u cs)) (hl : cs.length = size) : (execOp a.eval ⟨some d, .load t x, ty, ps, af, gd⟩).run P w = .ok (.value (.agg cs.toArray)) w :=
  r_loadBs hS hE hx hk (by subst hl; simp) (by omega)
theorem s_loadW {t u g size b : Nat} {z : Value} {cs : List Value} [TyA P t true] [TyI P t size z b] (hS : St w0 w H) (hE : Env n L a) (hx : ev L x = some (.pointer (some ⟨g, 0, none⟩))) (hk : H[k]? = some (hBlk g u cs)) (hl : cs.length = size) (hd : Nat.blt d n = true) (K : ∀ a', Env n ((d, .agg cs.toArray) :: L) a' → wpList P ops Q rest a' w) :
    wpList P ops Q (⟨some d, .load t x, ty, ps, af, none⟩ :: rest) a w := s_val hE rfl rfl hd (r_loadW hS hE hx hk hl) K
theorem splice_all (cs vs : List Value) (h : vs.length = cs.length) : splice cs 0 vs = vs := by
  simp only [splice, List.take_zero, List.nil_append, Nat.zero_add]
  rw [List.drop_eq_nil_of_le (by omega), List.append_nil]
theorem run_buildA {P : Program} {w : World} {t e size b : Nat} {z : Value} {vs : List Value} [TyU P t (.slice e)] [TyI P e size z b] (hs : vs.length = size) (h0 : 0 < size) (hm : size ≤ 16777216) :
    (Instr.buildSlice t 1 #[(0, .agg vs.toArray)]).run P w = .ok (.slice (some ⟨w.heap.size, 0, none⟩) 1 1) (w.alloc (.cells vs.toArray e)) := by
  have hf := fill_fillG [(0, size)] (fun i => some (i * size, size)) (fun i q hq => by
    cases i with
    | zero => simp at hq; subst hq; simp
    | succ i => simp at hq) [(0, .agg vs.toArray)] ((Array.range (1 * size)).map (z.cells[· % z.cells.size]!)).toList vs (by
      unfold fillL
      simp only [List.getElem?_cons_zero]
      rw [show (Nat.beq (Value.agg vs.toArray).cells.toList.length size && Nat.ble (0 + (Value.agg vs.toArray).cells.toList.length) ((Array.range (1 * size)).map (z.cells[· % z.cells.size]!)).toList.length) = true from by
        simp [Value.cells, hs]]
      simp only [cond_true]
      unfold fillL
      congr 1
      exact splice_all _ _ (by simp [Value.cells, hs]))
  simp only [Array.toArray_toList] at hf
  have hg : ¬ 16777216 < 1 * size := by omega
  have hg2 : ¬ 1 * size = 0 := by omega
  have e24 : (2 : Nat) ^ 24 = 16777216 := rfl
  simp only [Instr.buildSlice, Sem.run_bind, run_under (d := .slice e), run_size (size := size) (zero := z) (bytes := b), Result.andThen_ok, e24, Sem.run_ite, if_neg hg, if_neg hg2, gt_iff_lt, Sem.run_pure, run_zero (size := size) (zero := z) (bytes := b), hf]
  rfl
/-- a row of one struct written out -/
theorem s_litA {t e size b : Nat} {z : Value} {vs : List Value} [TyU P t (.slice e)] [TyI P e size z b] (hE : Env n L a) (hS : St w0 w H) (hx : ev L x = some (.agg vs.toArray)) (hs : vs.length = size) (h0 : Nat.blt 0 size = true) (hm : Nat.ble size 16777216 = true) (hd : Nat.blt d n = true)
    (K : ∀ g a' w', Env n ((d, .slice (some ⟨g, 0, none⟩) 1 1) :: L) a' → St w0 w' (hRow e size (some ⟨g, 0, none⟩) 1 1 vs :: H) → wpList P ops Q rest a' w') :
    wpList P ops Q (⟨some d, .buildSlice t 1 #[(0, x)], ty, ps, af, none⟩ :: rest) a w := by
  have hrun := run_buildA (P := P) (w := w) (t := t) (e := e) (b := b) (z := z) hs (by simpa [Nat.blt_eq] using h0) (Nat.le_of_ble_eq_true hm)
  refine s_val (v := .slice (some ⟨w.heap.size, 0, none⟩) 1 1) (w' := w.alloc (.cells vs.toArray e)) hE rfl rfl hd ?_ fun a' hE' => K _ _ _ hE' ((hS.alloc vs e).blkRow size 1 (by omega) (by decide))
  simp [execOp, hE.eval hx, hrun]
theorem s_storeW {t u g b size : Nat} {z : Value} {cs vs : List Value} [TyI P t size z b] (hS : St w0 w H) (hE : Env n L a) (hx : ev L x = some (.pointer (some ⟨g, 0, none⟩))) (hy : ev L y = some (.agg vs.toArray)) (hk : H[k]? = some (hBlk g u cs)) (hs : vs.length = size) (ho : cs.length = size) (h1 : ∀ v ∈ vs, v.oneCell' = true)
    (K : ∀ w', St w0 w' (H.set k (hBlk g u vs)) → wpList P ops Q rest a w') :
    wpList P ops Q (⟨none, .store t x y, ty, ps, af, none⟩ :: rest) a w :=
  s_storeBs' vs hS hE hx hy hk (splice_all cs vs (by omega)) hs (by omega) h1 K
end
/-- a block's cells, handed back -/
theorem res_W {P : Program} {w w0 : World} {H : List HP} {t u g size b k : Nat} {z : Value} {cs : List Value} [TyA P t true] [TyI P t size z b] (hS : St w0 w H) (hk : H[k]? = some (hBlk g u cs)) (hl : cs.length = size) : (loadVar t ⟨g, 0, none⟩).run P w = .ok (.agg cs.toArray) w :=
  run_loadVarA (size := size) (z := z) (b := b) hl fun j u hu => by rw [add_lit, hS.cellAt hk, Nat.zero_add]; exact hu
theorem res_1 {P : Program} {w w0 : World} {H : List HP} {t u g k : Nat} {v : Value} [TyA P t false] (hS : St w0 w H) (hk : H[k]? = some (hBlk g u [v])) : (loadVar t ⟨g, 0, none⟩).run P w = .ok v w :=
  run_loadVar1 ((hS.cellAt hk 0).trans rfl)
/-! ### numbers that are not negative -/
theorem addN {a b : Nat} (h : a + b ≤ 9223372036854775807) : IntKind.i64.wrap ((a : Int) + (b : Int)) = ((a + b : Nat) : Int) := by
  rw [wrap64_in (by omega)]; omega
theorem subN {a b : Nat} (h : b ≤ a) (h2 : a ≤ 9223372036854775807) : IntKind.i64.wrap ((a : Int) - (b : Int)) = ((a - b : Nat) : Int) := by
  rw [wrap64_in (by omega)]; omega
theorem mulN {a b : Nat} (h : a * b ≤ 9223372036854775807) : IntKind.i64.wrap ((a : Int) * (b : Int)) = ((a * b : Nat) : Int) := by
  have e : (a : Int) * (b : Int) = ((a * b : Nat) : Int) := by simp
  rw [e, wrap64_in (by omega)]
theorem quoN {a b : Nat} (h : a ≤ 9223372036854775807) : IntKind.i64.wrap (((a : Nat) : Int).tdiv ((b : Nat) : Int)) = ((a / b : Nat) : Int) := by
  have e : ((a : Nat) : Int).tdiv ((b : Nat) : Int) = ((a / b : Nat) : Int) := rfl
  have : a / b ≤ a := Nat.div_le_self a b
  rw [e]
  generalize a / b = q at *
  exact wrap64_in (by omega)
section
variable {P : Program} {l : List Oper} {Q : Act → World → Prop} {S : World → Prop} {d : Nat} {a : Act} {w : World} {p : Pl}
variable {ty xt yt : TypeId} {ps : String} {af : Array Edge} {x y z : Operand}
theorem q_slice {l1 h m : Option Operand} (q : wpR P l Q S ⟨some d, .slice xt x l1 h m, ty, ps, af, none⟩ p a w) : wpR P l Q S ⟨some d, .slice xt x l1 h m, ty, ps, af, none⟩ p a w := q
theorem q_build {t : TypeId} {parts : Array (Nat × Operand)} (q : wpR P l Q S ⟨some d, .build t parts, ty, ps, af, none⟩ p a w) : wpR P l Q S ⟨some d, .build t parts, ty, ps, af, none⟩ p a w := q
end
/-- what a cut of bytes reads -/
theorem Rd.cutB {w : World} {A : Option Addr} {xs : List Nat} (h : Rd w A (bys xs)) {c l : Nat} (hl : xs.length ≤ c) (m : Nat) : Rd w (if c = l then A else A.map (·.add (l * 1))) (bys ((xs.drop l).take m)) := by
  rw [bys_take, bys_drop]
  exact (h.cut (by rw [bys_length]; exact hl) (l * 1) (Nat.mul_one l)).take m |> fun q => by rw [Nat.mul_one] at q ⊢; exact q
/-- the beginning, where all that is owned stays as it is while something is read -/
theorem c_ordS {P : Program} {l : List Oper} {id : Nat} {Q' : Exit → Act → World → Prop} {a : Act} {w w0 : World} {H : List HP} (hS : St w0 w H) (k : Nat) (p : Pl) (hm : P.follows .mixedOrders = true)
    (hk : (Region.noSelect l.toArray && lateOk l.toArray k && p.ok l k l.length (Array.replicate l.length false)) = true)
    (h : ∀ w1, St w0 w1 H → wpO P l (Q' .normal) (fun w' => St w0 w' H) p a w1) : (Code.region id l.toArray true).wp P Q' a w :=
  c_ord (fun w' => St w0 w' H) k p hm hk (h _ hS.drew)
section
variable {P : Program} {ops : Array Oper} {Q : Exit → Act → World → Prop} {rest : List Oper} {n d : Nat} {L : List (Nat × Value)} {a : Act} {w w0 : World} {H : List HP} {gd : Option (Nat × Bool)}
variable {ty xt yt : TypeId} {ps : String} {af : Array Edge} {x y z : Operand} {k : Nat}
theorem s_allocS {t size b : Nat} {zs : Array Value} {cs : List Value} [TyI P t size (.agg zs) b] (hE : Env n L a) (hS : St w0 w H) (hz : zs = cs.toArray) (hd : Nat.blt d n = true) (K : ∀ g a' w', Env n ((d, .pointer (some ⟨g, 0, none⟩)) :: L) a' → St w0 w' (hBlk g t cs :: H) → wpList P ops Q rest a' w') :
    wpList P ops Q (⟨some d, .alloc t, ty, ps, af, none⟩ :: rest) a w := s_alloc (z := .agg zs) hE hS (by rw [hz]; rfl) hd K
theorem s_alloc1 {t size b : Nat} {v : Value} [TyI P t size v b] (hE : Env n L a) (hS : St w0 w H) (h1 : v.oneCell' = true) (hd : Nat.blt d n = true) (K : ∀ g a' w', Env n ((d, .pointer (some ⟨g, 0, none⟩)) :: L) a' → St w0 w' (hBlk g t [v] :: H) → wpList P ops Q rest a' w') :
    wpList P ops Q (⟨some d, .alloc t, ty, ps, af, none⟩ :: rest) a w := s_alloc (z := v) hE hS (one_cells h1) hd K
theorem s_boxS {t : TypeId} {cs : List Value} (hE : Env n L a) (hS : St w0 w H) (hx : ev L x = some (.agg cs.toArray)) (hd : Nat.blt d n = true) (K : ∀ g a' w', Env n ((d, .pointer (some ⟨g, 0, none⟩)) :: L) a' → St w0 w' (hBlk g t cs :: H) → wpList P ops Q rest a' w') :
    wpList P ops Q (⟨some d, .box t x, ty, ps, af, none⟩ :: rest) a w := s_box hE hS hx rfl hd K
theorem s_box1 {t : TypeId} {v : Value} (hE : Env n L a) (hS : St w0 w H) (hx : ev L x = some v) (h1 : v.oneCell' = true) (hd : Nat.blt d n = true) (K : ∀ g a' w', Env n ((d, .pointer (some ⟨g, 0, none⟩)) :: L) a' → St w0 w' (hBlk g t [v] :: H) → wpList P ops Q rest a' w') :
    wpList P ops Q (⟨some d, .box t x, ty, ps, af, none⟩ :: rest) a w := s_box hE hS hx (one_cells h1) hd K
end
/-- one piece alone -/
theorem Sep.none_ {w : World} {L : List HP} (T : Nat → Prop) (_ : Sep w L T) : Sep w [] T := trivial
theorem St.keep2 {w w0 : World} {L : List HP} {a b : HP} (hS : St w0 w (a :: b :: L)) : St w0 w [a, b] := ⟨hS.below, Sep.cons_mono (L' := [b]) (fun _ => Sep.cons_mono (L' := []) Sep.none_) hS.sep⟩
theorem St.keep3 {w w0 : World} {L : List HP} {a b c : HP} (hS : St w0 w (a :: b :: c :: L)) : St w0 w [a, b, c] := ⟨hS.below, Sep.cons_mono (L' := [b, c]) (fun _ => Sep.cons_mono (L' := [c]) (fun _ => Sep.cons_mono (L' := []) Sep.none_)) hS.sep⟩
/-- of all pieces the j-th of the others, and the i-th -/
theorem St.only2 {w w0 : World} {L : List HP} {a b : HP} (i j : Nat) (hS : St w0 w L) (hi : L[i]? = some a) (hj : (L.eraseIdx i)[j]? = some b) : St w0 w [b, a] :=
  St.keep2 (L := (L.eraseIdx i).eraseIdx j) ((hS.focus hi).focus (k := j + 1) (by simpa using hj))
theorem St.only {w w0 : World} {L : List HP} {h : HP} (k : Nat) (hS : St w0 w L) (hk : L[k]? = some h) : St w0 w [h] := by
  obtain ⟨hb, S, h1, h2, r⟩ := hS.focus hk
  exact ⟨hb, S, h1, h2, trivial⟩
/-- the beginning, where one piece stays as it is -/
theorem c_ordK {P : Program} {l : List Oper} {id : Nat} {Q' : Exit → Act → World → Prop} {a : Act} {w w0 : World} {H : List HP} {h : HP} (hS : St w0 w H) (i : Nat) (hi : H[i]? = some h) (k : Nat) (p : Pl) (hm : P.follows .mixedOrders = true)
    (hk : (Region.noSelect l.toArray && lateOk l.toArray k && p.ok l k l.length (Array.replicate l.length false)) = true)
    (K : ∀ w1, St w0 w1 H → St w0 w1 [h] → wpO P l (Q' .normal) (fun w' => St w0 w' [h]) p a w1) : (Code.region id l.toArray true).wp P Q' a w :=
  c_ord (fun w' => St w0 w' [h]) k p hm hk (K _ hS.drew (hS.drew.only i hi))
/-- the same, where two pieces stay: the j-th of the others, and the i-th -/
theorem c_ordK2 {P : Program} {l : List Oper} {id : Nat} {Q' : Exit → Act → World → Prop} {a : Act} {w w0 : World} {H : List HP} {h h2 : HP} (hS : St w0 w H) (i j : Nat) (hi : H[i]? = some h) (hj : (H.eraseIdx i)[j]? = some h2) (k : Nat) (p : Pl) (hm : P.follows .mixedOrders = true)
    (hk : (Region.noSelect l.toArray && lateOk l.toArray k && p.ok l k l.length (Array.replicate l.length false)) = true)
    (K : ∀ w1, St w0 w1 H → St w0 w1 [h2, h] → wpO P l (Q' .normal) (fun w' => St w0 w' [h2, h]) p a w1) : (Code.region id l.toArray true).wp P Q' a w :=
  c_ord (fun w' => St w0 w' [h2, h]) k p hm hk (K _ hS.drew (hS.drew.only2 i j hi hj))
section
variable {P : Program} {l : List Oper} {Q : Act → World → Prop} {a : Act} {w w0 : World} {H : List HP} {h : HP} {p : Pl}
theorem o_grow (hS : St w0 w (h :: H)) (k : wpO P l Q (fun w' => St w0 w' (h :: H)) p a w) : (fun (e : Exit) (a' : Act) (w' : World) => e = .normal ∧ ∃ S' : World → Prop, (∀ u, S' u → St w0 u H) ∧ S' w' ∧ wpO P l Q S' p a' w') .normal a w :=
  o_back (fun w' => St w0 w' (h :: H)) (fun u hu => hu.tail) hS k
theorem o_same (hS : St w0 w H) (k : wpO P l Q (fun w' => St w0 w' H) p a w) : (fun (e : Exit) (a' : Act) (w' : World) => e = .normal ∧ ∃ S' : World → Prop, (∀ u, S' u → St w0 u H) ∧ S' w' ∧ wpO P l Q S' p a' w') .normal a w :=
  o_back (fun w' => St w0 w' H) (fun u hu => hu) hS k
end
theorem Rd.none_nil {w : World} {xs : List Nat} (h : Rd w none (bys xs)) : xs = [] := by
  cases xs with
  | nil => rfl
  | cons x xs => exact absurd (h (by simp [bys])) (by rintro ⟨ad, h, _⟩; cases h)
theorem St.unfocus2 {w w0 : World} {L : List HP} {h h' m : HP} {k : Nat} (hk : L[k]? = some h) (hS : St w0 w (m :: h' :: L.eraseIdx k)) : St w0 w (m :: L.set k h') := by
  obtain ⟨hb, S, h1, h2, r⟩ := hS
  exact ⟨hb, S, h1, h2, Sep.unfocus hk r⟩
section
variable {P : Program} {l : List Oper} {Q : Act → World → Prop} {a : Act} {w w0 : World} {H : List HP} {h h2 h3 : HP} {p : Pl}
theorem o_grow2 (hS : St w0 w (h :: h2 :: H)) (k : wpO P l Q (fun w' => St w0 w' (h :: h2 :: H)) p a w) : (fun (e : Exit) (a' : Act) (w' : World) => e = .normal ∧ ∃ S' : World → Prop, (∀ u, S' u → St w0 u H) ∧ S' w' ∧ wpO P l Q S' p a' w') .normal a w :=
  o_back (fun w' => St w0 w' (h :: h2 :: H)) (fun u hu => hu.tail.tail) hS k
theorem o_grow3 (hS : St w0 w (h :: h2 :: h3 :: H)) (k : wpO P l Q (fun w' => St w0 w' (h :: h2 :: h3 :: H)) p a w) : (fun (e : Exit) (a' : Act) (w' : World) => e = .normal ∧ ∃ S' : World → Prop, (∀ u, S' u → St w0 u H) ∧ S' w' ∧ wpO P l Q S' p a' w') .normal a w :=
  o_back (fun w' => St w0 w' (h :: h2 :: h3 :: H)) (fun u hu => hu.tail.tail.tail) hS k
end
/-! ### rows of like things -/
theorem flat_len {α : Type} {c : α → List Value} {size : Nat} : ∀ {l : List α}, (∀ y ∈ l, (c y).length = size) → (l.flatMap c).length = l.length * size
  | [], _ => by simp
  | y :: l, h => by
    rw [List.flatMap_cons, List.length_append, h y (by simp), flat_len (fun z hz => h z (by simp [hz])), List.length_cons, Nat.succ_mul, Nat.add_comm]
theorem flat_seg {α : Type} {c : α → List Value} {size : Nat} : ∀ {l : List α}, (∀ y ∈ l, (c y).length = size) → ∀ {i : Nat} (hi : i < l.length), ((l.flatMap c).drop (i * size)).take size = c l[i]
  | [], _, i, hi => by simp at hi
  | y :: l, h, 0, hi => by
    have := h y (by simp)
    simp [← this]
  | y :: l, h, i + 1, hi => by
    have h1 := h y (by simp)
    have ih := flat_seg (l := l) (fun z hz => h z (by simp [hz])) (i := i) (by simpa using hi)
    rw [List.flatMap_cons, Nat.succ_mul, Nat.add_comm, ← List.drop_drop, show ((c y ++ l.flatMap c).drop size) = l.flatMap c from by rw [← h1, List.drop_left]]
    simpa using ih
theorem flat_one {α : Type} {c : α → List Value} {size : Nat} {l : List α} (h : ∀ y ∈ l, (c y).length = size) {i j : Nat} (hi : i < l.length) (hj : j < size) : (l.flatMap c)[i * size + j]? = (c l[i])[j]? := by
  rw [← flat_seg h hi, List.getElem?_take, if_pos hj, List.getElem?_drop]
end Go.Proofs.Ytaiahigeejodaaa
