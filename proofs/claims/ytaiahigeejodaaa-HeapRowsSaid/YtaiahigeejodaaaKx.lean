/-
  More rules: noughts behind a row, copying into a row, arrays cut to slices, slices as arrays.
-/
import Derived.Test.YtaiahigeejodaaaKw
import Derived.Lib.AppendZerosOnto
namespace Go.Proofs.Ytaiahigeejodaaa
open Go.RowKit
set_option linter.unusedVariables false
set_option linter.unusedSimpArgs false

theorem c_ordH {P : Program} {l : List Oper} {id : Nat} {Q' : Exit → Act → World → Prop} {a : Act} {w w0 : World} {H : List HP} (H' : List HP) (hS : St w0 w H) (hH : ∀ u, St w0 u H → St w0 u H') (k : Nat) (p : Pl) (hm : P.follows .mixedOrders = true)
    (hk : (Region.noSelect l.toArray && lateOk l.toArray k && p.ok l k l.length (Array.replicate l.length false)) = true)
    (h : ∀ w1, St w0 w1 H → St w0 w1 H' → wpO P l (Q' .normal) (fun w' => St w0 w' H') p a w1) : (Code.region id l.toArray true).wp P Q' a w :=
  c_ord (fun w' => St w0 w' H') k p hm hk (h _ hS.drew (hH _ hS.drew))
theorem zeroCells_one (z : Value) (k : Nat) : Builtin.zeroCells #[z] k = (List.replicate k z).toArray := by
  unfold Builtin.zeroCells
  apply Array.ext'
  refine List.eq_replicate_iff.2 ⟨by simp, fun b hb => ?_⟩
  have e : ((Array.range (k * (#[z] : Array Value).size)).map fun i => (#[z] : Array Value)[i % (#[z] : Array Value).size]!).toList = (Array.range (k * (#[z] : Array Value).size)).toList.map (fun i => (#[z] : Array Value)[i % (#[z] : Array Value).size]!) := Array.toList_map ..
  rw [e] at hb
  obtain ⟨i, _, rfl⟩ := List.mem_map.1 hb
  simp [Nat.mod_one]
section
variable {P : Program} {w w0 : World} {H : List HP}
theorem St.appendZRun {t tn ty e bytes n c k : Nat} {z : Value} {A : Option Addr} {cs : List Value} {kq kn : IntKind} [TyU P t (.slice e)] [TyU P tn (.int kn)] [TyI P e 1 z bytes] (hz : z.cells = #[z]) (h1 : z.oneCell' = true) (hby : 0 < bytes)
    (hS : St w0 w (hRow e 1 A n c cs :: H)) (hb : (n + k) * bytes ≤ 140737488355328) :
    ∃ A' c' w', (Builtin.append_ #[t, tn] ty #[.slice A n c, .int kq (k : Int)]).run P w = .ok (.slice A' (n + k) c') w' ∧ St w0 w' (hRow e 1 A' (n + k) c' (cs ++ List.replicate k z) :: H) := by
  obtain ⟨i, hi, hi1, hi2, hi3⟩ := TyI.info (P := P) (t := e) (size := 1) (zero := z) (bytes := bytes)
  have ht : P.underlying t = some (.slice e) := TyU.out
  have htn : P.underlying tn = some (.int kn) := TyU.out
  have h140 : n + k ≤ 140737488355328 := Nat.le_trans (Nat.le_mul_of_pos_right _ hby) hb
  have h63 : n + k ≤ maxLen := Nat.le_trans h140 (by decide)
  have hkb : k * bytes ≤ 140737488355328 := Nat.le_trans (Nat.mul_le_mul_right _ (Nat.le_add_left _ _)) hb
  have hw : IntKind.i64.wrap (k : Int) = k := by rw [IntKind.wrap_i64]; omega
  have hneg : ¬ ((k : Int) < 0) := by omega
  have h48i : ¬ (281474976710656 < (k : Int) * (bytes : Int)) := by
    rw [← Int.natCast_mul]
    omega
  obtain ⟨S0, hS0, hown0, hown⟩ := hS.head
  have hcl := hown.1
  by_cases hk : k = 0
  · subst hk
    refine ⟨A, c, w, ?_, by simpa using hS⟩
    rcases hown.2 with ⟨h0, h00⟩ | ⟨g, cap, cur, he, _, _, hnc, _⟩
    · injection h0 with ha hn0 hc0
      subst ha; subst hc0; subst hn0
      simp [Builtin.append_, run_underlying ht, run_underlying htn, sizeOf, typeInfo, hi, asInt, asIntOf, hw, storeCells, IntKind.wrap_i64]
    · injection he with ha hn0 hc0
      subst ha; subst hc0
      simp [Builtin.append_, run_underlying ht, run_underlying htn, sizeOf, typeInfo, hi, asInt, asIntOf, hw, hnc, storeCells, IntKind.wrap_i64]
  · have hlen : (cs ++ List.replicate k z).length = (n + k) * 1 := by rw [List.length_append, hcl, List.length_replicate]; omega
    have hones : ∀ u ∈ List.replicate k z, u.oneCell' = true := fun u hu => by rw [List.eq_of_mem_replicate hu]; exact h1
    have grow : ∀ (A0 : Option Addr) (sCap : Nat), sCap < n + k → (Builtin.firstCells i.size n (.slice A0 n sCap)).run P w.drew = .ok cs.toArray w.drew → A = A0 → c = sCap →
        ∃ A' c' w', (Builtin.append_ #[t, tn] ty #[.slice A n c, .int kq (k : Int)]).run P w = .ok (.slice A' (n + k) c') w' ∧ St w0 w' (hRow e 1 A' (n + k) c' (cs ++ List.replicate k z) :: H) := by
      rintro A0 sCap hg hold rfl rfl
      have hrun := Lib.run_append_grow_zeros (P := P) w t tn ty e i z kq kn ht htn hi hi2 A n c cs hold k (by omega) (by omega) hg (by omega) (by rw [hi3]; omega) (by rw [hi3]; exact growslice_fits hg hb)
      refine ⟨_, _, _, hrun, ?_⟩
      have hge := grownCap_ge w (n + k) c e
      have hcm : grownCap w (n + k) c e ≤ maxLen := grownCap_le_maxLen w (n + k) c e h63
      refine hS.tail.drew.new ((Below.refl _ _).alloc (Nat.le_refl _) _) (fun j => j = w.heap.size) (fun j hj => by subst hj; simp) ?_
      refine ⟨fun ad h => by injection h with h; subst h; rfl, hlen, .inr ⟨w.heap.size, _, _, rfl, Nat.zero_le _, heap_alloc_new w.drew _, hge, hcm, ?_, ?_⟩⟩
      · rw [hz, zeroCells_one, zeroCells_one]
        simp only [Array.size_append, List.size_toArray, hcl, List.length_replicate]
        omega
      · rw [hz, zeroCells_one, zeroCells_one]
        simp only [Array.toList_append, List.append_assoc]
        rw [← List.append_assoc, ← hlen]
        exact List.take_left
    rcases hown.2 with ⟨h0, h00⟩ | ⟨g, cap, cur, he, hbg, hg, hnc, hcm, hcs, htake⟩
    · injection h0 with ha hn0 hc0
      subst ha; subst hc0; subst hn0
      have hx : cs = [] := List.eq_nil_of_length_eq_zero (by simpa using hcl)
      subst hx
      exact grow none 0 (by omega) (by simp [Builtin.firstCells]) rfl rfl
    · injection he with ha hn0 hc0
      subst ha; subst hc0
      by_cases hroom : n + k ≤ c
      · have hfit : n + 0 + (List.replicate k z).length ≤ cur.size := by rw [hcs, List.length_replicate]; omega
        have hst := run_storeCells_at P g (n * 1) e (List.replicate k z) 0 cur w hg (by simpa using hfit) hones
        rw [Nat.add_zero, Nat.mul_one] at hst
        have hns : ¬ (k * i.size = 0) := by rw [hi1]; omega
        refine ⟨some ⟨g, 0, none⟩, c, w.setRow g (cur.toList.take n ++ List.replicate k z ++ cur.toList.drop (n + (List.replicate k z).length)).toArray, ?_, ?_⟩
        · have hadd : (⟨g, 0, none⟩ : Addr).add n = ⟨g, n, none⟩ := by rw [add_lit, Nat.zero_add]
          simp [Builtin.append_, run_underlying ht, run_underlying htn, sizeOf, typeInfo, zeroValue, hi, hi1, hi2, hi3, hz, zeroCells_one, asInt, asIntOf, hw, hneg, h48i, hk, hroom, hadd, hst]
        · refine hS.upd rfl rfl rfl (by simp [World.setRow]) fun S ⟨hs1, hs2⟩ => ⟨S, ⟨hs1, hlen, .inr ⟨g, c, _, rfl, hbg, setRow_heap w g cur _ e _ hg, hroom, hcm, ?_, ?_⟩⟩, fun j hj => .inl hj, fun j _ hj => setRow_other w g j _ (fun h => hj (h ▸ hs1 _ rfl))⟩
          · simp only [List.size_toArray, List.length_append, List.length_take, List.length_drop, Array.length_toList, List.length_replicate]
            rw [hcs]; omega
          · rw [Nat.mul_one] at htake
            rw [htake, ← hlen]
            exact List.take_left
      · exact grow _ _ (by omega) (by
          have hl := run_loadCells_list (P := P) w.drew ⟨g, 0, none⟩ cs (fun j u hu => (hown.cells (g := g) rfl) j u hu)
          rw [hcl, Nat.mul_one] at hl
          simp [Builtin.firstCells, hi1, hl]) rfl rfl
end
section
variable {P : Program} {ops : Array Oper} {Q : Exit → Act → World → Prop} {rest : List Oper} {n d : Nat} {L : List (Nat × Value)} {a : Act} {w w0 : World} {H : List HP} {gd : Option (Nat × Bool)}
variable {ty xt yt : TypeId} {ps : String} {af : Array Edge} {x y z : Operand} {k : Nat}
/-- append(v, make([]byte, m)...) -/
theorem s_appendZ {t tn e bytes m c j : Nat} {z : Value} {A : Option Addr} {cs : List Value} {kq kn : IntKind} {i : Int} [TyU P t (.slice e)] [TyU P tn (.int kn)] [TyI P e 1 z bytes] (hE : Env n L a) (hS : St w0 w H)
    (hx : ev L x = some (.slice A m c)) (hy : ev L y = some (.int kq i)) (hi : i = (j : Int)) (hk : H[k]? = some (hRow e 1 A m c cs)) (hz : z.cells = #[z]) (h1 : z.oneCell' = true) (hby : Nat.blt 0 bytes = true) (hb : (m + j) * bytes ≤ 140737488355328) (hd : Nat.blt d n = true)
    (K : ∀ A' c' a' w', Env n ((d, .slice A' (m + j) c') :: L) a' → St w0 w' (H.set k (hRow e 1 A' (m + j) c' (cs ++ List.replicate j z))) → wpList P ops Q rest a' w') :
    wpList P ops Q (⟨some d, .call ⟨.builtin .append, #[x, y], #[t, tn]⟩, ty, ps, af, none⟩ :: rest) a w := by
  subst hi
  obtain ⟨A', c', w', hrun, hS'⟩ := (hS.focus hk).appendZRun (P := P) (t := t) (tn := tn) (ty := ty) (z := z) (bytes := bytes) (kq := kq) (kn := kn) hz h1 (by simpa [Nat.blt_eq] using hby) hb
  exact s_val (v := .slice A' (m + j) c') (w' := w') hE rfl rfl hd (by simp [execOp, resolve, invoke, builtin, hE.eval hx, hE.eval hy, hrun]) fun a' hE' => K _ _ _ _ hE' (St.unfocus hk hS')
theorem g_appZ {t tn : TypeId} {kn : IntKind} [TyU P tn (.int kn)] (h : wpList P ops Q (⟨some d, .call ⟨.builtin .append, #[x, y], #[t, tn]⟩, ty, ps, af, gd⟩ :: rest) a w) : wpList P ops Q (⟨some d, .call ⟨.builtin .append, #[x, y], #[t, tn]⟩, ty, ps, af, gd⟩ :: rest) a w := h
/-- copy: onto a row's cells from the o-th on -/
theorem run_copyR {t t2 e e2 size size2 bytes m c dl dc m2 c2 o : Nat} {z : Value} {A D B : Option Addr} {ad : Addr} {cs news : List Value} [TyU P t (.slice e)] [TyI P e size z bytes] (hS : St w0 w H)
    (hk : H[k]? = some (hRow e2 size2 A m c cs)) (hA : A = some ad) (hD : news ≠ [] → D = some (ad.add o)) (hr : Rd w B news) (hn : news.length = Nat.min m2 dl * size) (hs : 0 < size) (ho : o + news.length ≤ cs.length) (h1 : ∀ v ∈ news, v.oneCell' = true) :
    ∃ w', (Builtin.copy_ #[t, t2] ty #[.slice D dl dc, .slice B m2 c2]).run P w = .ok (.int .i64 ((Nat.min m2 dl : Nat) : Int)) w' ∧ St w0 w' (H.set k (hRow e2 size2 A m c (splice cs o news))) := by
  have ht : P.underlying t = some (.slice e) := TyU.out
  obtain ⟨i, hi, hi1, hi2, hi3⟩ := TyI.info (P := P) (t := e) (size := size) (zero := z) (bytes := bytes)
  by_cases h0 : news = []
  · subst h0
    have hm : Nat.min m2 dl = 0 := by
      rcases Nat.mul_eq_zero.1 hn.symm with h | h
      · exact h
      · omega
    refine ⟨w, ?_, ?_⟩
    · have hload : ∀ b : Addr, (loadCells b 0).run P w = .ok #[] w := fun b => by simpa using run_loadCells_list (P := P) w b [] (by simp)
      rcases B with _ | b <;> rcases D with _ | dd <;> simp [Builtin.copy_, run_underlying ht, Builtin.lenOf, Builtin.firstCells, sizeOf, typeInfo, hi, hm, hload, storeCells, goInt]
    · have e : splice cs o [] = cs := by simp [splice]
      rw [e]
      exact St.unfocus hk (hS.focus hk)
  · obtain ⟨b, rfl, hc⟩ := hr h0
    obtain rfl := hD h0
    obtain ⟨w', hst, hS'⟩ := hS.spliceRow (P := P) (vs := news) hk hA ho h1
    have hload := run_loadCells_list (P := P) w b news hc
    refine ⟨w', ?_, hS'⟩
    simp [Builtin.copy_, run_underlying ht, Builtin.lenOf, Builtin.firstCells, sizeOf, typeInfo, hi, hi1, ← hn, hload, hst, goInt]
theorem s_copy {t t2 e e2 size size2 bytes m c dl dc m2 c2 o : Nat} {zz : Value} {A D B : Option Addr} {ad : Addr} {cs news : List Value} [TyU P t (.slice e)] [TyI P e size zz bytes] (hE : Env n L a) (hS : St w0 w H)
    (hx : ev L x = some (.slice D dl dc)) (hy : ev L y = some (.slice B m2 c2)) (hk : H[k]? = some (hRow e2 size2 A m c cs)) (hA : A = some ad) (hD : news ≠ [] → D = some (ad.add o)) (hr : Rd w B news) (hn : news.length = Nat.min m2 dl * size) (hs : Nat.blt 0 size = true) (ho : o + news.length ≤ cs.length) (h1 : ∀ v ∈ news, v.oneCell' = true) (hd : Nat.blt d n = true)
    (K : ∀ a' w', Env n ((d, .int .i64 ((Nat.min m2 dl : Nat) : Int)) :: L) a' → St w0 w' (H.set k (hRow e2 size2 A m c (splice cs o news))) → wpList P ops Q rest a' w') :
    wpList P ops Q (⟨some d, .call ⟨.builtin .copy, #[x, y], #[t, t2]⟩, ty, ps, af, none⟩ :: rest) a w := by
  obtain ⟨w', hrun, hS'⟩ := run_copyR (P := P) (t := t) (t2 := t2) (ty := ty) (dc := dc) (c2 := c2) (z := zz) hS hk hA hD hr hn (by simpa [Nat.blt_eq] using hs) ho h1
  exact s_val (v := .int .i64 ((Nat.min m2 dl : Nat) : Int)) (w' := w') hE rfl rfl hd (by simp [execOp, resolve, invoke, builtin, hE.eval hx, hE.eval hy, hrun]) fun a' hE' => K _ _ hE' hS'
/-- an array, as a slice -/
theorem r_sliceA {t e len size b g o : Nat} {zz : Value} [TyU P t (.array len e)] [TyI P e size zz b] (hE : Env n L a) (hx : ev L x = some (.pointer (some ⟨g, o, none⟩))) (hl : Nat.blt 0 len = true) :
    (execOp a.eval ⟨some d, .slice t x none none none, ty, ps, af, gd⟩).run P w = .ok (.value (.slice (some ⟨g, o, none⟩) len len)) w := by
  have h0 : ¬ len = 0 := by have : 0 < len := by simpa [Nat.blt_eq] using hl
                            omega
  have hadd : (⟨g, o, none⟩ : Addr).add 0 = ⟨g, o, none⟩ := by rw [add_lit, Nat.add_zero]
  simp [execOp, Instr.sliceAt, Instr.sureAddr, Instr.sliceBounds, hE.eval hx, run_under (d := .array len e), run_size (size := size) (zero := zz) (bytes := b), h0, hadd]
theorem r_sliceAR {t e len size b o : Nat} {zz : Value} {ad : Addr} [TyU P t (.array len e)] [TyI P e size zz b] (hE : Env n L a) (hx : ev L x = some (.pointer (some (ad.add o)))) (hl : Nat.blt 0 len = true) :
    (execOp a.eval ⟨some d, .slice t x none none none, ty, ps, af, gd⟩).run P w = .ok (.value (.slice (some (ad.add o)) len len)) w := by
  have h0 : ¬ len = 0 := by have : 0 < len := by simpa [Nat.blt_eq] using hl
                            omega
  have hadd : (ad.add o).add 0 = ad.add o := by rw [add_add, Nat.add_zero]
  simp [execOp, Instr.sliceAt, Instr.sureAddr, Instr.sliceBounds, hE.eval hx, run_under (d := .array len e), run_size (size := size) (zero := zz) (bytes := b), h0, hadd]
/-- a slice, as a pointer to an array -/
theorem r_toArr {t e len m c : Nat} {A : Option Addr} [TyU P t (.array len e)] (hE : Env n L a) (hx : ev L x = some (.slice A m c)) (hl : len ≤ m) :
    (execOp a.eval ⟨some d, .sliceToArrayPointer t x, ty, ps, af, gd⟩).run P w = .ok (.value (.pointer A)) w := by
  have h0 : ¬ m < len := by omega
  simp [execOp, Instr.arrayAt, hE.eval hx, run_under (d := .array len e), h0]
/-- cells of a block, from the o-th on, can be read -/
theorem St.blkRdAt {g t o : Nat} {cs : List Value} (hS : St w0 w H) (hk : H[k]? = some (hBlk g t cs)) : Rd w (some ⟨g, o, none⟩) (cs.drop o) := fun _ =>
  ⟨_, rfl, fun j u hu => by rw [add_lit, hS.cellAt hk, ← hu, List.getElem?_drop]⟩
end
end Go.Proofs.Ytaiahigeejodaaa
