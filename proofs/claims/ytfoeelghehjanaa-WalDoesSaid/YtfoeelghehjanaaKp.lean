/-
  Arguments that read as data, whatever their type: what they are to the calculus.
-/
import Derived.Test.YtfoeelghehjanaaK1
import Derived.ProofKit
import Derived.SizedLaws
import Derived.ChangeSlices
import Derived.ChangeArms
import Derived.OpenShut
import Derived.Below
import Derived.Carry
namespace Go.Proofs.Ytfoeelghehjanaa
open Go.RowKit Go.ChangeShapes Go.WideShapes
set_option linter.unusedVariables false
set_option linter.unusedSimpArgs false

section
variable {H : Type} (enc : TypeId × Value → H) (P : Program) (W : World) (base : Nat) (spare : Nat → Bool) (held : Bool)
/-- what is known of sizes: it goes down to the parts -/
structure Sz (H : Type) (P : Program) where
  S : TypeId → DataW H → Prop
  okn : Nat → Nat → Prop
  zero : ∀ {b : Nat}, okn 0 b
  mono : ∀ {n m b : Nat}, n ≤ m → okn m b → okn n b
  slice : ∀ {t e : TypeId} {el sp : List (DataW H)}, P.underlying t = some (.slice e) → S t (.slice el sp) → okn (el.length + sp.length) (P.bytesOf e) ∧ ∀ d ∈ el, S e d
  struct : ∀ {t : TypeId} {fs : Array Field} {l : List (DataW H)}, P.underlying t = some (.struct fs) → S t (.agg l) → ∀ (i : Nat) (f : Field) (d : DataW H), fs[i]? = some f → l[i]? = some d → S f.type d
  array : ∀ {t e : TypeId} {n : Nat} {l : List (DataW H)}, P.underlying t = some (.array n e) → S t (.agg l) → ∀ d ∈ l, S e d
variable (Z : Sz H P)
def Rds (t : TypeId) {α : Type} (cells : α → List Value) (ok : α → Prop) : Prop :=
  ∀ (fuel : Nat) (cs : List Value) (x : DataW H × List MemPlace), DataW.trod enc P W base spare held fuel t cs = some x → Z.S t x.1 → ∃ y, cs = cells y ∧ ok y
/-- parts one behind the other: where each begins, its type, its cells -/
def RdsL (fs : List (Nat × TypeId × Nat)) {α : Type} (cells : α → List Value) (ok : α → Prop) : Prop :=
  ∀ (fuel : Nat) (cs : List Value) (xs : List (DataW H × List MemPlace)), xs.length = fs.length → (∀ (i : Nat) f, fs[i]? = some f → DataW.trod enc P W base spare held fuel f.2.1 ((cs.drop f.1).take f.2.2) = xs[i]?) →
    (∀ (i : Nat) f x, fs[i]? = some f → xs[i]? = some x → Z.S f.2.1 x.1) → ∃ y, (fs.map fun f => (cs.drop f.1).take f.2.2).flatten = cells y ∧ ok y
end

section
variable {H : Type} {enc : TypeId × Value → H} {P : Program} {W : World} {base : Nat} {spare : Nat → Bool} {held : Bool} {Z : Sz H P}
theorem rds_int {t : TypeId} {k : IntKind} (ht : P.underlying t = some (.int k)) : Rds enc P W base spare held Z t (fun n : Int => [.int k n]) (fun n => (Lit.int k n).wf = true) := by
  intro fuel cs x h _
  obtain ⟨n, h1, _, h3⟩ := DataW.trod_int ht h
  exact ⟨n, h1, h3⟩
theorem rds_bool {t : TypeId} (ht : P.underlying t = some .bool) : Rds enc P W base spare held Z t (fun b : Bool => [.bool b]) (fun _ => True) := by
  intro fuel cs x h _
  obtain ⟨b, h1, _⟩ := DataW.trod_bool ht h
  exact ⟨b, h1, trivial⟩
theorem rdsL_nil : RdsL enc P W base spare held Z [] (fun _ : Unit => []) (fun _ => True) := fun _ _ _ _ _ _ => ⟨(), rfl, trivial⟩
theorem rdsL_cons {o n : Nat} {t : TypeId} {fs : List (Nat × TypeId × Nat)} {α β : Type} {c1 : α → List Value} {o1 : α → Prop} {c2 : β → List Value} {o2 : β → Prop}
    (h1 : Rds enc P W base spare held Z t c1 o1) (h2 : RdsL enc P W base spare held Z fs c2 o2) : RdsL enc P W base spare held Z ((o, t, n) :: fs) (fun p : α × β => c1 p.1 ++ c2 p.2) (fun p => o1 p.1 ∧ o2 p.2) := by
  intro fuel cs xs hl ht hs
  cases xs with
  | nil => simp at hl
  | cons x xs =>
    obtain ⟨a, ha, hoa⟩ := h1 fuel _ x (ht 0 _ rfl) (hs 0 _ x rfl rfl)
    obtain ⟨b, hb, hob⟩ := h2 fuel cs xs (by simpa using hl) (fun i f hf => ht (i + 1) f hf) (fun i f x hf hx => hs (i + 1) f x hf hx)
    exact ⟨(a, b), by simp [ha, hb], hoa, hob⟩
/-- the parts are all, one behind the other -/
def contig : List (Nat × TypeId × Nat) → Nat → Nat → Bool
  | [], o, n => Nat.beq o n
  | f :: fs, o, n => Nat.beq f.1 o && contig fs (o + f.2.2) n
theorem contig_flat : ∀ (fs : List (Nat × TypeId × Nat)) (o n : Nat) (cs : List Value), contig fs o n = true → cs.length = n → (fs.map fun f => (cs.drop f.1).take f.2.2).flatten = cs.drop o
  | [], o, n, cs, h, hl => by
    have := Nat.eq_of_beq_eq_true h
    simp; omega
  | f :: fs, o, n, cs, h, hl => by
    simp only [contig, Bool.and_eq_true] at h
    have e := Nat.eq_of_beq_eq_true h.1
    have ih := contig_flat fs (o + f.2.2) n cs h.2 hl
    simp only [List.map_cons, List.flatten_cons, ih, e]
    rw [← List.drop_drop, List.take_append_drop]
theorem rds_struct {t : TypeId} {F : Array Field} {fs : List (Nat × TypeId × Nat)} {n : Nat} {α : Type} {c : α → List Value} {o : α → Prop} (ht : P.underlying t = some (.struct F)) (hn : P.cellsOf t = n)
    (hF : F.toList.map (fun f => (f.offset, f.type, P.cellsOf f.type)) = fs) (hc : contig fs 0 n = true) (h : RdsL enc P W base spare held Z fs c o) : Rds enc P W base spare held Z t c o := by
  intro fuel cs x hx hs
  obtain ⟨xs, m, _, rfl, hl, hlen, hf⟩ := DataW.trod_struct ht hx
  obtain ⟨y, hy, hoy⟩ := h m cs xs (by rw [hlen, ← hF]; simp) (fun i f hfi => by
    rw [← hF, List.getElem?_map] at hfi
    obtain ⟨g, hg, rfl⟩ := Option.map_eq_some_iff.1 hfi
    exact hf i g (by simpa using hg)) (fun i f x hfi hxi => by
    rw [← hF, List.getElem?_map] at hfi
    obtain ⟨g, hg, rfl⟩ := Option.map_eq_some_iff.1 hfi
    exact Z.struct ht hs i g x.1 (by simpa using hg) (by simp [hxi]))
  refine ⟨y, ?_, hoy⟩
  rw [← hy, contig_flat fs 0 n cs hc (by rw [hl, hn])]
  rfl
theorem rds_array {t e : TypeId} {n size : Nat} {α : Type} {c : α → List Value} {o : α → Prop} (ht : P.underlying t = some (.array n e)) (hn : P.cellsOf t = n * size) (hsz : P.cellsOf e = size) (h : Rds enc P W base spare held Z e c o) :
    Rds enc P W base spare held Z t (fun l : List α => l.flatMap c) (fun l => l.length = n ∧ ∀ y ∈ l, o y) := by
  intro fuel cs x hx hs
  obtain ⟨xs, m, _, rfl, hl, hlen, hf⟩ := DataW.trod_array ht hx
  rw [hn] at hl
  rw [hsz] at hf
  have hS := Z.array ht hs
  clear hx hs ht hn
  -- by the number of elements that are read
  have key : ∀ (k : Nat), k ≤ n → ∃ l : List α, l.flatMap c = cs.take (k * size) ∧ l.length = k ∧ ∀ y ∈ l, o y := by
    intro k
    induction k with
    | zero => intro _; exact ⟨[], by simp, rfl, by simp⟩
    | succ k ih =>
      intro hk
      obtain ⟨l, h1, h2, h3⟩ := ih (by omega)
      have hk' : k < xs.length := by omega
      obtain ⟨y, hy, hoy⟩ := h m _ xs[k] (by rw [hf k (by omega), List.getElem?_eq_getElem hk']) (hS _ (by simp [List.mem_map]; exact ⟨_, List.getElem_mem hk'⟩))
      refine ⟨l ++ [y], ?_, by simp [h2], fun z hz => ?_⟩
      · simp only [List.flatMap_append, h1, List.flatMap_cons, List.flatMap_nil, List.append_nil, ← hy]
        rw [Nat.succ_mul, List.take_add]
      · rcases List.mem_append.1 hz with hz | hz
        · exact h3 z hz
        · simp at hz; subst hz; exact hoy
  obtain ⟨l, h1, h2, h3⟩ := key n (Nat.le_refl _)
  refine ⟨l, ?_, h2, h3⟩
  show cs = l.flatMap c
  rw [h1, ← hl, List.take_length]
theorem rds_slice {t e : TypeId} {size bytes : Nat} {α : Type} {c : α → List Value} {o : α → Prop} (ht : P.underlying t = some (.slice e)) (hsz : P.cellsOf e = size) (hby : P.bytesOf e = bytes) (hp : 0 < size) (h : Rds enc P W base spare held Z e c o) :
    Rds enc P W base spare held Z t (fun q : Option Addr × Nat × List α => [.slice q.1 q.2.2.length q.2.1])
      (fun q => Rd W q.1 (q.2.2.flatMap c) ∧ q.2.2.length ≤ q.2.1 ∧ q.2.1 ≤ maxLen ∧ Z.okn q.2.2.length bytes ∧ ∀ y ∈ q.2.2, o y ∧ (c y).length = size) := by
  intro fuel cs x hx hs
  rcases DataW.trod_slice ht hx with ⟨rfl, _⟩ | ⟨a, len, cap, elems, rest, n, _, rfl, rfl, hb, hl, hm, hlen, hel, _, _⟩
  · exact ⟨(none, 0, []), rfl, Rd.nil, Nat.le_refl _, by simp [maxLen], Z.zero, by simp⟩
  · obtain ⟨hB, hS⟩ := Z.slice ht hs
    simp only [List.length_map] at hB
    rw [hsz] at hel
    have key : ∀ (k : Nat), k ≤ len → ∃ l : List α, l.length = k ∧ (∀ y ∈ l, o y ∧ (c y).length = size) ∧ (∀ j v, (l.flatMap c)[j]? = some v → W.cell? (a.add j) = some v) ∧ (l.flatMap c).length = k * size := by
      intro k
      induction k with
      | zero => intro _; exact ⟨[], rfl, by simp, by simp, by simp⟩
      | succ k ih =>
        intro hk
        obtain ⟨l, h2, h3, h4, h5⟩ := ih (by omega)
        have hk' : k < elems.length := by omega
        have he := hel k (by omega)
        rw [List.getElem?_eq_getElem hk', Option.bind_eq_some_iff] at he
        obtain ⟨ce, hce, htr⟩ := he
        obtain ⟨y, hy, hoy⟩ := h n ce elems[k] htr (hS _ (by simp [List.mem_map]; exact ⟨_, List.getElem_mem hk'⟩))
        obtain ⟨_, hlce, hcell⟩ := World.cells?_some hce
        subst hy
        refine ⟨l ++ [y], by simp [h2], fun z hz => ?_, fun j v hj => ?_, ?_⟩
        · rcases List.mem_append.1 hz with hz | hz
          · exact h3 z hz
          · simp at hz; subst hz; exact ⟨hoy, hlce⟩
        · simp only [List.flatMap_append, List.flatMap_cons, List.flatMap_nil, List.append_nil] at hj
          rw [List.getElem?_append] at hj
          split at hj
          · exact h4 j v hj
          · rename_i hge
            have hlt : j - (l.flatMap c).length < size := by
              have := (List.getElem?_eq_some_iff.1 hj).1
              omega
            have := hcell (j - (l.flatMap c).length) hlt
            rw [add_add, h5] at this
            rw [h5] at hj hge
            rw [show k * size + (j - k * size) = j from by omega] at this
            rw [this, hj]
        · simp only [List.flatMap_append, List.flatMap_cons, List.flatMap_nil, List.append_nil, List.length_append, h5, hlce, Nat.succ_mul]
    obtain ⟨l, h2, h3, h4, h5⟩ := key len (Nat.le_refl _)
    refine ⟨(some a, cap, l), by simp [h2], ?_, by simpa [h2] using hl, hm, ?_, h3⟩
    · intro _; exact ⟨a, rfl, h4⟩
    · simp only [h2]
      rw [hby] at hB
      exact Z.mono (by omega) hB
end

section
variable {H : Type} {P : Program}
/-- the form's own reach -/
def Sz.reach (H : Type) (P : Program) : Sz H P where
  S t d := ∀ x ∈ DataW.weights P t d, x ≤ reachBytes
  okn n b := n * b ≤ 140737488351232
  zero := by intro b; simp
  mono := fun h h2 => Nat.le_trans (Nat.mul_le_mul_right _ h) h2
  slice := by
    intro t e el sp ht h
    simp only [DataW.weights, ht] at h
    refine ⟨Nat.le_trans (h _ (List.mem_cons_self)) (by decide), fun d hd x hx => h x ?_⟩
    have : ∀ (l : List (DataW H)), d ∈ l → x ∈ DataW.weightsAll P e l := by
      intro l
      induction l with
      | nil => intro h; cases h
      | cons y l ih =>
        intro hm
        simp only [DataW.weightsAll, List.mem_append]
        rcases List.mem_cons.1 hm with rfl | hm
        · exact .inl hx
        · exact .inr (ih hm)
    simp [this el hd]
  struct := by
    intro t fs l ht h i f d hf hd x hx
    simp only [DataW.weights, ht] at h
    refine h x ?_
    have : ∀ (ts : List TypeId) (l : List (DataW H)) (i : Nat), ts[i]? = some f.type → l[i]? = some d → x ∈ DataW.weightsEach P ts l := by
      intro ts
      induction ts with
      | nil => intro l i h1; simp at h1
      | cons u ts ih =>
        intro l i h1 h2
        cases l with
        | nil => simp at h2
        | cons y l =>
          simp only [DataW.weightsEach, List.mem_append]
          cases i with
          | zero => simp at h1 h2; subst h1 h2; exact .inl hx
          | succ i => exact .inr (ih l i (by simpa using h1) (by simpa using h2))
    exact this _ l i (by simp [hf]) hd
  array := by
    intro t e n l ht h d hd x hx
    simp only [DataW.weights, ht] at h
    refine h x ?_
    have : ∀ (l : List (DataW H)), d ∈ l → x ∈ DataW.weightsAll P e l := by
      intro l
      induction l with
      | nil => intro h; cases h
      | cons y l ih =>
        intro hm
        simp only [DataW.weightsAll, List.mem_append]
        rcases List.mem_cons.1 hm with rfl | hm
        · exact .inl hx
        · exact .inr (ih hm)
    exact this l hd
theorem Sz.reach_at {ts : List TypeId} {ds : List (DataW H)} (hsz : (DataW.weightsEach P ts ds).all (· ≤ reachBytes) = true) {j : Nat} {t : TypeId} {d : DataW H} (ht : ts[j]? = some t) (hd : ds[j]? = some d) : (Sz.reach H P).S t d := by
  intro x hx
  have := List.all_eq_true.1 hsz x (DataW.weights_mem_each ht hd x hx)
  simpa using this
end
end Go.Proofs.Ytfoeelghehjanaa
