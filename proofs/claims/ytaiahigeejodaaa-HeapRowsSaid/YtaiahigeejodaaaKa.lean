/-
  A small calculus of one's own over the kit's walks: a frame is told by an association list, a world by a list of
  things owned. Nothing here speaks of one program.
-/
import Derived.Calls
import Derived.Tactics
import Derived.Below
import Derived.Laws.Entries
import Derived.Laws.AppendOwn
import Derived.Laws.OwnMore
import Derived.Laws.MakeOwn
import Derived.Deep.LoopGhost
namespace Go.Proofs.Ytaiahigeejodaaa
open Go.RowKit
set_option linter.unusedVariables false
set_option linter.unusedSimpArgs false

/-! ## What a frame holds -/
def find : List (Nat × Value) → Nat → Option Value
  | [], _ => none
  | (s, v) :: L, t => bif Nat.beq s t then some v else find L t

structure Env (n : Nat) (L : List (Nat × Value)) (a : Act) : Prop where
  size : a.tmps.size = n
  defers : a.defers = []
  has : ∀ t v, find L t = some v → a.tmps[t]? = some v

def ev (L : List (Nat × Value)) : Operand → Option Value
  | .tmp t => find L t
  | .const v => some v
  | .func f => some (.func (.func f) #[] #[])
  | .global g => some (.pointer (some ⟨g, 0, none⟩))

def evs (L : List (Nat × Value)) : List Operand → Option (List Value)
  | [] => some []
  | x :: xs => match ev L x, evs L xs with
    | some v, some vs => some (v :: vs)
    | _, _ => none

/-- what is kept of a frame -/
def Sub : List (Nat × Value) → List (Nat × Value) → Prop
  | [], _ => True
  | (t, v) :: L', L => find L t = some v ∧ Sub L' L

section
variable {n : Nat} {L : List (Nat × Value)} {a : Act}
theorem Env.eval (h : Env n L a) {x : Operand} {v : Value} (hx : ev L x = some v) : a.eval x = v := by
  cases x with
  | tmp t =>
    have := h.has t v hx
    simp only [Act.eval, Array.getD_eq_getD_getElem?, this, Option.getD_some]
  | const u => simpa [ev, Act.eval] using hx
  | global g => simpa [ev, Act.eval] using hx
  | func f => simpa [ev, Act.eval] using hx

theorem Env.evals (h : Env n L a) : ∀ {xs : List Operand} {vs : List Value}, evs L xs = some vs → xs.map a.eval = vs
  | [], vs, hx => by simp [evs] at hx; simp [hx]
  | x :: xs, vs, hx => by
    simp only [evs] at hx
    split at hx
    · rename_i v ws h1 h2
      simp only [Option.some.injEq] at hx
      subst hx
      simp [h.eval h1, h.evals h2]
    · cases hx

theorem Env.put (h : Env n L a) {d : Nat} (hd : Nat.blt d n = true) (v : Value) : Env n ((d, v) :: L) (a.put (some d) v) := by
  have hd' : d < n := by simpa [Nat.blt_eq] using hd
  refine ⟨by simp [Act.put, h.size], h.defers, fun t u ht => ?_⟩
  simp only [find] at ht
  cases hb : Nat.beq d t with
  | true =>
    have e : d = t := Nat.eq_of_beq_eq_true hb
    rw [hb] at ht
    simp only [cond_true, Option.some.injEq] at ht
    subst e
    subst ht
    simp only [Act.put, Array.getElem?_setIfInBounds, if_true, h.size, hd']
  | false =>
    have e : d ≠ t := Nat.ne_of_beq_eq_false hb
    rw [hb] at ht
    simp only [cond_false] at ht
    simp only [Act.put, Array.getElem?_setIfInBounds, if_neg e]
    exact h.has t u ht

theorem Sub.find : ∀ {L' L : List (Nat × Value)}, Sub L' L → ∀ {t v}, find L' t = some v → find L t = some v
  | [], _, _, t, v, h => by simp [Proofs.Ytaiahigeejodaaa.find] at h
  | (s, u) :: L', L, ⟨h1, h2⟩, t, v, h => by
    simp only [Proofs.Ytaiahigeejodaaa.find] at h
    cases hb : Nat.beq s t with
    | true =>
      have e : s = t := Nat.eq_of_beq_eq_true hb
      rw [hb] at h
      simp only [cond_true, Option.some.injEq] at h
      subst e
      subst h
      exact h1
    | false =>
      rw [hb] at h
      simp only [cond_false] at h
      exact Sub.find h2 h

theorem Env.sub (h : Env n L a) {L' : List (Nat × Value)} (hs : Sub L' L) : Env n L' a :=
  ⟨h.size, h.defers, fun t v ht => h.has t v (hs.find ht)⟩

end

/-! ## Functions -/
/-- The call returns, and so. -/
def Fn (P : Program) (f : FuncId) (args : List Value) (w : World) (R : Value → World → Prop) : Prop :=
  Calls P f args.toArray w fun e w' => ∃ v, e = .returned v ∧ R v w'

theorem Fn.mono {P : Program} {f : FuncId} {args : List Value} {w : World} {R R' : Value → World → Prop} (h : Fn P f args w R) (hr : ∀ v w', R v w' → R' v w') : Fn P f args w R' :=
  Calls.mono h fun _ _ ⟨v, he, hv⟩ => ⟨v, he, hr v _ hv⟩

/-- What stands at a function's end. -/
def Post (P : Program) (fn : Func) (R : Value → World → Prop) : Exit → Act → World → Prop :=
  bodyPost P fn fun e w' => ∃ v, e = .returned v ∧ R v w'

def argsAt : Nat → List Value → List (Nat × Value)
  | _, [] => []
  | i, v :: vs => (i, v) :: argsAt (i + 1) vs

theorem find_argsAt : ∀ (vs : List Value) (i t : Nat) (v : Value), find (argsAt i vs) t = some v → i ≤ t ∧ vs[t - i]? = some v
  | [], i, t, v, h => by simp [argsAt, find] at h
  | u :: vs, i, t, v, h => by
    simp only [argsAt, find] at h
    cases hb : Nat.beq i t with
    | true =>
      have e : i = t := Nat.eq_of_beq_eq_true hb
      rw [hb] at h
      simp only [cond_true, Option.some.injEq] at h
      subst e
      exact ⟨Nat.le_refl _, by simp [h]⟩
    | false =>
      have e : i ≠ t := Nat.ne_of_beq_eq_false hb
      rw [hb] at h
      simp only [cond_false] at h
      obtain ⟨h1, h2⟩ := find_argsAt vs (i + 1) t v h
      refine ⟨by omega, ?_⟩
      have e2 : t - i = t - (i + 1) + 1 := by omega
      rw [e2, List.getElem?_cons_succ]
      exact h2

theorem enter {P : Program} {f : FuncId} {fn : Func} {c : Code} {args : List Value} {w : World} {R : Value → World → Prop} (n : Nat)
    (hf : P.funcs[f]? = some fn) (hb : fn.body = some c) (hn : fn.ntmps = n) (ha : Nat.ble args.length n = true)
    (h : ∀ a, Env n (argsAt 0 args) a → c.wp P (Post P fn R) a w) : Fn P f args w R := by
  have ha' : args.length ≤ n := Nat.le_of_ble_eq_true ha
  refine calls_of_wp hf hb (h _ ⟨?_, rfl, fun t v ht => ?_⟩)
  · simp [hn]; omega
  · obtain ⟨_, h2⟩ := find_argsAt args 0 t v ht
    simp only [Nat.sub_zero] at h2
    have hlt : t < args.length := by
      rcases Nat.lt_or_ge t args.length with hlt | hge
      · exact hlt
      · rw [List.getElem?_eq_none hge] at h2; cases h2
    rw [Array.getElem?_append_left (by simpa using hlt)]
    simpa using h2

section
variable {P : Program} {fn : Func} {R : Value → World → Prop} {n : Nat} {L : List (Nat × Value)} {a : Act} {w : World}
theorem ret1 (hE : Env n L a) {t : Nat} {v : Value} (hr : fn.results = #[.tmp t]) (ht : find L t = some v) (hR : R v w) : Post P fn R .ret a w := by
  have h1 := hE.has t v ht
  exact ⟨hE.defers, v, by simp [results_tmp hr, h1], v, rfl, hR⟩
theorem ret2 (hE : Env n L a) {t t2 : Nat} {v v2 : Value} (hr : fn.results = #[.tmp t, .tmp t2]) (ht : find L t = some v) (ht2 : find L t2 = some v2) (hR : R (.tuple #[v, v2]) w) : Post P fn R .ret a w := by
  have h1 := hE.has t v ht
  have h2 := hE.has t2 v2 ht2
  exact ⟨hE.defers, .tuple #[v, v2], by simp [results_tmp2 hr, h1, h2], _, rfl, hR⟩
theorem ret3 (hE : Env n L a) {t t2 t3 : Nat} {v v2 v3 : Value} (hr : fn.results = #[.tmp t, .tmp t2, .tmp t3]) (ht : find L t = some v) (ht2 : find L t2 = some v2) (ht3 : find L t3 = some v3) (hR : R (.tuple #[v, v2, v3]) w) : Post P fn R .ret a w := by
  have h1 := hE.has t v ht
  have h2 := hE.has t2 v2 ht2
  have h3 := hE.has t3 v3 ht3
  exact ⟨hE.defers, .tuple #[v, v2, v3], by simp [results, hr, h1, h2, h3], _, rfl, hR⟩
theorem end0 (hE : Env n L a) (hr : fn.results = #[]) (hR : R (.tuple #[]) w) : Post P fn R .normal a w :=
  ⟨hE.defers, _, results_none hr _ _ _, _, rfl, hR⟩
theorem ret0 (hE : Env n L a) (hr : fn.results = #[]) (hR : R (.tuple #[]) w) : Post P fn R .ret a w :=
  ⟨hE.defers, _, results_none hr _ _ _, _, rfl, hR⟩
end

/-! ## Code -/
section
variable {P : Program} {Q : Exit → Act → World → Prop} {n : Nat} {L : List (Nat × Value)} {a : Act} {w : World}
theorem c_dec {c : Operand} {x y : Code} {p : Prop} [Decidable p] (hE : Env n L a) (hc : ev L c = some (.bool (decide p))) (ht : p → x.wp P Q a w) (hf : ¬ p → y.wp P Q a w) : (Code.cond c x y).wp P Q a w :=
  wp_cond_split (hE.eval hc) (fun h => ht (of_decide_eq_true h)) (fun h => hf (of_decide_eq_false h))
theorem c_true {c : Operand} {x y : Code} (hE : Env n L a) (hc : ev L c = some (.bool true)) (h : x.wp P Q a w) : (Code.cond c x y).wp P Q a w :=
  wp_cond_true (hE.eval hc) h
theorem c_false {c : Operand} {x y : Code} (hE : Env n L a) (hc : ev L c = some (.bool false)) (h : y.wp P Q a w) : (Code.cond c x y).wp P Q a w :=
  wp_cond_false (hE.eval hc) h
theorem c_bool {c : Operand} {x y : Code} {b : Bool} (hE : Env n L a) (hc : ev L c = some (.bool b)) (ht : b = true → x.wp P Q a w) (hf : b = false → y.wp P Q a w) : (Code.cond c x y).wp P Q a w :=
  wp_cond_split (hE.eval hc) ht hf
theorem then_normal {N : Act → World → Prop} (h : N a w) : Exit.then N Q .normal a w := h
theorem then_ret {N : Act → World → Prop} (h : Q .ret a w) : Exit.then N Q .ret a w := h
theorem then_exit {N : Act → World → Prop} {i : Nat} (h : Q (.exit i) a w) : Exit.then N Q (.exit i) a w := h
theorem block_normal {i : Nat} (h : Q .normal a w) : Exit.inBlock i Q .normal a w := h
theorem block_ret {i : Nat} (h : Q .ret a w) : Exit.inBlock i Q .ret a w := h
theorem block_same {i : Nat} (h : Q .normal a w) : Exit.inBlock i Q (.exit i) a w := by simp only [Exit.inBlock, if_true]; exact h
theorem block_other {i j : Nat} (hne : Nat.beq j i = false) (h : Q (.exit j) a w) : Exit.inBlock i Q (.exit j) a w := by
  have := Nat.ne_of_beq_eq_false hne
  simp only [Exit.inBlock, if_neg this]
  exact h
theorem c_region {id : Nat} {l : List Oper} (h : wpList P l.toArray Q l a w) : (Code.region id l.toArray false).wp P Q a w := wp_region_lit h
/-- where ways meet -/
theorem c_cut {x y : Code} (I : Act → World → Prop) (hx : x.wp P (Exit.then I Q) a w) (hy : ∀ a w, I a w → y.wp P Q a w) : (Code.seq x y).wp P Q a w :=
  wp_seq (wp_mono hx fun e a w h => by cases e <;> first | exact hy _ _ h | exact h)
end

/-! ## Operations -/
section
variable {P : Program} {ops : Array Oper} {Q : Exit → Act → World → Prop} {rest : List Oper} {n d : Nat} {L : List (Nat × Value)} {a : Act} {w : World}

theorem s_val {o : Oper} {v : Value} {w' : World} (hE : Env n L a) (hg : o.guard = none) (hdst : o.dst = some d) (hd : Nat.blt d n = true)
    (hrun : (execOp a.eval o).run P w = .ok (.value v) w') (k : ∀ a', Env n ((d, v) :: L) a' → wpList P ops Q rest a' w') : wpList P ops Q (o :: rest) a w :=
  wpList_plain hg fun K hK => by
    unfold Oper.wp
    rw [hrun]
    show K (a.put o.dst v) w'
    rw [hdst]
    exact hK _ _ (k _ (hE.put hd v))

theorem s_skip {o : Oper} {w' : World} (hE : Env n L a) (hg : o.guard = none) (hdst : o.dst = none)
    (hrun : (execOp a.eval o).run P w = .ok .skip w') (k : Env n L a → wpList P ops Q rest a w') : wpList P ops Q (o :: rest) a w :=
  wpList_plain hg fun K hK => by
    unfold Oper.wp
    rw [hrun]
    show K (a.put o.dst undef) w'
    rw [hdst]
    exact hK _ _ (k hE)

/-- an operation under a guard -/
theorem s_guard {dd : Option Tmp} {op : Op} {ty : TypeId} {ps : String} {af : Array Edge} {j dj : Nat} {want b : Bool} (hE : Env n L a)
    (hj : (ops[j]?).bind (·.dst) = some dj) (hb : find L dj = some (.bool b))
    (hyes : b = want → wpList P ops Q (⟨dd, op, ty, ps, af, none⟩ :: rest) a w)
    (hno : b = !want → ∀ d, dd = some d → wpList P ops Q rest (a.put (some d) undef) w) (hd : ∃ d, dd = some d) : wpList P ops Q (⟨dd, op, ty, ps, af, some (j, want)⟩ :: rest) a w := by
  have hy : yielded ops a.tmps j = some b := by
    have h1 := hE.has _ _ hb
    simp only [yielded, hj, Option.bind_some, h1]
  by_cases e : b = want
  · have := hyes e
    unfold wpList at this ⊢
    have hw : Region.wanted ⟨dd, op, ty, ps, af, some (j, want)⟩ (yielded ops a.tmps) = true := by simp [Region.wanted, hy, e]
    have hw' : Region.wanted ⟨dd, op, ty, ps, af, none⟩ (yielded ops a.tmps) = true := by simp [Region.wanted]
    rw [if_pos hw'] at this
    rw [if_pos hw]
    exact this
  · have hne : b = !want := by
      cases b <;> cases want <;> first | rfl | exact absurd rfl e
    obtain ⟨d, rfl⟩ := hd
    have := hno hne d rfl
    unfold wpList
    have hw : Region.wanted ⟨some d, op, ty, ps, af, some (j, want)⟩ (yielded ops a.tmps) = false := by
      simp only [Region.wanted, hy]
      subst hne
      cases want <;> rfl
    rw [if_neg (by rw [hw]; simp)]
    exact this

variable {ty : TypeId} {ps : String} {af : Array Edge}
theorem s_move {x : Operand} {v : Value} (hE : Env n L a) (hx : ev L x = some v) (hd : Nat.blt d n = true) (k : ∀ a', Env n ((d, v) :: L) a' → wpList P ops Q rest a' w) :
    wpList P ops Q (⟨some d, .move x, ty, ps, af, none⟩ :: rest) a w :=
  s_val hE rfl rfl hd (by simp [execOp, hE.eval hx]) k
theorem s_assign {x : Operand} {v : Value} (hE : Env n L a) (hx : ev L x = some v) (hd : Nat.blt d n = true) (k : ∀ a', Env n ((d, v) :: L) a' → wpList P ops Q rest a' w) :
    wpList P ops Q (⟨some d, .assign x, ty, ps, af, none⟩ :: rest) a w :=
  s_val hE rfl rfl hd (by simp [execOp, hE.eval hx]) k
end
end Go.Proofs.Ytaiahigeejodaaa
