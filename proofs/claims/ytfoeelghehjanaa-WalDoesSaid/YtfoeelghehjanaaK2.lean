/-
  The calculus, several texts in one.
-/
import Derived.Test.YtfoeelghehjanaaK1
import Derived.RangeFuncSeq
import Derived.OrdersIn
import Derived.TacticsIn
import Derived.RangeFuncLeaves
import Derived.RangeFuncRecord
import Derived.ChangeKeysEq
import Derived.Laws.StructEq
import Derived.Lib.AppendZerosOnto
/-
  Walks in a frame that is a round of a loop over a function, or that holds such a loop: what is proved of a list of operations goes over.
-/
namespace Go.Proofs.Ytfoeelghehjanaa
open Go.RowKit
set_option linter.unusedVariables false
set_option linter.unusedSimpArgs false

def FW (ρ : Option Nat) : Fence := { Fence.wide with round := ρ }
/-- more deferred calls, at the end -/
def ap (ds : List Deferred) (a : Act) : Act := { a with defers := a.defers ++ ds }
theorem ap_eval (ds : List Deferred) (a : Act) : (ap ds a).eval = a.eval := by
  funext x; cases x <;> rfl
theorem ap_put (ds : List Deferred) (a : Act) (d : Option Tmp) (v : Value) : (ap ds a).put d v = ap ds (a.put d v) := by
  cases d <;> rfl
def Sh (ds : List Deferred) (Q : Exit → Act → World → Prop) : Exit → Act → World → Prop := fun e a' w' => ∃ a0, a' = ap ds a0 ∧ Q e a0 w'
def nodef (l : List Oper) : Bool := l.all fun o => match o.op with | .defer _ => false | _ => true
theorem nodef_op {o : Oper} {l : List Oper} (h : nodef l = true) (ho : o ∈ l) : ∀ c, o.op ≠ .defer c := fun c e => by
  have := List.all_eq_true.1 h o ho
  rw [e] at this
  cases this

section
variable {ρ : Option Nat} {ds : List Deferred} {P : Program} {Q : Exit → Act → World → Prop}
theorem calls_wide {n : Nat} {f : FuncId} {args : Array Value} {w : World} {R : Ending → World → Prop} (h : Calls P f args w R) : CallsIn (FW ρ) n P f args w R := callsIn_wide.2 h
theorem calls_of_wide {n : Nat} {f : FuncId} {args : Array Value} {w : World} {R : Ending → World → Prop} (h : CallsIn (FW ρ) n P f args w R) : Calls P f args w R := callsIn_wide.1 h
theorem rows_wide {n : Nat} {row : String} {args : Array Value} {w : World} {R : Value → World → Prop} (h : Rows P row args w R) : RowsIn (FW ρ) n P row args w R :=
  fun c cs _ => let ⟨v, w', r, s⟩ := h c cs; ⟨v, w', r, stepsIn_wide.2 s⟩
theorem about_wide (o : Oper) (w : World) (r : Operand → Value) : ∀ f, o.about P w r = some f → (FW ρ).fn f := fun _ _ => trivial
theorem deep_wide {n : Nat} : (FW ρ).depth.isSome = true → 1 ≤ n := fun h => by cases h

/-- one operation -/
theorem op_in {o : Oper} {a : Act} {w : World} {K : Act → World → Prop} (hnd : ∀ c, o.op ≠ .defer c) (h : o.wp P a w K Q) :
    o.wpIn (FW ρ) 0 P (ap ds a) w (fun a' w' => ∃ a0, a' = ap ds a0 ∧ K a0 w') (Sh ds Q) := by
  unfold Oper.wp at h
  unfold Oper.wpIn
  refine ⟨about_wide o w _, ?_⟩
  rw [show (FW ρ).round = ρ from rfl, Oper.semAt_eq ρ _ o hnd, ap_eval]
  generalize (execOp a.eval o).run P w = r at h ⊢
  cases r with
  | ok nx w2 =>
    cases nx <;> simp only [Oper.upon] at h <;> simp only [Oper.uponIn, ap_put]
    case value v => exact ⟨_, rfl, h⟩
    case skip => exact ⟨_, rfl, h⟩
    case defer d => exact ⟨_, by rw [← ap_put]; rfl, h⟩
    case enter f args =>
      refine ⟨deep_wide, calls_wide (Calls.mono h fun e w3 he => ?_)⟩
      cases e with
      | returned v => exact ⟨_, rfl, he⟩
      | panicked ch => exact ⟨_, rfl, he⟩
      | outgrown => obtain ⟨a0, w0, h0⟩ := he; exact ⟨_, w0, a0, rfl, h0⟩
    case row row args => exact ⟨deep_wide, rows_wide (Rows.mono h fun v w3 hv => ⟨_, rfl, hv⟩)⟩
  | halt x w2 =>
    cases x <;> simp only [Oper.upon] at h <;> simp only [Oper.uponIn]
    case panic v => exact ⟨_, rfl, h⟩

theorem list_in {ops : Array Oper} (hQ : ∀ a w, ¬ Q .outgrown a w) : ∀ (l : List Oper) (a : Act) (w : World), nodef l = true → wpList P ops Q l a w → wpListIn (FW ρ) 0 P ops (Sh ds Q) l (ap ds a) w
  | [], a, w, _, h => ⟨a, rfl, h⟩
  | o :: rest, a, w, hn, h => by
    have hn' : nodef rest = true := by
      have h2 := hn
      unfold nodef at h2
      rw [List.all_cons, Bool.and_eq_true] at h2
      exact h2.2
    unfold wpList at h
    unfold wpListIn
    show if Region.wanted o (yielded ops a.tmps) = true then _ else _
    split
    · rename_i hw
      rw [if_pos hw] at h
      rcases h with h | ⟨_, a0, w0, h0⟩
      · refine Oper.wpIn_mono (fun a' w' ⟨a0, e, hk⟩ => ?_) (op_in (nodef_op hn (List.mem_cons_self)) h)
        subst e
        exact list_in hQ rest a0 w' hn' hk
      · exact absurd h0 (hQ a0 w0)
    · rename_i hw
      rw [if_neg hw] at h
      refine ⟨about_wide o w _, ?_⟩
      rw [ap_put]
      exact list_in hQ rest _ w hn' h

theorem op_at_in {l : List Oper} (hQ : ∀ a w, ¬ Q .outgrown a w) (hn : nodef l = true) {i : Nat} {a : Act} {w : World} {K : Act → World → Prop} (h : wpOp P l.toArray Q i K a w) :
    wpOpIn (FW ρ) 0 P l.toArray (Sh ds Q) i (fun a' w' => ∃ a0, a' = ap ds a0 ∧ K a0 w') (ap ds a) w := by
  unfold wpOp at h
  unfold wpOpIn
  simp only [List.getElem?_toArray] at h ⊢
  cases ho : l[i]? with
  | none => rw [ho] at h; exact ⟨_, rfl, h⟩
  | some o =>
    rw [ho] at h
    simp only at h ⊢
    show if Region.wanted o (yielded l.toArray a.tmps) = true then _ else _
    split
    · rename_i hw
      rw [if_pos hw] at h
      rcases h with h | ⟨_, a0, w0, h0⟩
      · exact op_in (nodef_op hn (List.mem_of_getElem? ho)) h
      · exact absurd h0 (hQ a0 w0)
    · rename_i hw
      rw [if_neg hw] at h
      exact ⟨about_wide o w _, _, by rw [ap_put], h⟩

theorem anyT_in {l : List Oper} (hQ : ∀ a w, ¬ Q .outgrown a w) (hn : nodef l = true) (lt : Nat) : ∀ (S : World → Prop) (fuel : Nat) (listed : Array Bool) (a : Act) (w : World),
    wpAnyT P l.toArray Q lt S fuel listed a w → wpAnyIn (FW ρ) 0 P .any l.toArray (Sh ds Q) fuel listed (ap ds a) w
  | _, 0, _, a, _, h => ⟨h.1, a, rfl, h.2⟩
  | _, fuel + 1, listed, a, w, h => ⟨fun h0 => ⟨a, rfl, h.1 h0⟩, fun i hi => wpOpIn_mono (fun a' w' ⟨a0, e, S', _, h'⟩ => by
      subst e
      exact anyT_in hQ hn lt S' fuel _ a0 w' h') (op_at_in hQ hn (h.2 i hi))⟩
end

/-! ## Code -/
def ShX (Q : List Deferred → Exit → Act → World → Prop) : Exit → Act → World → Prop := fun e a' w' => ∃ ds' a0, a' = ap ds' a0 ∧ Q ds' e a0 w'
def WI (ρ : Option Nat) (P : Program) (c : Code) (Q : List Deferred → Exit → Act → World → Prop) (ds : List Deferred) (a : Act) (w : World) : Prop := c.wpIn (FW ρ) 0 P (ShX Q) (ap ds a) w

section
variable {ρ : Option Nat} {P : Program} {Q : List Deferred → Exit → Act → World → Prop} {ds : List Deferred} {n : Nat} {L : List (Nat × Value)} {a : Act} {w : World}
theorem WI.mono {c : Code} {Q' : List Deferred → Exit → Act → World → Prop} (h : WI ρ P c Q ds a w) (hq : ∀ ds e a w, Q ds e a w → Q' ds e a w) : WI ρ P c Q' ds a w :=
  Go.wpIn_mono h fun e a' w' ⟨ds', a0, e1, h1⟩ => ⟨ds', a0, e1, hq _ _ _ _ h1⟩
theorem i_seq {x y : Code} (h : WI ρ P x (fun ds' => Exit.then (fun a w => WI ρ P y Q ds' a w) (Q ds')) ds a w) : WI ρ P (.seq x y) Q ds a w :=
  wpIn_seq (Go.wpIn_mono h fun e a' w' ⟨ds', a0, e1, h1⟩ => by
    subst e1
    cases e with
    | normal => exact h1
    | exit id => exact ⟨_, _, rfl, h1⟩
    | goto l => exact ⟨_, _, rfl, h1⟩
    | ret => exact ⟨_, _, rfl, h1⟩
    | panic ch => exact ⟨_, _, rfl, h1⟩
    | outgrown => exact ⟨_, _, rfl, h1⟩)
theorem i_skip (h : Q ds .normal a w) : WI ρ P .skip Q ds a w := wpIn_skip ⟨_, _, rfl, h⟩
theorem i_ret (h : Q ds .ret a w) : WI ρ P .ret Q ds a w := wpIn_ret ⟨_, _, rfl, h⟩
theorem i_exit {i : Nat} (h : Q ds (.exit i) a w) : WI ρ P (.exit i) Q ds a w := wpIn_exit ⟨_, _, rfl, h⟩
theorem i_block {i : Nat} {c : Code} (h : WI ρ P c (fun ds' => Exit.inBlock i (Q ds')) ds a w) : WI ρ P (.block i c) Q ds a w :=
  wpIn_block (Go.wpIn_mono h fun e a' w' ⟨ds', a0, e1, h1⟩ => by
    subst e1
    cases e with
    | exit j =>
      simp only [Exit.inBlock] at h1 ⊢
      split
      · rename_i hj; rw [if_pos hj] at h1; exact ⟨_, _, rfl, h1⟩
      · rename_i hj; rw [if_neg hj] at h1; exact ⟨_, _, rfl, h1⟩
    | normal => exact ⟨_, _, rfl, h1⟩
    | goto l => exact ⟨_, _, rfl, h1⟩
    | ret => exact ⟨_, _, rfl, h1⟩
    | panic ch => exact ⟨_, _, rfl, h1⟩
    | outgrown => exact ⟨_, _, rfl, h1⟩)
theorem ap_ev (hE : Env n L a) {c : Operand} {v : Value} (hc : ev L c = some v) : (ap ds a).eval c = v := by rw [ap_eval]; exact hE.eval hc
theorem i_true {c : Operand} {x y : Code} (hE : Env n L a) (hc : ev L c = some (.bool true)) (h : WI ρ P x Q ds a w) : WI ρ P (.cond c x y) Q ds a w := wpIn_cond (t := true) (ap_ev hE hc) h
theorem i_false {c : Operand} {x y : Code} (hE : Env n L a) (hc : ev L c = some (.bool false)) (h : WI ρ P y Q ds a w) : WI ρ P (.cond c x y) Q ds a w := wpIn_cond (t := false) (ap_ev hE hc) h
theorem i_bool {c : Operand} {x y : Code} {b : Bool} (hE : Env n L a) (hc : ev L c = some (.bool b)) (ht : b = true → WI ρ P x Q ds a w) (hf : b = false → WI ρ P y Q ds a w) : WI ρ P (.cond c x y) Q ds a w := by
  cases b
  · exact i_false hE hc (hf rfl)
  · exact i_true hE hc (ht rfl)
theorem i_dec {c : Operand} {x y : Code} {p : Prop} [Decidable p] (hE : Env n L a) (hc : ev L c = some (.bool (decide p))) (ht : p → WI ρ P x Q ds a w) (hf : ¬ p → WI ρ P y Q ds a w) : WI ρ P (.cond c x y) Q ds a w :=
  i_bool hE hc (fun h => ht (of_decide_eq_true h)) (fun h => hf (of_decide_eq_false h))
theorem i_region {id : Nat} {l : List Oper} (hn : nodef l = true) (hQ : ∀ a w, Q ds .outgrown a w → False) (h : wpList P l.toArray (Q ds) l a w) : WI ρ P (.region id l.toArray false) Q ds a w :=
  Go.wpIn_mono (wpIn_region_lit (list_in hQ l a w hn h)) fun e a' w' ⟨a0, e1, h1⟩ => ⟨ds, a0, e1, h1⟩
theorem ig_region {id : Nat} {l : List Oper} (h : WI ρ P (.region id l.toArray false) Q ds a w) : WI ρ P (.region id l.toArray false) Q ds a w := h
theorem ig_cond {c : Operand} {x y : Code} (h : WI ρ P (.cond c x y) Q ds a w) : WI ρ P (.cond c x y) Q ds a w := h
theorem i_ord {id : Nat} {l : List Oper} (S : World → Prop) (k : Nat) (p : Pl) (hm : P.follows .mixedOrders = true)
    (hk : (Region.noSelect l.toArray && lateOk l.toArray k && p.ok l k l.length (Array.replicate l.length false)) = true) (hn : nodef l = true)
    (h : wpO P l (Q ds .normal) S p a { w with drawn := w.drawn + 1 }) : WI ρ P (.region id l.toArray true) Q ds a w := by
  simp only [Bool.and_eq_true] at hk
  have h1 := Pl.sound k hk.1.2 S p _ _ _ _ hk.1.1 hk.2 h
  have h2 := anyT_in (ρ := ρ) (ds := ds) (fun a w h => absurd h.1 (by simp)) hn k S _ _ _ _ h1
  refine Go.wpIn_mono (wpIn_region_any (Q := Sh ds (QN (Q ds .normal))) hm (by simpa using h2)) ?_
  rintro e a' w' ⟨a0, e1, rfl, h⟩
  exact ⟨ds, a0, e1, h⟩
theorem i_ordS {l : List Oper} {id : Nat} {w0 : World} {H : List HP} (hS : St w0 w H) (k : Nat) (p : Pl) (hm : P.follows .mixedOrders = true)
    (hk : (Region.noSelect l.toArray && lateOk l.toArray k && p.ok l k l.length (Array.replicate l.length false)) = true) (hn : nodef l = true)
    (h : ∀ w1, St w0 w1 H → wpO P l (Q ds .normal) (fun w' => St w0 w' H) p a w1) : WI ρ P (.region id l.toArray true) Q ds a w :=
  i_ord (fun w' => St w0 w' H) k p hm hk hn (h _ hS.drew)
theorem i_ordK {l : List Oper} {id : Nat} {w0 : World} {H : List HP} {h : HP} (hS : St w0 w H) (i : Nat) (hi : H[i]? = some h) (k : Nat) (p : Pl) (hm : P.follows .mixedOrders = true)
    (hk : (Region.noSelect l.toArray && lateOk l.toArray k && p.ok l k l.length (Array.replicate l.length false)) = true) (hn : nodef l = true)
    (K : ∀ w1, St w0 w1 H → St w0 w1 [h] → wpO P l (Q ds .normal) (fun w' => St w0 w' [h]) p a w1) : WI ρ P (.region id l.toArray true) Q ds a w :=
  i_ord (fun w' => St w0 w' [h]) k p hm hk hn (K _ hS.drew (hS.drew.only i hi))
theorem i_loop {c : Code} (I : Nat → List Deferred → Act → World → Prop) (n₀ : Nat) (h₀ : I n₀ ds a w)
    (round : ∀ n ds a w, I n ds a w → WI ρ P c (fun ds' => Exit.then (fun a' w' => ∃ n', n' < n ∧ I n' ds' a' w') (Q ds')) ds a w) : WI ρ P (.loop c) Q ds a w := by
  refine wpIn_loop (fun a w => ∃ n ds a0, a = ap ds a0 ∧ I n ds a0 w) (fun a w => leastOf (fun n => ∃ ds a0, a = ap ds a0 ∧ I n ds a0 w)) ⟨n₀, ds, a, rfl, h₀⟩ ?_
  intro a1 w1 hI
  obtain ⟨ds1, a0, e1, hI0⟩ := (leastOf_spec hI).1
  subst e1
  refine Go.wpIn_mono (round _ _ a0 w1 hI0) ?_
  rintro e a' w' ⟨ds', a2, e2, hq⟩
  cases e with
  | normal =>
    obtain ⟨n', hlt, hI'⟩ := hq
    have hx : ∃ ds a0, a' = ap ds a0 ∧ I n' ds a0 w' := ⟨ds', a2, e2, hI'⟩
    exact ⟨⟨n', hx⟩, Nat.lt_of_le_of_lt ((leastOf_spec (p := fun n => ∃ ds a0, a' = ap ds a0 ∧ I n ds a0 w') ⟨n', hx⟩).2 n' hx) hlt⟩
  | exit id => exact ⟨_, _, e2, hq⟩
  | goto l => exact ⟨_, _, e2, hq⟩
  | ret => exact ⟨_, _, e2, hq⟩
  | panic ch => exact ⟨_, _, e2, hq⟩
  | outgrown => exact ⟨_, _, e2, hq⟩
end
end Go.Proofs.Ytfoeelghehjanaa

/-
  A loop over a function: the statement, its marks, its rounds; a function that holds one.
-/
namespace Go.Proofs.Ytfoeelghehjanaa
open Go.RowKit
set_option linter.unusedVariables false
set_option linter.unusedSimpArgs false

/-! ## Pieces -/
/-- a block that is no cells -/
def hObj (k : Nat) (o : Obj) : HP where
  at_ S w := S k ∧ w.heap[k]? = some o
  keep := fun ⟨h1, h2⟩ hk => ⟨h1, (hk _ h1).trans h2⟩
/-- blocks for rounds' deferred calls -/
def hMarks (Ds : List Nat) : HP where
  at_ S w := Ds.Nodup ∧ ∀ D ∈ Ds, S D ∧ w.heap[D]? = some (.deferred (some []))
  keep := fun ⟨h0, h⟩ hk => ⟨h0, fun D hD => ⟨(h D hD).1, (hk _ (h D hD).1).trans (h D hD).2⟩⟩
def mark (D : Nat) : Deferred := { target := .collected D, args := #[] }

section
variable {w0 w : World} {H L L' : List HP}
theorem Sep.perm {L L' : List HP} (p : L.Perm L') : ∀ {T : Nat → Prop}, Sep w L T → Sep w L' T := by
  induction p with
  | nil => exact fun h => h
  | cons x _ ih => exact fun h => Sep.cons_mono (fun _ => ih) h
  | swap x y l => exact fun h => Sep.swap h
  | trans _ _ i1 i2 => exact fun h => i2 (i1 h)
theorem St.perm (hS : St w0 w L) (p : L.Perm L') : St w0 w L' := ⟨hS.below, hS.sep.perm p⟩
theorem St.obj {k : Nat} {o : Obj} (hS : St w0 w (hObj k o :: H)) : w.heap[k]? = some o := by
  obtain ⟨_, _, h⟩ := hS.head
  exact h.2
theorem St.put_ {k : Nat} {o o' : Obj} (hS : St w0 w (hObj k o :: H)) : St w0 (w.putObj k o') (hObj k o' :: H) :=
  hS.upd rfl rfl rfl (by simp) fun S ⟨h1, h2⟩ => ⟨S, ⟨h1, World.putObj_heap_same (Array.getElem?_eq_some_iff.1 h2).1⟩, fun k hk => .inl hk, fun j _ hj => World.putObj_heap_other (fun e => hj (e ▸ h1))⟩
theorem St.newObj (hS : St w0 w H) (o : Obj) : St w0 (w.alloc o) (hObj w.heap.size o :: H) :=
  hS.new ((Below.refl _ w).alloc (Nat.le_refl _) o) (fun k => k = w.heap.size) (fun k hk => by subst hk; simp) ⟨rfl, World.alloc_heap_new w o⟩
theorem St.objMark {D : Nat} (hS : St w0 w (hObj D (.deferred (some [])) :: H)) : St w0 w (hMarks [D] :: H) :=
  hS.conv fun S ⟨h1, h2⟩ => ⟨by simp, fun E hE => by simp at hE; subst hE; exact ⟨h1, h2⟩⟩
theorem St.marks0 (hS : St w0 w H) : St w0 w (hMarks [] :: H) :=
  hS.new (Below.refl _ _) (fun _ => False) (fun _ h => h.elim) ⟨List.nodup_nil, fun _ h => by cases h⟩
theorem St.marks2 {D : Nat} {Ds : List Nat} (hS : St w0 w (hMarks [D] :: hMarks Ds :: H)) : St w0 w (hMarks (D :: Ds) :: H) := by
  obtain ⟨hb, S, h1, ⟨_, h2⟩, S2, h3, ⟨h4, h5⟩, r⟩ := hS
  refine ⟨hb, fun k => S k ∨ S2 k, fun k hk => hk.elim (h1 k) fun h => (h3 k h).1, ⟨List.nodup_cons.2 ⟨fun hD => (h3 D (h5 D hD).1).2 (h2 D (by simp)).1, h4⟩, fun E hE => ?_⟩, Sep.mono (fun k hk => ⟨hk.1.1, fun h => h.elim hk.1.2 hk.2⟩) r⟩
  rcases List.mem_cons.1 hE with rfl | hE
  · exact ⟨.inl (h2 E (by simp)).1, (h2 E (by simp)).2⟩
  · exact ⟨.inr (h5 E hE).1, (h5 E hE).2⟩
end

/-! ## A function that holds such a loop -/
def PostI (P : Program) (fn : Func) (R : Value → World → Prop) : List Deferred → Exit → Act → World → Prop := fun ds e a w =>
  match e with
  | .normal | .ret => LeavesInM (FW none) 0 P fn a.tmps (fun e w' => ∃ v, e = .returned v ∧ R v w') (a.defers ++ ds) .returning w
  | _ => False
theorem enterI {P : Program} {f : FuncId} {fn : Func} {c : Code} {args : List Value} {w : World} {R : Value → World → Prop} (n : Nat)
    (hf : P.funcs[f]? = some fn) (hb : fn.body = some c) (hn : fn.ntmps = n) (ha : Nat.ble args.length n = true)
    (h : ∀ a, Env n (argsAt 0 args) a → WI none P c (PostI P fn R) [] a w) : Fn P f args w R := by
  have ha' : args.length ≤ n := Nat.le_of_ble_eq_true ha
  have hE : Env n (argsAt 0 args) { tmps := args.toArray ++ Array.replicate (fn.ntmps - args.toArray.size) undef, defers := [] } := by
    refine ⟨?_, rfl, fun t v ht => ?_⟩
    · simp [hn]; omega
    · obtain ⟨_, h2⟩ := find_argsAt args 0 t v ht
      simp only [Nat.sub_zero] at h2
      have hlt : t < args.length := by
        rcases Nat.lt_or_ge t args.length with hlt | hge
        · exact hlt
        · rw [List.getElem?_eq_none hge] at h2; cases h2
      rw [Array.getElem?_append_left (by simpa using hlt)]
      simpa using h2
  refine calls_of_wide (ρ := none) (n := 0) (callsIn_of_wp_marks hf hb trivial ?_)
  refine Go.wpIn_mono (h _ hE) ?_
  rintro e a' w' ⟨ds', a0, rfl, hq⟩
  cases e with
  | normal => exact hq
  | ret => exact hq
  | exit id => exact hq.elim
  | goto l => exact hq.elim
  | panic ch => exact hq.elim
  | outgrown => exact hq.elim

section
variable {P : Program} {fn : Func} {R : Value → World → Prop}
theorem leave_marks {tmps : Array Value} {v : Value} {w0 : World} {H : List HP} : ∀ (Ds : List Nat) (w : World), St w0 w (hMarks Ds :: H) → (∀ w', St w0 w' H → (results fn tmps).run P w' = .ok v w' ∧ R v w') →
    LeavesInM (FW none) 0 P fn tmps (fun e w' => ∃ v, e = .returned v ∧ R v w') (Ds.map mark) .returning w
  | [], w, hS, hR => ⟨v, (hR w hS.tail).1, v, rfl, (hR w hS.tail).2⟩
  | D :: Ds, w, hS, hR => by
    have hD : w.heap[D]? = some (.deferred (some [])) := by
      obtain ⟨_, _, h⟩ := hS.head
      exact (h.2 D (by simp)).2
    refine ⟨by simp, .inl ⟨D, w.putObj D (.deferred none), rfl, run_takeDeferred hD, leave_marks Ds _ ?_ hR⟩⟩
    refine hS.upd rfl rfl rfl (by simp) fun S ⟨h0, h⟩ => ⟨S, ⟨(List.nodup_cons.1 h0).2, fun E hE => ⟨(h E (List.mem_cons_of_mem _ hE)).1, ?_⟩⟩, fun k hk => .inl hk, fun j _ hj => World.putObj_heap_other (fun e => hj (e ▸ (h D (by simp)).1))⟩
    rw [World.putObj_heap_other (fun e => (List.nodup_cons.1 h0).1 (by rw [← e]; exact hE))]
    exact (h E (List.mem_cons_of_mem _ hE)).2
variable {n : Nat} {L : List (Nat × Value)} {a : Act} {w w0 : World} {H : List HP}
theorem im_ret1 (hE : Env n L a) {t : Nat} {v : Value} (Ds : List Nat) (hS : St w0 w (hMarks Ds :: H)) (hr : fn.results = #[.tmp t]) (ht : find L t = some v) (hR : ∀ w', St w0 w' H → R v w') : PostI P fn R (Ds.map mark) .ret a w := by
  have h1 := hE.has t v ht
  show LeavesInM (FW none) 0 P fn a.tmps _ (a.defers ++ Ds.map mark) .returning w
  rw [hE.defers]
  exact leave_marks (v := v) Ds w hS fun w' hS' => ⟨by simp [results_tmp hr, h1], hR w' hS'⟩
theorem i_ret1 (hE : Env n L a) {t : Nat} {v : Value} (hr : fn.results = #[.tmp t]) (ht : find L t = some v) (hR : R v w) : PostI P fn R [] .ret a w := by
  have h1 := hE.has t v ht
  show LeavesInM (FW none) 0 P fn a.tmps _ (a.defers ++ []) .returning w
  rw [hE.defers]
  exact ⟨v, by simp [results_tmp hr, h1], v, rfl, hR⟩
theorem i_ret0 (hE : Env n L a) (hr : fn.results = #[]) (hR : R (.tuple #[]) w) : PostI P fn R [] .ret a w := by
  show LeavesInM (FW none) 0 P fn a.tmps _ (a.defers ++ []) .returning w
  rw [hE.defers]
  exact ⟨_, results_none hr _ _ _, _, rfl, hR⟩
theorem i_end0 (hE : Env n L a) (hr : fn.results = #[]) (hR : R (.tuple #[]) w) : PostI P fn R [] .normal a w := by
  show LeavesInM (FW none) 0 P fn a.tmps _ (a.defers ++ []) .returning w
  rw [hE.defers]
  exact ⟨_, results_none hr _ _ _, _, rfl, hR⟩
end

/-! ## The loop -/
def cdJ : Option Nat → Code
  | none => .ret
  | some i => .exit i
def exJ : Option Nat → Exit
  | none => .ret
  | some i => .exit i
/-- What a function that is gone over promises: full comes, one by one, to the round; or a round says that it is enough. -/
def Iter {α : Type} (P : Program) (gf : FuncId) (lb : List Value) (Bx : List HP) (enc : α → List Value) (full : List α) (w0 : World) : Prop :=
  ∀ (w : World) (l : Nat) (own : List HP) (H : List α → List HP) (J : Type) (Hx : J → List α → List HP),
    (∀ own pre x w, (∃ post, pre ++ x :: post = full) → St w0 w (Bx ++ (H pre ++ own)) → YieldAt (FW none) 0 P l (enc x).toArray w fun e w' =>
      (e = .returned (.bool true) ∧ St w0 w' (Bx ++ (H (pre ++ [x]) ++ own))) ∨ (e = .returned (.bool false) ∧ ∃ j, St w0 w' (Bx ++ (Hx j (pre ++ [x]) ++ own)))) →
    St w0 w (Bx ++ (H [] ++ own)) →
    Calls P gf (.func (.yield l) #[] #[] :: lb).toArray w fun e w' => (∃ v, e = .returned v) ∧ (St w0 w' (Bx ++ (H full ++ own)) ∨ ∃ j pre x post, pre ++ x :: post = full ∧ St w0 w' (Bx ++ (Hx j (pre ++ [x]) ++ own)))

def lrec (fn : FuncId) (tmps : Array Value) (ps : Array Tmp) (assign body : Code) (D : Nat) (st : LoopState) (pe : Option Code) : Loop := { state := st, pending := pe, fn, tmps, params := ps, assign, body, defers := D }
theorem tmps_zip {n : Nat} : ∀ (ps : List Nat) (vs : List Value) (L : List (Nat × Value)) (t : Array Value) (ds : List Deferred), (∀ p ∈ ps, p < n) → ps.length = vs.length → Env n L { tmps := t, defers := [] } →
    ∃ L', L' = (ps.zip vs).foldl (fun L p => p :: L) L ∧ Env n L' { tmps := (ps.zip vs).foldl (fun t p => t.setIfInBounds p.1 p.2) t, defers := [] }
  | [], _, L, t, _, _, _, hE => ⟨_, rfl, hE⟩
  | p :: ps, [], _, _, _, _, h, _ => by simp at h
  | p :: ps, v :: vs, L, t, ds, hp, hl, hE => by
    have h1 : Env n ((p, v) :: L) { tmps := t.setIfInBounds p v, defers := [] } := by
      have := hE.put (d := p) (by simpa [Nat.blt_eq] using hp p (by simp)) v
      exact this
    exact tmps_zip ps vs _ _ ds (fun q hq => hp q (by simp [hq])) (by simpa using hl) h1

section
variable {P : Program} {Q : List Deferred → Exit → Act → World → Prop} {ds : List Deferred} {n : Nat} {L : List (Nat × Value)} {a : Act} {w w0 : World}
theorem perm_in {A B C D : List HP} {x y : HP} : (x :: y :: (A ++ (B ++ C))).Perm (A ++ (x :: y :: B ++ C)) := by
  have := (List.perm_append_comm (l₁ := [x, y]) (l₂ := A)).append_right (B ++ C)
  simpa using this
theorem perm_own {A B C : List HP} {x y : HP} : (A ++ (x :: y :: B ++ C)).Perm (A ++ (B ++ (x :: y :: C))) := by
  refine List.Perm.append_left _ ?_
  have h1 : (x :: y :: B ++ C) = ([x, y] ++ B) ++ C := rfl
  have h2 : B ++ (x :: y :: C) = (B ++ [x, y]) ++ C := by simp
  rw [h1, h2]
  exact List.perm_append_comm.append_right _
theorem perm_top {A B C : List HP} {x y : HP} : (A ++ (B ++ (x :: y :: C))).Perm (x :: y :: (A ++ (B ++ C))) := by
  have := (List.perm_append_comm (l₁ := A ++ B) (l₂ := [x, y])).append_right C
  simpa using this
theorem perm_topx {B C : List HP} {x y : HP} : (B ++ (x :: y :: C)).Perm (x :: y :: (B ++ C)) := by
  simpa using perm_top (A := []) (B := B) (C := C) (x := x) (y := y)

theorem i_range {α : Type} {g : Operand} {ps : List Tmp} {assign body : Code} {gf : FuncId} {lb : List Value} {enc : α → List Value} {full : List α} {Bx own : List HP} [TyFn P gf]
    (hE : Env n L a) (hg : ev L g = some (.func (.func gf) #[] lb.toArray)) (hI : Iter P gf lb Bx enc full w0)
    (H : List α → List HP) (Hx : Option Nat → List α → List HP) (hS : St w0 w (Bx ++ (H [] ++ own)))
    (hps : ∀ x, ps.length = (enc x).length) (hpn : ∀ p ∈ ps, p < n)
    {Y : Type} (LL : List α → α → Y → List (Nat × Value)) (Ha : List α → α → Y → List HP)
    (hassign : ∀ own pre x w l a1, (∃ post, pre ++ x :: post = full) → St w0 w (Bx ++ (H pre ++ own)) → Env n ((ps.zip (enc x)).foldl (fun L p => p :: L) L) a1 →
      WI (some l) P assign (fun ds e a' w' => e = .normal ∧ ds = [] ∧ ∃ y, Env n (LL pre x y) a' ∧ St w0 w' (Bx ++ (Ha pre x y ++ own))) [] a1 w)
    (hbody : ∀ own pre x y w l a1, (∃ post, pre ++ x :: post = full) → St w0 w (Bx ++ (Ha pre x y ++ own)) → Env n (LL pre x y) a1 →
      WI (some l) P body (fun ds e a' w' => match e with
        | .normal => St w0 w' (Bx ++ (H (pre ++ [x]) ++ own))
        | .ret => St w0 w' (Bx ++ (Hx none (pre ++ [x]) ++ own))
        | .exit i => St w0 w' (Bx ++ (Hx (some i) (pre ++ [x]) ++ own))
        | _ => False) [] a1 w)
    (hdone : ∀ D w', St w0 w' (hMarks [D] :: (Bx ++ (H full ++ own))) → Q (mark D :: ds) .normal a w')
    (hstop : ∀ j D pre x post w', pre ++ x :: post = full → St w0 w' (hMarks [D] :: (Bx ++ (Hx j (pre ++ [x]) ++ own))) → Q (mark D :: ds) (exJ j) a w') :
    WI none P (.rangeFunc g ps.toArray assign body) Q ds a w := by
  have hg' : (ap ds a).eval g = .func (.func gf) #[] lb.toArray := ap_ev hE hg
  refine wpIn_rangeFunc ?_
  intro fn hfn
  obtain ⟨W1, hW1⟩ : ∃ W1, (w.alloc (.deferred (some []))).alloc (.loop (lrec fn a.tmps ps.toArray assign body w.heap.size .ready none)) = W1 := ⟨_, rfl⟩
  have hT : St w0 W1 (hObj (w.heap.size + 1) (.loop (lrec fn a.tmps ps.toArray assign body w.heap.size .ready none)) :: hObj w.heap.size (.deferred (some [])) :: (Bx ++ (H [] ++ own))) := by
    have h1 := (hS.newObj (.deferred (some []))).newObj (.loop (lrec fn a.tmps ps.toArray assign body w.heap.size .ready none))
    rw [hW1, World.size_alloc] at h1
    exact h1
  refine ⟨w.heap.size + 1, [mark w.heap.size], W1, { target := .fn (.func gf) lb.toArray, args := #[.func (.yield (w.heap.size + 1)) #[] #[]] }, W1, gf,
    #[.func (.yield (w.heap.size + 1)) #[] #[]] ++ lb.toArray, W1, ?_, ?_, fun _ _ => trivial, ?_, deep_wide, ?_⟩
  · rw [← hW1]; exact run_enterLoop_outer _ _ _ _ _
  · simp only [resolve, hg']
    simp [go_sem]
  · simp [invoke, run_callFunc]
  · have hI' := hI W1 (w.heap.size + 1) own (fun pre => hObj (w.heap.size + 1) (.loop (lrec fn a.tmps ps.toArray assign body w.heap.size .ready none)) :: hObj w.heap.size (.deferred (some [])) :: H pre) (Option Nat)
      (fun j pre => hObj (w.heap.size + 1) (.loop (lrec fn a.tmps ps.toArray assign body w.heap.size .done (some (cdJ j)))) :: hObj w.heap.size (.deferred (some [])) :: Hx j pre) ?_ (hT.perm (perm_in (D := [])))
    · have e1 : (.func (.yield (w.heap.size + 1)) #[] #[] :: lb).toArray = #[.func (.yield (w.heap.size + 1)) #[] #[]] ++ lb.toArray := by simp
      rw [e1] at hI'
      refine calls_wide (Calls.mono hI' ?_)
      rintro e W2 ⟨⟨v, rfl⟩, h | ⟨j, pre, x, post, hpre, h⟩⟩
      · have h1 := (h.perm perm_own).perm perm_top
        have h2 := h1.put_ (o' := .loop { lrec fn a.tmps ps.toArray assign body w.heap.size .ready none with state := .exhausted })
        refine ⟨none, _, run_endLoop (P := P) h1.obj (by simp [lrec]), mark w.heap.size :: ds, a, ?_, hdone _ _ h2.tail.objMark⟩
        show ({ ap ds a with defers := [mark w.heap.size] ++ (a.defers ++ ds) } : Act) = { a with defers := a.defers ++ mark w.heap.size :: ds }
        rw [hE.defers]; rfl
      · have h1 := (h.perm perm_own).perm perm_top
        have h2 := h1.put_ (o' := .loop { lrec fn a.tmps ps.toArray assign body w.heap.size .done (some (cdJ j)) with state := .exhausted })
        have h3 := hstop j _ pre x post _ hpre h2.tail.objMark
        refine ⟨some (cdJ j), _, run_endLoop (P := P) h1.obj (by simp [lrec]), ?_⟩
        have e2 : ({ ap ds a with defers := [mark w.heap.size] ++ (a.defers ++ ds) } : Act) = ap (mark w.heap.size :: ds) a := by
          show ({ ap ds a with defers := [mark w.heap.size] ++ (a.defers ++ ds) } : Act) = { a with defers := a.defers ++ mark w.heap.size :: ds }
          rw [hE.defers]; rfl
        cases j with
        | none => exact wpIn_ret ⟨_, a, e2, h3⟩
        | some i => exact wpIn_exit ⟨_, a, e2, h3⟩
    · -- a round
      intro own' pre x W hpre hW
      have h1 := (hW.perm perm_own).perm perm_top
      have hl := h1.obj
      have hy := run_yield (P := P) (args := (enc x).toArray) hl (by simpa [lrec] using (hps x).symm)
      have htm : ∃ t, t = (ps.toArray.zip (enc x).toArray).foldl (fun t (p, v) => t.setIfInBounds p v) a.tmps ∧ Env n ((ps.zip (enc x)).foldl (fun L p => p :: L) L) { tmps := t, defers := [] } := by
        obtain ⟨L', e, h⟩ := tmps_zip ps (enc x) L a.tmps [] hpn (hps x) ⟨hE.size, rfl, hE.has⟩
        refine ⟨_, rfl, ?_⟩
        rw [← e]
        have e3 : (ps.toArray.zip (enc x).toArray).foldl (fun t (p, v) => t.setIfInBounds p v) a.tmps = (ps.zip (enc x)).foldl (fun t p => t.setIfInBounds p.1 p.2) a.tmps := by
          rw [← Array.foldl_toList]; simp
        rw [e3]
        exact h
      obtain ⟨t, ht, hEt⟩ := htm
      refine ⟨fn, t, assign, body, by rw [ht]; exact hy, roundIn_of_wpIn (F := FW none) trivial ?_⟩
      have h2 := hassign (hObj (w.heap.size + 1) (.loop (lrec fn a.tmps ps.toArray assign body w.heap.size .ready none)) :: hObj w.heap.size (.deferred (some [])) :: own') pre x W (w.heap.size + 1) _ hpre (hW.perm perm_own) hEt
      refine Go.wpIn_mono (F := FW (some (w.heap.size + 1))) h2 ?_
      rintro e a2 w2 ⟨ds', a0, rfl, rfl, rfl, y, hEy, hSy⟩
      have h3 := hSy.perm perm_top
      refine ⟨_, run_beginRound h3.obj rfl, ?_⟩
      have h4 := (h3.put_ (o' := .loop { lrec fn a.tmps ps.toArray assign body w.heap.size .ready none with state := .busy })).perm ((perm_own (A := Bx) (B := Ha pre x y) (C := own')).symm.trans (perm_own (A := Bx) (B := Ha pre x y) (C := own')) |>.trans perm_top).symm
      have h5 := hbody _ pre x y _ (w.heap.size + 1) a0 hpre h4 hEy
      refine Go.wpIn_mono (F := FW (some (w.heap.size + 1))) h5 ?_
      rintro e a3 w4 ⟨ds3, a4, rfl, hq⟩
      cases e with
      | normal =>
        have h6 : St w0 w4 _ := St.perm hq perm_top
        refine ⟨_, _, run_endRound none h6.obj, .inl ⟨rfl, ?_⟩⟩
        have h7 := (h6.put_ (o' := .loop (lrec fn a.tmps ps.toArray assign body w.heap.size .ready none))).perm (perm_in (D := []))
        exact h7
      | ret =>
        have h6 : St w0 w4 _ := St.perm hq perm_top
        refine ⟨_, _, run_endRound (some .ret) h6.obj, .inr ⟨rfl, none, ?_⟩⟩
        have h7 := (h6.put_ (o' := .loop (lrec fn a.tmps ps.toArray assign body w.heap.size .done (some .ret)))).perm (perm_in (D := []))
        exact h7
      | exit i =>
        have h6 : St w0 w4 _ := St.perm hq perm_top
        refine ⟨_, _, run_endRound (some (.exit i)) h6.obj, .inr ⟨rfl, some i, ?_⟩⟩
        have h7 := (h6.put_ (o' := .loop (lrec fn a.tmps ps.toArray assign body w.heap.size .done (some (.exit i))))).perm (perm_in (D := []))
        exact h7
      | goto l => exact hq.elim
      | panic ch => exact hq.elim
      | outgrown => exact hq.elim
end
end Go.Proofs.Ytfoeelghehjanaa

/-
  A function that calls yield: one operation of a list, or of a statement whose order is open, is such a call.
-/
namespace Go.Proofs.Ytfoeelghehjanaa
open Go.RowKit
set_option linter.unusedVariables false
set_option linter.unusedSimpArgs false

def YS (P : Program) (ops : Array Oper) (o : Oper) (K : Act → World → Prop) (a : Act) (w : World) : Prop :=
  Region.wanted o (yielded ops a.tmps) = true ∧ (∀ c, o.op ≠ .defer c) ∧ (∀ cs b, o.op ≠ .select cs b) ∧ ∃ (l : Nat) (fn : FuncId) (tmps : Array Value) (assign body : Code), (execOp a.eval o).run P w = .ok (.round l fn tmps assign body) w ∧
    RoundIn (FW none) 0 P l fn tmps assign body w fun e w' => ∃ v, e = .returned v ∧ K (a.put o.dst v) w'
section
variable {P : Program} {ops : Array Oper} {Q : Exit → Act → World → Prop} {ds : List Deferred} {lt : Nat} {S : World → Prop}
theorem YS.mono {o : Oper} {K K' : Act → World → Prop} {a : Act} {w : World} (h : YS P ops o K a w) (hk : ∀ a w, K a w → K' a w) : YS P ops o K' a w := by
  obtain ⟨h1, h2, h3, l, fn, tmps, assign, body, h4, h5⟩ := h
  exact ⟨h1, h2, h3, l, fn, tmps, assign, body, h4, h5.mono fun e w' ⟨v, e1, h⟩ => ⟨v, e1, hk _ _ h⟩⟩
theorem YS.in_ {o : Oper} {K : Act → World → Prop} {Q' : Exit → Act → World → Prop} {a : Act} {w : World} (h : YS P ops o K a w) :
    o.wpIn (FW none) 0 P (ap ds a) w (fun a' w' => ∃ a0, a' = ap ds a0 ∧ K a0 w') Q' := by
  obtain ⟨h1, h2, h3, l, fn, tmps, assign, body, h4, h5⟩ := h
  unfold Oper.wpIn
  refine ⟨about_wide o w _, ?_⟩
  rw [show (FW none).round = none from rfl, Oper.semAt_none, ap_eval, h4]
  simp only [Oper.uponIn]
  refine ⟨deep_wide, h5.mono ?_⟩
  rintro e w' ⟨v, rfl, hk⟩
  exact ⟨_, by rw [ap_put], hk⟩
variable {n d : Nat} {L : List (Nat × Value)} {a : Act} {w : World} {ty : TypeId} {ps : String} {af : Array Edge} {gd : Option (Nat × Bool)}
theorem ys_call {lp : Nat} {fo : Operand} {xs : List Operand} {vs : List Value} {ts : Array TypeId} {R : Ending → World → Prop} {K : Act → World → Prop} (hE : Env n L a)
    (hf : ev L fo = some (.func (.yield lp) #[] #[])) (hx : evs L xs = some vs) (hd : Nat.blt d n = true)
    (hw : Region.wanted ⟨some d, .call ⟨.value fo, xs.toArray, ts⟩, ty, ps, af, gd⟩ (yielded ops a.tmps) = true)
    (hY : YieldAt (FW none) 0 P lp vs.toArray w R) (hK : ∀ e w', R e w' → ∃ v, e = .returned v ∧ ∀ a', Env n ((d, v) :: L) a' → K a' w') :
    YS P ops ⟨some d, .call ⟨.value fo, xs.toArray, ts⟩, ty, ps, af, gd⟩ K a w := by
  obtain ⟨fn, tmps, assign, body, hy, hR⟩ := hY
  refine ⟨hw, fun c e => (by cases e), fun cs b e => (by cases e), lp, fn, tmps, assign, body, ?_, hR.mono fun e w' h => ?_⟩
  · have he := hE.evals hx
    simp [execOp, resolve, Deferred.ofValue, hE.eval hf, invoke, he, hy]
  · obtain ⟨v, e1, h2⟩ := hK e w' h
    exact ⟨v, e1, h2 _ (hE.put hd v)⟩

/-! ## A list -/
theorem op_inN {ρ : Option Nat} {o : Oper} {N : Act → World → Prop} {K : Act → World → Prop} {Q' : Exit → Act → World → Prop} (hnd : ∀ c, o.op ≠ .defer c) (h : o.wp P a w K (QN N)) :
    o.wpIn (FW ρ) 0 P (ap ds a) w (fun a' w' => ∃ a0, a' = ap ds a0 ∧ K a0 w') Q' := by
  unfold Oper.wp at h
  unfold Oper.wpIn
  refine ⟨about_wide o w _, ?_⟩
  rw [show (FW ρ).round = ρ from rfl, Oper.semAt_eq ρ _ o hnd, ap_eval]
  generalize (execOp a.eval o).run P w = r at h ⊢
  cases r with
  | ok nx w2 =>
    cases nx <;> simp only [Oper.upon] at h <;> simp only [Oper.uponIn, ap_put]
    case value v => exact ⟨_, rfl, h⟩
    case skip => exact ⟨_, rfl, h⟩
    case defer d => exact ⟨_, by rw [← ap_put]; rfl, h⟩
    case enter f args =>
      refine ⟨deep_wide, calls_wide (Calls.mono h fun e w3 he => ?_)⟩
      cases e with
      | returned v => exact ⟨_, rfl, he⟩
      | panicked ch => exact absurd he.1 (by simp)
      | outgrown => obtain ⟨a0, w0, h0⟩ := he; exact absurd h0.1 (by simp)
    case row row args => exact ⟨deep_wide, rows_wide (Rows.mono h fun v w3 hv => ⟨_, rfl, hv⟩)⟩
  | halt x w2 =>
    cases x <;> simp only [Oper.upon] at h
    case panic v => exact absurd h.1 (by simp)
theorem list_cat {ρ : Option Nat} {N : Act → World → Prop} {Q' : Exit → Act → World → Prop} {rest : List Oper} (hN : ∀ a w, N a w → wpListIn (FW ρ) 0 P ops Q' rest (ap ds a) w) :
    ∀ (l : List Oper) (a : Act) (w : World), nodef l = true → wpList P ops (QN N) l a w → wpListIn (FW ρ) 0 P ops Q' (l ++ rest) (ap ds a) w
  | [], a, w, _, h => hN a w h.2
  | o :: l, a, w, hn, h => by
    have hn' : nodef l = true := by
      have h2 := hn
      unfold nodef at h2
      rw [List.all_cons, Bool.and_eq_true] at h2
      exact h2.2
    unfold wpList at h
    rw [List.cons_append]
    unfold wpListIn
    show if Region.wanted o (yielded ops a.tmps) = true then _ else _
    split
    · rename_i hw
      rw [if_pos hw] at h
      rcases h with h | ⟨_, a0, w0, h0⟩
      · refine Oper.wpIn_mono (fun a' w' ⟨a0, e, hk⟩ => ?_) (op_inN (nodef_op hn (List.mem_cons_self)) h)
        subst e
        exact list_cat hN l a0 w' hn' hk
      · exact absurd h0.1 (by simp)
    · rename_i hw
      rw [if_neg hw] at h
      refine ⟨about_wide o w _, ?_⟩
      rw [ap_put]
      exact list_cat hN l _ w hn' h
theorem i_regionY {Q : List Deferred → Exit → Act → World → Prop} {id : Nat} {l : List Oper} (pre : List Oper) (o : Oper) (post : List Oper) (hl : l = pre ++ o :: post) (hn : nodef l = true) (hQ : ∀ a w, Q ds .outgrown a w → False)
    (h : wpList P l.toArray (QN (YS P l.toArray o fun a2 w2 => wpList P l.toArray (Q ds) post a2 w2)) pre a w) : WI none P (.region id l.toArray false) Q ds a w := by
  have hn1 : nodef pre = true ∧ nodef post = true := by
    rw [hl] at hn
    unfold nodef at hn ⊢
    rw [List.all_append, List.all_cons, Bool.and_eq_true, Bool.and_eq_true] at hn
    exact ⟨hn.1, hn.2.2⟩
  refine Go.wpIn_mono (wpIn_region_lit (Q := Sh ds (Q ds)) ?_) fun e a' w' ⟨a0, e1, h1⟩ => ⟨ds, a0, e1, h1⟩
  have key := list_cat (ρ := none) (ds := ds) (Q' := Sh ds (Q ds)) (rest := o :: post) (N := YS P l.toArray o fun a2 w2 => wpList P l.toArray (Q ds) post a2 w2) (ops := l.toArray) (P := P) (fun a w hy => by
    unfold wpListIn
    show if Region.wanted o (yielded l.toArray a.tmps) = true then _ else _
    rw [if_pos hy.1]
    refine Oper.wpIn_mono (fun a' w' ⟨a0, e, hk⟩ => ?_) (YS.in_ (ds := ds) hy)
    subst e
    exact list_in hQ post a0 w' hn1.2 hk) pre a w hn1.1 h
  rw [← hl] at key
  exact key

/-! ## A statement whose order is open -/
def wpOpY (P : Program) (ops : Array Oper) (Q : Exit → Act → World → Prop) (i : Nat) (K : Act → World → Prop) (a : Act) (w : World) : Prop :=
  wpOp P ops Q i K a w ∨ ∃ o, ops[i]? = some o ∧ YS P ops o K a w
theorem wpOpY_mono {i : Nat} {K K' : Act → World → Prop} (h : ∀ a w, K a w → K' a w) (hh : wpOpY P ops Q i K a w) : wpOpY P ops Q i K' a w :=
  hh.imp (wpOp_mono h) fun ⟨o, h1, h2⟩ => ⟨o, h1, h2.mono h⟩
theorem wpOpY_putIf {j : Nat} {oi oj : Oper} {v : Value} (hj : ops[j]? = some oj) (hap : oi.apart ops oj = true)
    (hsi : ∀ cs b, oi.op ≠ .select cs b) (hsj : ∀ cs b, oj.op ≠ .select cs b)
    (hQ : ∀ c a w, Q (.panic c) (a.put oi.dst v) w → Q (.panic c) a w) {K : Act → World → Prop}
    (hy : YieldsIf P ops S oi v a) (h : wpOpY P ops Q j K (a.put oi.dst v) w) :
    wpOpY P ops Q j (fun a' w' => YieldsIf P ops S oi v a' ∧ K (a'.put oi.dst v) w') a w := by
  rcases h with h | ⟨o, ho, h1, h2, h3, l, fn, tmps, assign, body, h4, h5⟩
  · exact .inl (wpOp_putIf hj hap hsi hsj hQ hy h)
  · obtain rfl : oj = o := Option.some.inj (hj.symm.trans ho)
    obtain ⟨g1, g2, g3⟩ := Oper.apart_spec hap
    rw [wanted_put oj a oi.dst v g1] at h1
    rw [execOp_put oj hsj a oi.dst v g1] at h4
    refine .inr ⟨oj, hj, h1, h2, h3, l, fn, tmps, assign, body, h4, h5.mono ?_⟩
    rintro e w' ⟨u, e1, hk⟩
    exact ⟨u, e1, hy.of_same (execOp_put oi hsi a oj.dst u g3) (wanted_put oi a oj.dst u g3), by rw [← Act.put_comm a v u g2]; exact hk⟩
def wpAnyY (P : Program) (ops : Array Oper) (Q : Exit → Act → World → Prop) (lt : Nat) : (World → Prop) → Nat → Array Bool → Act → World → Prop
  | _, 0, listed, a, w => Region.ready .any ops listed = [] ∧ Q .normal a w
  | S, fuel + 1, listed, a, w =>
    (Region.ready .any ops listed = [] → Q .normal a w) ∧
    ∀ i ∈ Region.ready .any ops listed, wpOpY P ops Q i (fun a' w' => ∃ S' : World → Prop, (i < lt → (∀ u, S' u → S u) ∧ S' w') ∧ wpAnyY P ops Q lt S' fuel (listed.setIfInBounds i true) a' w') a w
theorem wpAnyY_of_T : ∀ (S : World → Prop) (fuel : Nat) (listed : Array Bool) (a : Act) (w : World), wpAnyT P ops Q lt S fuel listed a w → wpAnyY P ops Q lt S fuel listed a w
  | _, 0, _, _, _, h => h
  | _, fuel + 1, _, _, _, h => ⟨h.1, fun i hi => .inl (wpOp_mono (fun a' w' ⟨S', h1, h'⟩ => ⟨S', h1, wpAnyY_of_T S' fuel _ a' w' h'⟩) (h.2 i hi))⟩
theorem anyY_in {l : List Oper} (hQ : ∀ a w, ¬ Q .outgrown a w) (hn : nodef l = true) (lt : Nat) : ∀ (S : World → Prop) (fuel : Nat) (listed : Array Bool) (a : Act) (w : World),
    wpAnyY P l.toArray Q lt S fuel listed a w → wpAnyIn (FW none) 0 P .any l.toArray (Sh ds Q) fuel listed (ap ds a) w
  | _, 0, _, a, _, h => ⟨h.1, a, rfl, h.2⟩
  | S, fuel + 1, listed, a, w, h => ⟨fun h0 => ⟨a, rfl, h.1 h0⟩, fun i hi => by
      have key : wpOpIn (FW none) 0 P l.toArray (Sh ds Q) i (fun a' w' => ∃ a0, a' = ap ds a0 ∧ ∃ S' : World → Prop, (i < lt → (∀ u, S' u → S u) ∧ S' w') ∧ wpAnyY P l.toArray Q lt S' fuel (listed.setIfInBounds i true) a0 w') (ap ds a) w := by
        rcases h.2 i hi with h1 | ⟨o, ho, h1⟩
        · exact op_at_in hQ hn h1
        · unfold wpOpIn
          rw [ho]
          show if Region.wanted o (yielded l.toArray a.tmps) = true then _ else _
          rw [if_pos h1.1]
          exact YS.in_ h1
      exact wpOpIn_mono (fun a' w' ⟨a0, e, S', _, h'⟩ => by
        subst e
        exact anyY_in hQ hn lt S' fuel _ a0 w' h') key⟩
theorem wpAnyY_first {i : Nat} {oi : Oper} {v : Value} (hlt : lateOk ops lt = true) (hrd : rdOp oi = true) (hil : i < lt) (hi : ops[i]? = some oi) (hsel : ∀ (j : Nat) (o : Oper) cs b, ops[j]? = some o → o.op ≠ .select cs b)
    (hQ : ∀ c a w, Q (.panic c) (a.put oi.dst v) w → Q (.panic c) a w) :
    ∀ (fuel : Nat) (S : World → Prop) (listed : Array Bool) (a : Act) (w : World),
      (∀ j oj, ops[j]? = some oj → j ≠ i → listed.getD j true = false → (∀ e ∈ oj.after, Region.binds .any e = true → e.on ≠ i) → oi.apart ops oj = true) →
      i ∈ Region.ready .any ops listed → YieldsIf P ops S oi v a → S w →
      wpAnyY P ops Q lt S fuel (listed.setIfInBounds i true) (a.put oi.dst v) w → wpAnyY P ops Q lt S (fuel + 1) listed a w := by
  intro fuel
  induction fuel with
  | zero =>
    intro S listed a w _ hr hy hS H
    refine ⟨fun h => (by rw [h] at hr; cases hr), fun j hj => ?_⟩
    by_cases hji : j = i
    · subst hji; exact .inl (hy.wpOp hi hS ⟨S, fun _ => ⟨fun _ h => h, hS⟩, H⟩)
    · have := ready_mono hj hji
      rw [H.1] at this
      cases this
  | succ fuel ih =>
    intro S listed a w hfree hr hy hS H
    refine ⟨fun h => (by rw [h] at hr; cases hr), fun j hj => ?_⟩
    by_cases hji : j = i
    · subst hji; exact .inl (hy.wpOp hi hS ⟨S, fun _ => ⟨fun _ h => h, hS⟩, H⟩)
    · have h1 := H.2 j (ready_mono hj hji)
      have hjl : j < lt := late_early hlt hi hrd hil (mem_ready.1 hr).1 hj
      obtain ⟨hjun, oj, hoj, hall⟩ := mem_ready.1 hj
      have hnot : ∀ e ∈ oj.after, Region.binds .any e = true → e.on ≠ i := fun e he hb heq => by
        have h1 := hall e he hb
        have h0 := (mem_ready.1 hr).1
        rw [heq] at h1
        rcases Nat.lt_or_ge i listed.size with h' | h'
        · simp [h'] at h0 h1; rw [h0] at h1; cases h1
        · simp [Array.getElem?_eq_none h'] at h1
      have h2 := wpOpY_putIf hoj (hfree j oj hoj hji hjun hnot) (fun cs b => hsel i oi cs b hi) (fun cs b => hsel j oj cs b hoj) hQ hy h1
      have hfree' : ∀ k ok, ops[k]? = some ok → k ≠ i → (listed.setIfInBounds j true).getD k true = false →
          (∀ e ∈ ok.after, Region.binds .any e = true → e.on ≠ i) → oi.apart ops ok = true := fun k ok hk hki hun hno => by
        refine hfree k ok hk hki ?_ hno
        by_cases hjk : j = k
        · subst hjk; exact hjun
        · rw [getD_set_ne true hjk] at hun; exact hun
      refine wpOpY_mono (fun a' w' h3 => ?_) h2
      obtain ⟨h31, S', h32, h33⟩ := h3
      obtain ⟨hs1, hs2⟩ := h32 hjl
      refine ⟨S', fun _ => ⟨hs1, hs2⟩, ih S' (listed.setIfInBounds j true) a' w' hfree' (ready_mono hr (Ne.symm hji)) (yieldsIf_strong h31 hs1) hs2 ?_⟩
      rw [Array.setIfInBounds_comm _ _ hji]
      exact h33
theorem wpAnyY_all {rs : List Nat} {fuel : Nat} {listed : Array Bool} (hr : Region.ready .any ops listed = rs) (hne : rs ≠ [])
    (h : ∀ i ∈ rs, wpOpY P ops Q i (fun a' w' => ∃ S' : World → Prop, (i < lt → (∀ u, S' u → S u) ∧ S' w') ∧ wpAnyY P ops Q lt S' fuel (listed.setIfInBounds i true) a' w') a w) : wpAnyY P ops Q lt S (fuel + 1) listed a w :=
  ⟨fun h0 => absurd (hr ▸ h0) hne, hr ▸ h⟩
end

def Pl.join : Pl → Nat → Pl → Pl
  | .rd j p, i, q => .rd j (p.join i q)
  | .done, i, q => .ef i q
  | p, _, _ => p
def Pl.rds : Pl → Bool
  | .rd _ p => p.rds
  | .done => true
  | _ => false
section
variable {P : Program} {l : List Oper} {Q : Act → World → Prop}
/-- what is to be shown for the operation that may call yield -/
def wpM (P : Program) (l : List Oper) (Q : Act → World → Prop) (i : Nat) (q : Pl) (S : World → Prop) (a : Act) (w : World) : Prop :=
  wpE P l i (fun a w => ∃ S' : World → Prop, (∀ u, S' u → S u) ∧ S' w ∧ wpO P l Q S' q a w) a w ∨
  ∃ o, l[i]? = some o ∧ YS P l.toArray o (fun a w => ∃ S' : World → Prop, (∀ u, S' u → S u) ∧ S' w ∧ wpO P l Q S' q a w) a w
theorem Pl.soundY (k : Nat) (hk0 : lateOk l.toArray k = true) (i : Nat) (q : Pl) (S : World → Prop) : ∀ (p : Pl) (f : Nat) (b : Array Bool) (a : Act) (w : World), Region.noSelect l.toArray = true → p.rds = true → (p.join i q).ok l k f b = true →
    wpO P l (wpM P l Q i q S) S p a w → wpAnyY P l.toArray (QN Q) k S f b a w
  | .done, 0, b, a, w, hs, hr, hk, h => by simp [Pl.join, Pl.ok] at hk
  | .done, f + 1, b, a, w, hs, hr, hk, h => by
    unfold wpO at h
    simp only [Pl.join, Pl.ok, Bool.and_eq_true, beq_iff_eq] at hk
    obtain ⟨o, ho⟩ := Option.isSome_iff_exists.1 hk.1.1
    refine wpAnyY_all hk.1.2 (by simp) fun j hj => ?_
    simp only [List.mem_singleton] at hj
    subst hj
    have fin : ∀ a' w', (∃ S' : World → Prop, (∀ u, S' u → S u) ∧ S' w' ∧ wpO P l Q S' q a' w') → ∃ S' : World → Prop, (j < k → (∀ u, S' u → S u) ∧ S' w') ∧ wpAnyY P l.toArray (QN Q) k S' f (b.setIfInBounds j true) a' w' :=
      fun a' w' ⟨S', h1, h2, h'⟩ => ⟨S', fun _ => ⟨h1, h2⟩, wpAnyY_of_T S' _ _ _ _ (Pl.sound k hk0 S' q f _ _ _ hs hk.2 h')⟩
    rcases h with h | ⟨o2, ho2, h⟩
    · exact .inl (wpE_op ho h fin)
    · exact .inr ⟨o2, by simpa using ho2, h.mono fin⟩
  | .rd j p, 0, b, a, w, hs, hr, hk, h => by simp [Pl.join, Pl.ok] at hk
  | .rd j p, f + 1, b, a, w, hs, hr, hk, h => by
    unfold wpO at h
    obtain ⟨o, v, ho, hy, hS, h⟩ := h
    simp only [Pl.join, Pl.ok, Bool.and_eq_true] at hk
    exact wpAnyY_first (oi := o) (v := v) hk0 (by have := hk.1.1.1.1; rw [ho] at this; simpa using this) (by simpa [Nat.blt_eq] using hk.1.1.1.2) (by simpa using ho) (Region.noSelect_spec hs) (fun c a w h => absurd h.1 (by simp)) f S b a w (Region.free_spec (by simpa using ho) hk.1.1.2) (by simpa using hk.1.2) hy hS
      (Pl.soundY k hk0 i q S p f _ _ _ hs hr hk.2 h)
  | .ef _ _, _, _, _, _, _, hr, _, _ => by cases hr
  | .lt _ _, _, _, _, _, _, hr, _, _ => by cases hr
  | .ef2 _ _ _ _, _, _, _, _, _, hr, _, _ => by cases hr
  | .ef3 _ _ _ _ _ _, _, _, _, _, _, hr, _, _ => by cases hr
theorem i_ordH {Q' : List Deferred → Exit → Act → World → Prop} {ρ : Option Nat} {ds : List Deferred} {id : Nat} {a : Act} {w w0 : World} {H : List HP} (H' : List HP) (hS : St w0 w H) (hH : ∀ u, St w0 u H → St w0 u H') (k : Nat) (p : Pl) (hm : P.follows .mixedOrders = true)
    (hk : (Region.noSelect l.toArray && lateOk l.toArray k && p.ok l k l.length (Array.replicate l.length false)) = true) (hn : nodef l = true)
    (h : ∀ w1, St w0 w1 H → St w0 w1 H' → wpO P l (Q' ds .normal) (fun w' => St w0 w' H') p a w1) : WI ρ P (.region id l.toArray true) Q' ds a w :=
  i_ord (fun w' => St w0 w' H') k p hm hk hn (h _ hS.drew (hH _ hS.drew))
theorem wanted_at {o : Oper} {j dj : Nat} {want : Bool} {n : Nat} {L : List (Nat × Value)} {a : Act} (hE : Env n L a) (hg : o.guard = some (j, want)) (hj : (l[j]?).bind (·.dst) = some dj) (hb : find L dj = some (.bool want)) : Region.wanted o (yielded l.toArray a.tmps) = true := by
  have h1 := hE.has _ _ hb
  have hy : yielded l.toArray a.tmps j = some want := by simp only [yielded, List.getElem?_toArray, hj, Option.bind_some, h1]
  simp [Region.wanted, hg, hy]
theorem i_ordY {Q' : List Deferred → Exit → Act → World → Prop} {ds : List Deferred} {id : Nat} {a : Act} {w w0 : World} {H : List HP} (H' : List HP) (hS : St w0 w H) (hH : ∀ u, St w0 u H → St w0 u H') (k : Nat) (p : Pl) (i : Nat) (q : Pl) (hm : P.follows .mixedOrders = true)
    (hk : (Region.noSelect l.toArray && lateOk l.toArray k && p.rds && (p.join i q).ok l k l.length (Array.replicate l.length false)) = true) (hn : nodef l = true)
    (h : ∀ w1, St w0 w1 H → St w0 w1 H' → wpO P l (fun a w => w = w1 → wpM P l (Q' ds .normal) i q (fun w' => St w0 w' H') a w) (fun w' => St w0 w' H') p a w1) : WI none P (.region id l.toArray true) Q' ds a w := by
  simp only [Bool.and_eq_true] at hk
  have h0 : ∀ (p : Pl) (a : Act) (w1 : World), p.rds = true → wpO P l (fun a w => w = w1 → wpM P l (Q' ds .normal) i q (fun w' => St w0 w' H') a w) (fun w' => St w0 w' H') p a w1 → wpO P l (wpM P l (Q' ds .normal) i q (fun w' => St w0 w' H')) (fun w' => St w0 w' H') p a w1 := by
    intro p
    induction p with
    | done => intro a w1 _ h; unfold wpO at h ⊢; exact h rfl
    | rd j p ih =>
      intro a w1 hr h
      unfold wpO at h ⊢
      obtain ⟨o, v, h1, h2, h3, h4⟩ := h
      exact ⟨o, v, h1, h2, h3, ih _ _ hr h4⟩
    | ef _ _ _ => intro _ _ hr; cases hr
    | lt _ _ _ => intro _ _ hr; cases hr
    | ef2 _ _ _ _ _ _ => intro _ _ hr; cases hr
    | ef3 _ _ _ _ _ _ _ _ _ => intro _ _ hr; cases hr
  have h1 := Pl.soundY k hk.1.1.2 i q (fun w' => St w0 w' H') p _ _ _ _ hk.1.1.1 hk.1.2 hk.2 (h0 p a _ hk.1.2 (h _ hS.drew (hH _ hS.drew)))
  have h2 := anyY_in (ds := ds) (fun a w h => absurd h.1 (by simp)) hn k _ _ _ _ _ h1
  refine Go.wpIn_mono (wpIn_region_any (Q := Sh ds (QN (Q' ds .normal))) hm (by simpa using h2)) ?_
  rintro e a' w' ⟨a0, e1, rfl, h⟩
  exact ⟨ds, a0, e1, h⟩
end
section
variable {P : Program} {n d : Nat} {L : List (Nat × Value)} {a : Act} {w : World} {gd : Option (Nat × Bool)} {ty : TypeId} {ps : String} {af : Array Edge} {x : Operand}
/-- a field of an element -/
theorem r_fieldR {t ft : TypeId} {i off size b o : Nat} {z : Value} {ad : Addr} [TyF P t i off ft] [TyI P ft size z b] (hE : Env n L a) (hx : ev L x = some (.pointer (some (ad.add o)))) (hs : Nat.beq size 0 = false) : (execOp a.eval ⟨some d, .fieldAddr t x i, ty, ps, af, gd⟩).run P w = .ok (.value (.pointer (some (ad.add (o + off))))) w := by
  have h := r_field (P := P) (w := w) (t := t) (ft := ft) (i := i) (off := off) (size := size) (b := b) (z := z) (d := d) (ty := ty) (ps := ps) (af := af) (gd := gd) hE hx hs
  rw [add_add] at h
  exact h
end
section
variable {P : Program} {ops : Array Oper} {l : List Oper} {Q : Exit → Act → World → Prop} {K : Act → World → Prop} {S : World → Prop} {rest : List Oper} {d t ty : Nat} {a : Act} {w : World} {ps : String} {af : Array Edge} {x y z : Operand}
theorem g_sliceLH (h : wpList P ops Q (⟨some d, .slice t x (some y) (some z) none, ty, ps, af, none⟩ :: rest) a w) : wpList P ops Q (⟨some d, .slice t x (some y) (some z) none, ty, ps, af, none⟩ :: rest) a w := h
theorem q_sliceLH {pl : Pl} (h : wpR P l K S ⟨some d, .slice t x (some y) (some z) none, ty, ps, af, none⟩ pl a w) : wpR P l K S ⟨some d, .slice t x (some y) (some z) none, ty, ps, af, none⟩ pl a w := h
theorem g_sliceL (h : wpList P ops Q (⟨some d, .slice t x (some y) none none, ty, ps, af, none⟩ :: rest) a w) : wpList P ops Q (⟨some d, .slice t x (some y) none none, ty, ps, af, none⟩ :: rest) a w := h
theorem q_sliceL {pl : Pl} (h : wpR P l K S ⟨some d, .slice t x (some y) none none, ty, ps, af, none⟩ pl a w) : wpR P l K S ⟨some d, .slice t x (some y) none none, ty, ps, af, none⟩ pl a w := h
theorem g_sliceH (h : wpList P ops Q (⟨some d, .slice t x none (some y) none, ty, ps, af, none⟩ :: rest) a w) : wpList P ops Q (⟨some d, .slice t x none (some y) none, ty, ps, af, none⟩ :: rest) a w := h
theorem q_sliceH {pl : Pl} (h : wpR P l K S ⟨some d, .slice t x none (some y) none, ty, ps, af, none⟩ pl a w) : wpR P l K S ⟨some d, .slice t x none (some y) none, ty, ps, af, none⟩ pl a w := h
end
end Go.Proofs.Ytfoeelghehjanaa

/-
  More rules: empty rows of structs, made rows of bytes' blocks.
-/
namespace Go.Proofs.Ytfoeelghehjanaa
open Go.RowKit
set_option linter.unusedVariables false
set_option linter.unusedSimpArgs false

theorem run_build0 {P : Program} {w : World} {t e size b : Nat} {z : Value} [TyU P t (.slice e)] [TyI P e size z b] :
    (Instr.buildSlice t 0 #[]).run P w = .ok (.slice (some ⟨w.heap.size, 0, none⟩) 0 0) (w.alloc (.cells ([] : List Value).toArray e)) := by
  simp [Instr.buildSlice, run_under (d := .slice e), run_size (size := size) (zero := z) (bytes := b), newRow, Instr.fill]
  have e0 : Array.range 0 = #[] := Array.eq_empty_of_size_eq_zero (by simp)
  rw [e0, List.map_toArray]
  rfl
section
variable {P : Program} {ops : Array Oper} {Q : Exit → Act → World → Prop} {rest : List Oper} {n d : Nat} {L : List (Nat × Value)} {a : Act} {w w0 : World} {H : List HP}
variable {ty xt yt : TypeId} {ps : String} {af : Array Edge}
theorem s_lit0 {t e size b : Nat} {z : Value} [TyU P t (.slice e)] [TyI P e size z b] (hE : Env n L a) (hS : St w0 w H) (hd : Nat.blt d n = true)
    (K : ∀ g a' w', Env n ((d, .slice (some ⟨g, 0, none⟩) 0 0) :: L) a' → St w0 w' (hRow e size (some ⟨g, 0, none⟩) 0 0 [] :: H) → wpList P ops Q rest a' w') :
    wpList P ops Q (⟨some d, .buildSlice t 0 #[], ty, ps, af, none⟩ :: rest) a w := by
  have hrun := run_build0 (P := P) (w := w) (t := t) (e := e) (size := size) (b := b) (z := z)
  refine s_val (v := .slice (some ⟨w.heap.size, 0, none⟩) 0 0) (w' := w.alloc (.cells ([] : List Value).toArray e)) hE rfl rfl hd ?_ fun a' hE' => K _ _ _ hE' ((hS.alloc [] e).blkRow size 0 (by simp) (by decide))
  simp [execOp, hrun]
variable {x y : Operand} {gd : Option (Nat × Bool)}
/-- an element's address in an array -/
theorem r_idxP {t e : TypeId} {len size b g o : Nat} {z : Value} {k : IntKind} {i : Int} [TyU P t (.array len e)] [TyI P e size z b] (hE : Env n L a) (hx : ev L x = some (.pointer (some ⟨g, o, none⟩))) (hy : ev L y = some (.int k i)) (h0 : 0 ≤ i) (h1 : i < len) :
    (execOp a.eval ⟨some d, .indexAddr t x y, ty, ps, af, gd⟩).run P w = .ok (.value (.pointer (some ⟨g, o + i.toNat * size, none⟩))) w := by
  have hadd : (⟨g, o, none⟩ : Addr).add (i.toNat * size) = ⟨g, o + i.toNat * size, none⟩ := add_lit _ _ _
  simp [execOp, Instr.indexAt, Instr.sureAddr, asIntOf, hE.eval hx, hE.eval hy, run_under (d := .array len e), run_size (size := size) (zero := z) (bytes := b), h0, h1, hadd]
end
theorem made_rep (n m : Nat) (v : Value) (z : Array Value) (hz : z = (List.replicate (m + 1) v).toArray) : (madeCells z (n * (m + 1))).toList.take (n * (m + 1)) = List.replicate (n * (m + 1)) v := by
  have hs : z.size = m + 1 := by rw [hz]; simp
  rw [List.take_of_length_le (by simp [madeCells])]
  refine List.eq_replicate_iff.2 ⟨by simp [madeCells], fun b hb => ?_⟩
  have e : (madeCells z (n * (m + 1))).toList = (Array.range (n * (m + 1))).toList.map (z[· % z.size]!) := by unfold madeCells; exact Array.toList_map ..
  rw [e] at hb
  obtain ⟨i, _, rfl⟩ := List.mem_map.1 hb
  have hi : i % z.size < z.size := Nat.mod_lt _ (by omega)
  show z[i % z.size]! = v
  rw [getElem!_pos z _ hi]
  simp [hz]
/-! ## arrays of bytes, held against each other -/
class TyG (P : Program) (t : TypeId) : Prop where out : P.eqGuardType P.depth t = false
theorem run_items {P : Program} {w : World} {e : TypeId} (d : Nat) (he : P.underlying e = some (.int .u8)) (xs ys : List Nat) (n : Nat) (hx : xs.length = n) (hy : ys.length = n) :
    ∀ (m s : Nat), s + m = n → (Op.eqItems (d + 1) e 1 (bys xs).toArray (bys ys).toArray (List.range' s m)).run P w = .ok (decide (xs.drop s = ys.drop s)) w
  | 0, s, h => by
    rw [List.drop_eq_nil_of_le (by omega), List.drop_eq_nil_of_le (by omega)]
    simp [Op.eqItems]
  | m + 1, s, h => by
    have ih := run_items (w := w) d he xs ys n hx hy m (s + 1) (by omega)
    have h1 : s < xs.length := by omega
    have h2 : s < ys.length := by omega
    have hp : P.plainKey e = true := by unfold Program.plainKey; rw [he]
    have p1 : (part e (bys xs).toArray (s * 1)).run P w = .ok (.int .u8 (xs[s] : Int)) w := run_part_plain w hp (by simp [bys, h1])
    have p2 : (part e (bys ys).toArray (s * 1)).run P w = .ok (.int .u8 (ys[s] : Int)) w := run_part_plain w hp (by simp [bys, h2])
    rw [List.range'_succ]
    simp only [Op.eqItems, Sem.run_bind, p1, p2, Result.andThen_ok, run_equalIn_int w d e .u8 .u8 _ _ he]
    have hd : (xs.drop s = ys.drop s) ↔ (xs[s] = ys[s] ∧ xs.drop (s + 1) = ys.drop (s + 1)) := by
      rw [List.drop_eq_getElem_cons h1, List.drop_eq_getElem_cons h2, List.cons.injEq]
    by_cases hc : xs[s] = ys[s]
    · have e1 : ((xs[s] : Int) == (ys[s] : Int)) = true := by rw [hc]; exact beq_self_eq_true _
      rw [e1]
      simp only [Bool.not_true, Bool.false_eq_true, if_false]
      rw [ih]
      congr 1
      exact decide_eq_decide.2 ⟨fun q => hd.2 ⟨hc, q⟩, fun q => (hd.1 q).2⟩
    · have e1 : ((xs[s] : Int) == (ys[s] : Int)) = false := by
        rw [beq_eq_false_iff_ne]; omega
      rw [e1, decide_eq_false fun q => hc (hd.1 q).1]
      rfl
theorem run_bytesEq {P : Program} {w : World} {t e n b : Nat} {z : Value} {xs ys : List Nat} [TyU P t (.array n e)] [TyU P e (.int .u8)] [TyI P e 1 z b] (hx : xs.length = n) (hy : ys.length = n) :
    (Op.equalIn 10000 t (.agg (bys xs).toArray) (.agg (bys ys).toArray)).run P w = .ok (decide (xs = ys)) w := by
  obtain ⟨i, hi, hi1, hi2, hi3⟩ := TyI.info (P := P) (t := e) (size := 1) (zero := z) (bytes := b)
  have hc : P.cellsOf e = 1 := by unfold Program.cellsOf; rw [hi]; exact hi1
  rw [run_equalIn_array w 9999 _ _ (TyU.out (P := P) (t := t) (d := .array n e)) hi, hc, List.range_eq_range']
  exact run_items 9998 (TyU.out (P := P) (t := e) (d := .int .u8)) xs ys n hx hy n 0 (by omega)
section
variable {P : Program} {n d : Nat} {L : List (Nat × Value)} {a : Act} {w : World} {ty xt yt : TypeId} {ps : String} {af : Array Edge} {x y : Operand} {gd : Option (Nat × Bool)}
theorem r_eqA {e m b : Nat} {z : Value} {xs ys : List Nat} [TyU P xt (.array m e)] [TyU P e (.int .u8)] [TyI P e 1 z b] [TyG P xt] (hE : Env n L a) (hx : ev L x = some (.agg (bys xs).toArray)) (hy : ev L y = some (.agg (bys ys).toArray)) (hxl : xs.length = m) (hyl : ys.length = m) :
    (execOp a.eval ⟨some d, .binOp .eql xt x y yt, ty, ps, af, gd⟩).run P w = .ok (.value (.bool (decide (xs = ys)))) w := by
  have hg := run_eqGuard_agg w .eql xt x y (bys xs).toArray (bys ys).toArray (TyG.out (P := P) (t := xt))
  have h1 := run_eql_struct (P := P) w xt (bys xs).toArray (bys ys).toArray
  rw [run_bytesEq (e := e) (z := z) (b := b) hxl hyl] at h1
  simp only [execOp, hE.eval hx, hE.eval hy, Sem.run_bind, hg, Result.andThen_ok, h1, Sem.run_pure]
theorem r_neA {e m b : Nat} {z : Value} {xs ys : List Nat} [TyU P xt (.array m e)] [TyU P e (.int .u8)] [TyI P e 1 z b] [TyG P xt] (hE : Env n L a) (hx : ev L x = some (.agg (bys xs).toArray)) (hy : ev L y = some (.agg (bys ys).toArray)) (hxl : xs.length = m) (hyl : ys.length = m) :
    (execOp a.eval ⟨some d, .binOp .neq xt x y yt, ty, ps, af, gd⟩).run P w = .ok (.value (.bool (decide (xs ≠ ys)))) w := by
  have hg := run_eqGuard_agg w .neq xt x y (bys xs).toArray (bys ys).toArray (TyG.out (P := P) (t := xt))
  have h1 := run_neq_struct (P := P) w xt (bys xs).toArray (bys ys).toArray
  rw [run_bytesEq (e := e) (z := z) (b := b) hxl hyl] at h1
  simp only [execOp, hE.eval hx, hE.eval hy, Sem.run_bind, hg, Result.andThen_ok, h1, Sem.run_pure]
  simp
theorem r_eqS {e m b : Nat} {z : Value} {xs : List Nat} [TyU P xt (.array m e)] [TyU P e (.int .u8)] [TyI P e 1 z b] [TyG P xt] (hE : Env n L a) (hx : ev L x = some (.agg (bys xs).toArray)) (hy : ev L y = some (.agg (bys xs).toArray)) (hxl : xs.length = m) :
    (execOp a.eval ⟨some d, .binOp .eql xt x y yt, ty, ps, af, gd⟩).run P w = .ok (.value (.bool true)) w := by
  have := r_eqA (P := P) (d := d) (w := w) (ty := ty) (xt := xt) (yt := yt) (ps := ps) (af := af) (gd := gd) (e := e) (z := z) (b := b) hE hx hy hxl hxl
  rw [decide_eq_true rfl] at this
  exact this
theorem r_neS {e m b : Nat} {z : Value} {xs : List Nat} [TyU P xt (.array m e)] [TyU P e (.int .u8)] [TyI P e 1 z b] [TyG P xt] (hE : Env n L a) (hx : ev L x = some (.agg (bys xs).toArray)) (hy : ev L y = some (.agg (bys xs).toArray)) (hxl : xs.length = m) :
    (execOp a.eval ⟨some d, .binOp .neq xt x y yt, ty, ps, af, gd⟩).run P w = .ok (.value (.bool false)) w := by
  have := r_neA (P := P) (d := d) (w := w) (ty := ty) (xt := xt) (yt := yt) (ps := ps) (af := af) (gd := gd) (e := e) (z := z) (b := b) hE hx hy hxl hxl
  rw [decide_eq_false (fun h => h rfl)] at this
  exact this
end
end Go.Proofs.Ytfoeelghehjanaa

/-
  More rules: noughts behind a row, copying into a row, arrays cut to slices, slices as arrays.
-/
namespace Go.Proofs.Ytfoeelghehjanaa
open Go.RowKit
set_option linter.unusedVariables false
set_option linter.unusedSimpArgs false

theorem c_ordH {P : Program} {l : List Oper} {id : Nat} {Q' : Exit → Act → World → Prop} {a : Act} {w w0 : World} {H : List HP} (H' : List HP) (hS : St w0 w H) (hH : ∀ u, St w0 u H → St w0 u H') (k : Nat) (p : Pl) (hm : P.follows .mixedOrders = true)
    (hk : (Region.noSelect l.toArray && lateOk l.toArray k && p.ok l k l.length (Array.replicate l.length false)) = true)
    (h : ∀ w1, St w0 w1 H → St w0 w1 H' → wpO P l (Q' .normal) (fun w' => St w0 w' H') p a w1) : (Code.region id l.toArray true).wp P Q' a w :=
  c_ord (fun w' => St w0 w' H') k p hm hk (h _ hS.drew (hH _ hS.drew))
theorem zeroCells_one (z : Value) (k : Nat) : Builtin.zeroCells #[z] k = (List.replicate k z).toArray := by
  unfold Builtin.zeroCells
  apply Array.ext'
  refine List.eq_replicate_iff.2 ⟨by simp, fun b hb => ?_⟩
  have e : ((Array.range (k * (#[z] : Array Value).size)).map fun i => (#[z] : Array Value)[i % (#[z] : Array Value).size]!).toList = (Array.range (k * (#[z] : Array Value).size)).toList.map (fun i => (#[z] : Array Value)[i % (#[z] : Array Value).size]!) := Array.toList_map ..
  rw [e] at hb
  obtain ⟨i, _, rfl⟩ := List.mem_map.1 hb
  simp [Nat.mod_one]
section
variable {P : Program} {w w0 : World} {H : List HP}
theorem St.appendZRun {t tn ty e bytes n c k : Nat} {z : Value} {A : Option Addr} {cs : List Value} {kq kn : IntKind} [TyU P t (.slice e)] [TyU P tn (.int kn)] [TyI P e 1 z bytes] (hz : z.cells = #[z]) (h1 : z.oneCell' = true) (hby : 0 < bytes)
    (hS : St w0 w (hRow e 1 A n c cs :: H)) (hb : (n + k) * bytes ≤ 140737488355328) :
    ∃ A' c' w', (Builtin.append_ #[t, tn] ty #[.slice A n c, .int kq (k : Int)]).run P w = .ok (.slice A' (n + k) c') w' ∧ St w0 w' (hRow e 1 A' (n + k) c' (cs ++ List.replicate k z) :: H) := by
  obtain ⟨i, hi, hi1, hi2, hi3⟩ := TyI.info (P := P) (t := e) (size := 1) (zero := z) (bytes := bytes)
  have ht : P.underlying t = some (.slice e) := TyU.out
  have htn : P.underlying tn = some (.int kn) := TyU.out
  have h140 : n + k ≤ 140737488355328 := Nat.le_trans (Nat.le_mul_of_pos_right _ hby) hb
  have h63 : n + k ≤ maxLen := Nat.le_trans h140 (by decide)
  have hkb : k * bytes ≤ 140737488355328 := Nat.le_trans (Nat.mul_le_mul_right _ (Nat.le_add_left _ _)) hb
  have hw : IntKind.i64.wrap (k : Int) = k := by rw [IntKind.wrap_i64]; omega
  have hneg : ¬ ((k : Int) < 0) := by omega
  have h48i : ¬ (281474976710656 < (k : Int) * (bytes : Int)) := by
    rw [← Int.natCast_mul]
    omega
  obtain ⟨S0, hS0, hown0, hown⟩ := hS.head
  have hcl := hown.1
  by_cases hk : k = 0
  · subst hk
    refine ⟨A, c, w, ?_, by simpa using hS⟩
    rcases hown.2 with ⟨h0, h00⟩ | ⟨g, cap, cur, he, _, _, hnc, _⟩
    · injection h0 with ha hn0 hc0
      subst ha; subst hc0; subst hn0
      simp [Builtin.append_, run_underlying ht, run_underlying htn, sizeOf, typeInfo, hi, asInt, asIntOf, hw, storeCells, IntKind.wrap_i64]
    · injection he with ha hn0 hc0
      subst ha; subst hc0
      simp [Builtin.append_, run_underlying ht, run_underlying htn, sizeOf, typeInfo, hi, asInt, asIntOf, hw, hnc, storeCells, IntKind.wrap_i64]
  · have hlen : (cs ++ List.replicate k z).length = (n + k) * 1 := by rw [List.length_append, hcl, List.length_replicate]; omega
    have hones : ∀ u ∈ List.replicate k z, u.oneCell' = true := fun u hu => by rw [List.eq_of_mem_replicate hu]; exact h1
    have grow : ∀ (A0 : Option Addr) (sCap : Nat), sCap < n + k → (Builtin.firstCells i.size n (.slice A0 n sCap)).run P w.drew = .ok cs.toArray w.drew → A = A0 → c = sCap →
        ∃ A' c' w', (Builtin.append_ #[t, tn] ty #[.slice A n c, .int kq (k : Int)]).run P w = .ok (.slice A' (n + k) c') w' ∧ St w0 w' (hRow e 1 A' (n + k) c' (cs ++ List.replicate k z) :: H) := by
      rintro A0 sCap hg hold rfl rfl
      have hrun := Lib.run_append_grow_zeros (P := P) w t tn ty e i z kq kn ht htn hi hi2 A n c cs hold k (by omega) (by omega) hg (by omega) (by rw [hi3]; omega) (by rw [hi3]; exact growslice_fits hg hb)
      refine ⟨_, _, _, hrun, ?_⟩
      have hge := grownCap_ge w (n + k) c e
      have hcm : grownCap w (n + k) c e ≤ maxLen := grownCap_le_maxLen w (n + k) c e h63
      refine hS.tail.drew.new ((Below.refl _ _).alloc (Nat.le_refl _) _) (fun j => j = w.heap.size) (fun j hj => by subst hj; simp) ?_
      refine ⟨fun ad h => by injection h with h; subst h; rfl, hlen, .inr ⟨w.heap.size, _, _, rfl, Nat.zero_le _, heap_alloc_new w.drew _, hge, hcm, ?_, ?_⟩⟩
      · rw [hz, zeroCells_one, zeroCells_one]
        simp only [Array.size_append, List.size_toArray, hcl, List.length_replicate]
        omega
      · rw [hz, zeroCells_one, zeroCells_one]
        simp only [Array.toList_append, List.append_assoc]
        rw [← List.append_assoc, ← hlen]
        exact List.take_left
    rcases hown.2 with ⟨h0, h00⟩ | ⟨g, cap, cur, he, hbg, hg, hnc, hcm, hcs, htake⟩
    · injection h0 with ha hn0 hc0
      subst ha; subst hc0; subst hn0
      have hx : cs = [] := List.eq_nil_of_length_eq_zero (by simpa using hcl)
      subst hx
      exact grow none 0 (by omega) (by simp [Builtin.firstCells]) rfl rfl
    · injection he with ha hn0 hc0
      subst ha; subst hc0
      by_cases hroom : n + k ≤ c
      · have hfit : n + 0 + (List.replicate k z).length ≤ cur.size := by rw [hcs, List.length_replicate]; omega
        have hst := run_storeCells_at P g (n * 1) e (List.replicate k z) 0 cur w hg (by simpa using hfit) hones
        rw [Nat.add_zero, Nat.mul_one] at hst
        have hns : ¬ (k * i.size = 0) := by rw [hi1]; omega
        refine ⟨some ⟨g, 0, none⟩, c, w.setRow g (cur.toList.take n ++ List.replicate k z ++ cur.toList.drop (n + (List.replicate k z).length)).toArray, ?_, ?_⟩
        · have hadd : (⟨g, 0, none⟩ : Addr).add n = ⟨g, n, none⟩ := by rw [add_lit, Nat.zero_add]
          simp [Builtin.append_, run_underlying ht, run_underlying htn, sizeOf, typeInfo, zeroValue, hi, hi1, hi2, hi3, hz, zeroCells_one, asInt, asIntOf, hw, hneg, h48i, hk, hroom, hadd, hst]
        · refine hS.upd rfl rfl rfl (by simp [World.setRow]) fun S ⟨hs1, hs2⟩ => ⟨S, ⟨hs1, hlen, .inr ⟨g, c, _, rfl, hbg, setRow_heap w g cur _ e _ hg, hroom, hcm, ?_, ?_⟩⟩, fun j hj => .inl hj, fun j _ hj => setRow_other w g j _ (fun h => hj (h ▸ hs1 _ rfl))⟩
          · simp only [List.size_toArray, List.length_append, List.length_take, List.length_drop, Array.length_toList, List.length_replicate]
            rw [hcs]; omega
          · rw [Nat.mul_one] at htake
            rw [htake, ← hlen]
            exact List.take_left
      · exact grow _ _ (by omega) (by
          have hl := run_loadCells_list (P := P) w.drew ⟨g, 0, none⟩ cs (fun j u hu => (hown.cells (g := g) rfl) j u hu)
          rw [hcl, Nat.mul_one] at hl
          simp [Builtin.firstCells, hi1, hl]) rfl rfl
end
section
variable {P : Program} {ops : Array Oper} {Q : Exit → Act → World → Prop} {rest : List Oper} {n d : Nat} {L : List (Nat × Value)} {a : Act} {w w0 : World} {H : List HP} {gd : Option (Nat × Bool)}
variable {ty xt yt : TypeId} {ps : String} {af : Array Edge} {x y z : Operand} {k : Nat}
/-- append(v, make([]byte, m)...) -/
theorem s_appendZ {t tn e bytes m c j : Nat} {z : Value} {A : Option Addr} {cs : List Value} {kq kn : IntKind} {i : Int} [TyU P t (.slice e)] [TyU P tn (.int kn)] [TyI P e 1 z bytes] (hE : Env n L a) (hS : St w0 w H)
    (hx : ev L x = some (.slice A m c)) (hy : ev L y = some (.int kq i)) (hi : i = (j : Int)) (hk : H[k]? = some (hRow e 1 A m c cs)) (hz : z.cells = #[z]) (h1 : z.oneCell' = true) (hby : Nat.blt 0 bytes = true) (hb : (m + j) * bytes ≤ 140737488355328) (hd : Nat.blt d n = true)
    (K : ∀ A' c' a' w', Env n ((d, .slice A' (m + j) c') :: L) a' → St w0 w' (H.set k (hRow e 1 A' (m + j) c' (cs ++ List.replicate j z))) → wpList P ops Q rest a' w') :
    wpList P ops Q (⟨some d, .call ⟨.builtin .append, #[x, y], #[t, tn]⟩, ty, ps, af, none⟩ :: rest) a w := by
  subst hi
  obtain ⟨A', c', w', hrun, hS'⟩ := (hS.focus hk).appendZRun (P := P) (t := t) (tn := tn) (ty := ty) (z := z) (bytes := bytes) (kq := kq) (kn := kn) hz h1 (by simpa [Nat.blt_eq] using hby) hb
  exact s_val (v := .slice A' (m + j) c') (w' := w') hE rfl rfl hd (by simp [execOp, resolve, invoke, builtin, hE.eval hx, hE.eval hy, hrun]) fun a' hE' => K _ _ _ _ hE' (St.unfocus hk hS')
theorem g_appZ {t tn : TypeId} {kn : IntKind} [TyU P tn (.int kn)] (h : wpList P ops Q (⟨some d, .call ⟨.builtin .append, #[x, y], #[t, tn]⟩, ty, ps, af, gd⟩ :: rest) a w) : wpList P ops Q (⟨some d, .call ⟨.builtin .append, #[x, y], #[t, tn]⟩, ty, ps, af, gd⟩ :: rest) a w := h
/-- copy: onto a row's cells from the o-th on -/
theorem run_copyR {t t2 e e2 size size2 bytes m c dl dc m2 c2 o : Nat} {z : Value} {A D B : Option Addr} {ad : Addr} {cs news : List Value} [TyU P t (.slice e)] [TyI P e size z bytes] (hS : St w0 w H)
    (hk : H[k]? = some (hRow e2 size2 A m c cs)) (hA : A = some ad) (hD : news ≠ [] → D = some (ad.add o)) (hr : Rd w B news) (hn : news.length = Nat.min m2 dl * size) (hs : 0 < size) (ho : o + news.length ≤ cs.length) (h1 : ∀ v ∈ news, v.oneCell' = true) :
    ∃ w', (Builtin.copy_ #[t, t2] ty #[.slice D dl dc, .slice B m2 c2]).run P w = .ok (.int .i64 ((Nat.min m2 dl : Nat) : Int)) w' ∧ St w0 w' (H.set k (hRow e2 size2 A m c (splice cs o news))) := by
  have ht : P.underlying t = some (.slice e) := TyU.out
  obtain ⟨i, hi, hi1, hi2, hi3⟩ := TyI.info (P := P) (t := e) (size := size) (zero := z) (bytes := bytes)
  by_cases h0 : news = []
  · subst h0
    have hm : Nat.min m2 dl = 0 := by
      rcases Nat.mul_eq_zero.1 hn.symm with h | h
      · exact h
      · omega
    refine ⟨w, ?_, ?_⟩
    · have hload : ∀ b : Addr, (loadCells b 0).run P w = .ok #[] w := fun b => by simpa using run_loadCells_list (P := P) w b [] (by simp)
      rcases B with _ | b <;> rcases D with _ | dd <;> simp [Builtin.copy_, run_underlying ht, Builtin.lenOf, Builtin.firstCells, sizeOf, typeInfo, hi, hm, hload, storeCells, goInt]
    · have e : splice cs o [] = cs := by simp [splice]
      rw [e]
      exact St.unfocus hk (hS.focus hk)
  · obtain ⟨b, rfl, hc⟩ := hr h0
    obtain rfl := hD h0
    obtain ⟨w', hst, hS'⟩ := hS.spliceRow (P := P) (vs := news) hk hA ho h1
    have hload := run_loadCells_list (P := P) w b news hc
    refine ⟨w', ?_, hS'⟩
    simp [Builtin.copy_, run_underlying ht, Builtin.lenOf, Builtin.firstCells, sizeOf, typeInfo, hi, hi1, ← hn, hload, hst, goInt]
theorem s_copy {t t2 e e2 size size2 bytes m c dl dc m2 c2 o : Nat} {zz : Value} {A D B : Option Addr} {ad : Addr} {cs news : List Value} [TyU P t (.slice e)] [TyI P e size zz bytes] (hE : Env n L a) (hS : St w0 w H)
    (hx : ev L x = some (.slice D dl dc)) (hy : ev L y = some (.slice B m2 c2)) (hk : H[k]? = some (hRow e2 size2 A m c cs)) (hA : A = some ad) (hD : news ≠ [] → D = some (ad.add o)) (hr : Rd w B news) (hn : news.length = Nat.min m2 dl * size) (hs : Nat.blt 0 size = true) (ho : o + news.length ≤ cs.length) (h1 : ∀ v ∈ news, v.oneCell' = true) (hd : Nat.blt d n = true)
    (K : ∀ a' w', Env n ((d, .int .i64 ((Nat.min m2 dl : Nat) : Int)) :: L) a' → St w0 w' (H.set k (hRow e2 size2 A m c (splice cs o news))) → wpList P ops Q rest a' w') :
    wpList P ops Q (⟨some d, .call ⟨.builtin .copy, #[x, y], #[t, t2]⟩, ty, ps, af, none⟩ :: rest) a w := by
  obtain ⟨w', hrun, hS'⟩ := run_copyR (P := P) (t := t) (t2 := t2) (ty := ty) (dc := dc) (c2 := c2) (z := zz) hS hk hA hD hr hn (by simpa [Nat.blt_eq] using hs) ho h1
  exact s_val (v := .int .i64 ((Nat.min m2 dl : Nat) : Int)) (w' := w') hE rfl rfl hd (by simp [execOp, resolve, invoke, builtin, hE.eval hx, hE.eval hy, hrun]) fun a' hE' => K _ _ hE' hS'
/-- an array, as a slice -/
theorem r_sliceA {t e len size b g o : Nat} {zz : Value} [TyU P t (.array len e)] [TyI P e size zz b] (hE : Env n L a) (hx : ev L x = some (.pointer (some ⟨g, o, none⟩))) (hl : Nat.blt 0 len = true) :
    (execOp a.eval ⟨some d, .slice t x none none none, ty, ps, af, gd⟩).run P w = .ok (.value (.slice (some ⟨g, o, none⟩) len len)) w := by
  have h0 : ¬ len = 0 := by have : 0 < len := by simpa [Nat.blt_eq] using hl
                            omega
  have hadd : (⟨g, o, none⟩ : Addr).add 0 = ⟨g, o, none⟩ := by rw [add_lit, Nat.add_zero]
  simp [execOp, Instr.sliceAt, Instr.sureAddr, Instr.sliceBounds, hE.eval hx, run_under (d := .array len e), run_size (size := size) (zero := zz) (bytes := b), h0, hadd]
theorem r_sliceAR {t e len size b o : Nat} {zz : Value} {ad : Addr} [TyU P t (.array len e)] [TyI P e size zz b] (hE : Env n L a) (hx : ev L x = some (.pointer (some (ad.add o)))) (hl : Nat.blt 0 len = true) :
    (execOp a.eval ⟨some d, .slice t x none none none, ty, ps, af, gd⟩).run P w = .ok (.value (.slice (some (ad.add o)) len len)) w := by
  have h0 : ¬ len = 0 := by have : 0 < len := by simpa [Nat.blt_eq] using hl
                            omega
  have hadd : (ad.add o).add 0 = ad.add o := by rw [add_add, Nat.add_zero]
  simp [execOp, Instr.sliceAt, Instr.sureAddr, Instr.sliceBounds, hE.eval hx, run_under (d := .array len e), run_size (size := size) (zero := zz) (bytes := b), h0, hadd]
/-- a slice, as a pointer to an array -/
theorem r_toArr {t e len m c : Nat} {A : Option Addr} [TyU P t (.array len e)] (hE : Env n L a) (hx : ev L x = some (.slice A m c)) (hl : len ≤ m) :
    (execOp a.eval ⟨some d, .sliceToArrayPointer t x, ty, ps, af, gd⟩).run P w = .ok (.value (.pointer A)) w := by
  have h0 : ¬ m < len := by omega
  simp [execOp, Instr.arrayAt, hE.eval hx, run_under (d := .array len e), h0]
/-- cells of a block, from the o-th on, can be read -/
theorem St.blkRdAt {g t o : Nat} {cs : List Value} (hS : St w0 w H) (hk : H[k]? = some (hBlk g t cs)) : Rd w (some ⟨g, o, none⟩) (cs.drop o) := fun _ =>
  ⟨_, rfl, fun j u hu => by rw [add_lit, hS.cellAt hk, ← hu, List.getElem?_drop]⟩
end
end Go.Proofs.Ytfoeelghehjanaa

/-
  Structs of numbers, held against each other.
-/
namespace Go.Proofs.Ytfoeelghehjanaa
open Go.RowKit
set_option linter.unusedVariables false
set_option linter.unusedSimpArgs false

/-- a struct's fields: where each stands, and its type -/
class TyE (P : Program) (t : TypeId) (fs : outParam (List (Nat × TypeId))) : Prop where
  out : ∃ F : Array Field, P.underlying t = some (.struct F) ∧ (F.toList.all fun f => f.name != "_") = true ∧ F.toList.map (fun f => (f.offset, f.type)) = fs
  held : P.stoodInHeld t = false
def eqF (d : Nat) (xs ys : Array Value) : List (Nat × TypeId) → Sem Bool
  | [] => pure true
  | (o, t) :: fs => do
    let a ← part t xs o
    let b ← part t ys o
    let r ← Op.equalIn d t a b
    if (!r) = true then pure false else eqF d xs ys fs
theorem eqF_of {d : Nat} {xs ys : Array Value} : ∀ (F : List Field), (F.all fun f => f.name != "_") = true → Op.eqFields d xs ys F = eqF d xs ys (F.map fun f => (f.offset, f.type))
  | [], _ => rfl
  | f :: F, h => by
    rw [List.all_cons, Bool.and_eq_true] at h
    have hn : f.name ≠ "_" := by simpa using h.1
    rw [List.map_cons]
    unfold Op.eqFields eqF
    rw [if_pos hn, eqF_of F h.2]
section
variable {P : Program} {w : World}
theorem es_struct {d : Nat} {t : TypeId} {fs : List (Nat × TypeId)} {xs ys : Array Value} [h : TyE P t fs] : (Op.equalIn (d + 1) t (.agg xs) (.agg ys)).run P w = (eqF d xs ys fs).run P w := by
  obtain ⟨F, h1, h2, h3⟩ := h.out
  have hf : P.fieldsOf t = F := by unfold Program.fieldsOf; rw [h1]
  rw [run_equalIn_struct w d t xs ys (by rw [hf]; exact h1) h.held, hf, eqF_of _ h2, h3]
theorem es_cons {d o : Nat} {t : TypeId} {fs : List (Nat × TypeId)} {xs ys : Array Value} {a b : Value} {r r2 : Bool} (pa : (part t xs o).run P w = .ok a w) (pb : (part t ys o).run P w = .ok b w) (he : (Op.equalIn d t a b).run P w = .ok r w) (hr : (eqF d xs ys fs).run P w = .ok r2 w) :
    (eqF d xs ys ((o, t) :: fs)).run P w = .ok (r && r2) w := by
  unfold eqF
  simp only [Sem.run_bind, pa, pb, he, Result.andThen_ok, Sem.run_ite]
  cases r
  · simp
  · simpa using hr
theorem es_nil {d : Nat} {xs ys : Array Value} : (eqF d xs ys []).run P w = .ok true w := by simp [eqF]
theorem es_int {d : Nat} {t : TypeId} {k k' : IntKind} {m n : Int} [TyU P t (.int k')] : (Op.equalIn (d + 1) t (.int k m) (.int k n)).run P w = .ok (decide (m = n)) w := by
  rw [run_equalIn_int w d t k k' m n (TyU.out (P := P) (t := t))]
  congr 1
theorem es_p1 {t : TypeId} {xs : List Value} {o : Nat} {v : Value} [TyA P t false] (h : xs[o]? = some v) : (part t xs.toArray o).run P w = .ok v w := by
  unfold part
  simp only [Sem.run_bind, run_isA (P := P) (w := w) (t := t) (b := false), Result.andThen_ok]
  simp [h]
theorem es_pA {t : TypeId} {xs ys : List Value} {o size b : Nat} {z : Value} [TyA P t true] [TyI P t size z b] (h : (xs.drop o).take size = ys) : (part t xs.toArray o).run P w = .ok (.agg ys.toArray) w := by
  unfold part
  simp only [Sem.run_bind, run_isA (P := P) (w := w) (t := t) (b := true), Result.andThen_ok, if_true, run_size (P := P) (t := t) (size := size) (zero := z) (bytes := b)]
  subst h
  simp [List.extract]
variable {n d : Nat} {L : List (Nat × Value)} {a : Act} {ty xt yt : TypeId} {ps : String} {af : Array Edge} {x y : Operand} {gd : Option (Nat × Bool)}
theorem r_eqT {xs ys : Array Value} {r : Bool} [TyG P xt] (hE : Env n L a) (hx : ev L x = some (.agg xs)) (hy : ev L y = some (.agg ys)) (h : (Op.equalIn 10000 xt (.agg xs) (.agg ys)).run P w = .ok r w) :
    (execOp a.eval ⟨some d, .binOp .eql xt x y yt, ty, ps, af, gd⟩).run P w = .ok (.value (.bool r)) w := by
  have hg := run_eqGuard_agg w .eql xt x y xs ys (TyG.out (P := P) (t := xt))
  have h1 := run_eql_struct (P := P) w xt xs ys
  rw [h] at h1
  simp only [execOp, hE.eval hx, hE.eval hy, Sem.run_bind, hg, Result.andThen_ok, h1, Sem.run_pure]
theorem r_neT {xs ys : Array Value} {r : Bool} [TyG P xt] (hE : Env n L a) (hx : ev L x = some (.agg xs)) (hy : ev L y = some (.agg ys)) (h : (Op.equalIn 10000 xt (.agg xs) (.agg ys)).run P w = .ok r w) :
    (execOp a.eval ⟨some d, .binOp .neq xt x y yt, ty, ps, af, gd⟩).run P w = .ok (.value (.bool (!r))) w := by
  have hg := run_eqGuard_agg w .neq xt x y xs ys (TyG.out (P := P) (t := xt))
  have h1 := run_neq_struct (P := P) w xt xs ys
  rw [h] at h1
  simp only [execOp, hE.eval hx, hE.eval hy, Sem.run_bind, hg, Result.andThen_ok, h1, Sem.run_pure]
end
end Go.Proofs.Ytfoeelghehjanaa

/-
  One deferred call of a closure.
-/
namespace Go.Proofs.Ytfoeelghehjanaa
open Go.RowKit
set_option linter.unusedVariables false
set_option linter.unusedSimpArgs false

/-- what a deferred call does, when its frame returns -/
def FnD (P : Program) (f : FuncId) (args : List Value) (w : World) (R : Value → World → Prop) : Prop :=
  CallsDIn (FW none) 0 P f args.toArray .returning w fun e u w' => u = .returning ∧ ∃ v, e = .returned v ∧ R v w'
def PostD (P : Program) (fn : Func) (R : Value → World → Prop) : List Deferred → Exit → Act → World → Prop := fun ds e a w => match e with
  | .normal => ds = [] ∧ Post P fn R .normal a w
  | .ret => ds = [] ∧ Post P fn R .ret a w
  | _ => False
theorem ap_nil (a : Act) : ap [] a = a := by unfold ap; rw [List.append_nil]
theorem enterD {P : Program} {f : FuncId} {fn : Func} {c : Code} {args : List Value} {w : World} {R : Value → World → Prop} (n : Nat)
    (hf : P.funcs[f]? = some fn) (hb : fn.body = some c) (hn : fn.ntmps = n) (ha : Nat.ble args.length n = true)
    (h : ∀ a, Env n (argsAt 0 args) a → WI none P c (PostD P fn R) [] a w) : FnD P f args w R := by
  have ha' : args.length ≤ n := Nat.le_of_ble_eq_true ha
  have hE : Env n (argsAt 0 args) { tmps := args.toArray ++ Array.replicate (fn.ntmps - args.toArray.size) undef, defers := [] } := by
    refine ⟨?_, rfl, fun t v ht => ?_⟩
    · simp [hn]; omega
    · obtain ⟨_, h2⟩ := find_argsAt args 0 t v ht
      simp only [Nat.sub_zero] at h2
      have hlt : t < args.length := by
        rcases Nat.lt_or_ge t args.length with hlt | hge
        · exact hlt
        · rw [List.getElem?_eq_none hge] at h2; cases h2
      rw [Array.getElem?_append_left (by simpa using hlt)]
      simpa using h2
  refine callsDIn_of_wp hf hb trivial ?_
  have h1 := h _ hE
  unfold WI at h1
  rw [ap_nil] at h1
  refine Go.wpIn_mono h1 ?_
  rintro e a' w' ⟨ds', a0, rfl, hq⟩
  cases e with
  | normal =>
    obtain ⟨rfl, hq⟩ := hq
    rw [ap_nil]
    exact hq
  | ret =>
    obtain ⟨rfl, hq⟩ := hq
    rw [ap_nil]
    exact hq
  | exit id => exact hq.elim
  | goto l => exact hq.elim
  | panic ch => exact hq.elim
  | outgrown => exact hq.elim
/-- pieces picked one by one, each out of what is left -/
def selR : List Nat → List HP → List HP
  | [], L => L
  | k :: ks, L => match L[k]? with
    | some h => h :: selR ks (L.eraseIdx k)
    | none => L
def dropR (i : Nat) : Nat → List HP → List HP
  | 0, L => L
  | j + 1, L => dropR i j (L.eraseIdx i)
theorem Sep.selR {w : World} : ∀ (ks : List Nat) {L : List HP} {T : Nat → Prop}, Sep w L T → Sep w (selR ks L) T
  | [], L, T, h => h
  | k :: ks, L, T, h => by
    unfold Go.Proofs.Ytfoeelghehjanaa.selR
    cases hk : L[k]? with
    | none => exact h
    | some x => exact Sep.cons_mono (fun T q => Sep.selR ks q) (Sep.focus hk h)
theorem St.dropR {w w0 : World} {i : Nat} : ∀ {j : Nat} {L : List HP}, St w0 w L → St w0 w (dropR i j L)
  | 0, _, h => h
  | j + 1, _, h => St.dropR (j := j) (h.drop i)
theorem St.selD {w w0 : World} {L : List HP} (ks : List Nat) (j : Nat) (hS : St w0 w L) : St w0 w (Go.Proofs.Ytfoeelghehjanaa.dropR ks.length j (selR ks L)) := St.dropR (L := selR ks L) ⟨hS.below, Sep.selR ks hS.sep⟩
section
variable {P : Program} {Q : List Deferred → Exit → Act → World → Prop} {ds : List Deferred} {n : Nat} {L : List (Nat × Value)} {a : Act} {w w0 : World}
/-- a region whose last operation is 'defer' -/
theorem i_regionD {id : Nat} {l : List Oper} {fo : Operand} {f : FuncId} {cap : Array Value} {ty : TypeId} {ps : String} {af : Array Edge} (pre : List Oper) (hl : l = pre ++ [⟨none, .defer ⟨.value fo, #[], #[]⟩, ty, ps, af, none⟩]) (hn : nodef pre = true)
    (h : wpList P l.toArray (QN fun a w => ∃ n L, Env n L a ∧ ev L fo = some (.func (.func f) #[] cap) ∧ Q ({ target := .fn (.func f) cap, args := #[] } :: ds) .normal a w) pre a w) : WI none P (.region id l.toArray false) Q ds a w := by
  refine wpIn_region_lit (Q := ShX Q) ?_
  have key := list_cat (ρ := none) (ds := ds) (Q' := ShX Q) (rest := [⟨none, .defer ⟨.value fo, #[], #[]⟩, ty, ps, af, none⟩]) (ops := l.toArray) (P := P) (fun a w hy => by
    obtain ⟨n, L, hE, hev, hq⟩ := hy
    unfold wpListIn
    show if Region.wanted _ _ = true then _ else _
    rw [if_pos (by simp [Region.wanted])]
    unfold Oper.wpIn
    refine ⟨about_wide _ _ _, ?_⟩
    rw [show (FW none).round = none from rfl, Oper.semAt_none, ap_eval]
    have hrun : (execOp a.eval ⟨none, .defer ⟨.value fo, #[], #[]⟩, ty, ps, af, none⟩).run P w = .ok (.defer { target := .fn (.func f) cap, args := #[] }) w := by
      simp [execOp, resolve, Deferred.ofValue, hE.eval hev]
    rw [hrun, Oper.uponIn_defer]
    unfold wpListIn
    refine ⟨{ target := .fn (.func f) cap, args := #[] } :: ds, a, ?_, hq⟩
    obtain ⟨tm, df⟩ := a
    have hd : df = [] := hE.defers
    subst hd
    rfl) pre a w hn h
  rw [← hl] at key
  exact key
theorem FnD.out {f : FuncId} {args : List Value} {R : Value → World → Prop} (h : FnD P f args w R) {R' : Ending → FrameMode → World → Prop} (hR : ∀ v w', R v w' → R' (.returned v) .returning w') : CallsDIn (FW none) (0 - 1) P f args.toArray .returning w R' := by
  refine ⟨h.1, fun c cs hu hr => ?_⟩
  obtain ⟨e, u', w', fr, ⟨rfl, v, rfl, hv⟩, r⟩ := h.2 c cs hu hr
  exact ⟨_, _, w', fr, hR v w' hv, r⟩
theorem FnD.mono {f : FuncId} {args : List Value} {R R' : Value → World → Prop} (h : FnD P f args w R) (hR : ∀ v w', R v w' → R' v w') : FnD P f args w R' := by
  refine ⟨h.1, fun c cs hu hr => ?_⟩
  obtain ⟨e, u', w', fr, ⟨rfl, v, rfl, hv⟩, r⟩ := h.2 c cs hu hr
  exact ⟨_, _, w', fr, ⟨rfl, v, rfl, hR _ _ hv⟩, r⟩
/-- a function that deferred one call returns -/
theorem ret_defer {fn : Func} {R : Value → World → Prop} {f : FuncId} {cap : List Value} [TyFn P f] (hE : Env n L a) {rs : List ResultVar} {vs : List Value} (hr : fn.results = rs.toArray)
    (hd : FnD P f cap w fun _ w' => Res P L w' rs vs ∧ R (mkRes vs) w') : PostI P fn R [{ target := .fn (.func f) cap.toArray, args := #[] }] .ret a w := by
  show LeavesInM (FW none) 0 P fn a.tmps _ (a.defers ++ [{ target := .fn (.func f) cap.toArray, args := #[] }]) .returning w
  rw [hE.defers, List.nil_append]
  refine ⟨by simp, .inr ⟨deep_wide, .func f, cap.toArray, f, cap.toArray, rfl, by simp [invoke, run_callFunc], fun _ _ => trivial, FnD.out hd fun v w' hv => ?_⟩⟩
  refine ⟨mkRes vs, ?_, mkRes vs, rfl, hv.2⟩
  have h := Res.run hE hv.1
  rw [results_eq, hr]
  simp only [Array.mapM_eq_mapM_toList, Sem.run_bind, Sem.run_map, h, Result.andThen_ok, Sem.run_pure]
  congr 1
  match vs with
  | [] => rfl
  | [v] => rfl
  | v :: u :: vs => simp [mkRes]
end
end Go.Proofs.Ytfoeelghehjanaa

/-
  A loop over a function that hands out new pieces.
-/
namespace Go.Proofs.Ytfoeelghehjanaa
open Go.RowKit
set_option linter.unusedVariables false
set_option linter.unusedSimpArgs false
/-- what a function that is gone over promises, where each thing comes with pieces of its own -/
def IterF {α Z : Type} (P : Program) (gf : FuncId) (lb : List Value) (Bx : List HP) (enc : α → Z → List Value) (New : α → Z → List HP) (full : List α) (w0 : World) : Prop :=
  ∀ (w : World) (l : Nat) (own : List HP) (H : List α → List HP) (J : Type) (Hx : J → List α → List HP),
    (∀ own pre x z w, (∃ post, pre ++ x :: post = full) → St w0 w (New x z ++ (Bx ++ (H pre ++ own))) → YieldAt (FW none) 0 P l (enc x z).toArray w fun e w' =>
      (e = .returned (.bool true) ∧ St w0 w' (Bx ++ (H (pre ++ [x]) ++ own))) ∨ (e = .returned (.bool false) ∧ ∃ j, St w0 w' (Bx ++ (Hx j (pre ++ [x]) ++ own)))) →
    St w0 w (Bx ++ (H [] ++ own)) →
    Calls P gf (.func (.yield l) #[] #[] :: lb).toArray w fun e w' => (∃ v, e = .returned v) ∧ (St w0 w' (Bx ++ (H full ++ own)) ∨ ∃ j pre x post, pre ++ x :: post = full ∧ St w0 w' (Bx ++ (Hx j (pre ++ [x]) ++ own)))
section
variable {P : Program} {Q : List Deferred → Exit → Act → World → Prop} {ds : List Deferred} {n : Nat} {L : List (Nat × Value)} {a : Act} {w w0 : World}
theorem i_rangeF {α Z : Type} {g : Operand} {ps : List Tmp} {assign body : Code} {gf : FuncId} {lb : List Value} {enc : α → Z → List Value} {New : α → Z → List HP} {full : List α} {Bx own : List HP} [TyFn P gf]
    (hE : Env n L a) (hg : ev L g = some (.func (.func gf) #[] lb.toArray)) (hI : IterF P gf lb Bx enc New full w0)
    (H : List α → List HP) (Hx : Option Nat → List α → List HP) (hS : St w0 w (Bx ++ (H [] ++ own)))
    (hps : ∀ x z, ps.length = (enc x z).length) (hpn : ∀ p ∈ ps, p < n)
    {Y : Type} (LL : List α → α → Y → List (Nat × Value)) (Ha : List α → α → Y → List HP)
    (hassign : ∀ own pre x z w l a1, (∃ post, pre ++ x :: post = full) → St w0 w (New x z ++ (Bx ++ (H pre ++ own))) → Env n ((ps.zip (enc x z)).foldl (fun L p => p :: L) L) a1 →
      WI (some l) P assign (fun ds e a' w' => e = .normal ∧ ds = [] ∧ ∃ y, Env n (LL pre x y) a' ∧ St w0 w' (Bx ++ (Ha pre x y ++ own))) [] a1 w)
    (hbody : ∀ own pre x y w l a1, (∃ post, pre ++ x :: post = full) → St w0 w (Bx ++ (Ha pre x y ++ own)) → Env n (LL pre x y) a1 →
      WI (some l) P body (fun ds e a' w' => match e with
        | .normal => St w0 w' (Bx ++ (H (pre ++ [x]) ++ own))
        | .ret => St w0 w' (Bx ++ (Hx none (pre ++ [x]) ++ own))
        | .exit i => St w0 w' (Bx ++ (Hx (some i) (pre ++ [x]) ++ own))
        | _ => False) [] a1 w)
    (hdone : ∀ D w', St w0 w' (hMarks [D] :: (Bx ++ (H full ++ own))) → Q (mark D :: ds) .normal a w')
    (hstop : ∀ j D pre x post w', pre ++ x :: post = full → St w0 w' (hMarks [D] :: (Bx ++ (Hx j (pre ++ [x]) ++ own))) → Q (mark D :: ds) (exJ j) a w') :
    WI none P (.rangeFunc g ps.toArray assign body) Q ds a w := by
  have hg' : (ap ds a).eval g = .func (.func gf) #[] lb.toArray := ap_ev hE hg
  refine wpIn_rangeFunc ?_
  intro fn hfn
  obtain ⟨W1, hW1⟩ : ∃ W1, (w.alloc (.deferred (some []))).alloc (.loop (lrec fn a.tmps ps.toArray assign body w.heap.size .ready none)) = W1 := ⟨_, rfl⟩
  have hT : St w0 W1 (hObj (w.heap.size + 1) (.loop (lrec fn a.tmps ps.toArray assign body w.heap.size .ready none)) :: hObj w.heap.size (.deferred (some [])) :: (Bx ++ (H [] ++ own))) := by
    have h1 := (hS.newObj (.deferred (some []))).newObj (.loop (lrec fn a.tmps ps.toArray assign body w.heap.size .ready none))
    rw [hW1, World.size_alloc] at h1
    exact h1
  refine ⟨w.heap.size + 1, [mark w.heap.size], W1, { target := .fn (.func gf) lb.toArray, args := #[.func (.yield (w.heap.size + 1)) #[] #[]] }, W1, gf,
    #[.func (.yield (w.heap.size + 1)) #[] #[]] ++ lb.toArray, W1, ?_, ?_, fun _ _ => trivial, ?_, deep_wide, ?_⟩
  · rw [← hW1]; exact run_enterLoop_outer _ _ _ _ _
  · simp only [resolve, hg']
    simp [go_sem]
  · simp [invoke, run_callFunc]
  · have hI' := hI W1 (w.heap.size + 1) own (fun pre => hObj (w.heap.size + 1) (.loop (lrec fn a.tmps ps.toArray assign body w.heap.size .ready none)) :: hObj w.heap.size (.deferred (some [])) :: H pre) (Option Nat)
      (fun j pre => hObj (w.heap.size + 1) (.loop (lrec fn a.tmps ps.toArray assign body w.heap.size .done (some (cdJ j)))) :: hObj w.heap.size (.deferred (some [])) :: Hx j pre) ?_ (hT.perm (perm_in (D := [])))
    · have e1 : (.func (.yield (w.heap.size + 1)) #[] #[] :: lb).toArray = #[.func (.yield (w.heap.size + 1)) #[] #[]] ++ lb.toArray := by simp
      rw [e1] at hI'
      refine calls_wide (Calls.mono hI' ?_)
      rintro e W2 ⟨⟨v, rfl⟩, h | ⟨j, pre, x, post, hpre, h⟩⟩
      · have h1 := (h.perm perm_own).perm perm_top
        have h2 := h1.put_ (o' := .loop { lrec fn a.tmps ps.toArray assign body w.heap.size .ready none with state := .exhausted })
        refine ⟨none, _, run_endLoop (P := P) h1.obj (by simp [lrec]), mark w.heap.size :: ds, a, ?_, hdone _ _ h2.tail.objMark⟩
        show ({ ap ds a with defers := [mark w.heap.size] ++ (a.defers ++ ds) } : Act) = { a with defers := a.defers ++ mark w.heap.size :: ds }
        rw [hE.defers]; rfl
      · have h1 := (h.perm perm_own).perm perm_top
        have h2 := h1.put_ (o' := .loop { lrec fn a.tmps ps.toArray assign body w.heap.size .done (some (cdJ j)) with state := .exhausted })
        have h3 := hstop j _ pre x post _ hpre h2.tail.objMark
        refine ⟨some (cdJ j), _, run_endLoop (P := P) h1.obj (by simp [lrec]), ?_⟩
        have e2 : ({ ap ds a with defers := [mark w.heap.size] ++ (a.defers ++ ds) } : Act) = ap (mark w.heap.size :: ds) a := by
          show ({ ap ds a with defers := [mark w.heap.size] ++ (a.defers ++ ds) } : Act) = { a with defers := a.defers ++ mark w.heap.size :: ds }
          rw [hE.defers]; rfl
        cases j with
        | none => exact wpIn_ret ⟨_, a, e2, h3⟩
        | some i => exact wpIn_exit ⟨_, a, e2, h3⟩
    · -- a round
      intro own' pre x z W hpre hW
      have hW2 := hW.perm (perm_own.append_left (New x z))
      have h1 := hW2.perm ((List.append_assoc (New x z) Bx _ ▸ List.Perm.refl _ : (New x z ++ (Bx ++ (H pre ++ (hObj (w.heap.size + 1) (.loop (lrec fn a.tmps ps.toArray assign body w.heap.size .ready none)) :: hObj w.heap.size (.deferred (some [])) :: own')))).Perm ((New x z ++ Bx) ++ (H pre ++ (hObj (w.heap.size + 1) (.loop (lrec fn a.tmps ps.toArray assign body w.heap.size .ready none)) :: hObj w.heap.size (.deferred (some [])) :: own')))).trans perm_top)
      have hl := h1.obj
      have hy := run_yield (P := P) (args := (enc x z).toArray) hl (by simpa [lrec] using (hps x z).symm)
      have htm : ∃ t, t = (ps.toArray.zip (enc x z).toArray).foldl (fun t (p, v) => t.setIfInBounds p v) a.tmps ∧ Env n ((ps.zip (enc x z)).foldl (fun L p => p :: L) L) { tmps := t, defers := [] } := by
        obtain ⟨L', e, h⟩ := tmps_zip ps (enc x z) L a.tmps [] hpn (hps x z) ⟨hE.size, rfl, hE.has⟩
        refine ⟨_, rfl, ?_⟩
        rw [← e]
        have e3 : (ps.toArray.zip (enc x z).toArray).foldl (fun t (p, v) => t.setIfInBounds p v) a.tmps = (ps.zip (enc x z)).foldl (fun t p => t.setIfInBounds p.1 p.2) a.tmps := by
          rw [← Array.foldl_toList]; simp
        rw [e3]
        exact h
      obtain ⟨t, ht, hEt⟩ := htm
      refine ⟨fn, t, assign, body, by rw [ht]; exact hy, roundIn_of_wpIn (F := FW none) trivial ?_⟩
      have h2 := hassign (hObj (w.heap.size + 1) (.loop (lrec fn a.tmps ps.toArray assign body w.heap.size .ready none)) :: hObj w.heap.size (.deferred (some [])) :: own') pre x z W (w.heap.size + 1) _ hpre hW2 hEt
      refine Go.wpIn_mono (F := FW (some (w.heap.size + 1))) h2 ?_
      rintro e a2 w2 ⟨ds', a0, rfl, rfl, rfl, y, hEy, hSy⟩
      have h3 := hSy.perm perm_top
      refine ⟨_, run_beginRound h3.obj rfl, ?_⟩
      have h4 := (h3.put_ (o' := .loop { lrec fn a.tmps ps.toArray assign body w.heap.size .ready none with state := .busy })).perm ((perm_own (A := Bx) (B := Ha pre x y) (C := own')).symm.trans (perm_own (A := Bx) (B := Ha pre x y) (C := own')) |>.trans perm_top).symm
      have h5 := hbody _ pre x y _ (w.heap.size + 1) a0 hpre h4 hEy
      refine Go.wpIn_mono (F := FW (some (w.heap.size + 1))) h5 ?_
      rintro e a3 w4 ⟨ds3, a4, rfl, hq⟩
      cases e with
      | normal =>
        have h6 : St w0 w4 _ := St.perm hq perm_top
        refine ⟨_, _, run_endRound none h6.obj, .inl ⟨rfl, ?_⟩⟩
        have h7 := (h6.put_ (o' := .loop (lrec fn a.tmps ps.toArray assign body w.heap.size .ready none))).perm (perm_in (D := []))
        exact h7
      | ret =>
        have h6 : St w0 w4 _ := St.perm hq perm_top
        refine ⟨_, _, run_endRound (some .ret) h6.obj, .inr ⟨rfl, none, ?_⟩⟩
        have h7 := (h6.put_ (o' := .loop (lrec fn a.tmps ps.toArray assign body w.heap.size .done (some .ret)))).perm (perm_in (D := []))
        exact h7
      | exit i =>
        have h6 : St w0 w4 _ := St.perm hq perm_top
        refine ⟨_, _, run_endRound (some (.exit i)) h6.obj, .inr ⟨rfl, some i, ?_⟩⟩
        have h7 := (h6.put_ (o' := .loop (lrec fn a.tmps ps.toArray assign body w.heap.size .done (some (.exit i))))).perm (perm_in (D := []))
        exact h7
      | goto l => exact hq.elim
      | panic ch => exact hq.elim
      | outgrown => exact hq.elim
end
end Go.Proofs.Ytfoeelghehjanaa
