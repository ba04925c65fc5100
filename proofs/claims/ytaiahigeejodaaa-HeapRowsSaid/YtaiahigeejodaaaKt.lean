/-
  Walks in a frame that is a round of a loop over a function, or that holds such a loop: what is proved of a list of operations goes over.
-/
import Derived.Test.YtaiahigeejodaaaKn
import Derived.RangeFuncSeq
import Derived.OrdersIn
import Derived.TacticsIn
namespace Go.Proofs.Ytaiahigeejodaaa
open Go.RowKit
set_option linter.unusedVariables false
set_option linter.unusedSimpArgs false

def FW (ρ : Option Nat) : Fence := { Fence.wide with round := ρ }
/-- more deferred calls, at the end -/
def ap (ds : List Deferred) (a : Act) : Act := { a with defers := a.defers ++ ds }
theorem ap_eval (ds : List Deferred) (a : Act) : (ap ds a).eval = a.eval := by
  funext x; cases x <;> rfl
theorem ap_put (ds : List Deferred) (a : Act) (d : Option Tmp) (v : Value) : (ap ds a).put d v = ap ds (a.put d v) := by
  cases d <;> rfl
def Sh (ds : List Deferred) (Q : Exit → Act → World → Prop) : Exit → Act → World → Prop := fun e a' w' => ∃ a0, a' = ap ds a0 ∧ Q e a0 w'
def nodef (l : List Oper) : Bool := l.all fun o => match o.op with | .defer _ => false | _ => true
theorem nodef_op {o : Oper} {l : List Oper} (h : nodef l = true) (ho : o ∈ l) : ∀ c, o.op ≠ .defer c := fun c e => by
  have := List.all_eq_true.1 h o ho
  rw [e] at this
  cases this

section
variable {ρ : Option Nat} {ds : List Deferred} {P : Program} {Q : Exit → Act → World → Prop}
theorem calls_wide {n : Nat} {f : FuncId} {args : Array Value} {w : World} {R : Ending → World → Prop} (h : Calls P f args w R) : CallsIn (FW ρ) n P f args w R := callsIn_wide.2 h
theorem calls_of_wide {n : Nat} {f : FuncId} {args : Array Value} {w : World} {R : Ending → World → Prop} (h : CallsIn (FW ρ) n P f args w R) : Calls P f args w R := callsIn_wide.1 h
theorem rows_wide {n : Nat} {row : String} {args : Array Value} {w : World} {R : Value → World → Prop} (h : Rows P row args w R) : RowsIn (FW ρ) n P row args w R :=
  fun c cs _ => let ⟨v, w', r, s⟩ := h c cs; ⟨v, w', r, stepsIn_wide.2 s⟩
theorem about_wide (o : Oper) (w : World) (r : Operand → Value) : ∀ f, o.about P w r = some f → (FW ρ).fn f := fun _ _ => trivial
theorem deep_wide {n : Nat} : (FW ρ).depth.isSome = true → 1 ≤ n := fun h => by cases h

/-- one operation -/
theorem op_in {o : Oper} {a : Act} {w : World} {K : Act → World → Prop} (hnd : ∀ c, o.op ≠ .defer c) (h : o.wp P a w K Q) :
    o.wpIn (FW ρ) 0 P (ap ds a) w (fun a' w' => ∃ a0, a' = ap ds a0 ∧ K a0 w') (Sh ds Q) := by
  unfold Oper.wp at h
  unfold Oper.wpIn
  refine ⟨about_wide o w _, ?_⟩
  rw [show (FW ρ).round = ρ from rfl, Oper.semAt_eq ρ _ o hnd, ap_eval]
  generalize (execOp a.eval o).run P w = r at h ⊢
  cases r with
  | ok nx w2 =>
    cases nx <;> simp only [Oper.upon] at h <;> simp only [Oper.uponIn, ap_put]
    case value v => exact ⟨_, rfl, h⟩
    case skip => exact ⟨_, rfl, h⟩
    case defer d => exact ⟨_, by rw [← ap_put]; rfl, h⟩
    case enter f args =>
      refine ⟨deep_wide, calls_wide (Calls.mono h fun e w3 he => ?_)⟩
      cases e with
      | returned v => exact ⟨_, rfl, he⟩
      | panicked ch => exact ⟨_, rfl, he⟩
      | outgrown => obtain ⟨a0, w0, h0⟩ := he; exact ⟨_, w0, a0, rfl, h0⟩
    case row row args => exact ⟨deep_wide, rows_wide (Rows.mono h fun v w3 hv => ⟨_, rfl, hv⟩)⟩
  | halt x w2 =>
    cases x <;> simp only [Oper.upon] at h <;> simp only [Oper.uponIn]
    case panic v => exact ⟨_, rfl, h⟩

theorem list_in {ops : Array Oper} (hQ : ∀ a w, ¬ Q .outgrown a w) : ∀ (l : List Oper) (a : Act) (w : World), nodef l = true → wpList P ops Q l a w → wpListIn (FW ρ) 0 P ops (Sh ds Q) l (ap ds a) w
  | [], a, w, _, h => ⟨a, rfl, h⟩
  | o :: rest, a, w, hn, h => by
    have hn' : nodef rest = true := by
      have h2 := hn
      unfold nodef at h2
      rw [List.all_cons, Bool.and_eq_true] at h2
      exact h2.2
    unfold wpList at h
    unfold wpListIn
    show if Region.wanted o (yielded ops a.tmps) = true then _ else _
    split
    · rename_i hw
      rw [if_pos hw] at h
      rcases h with h | ⟨_, a0, w0, h0⟩
      · refine Oper.wpIn_mono (fun a' w' ⟨a0, e, hk⟩ => ?_) (op_in (nodef_op hn (List.mem_cons_self)) h)
        subst e
        exact list_in hQ rest a0 w' hn' hk
      · exact absurd h0 (hQ a0 w0)
    · rename_i hw
      rw [if_neg hw] at h
      refine ⟨about_wide o w _, ?_⟩
      rw [ap_put]
      exact list_in hQ rest _ w hn' h

theorem op_at_in {l : List Oper} (hQ : ∀ a w, ¬ Q .outgrown a w) (hn : nodef l = true) {i : Nat} {a : Act} {w : World} {K : Act → World → Prop} (h : wpOp P l.toArray Q i K a w) :
    wpOpIn (FW ρ) 0 P l.toArray (Sh ds Q) i (fun a' w' => ∃ a0, a' = ap ds a0 ∧ K a0 w') (ap ds a) w := by
  unfold wpOp at h
  unfold wpOpIn
  simp only [List.getElem?_toArray] at h ⊢
  cases ho : l[i]? with
  | none => rw [ho] at h; exact ⟨_, rfl, h⟩
  | some o =>
    rw [ho] at h
    simp only at h ⊢
    show if Region.wanted o (yielded l.toArray a.tmps) = true then _ else _
    split
    · rename_i hw
      rw [if_pos hw] at h
      rcases h with h | ⟨_, a0, w0, h0⟩
      · exact op_in (nodef_op hn (List.mem_of_getElem? ho)) h
      · exact absurd h0 (hQ a0 w0)
    · rename_i hw
      rw [if_neg hw] at h
      exact ⟨about_wide o w _, _, by rw [ap_put], h⟩

theorem anyT_in {l : List Oper} (hQ : ∀ a w, ¬ Q .outgrown a w) (hn : nodef l = true) (lt : Nat) : ∀ (S : World → Prop) (fuel : Nat) (listed : Array Bool) (a : Act) (w : World),
    wpAnyT P l.toArray Q lt S fuel listed a w → wpAnyIn (FW ρ) 0 P .any l.toArray (Sh ds Q) fuel listed (ap ds a) w
  | _, 0, _, a, _, h => ⟨h.1, a, rfl, h.2⟩
  | _, fuel + 1, listed, a, w, h => ⟨fun h0 => ⟨a, rfl, h.1 h0⟩, fun i hi => wpOpIn_mono (fun a' w' ⟨a0, e, S', _, h'⟩ => by
      subst e
      exact anyT_in hQ hn lt S' fuel _ a0 w' h') (op_at_in hQ hn (h.2 i hi))⟩
end

/-! ## Code -/
def ShX (Q : List Deferred → Exit → Act → World → Prop) : Exit → Act → World → Prop := fun e a' w' => ∃ ds' a0, a' = ap ds' a0 ∧ Q ds' e a0 w'
def WI (ρ : Option Nat) (P : Program) (c : Code) (Q : List Deferred → Exit → Act → World → Prop) (ds : List Deferred) (a : Act) (w : World) : Prop := c.wpIn (FW ρ) 0 P (ShX Q) (ap ds a) w

section
variable {ρ : Option Nat} {P : Program} {Q : List Deferred → Exit → Act → World → Prop} {ds : List Deferred} {n : Nat} {L : List (Nat × Value)} {a : Act} {w : World}
theorem WI.mono {c : Code} {Q' : List Deferred → Exit → Act → World → Prop} (h : WI ρ P c Q ds a w) (hq : ∀ ds e a w, Q ds e a w → Q' ds e a w) : WI ρ P c Q' ds a w :=
  Go.wpIn_mono h fun e a' w' ⟨ds', a0, e1, h1⟩ => ⟨ds', a0, e1, hq _ _ _ _ h1⟩
theorem i_seq {x y : Code} (h : WI ρ P x (fun ds' => Exit.then (fun a w => WI ρ P y Q ds' a w) (Q ds')) ds a w) : WI ρ P (.seq x y) Q ds a w :=
  wpIn_seq (Go.wpIn_mono h fun e a' w' ⟨ds', a0, e1, h1⟩ => by
    subst e1
    cases e with
    | normal => exact h1
    | exit id => exact ⟨_, _, rfl, h1⟩
    | goto l => exact ⟨_, _, rfl, h1⟩
    | ret => exact ⟨_, _, rfl, h1⟩
    | panic ch => exact ⟨_, _, rfl, h1⟩
    | outgrown => exact ⟨_, _, rfl, h1⟩)
theorem i_skip (h : Q ds .normal a w) : WI ρ P .skip Q ds a w := wpIn_skip ⟨_, _, rfl, h⟩
theorem i_ret (h : Q ds .ret a w) : WI ρ P .ret Q ds a w := wpIn_ret ⟨_, _, rfl, h⟩
theorem i_exit {i : Nat} (h : Q ds (.exit i) a w) : WI ρ P (.exit i) Q ds a w := wpIn_exit ⟨_, _, rfl, h⟩
theorem i_block {i : Nat} {c : Code} (h : WI ρ P c (fun ds' => Exit.inBlock i (Q ds')) ds a w) : WI ρ P (.block i c) Q ds a w :=
  wpIn_block (Go.wpIn_mono h fun e a' w' ⟨ds', a0, e1, h1⟩ => by
    subst e1
    cases e with
    | exit j =>
      simp only [Exit.inBlock] at h1 ⊢
      split
      · rename_i hj; rw [if_pos hj] at h1; exact ⟨_, _, rfl, h1⟩
      · rename_i hj; rw [if_neg hj] at h1; exact ⟨_, _, rfl, h1⟩
    | normal => exact ⟨_, _, rfl, h1⟩
    | goto l => exact ⟨_, _, rfl, h1⟩
    | ret => exact ⟨_, _, rfl, h1⟩
    | panic ch => exact ⟨_, _, rfl, h1⟩
    | outgrown => exact ⟨_, _, rfl, h1⟩)
theorem ap_ev (hE : Env n L a) {c : Operand} {v : Value} (hc : ev L c = some v) : (ap ds a).eval c = v := by rw [ap_eval]; exact hE.eval hc
theorem i_true {c : Operand} {x y : Code} (hE : Env n L a) (hc : ev L c = some (.bool true)) (h : WI ρ P x Q ds a w) : WI ρ P (.cond c x y) Q ds a w := wpIn_cond (t := true) (ap_ev hE hc) h
theorem i_false {c : Operand} {x y : Code} (hE : Env n L a) (hc : ev L c = some (.bool false)) (h : WI ρ P y Q ds a w) : WI ρ P (.cond c x y) Q ds a w := wpIn_cond (t := false) (ap_ev hE hc) h
theorem i_bool {c : Operand} {x y : Code} {b : Bool} (hE : Env n L a) (hc : ev L c = some (.bool b)) (ht : b = true → WI ρ P x Q ds a w) (hf : b = false → WI ρ P y Q ds a w) : WI ρ P (.cond c x y) Q ds a w := by
  cases b
  · exact i_false hE hc (hf rfl)
  · exact i_true hE hc (ht rfl)
theorem i_dec {c : Operand} {x y : Code} {p : Prop} [Decidable p] (hE : Env n L a) (hc : ev L c = some (.bool (decide p))) (ht : p → WI ρ P x Q ds a w) (hf : ¬ p → WI ρ P y Q ds a w) : WI ρ P (.cond c x y) Q ds a w :=
  i_bool hE hc (fun h => ht (of_decide_eq_true h)) (fun h => hf (of_decide_eq_false h))
theorem i_region {id : Nat} {l : List Oper} (hn : nodef l = true) (hQ : ∀ a w, Q ds .outgrown a w → False) (h : wpList P l.toArray (Q ds) l a w) : WI ρ P (.region id l.toArray false) Q ds a w :=
  Go.wpIn_mono (wpIn_region_lit (list_in hQ l a w hn h)) fun e a' w' ⟨a0, e1, h1⟩ => ⟨ds, a0, e1, h1⟩
theorem ig_region {id : Nat} {l : List Oper} (h : WI ρ P (.region id l.toArray false) Q ds a w) : WI ρ P (.region id l.toArray false) Q ds a w := h
theorem ig_cond {c : Operand} {x y : Code} (h : WI ρ P (.cond c x y) Q ds a w) : WI ρ P (.cond c x y) Q ds a w := h
theorem i_ord {id : Nat} {l : List Oper} (S : World → Prop) (k : Nat) (p : Pl) (hm : P.follows .mixedOrders = true)
    (hk : (Region.noSelect l.toArray && lateOk l.toArray k && p.ok l k l.length (Array.replicate l.length false)) = true) (hn : nodef l = true)
    (h : wpO P l (Q ds .normal) S p a { w with drawn := w.drawn + 1 }) : WI ρ P (.region id l.toArray true) Q ds a w := by
  simp only [Bool.and_eq_true] at hk
  have h1 := Pl.sound k hk.1.2 S p _ _ _ _ hk.1.1 hk.2 h
  have h2 := anyT_in (ρ := ρ) (ds := ds) (fun a w h => absurd h.1 (by simp)) hn k S _ _ _ _ h1
  refine Go.wpIn_mono (wpIn_region_any (Q := Sh ds (QN (Q ds .normal))) hm (by simpa using h2)) ?_
  rintro e a' w' ⟨a0, e1, rfl, h⟩
  exact ⟨ds, a0, e1, h⟩
theorem i_ordS {l : List Oper} {id : Nat} {w0 : World} {H : List HP} (hS : St w0 w H) (k : Nat) (p : Pl) (hm : P.follows .mixedOrders = true)
    (hk : (Region.noSelect l.toArray && lateOk l.toArray k && p.ok l k l.length (Array.replicate l.length false)) = true) (hn : nodef l = true)
    (h : ∀ w1, St w0 w1 H → wpO P l (Q ds .normal) (fun w' => St w0 w' H) p a w1) : WI ρ P (.region id l.toArray true) Q ds a w :=
  i_ord (fun w' => St w0 w' H) k p hm hk hn (h _ hS.drew)
theorem i_ordK {l : List Oper} {id : Nat} {w0 : World} {H : List HP} {h : HP} (hS : St w0 w H) (i : Nat) (hi : H[i]? = some h) (k : Nat) (p : Pl) (hm : P.follows .mixedOrders = true)
    (hk : (Region.noSelect l.toArray && lateOk l.toArray k && p.ok l k l.length (Array.replicate l.length false)) = true) (hn : nodef l = true)
    (K : ∀ w1, St w0 w1 H → St w0 w1 [h] → wpO P l (Q ds .normal) (fun w' => St w0 w' [h]) p a w1) : WI ρ P (.region id l.toArray true) Q ds a w :=
  i_ord (fun w' => St w0 w' [h]) k p hm hk hn (K _ hS.drew (hS.drew.only i hi))
theorem i_loop {c : Code} (I : Nat → List Deferred → Act → World → Prop) (n₀ : Nat) (h₀ : I n₀ ds a w)
    (round : ∀ n ds a w, I n ds a w → WI ρ P c (fun ds' => Exit.then (fun a' w' => ∃ n', n' < n ∧ I n' ds' a' w') (Q ds')) ds a w) : WI ρ P (.loop c) Q ds a w := by
  refine wpIn_loop (fun a w => ∃ n ds a0, a = ap ds a0 ∧ I n ds a0 w) (fun a w => leastOf (fun n => ∃ ds a0, a = ap ds a0 ∧ I n ds a0 w)) ⟨n₀, ds, a, rfl, h₀⟩ ?_
  intro a1 w1 hI
  obtain ⟨ds1, a0, e1, hI0⟩ := (leastOf_spec hI).1
  subst e1
  refine Go.wpIn_mono (round _ _ a0 w1 hI0) ?_
  rintro e a' w' ⟨ds', a2, e2, hq⟩
  cases e with
  | normal =>
    obtain ⟨n', hlt, hI'⟩ := hq
    have hx : ∃ ds a0, a' = ap ds a0 ∧ I n' ds a0 w' := ⟨ds', a2, e2, hI'⟩
    exact ⟨⟨n', hx⟩, Nat.lt_of_le_of_lt ((leastOf_spec (p := fun n => ∃ ds a0, a' = ap ds a0 ∧ I n ds a0 w') ⟨n', hx⟩).2 n' hx) hlt⟩
  | exit id => exact ⟨_, _, e2, hq⟩
  | goto l => exact ⟨_, _, e2, hq⟩
  | ret => exact ⟨_, _, e2, hq⟩
  | panic ch => exact ⟨_, _, e2, hq⟩
  | outgrown => exact ⟨_, _, e2, hq⟩
end
end Go.Proofs.Ytaiahigeejodaaa
