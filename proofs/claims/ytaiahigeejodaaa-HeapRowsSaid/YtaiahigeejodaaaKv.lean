/-
  A function that calls yield: one operation of a list, or of a statement whose order is open, is such a call.
-/
import Derived.Test.YtaiahigeejodaaaKu
namespace Go.Proofs.Ytaiahigeejodaaa
open Go.RowKit
set_option linter.unusedVariables false
set_option linter.unusedSimpArgs false

def YS (P : Program) (ops : Array Oper) (o : Oper) (K : Act → World → Prop) (a : Act) (w : World) : Prop :=
  Region.wanted o (yielded ops a.tmps) = true ∧ (∀ c, o.op ≠ .defer c) ∧ (∀ cs b, o.op ≠ .select cs b) ∧ ∃ (l : Nat) (fn : FuncId) (tmps : Array Value) (assign body : Code), (execOp a.eval o).run P w = .ok (.round l fn tmps assign body) w ∧
    RoundIn (FW none) 0 P l fn tmps assign body w fun e w' => ∃ v, e = .returned v ∧ K (a.put o.dst v) w'
section
variable {P : Program} {ops : Array Oper} {Q : Exit → Act → World → Prop} {ds : List Deferred} {lt : Nat} {S : World → Prop}
theorem YS.mono {o : Oper} {K K' : Act → World → Prop} {a : Act} {w : World} (h : YS P ops o K a w) (hk : ∀ a w, K a w → K' a w) : YS P ops o K' a w := by
  obtain ⟨h1, h2, h3, l, fn, tmps, assign, body, h4, h5⟩ := h
  exact ⟨h1, h2, h3, l, fn, tmps, assign, body, h4, h5.mono fun e w' ⟨v, e1, h⟩ => ⟨v, e1, hk _ _ h⟩⟩
theorem YS.in_ {o : Oper} {K : Act → World → Prop} {Q' : Exit → Act → World → Prop} {a : Act} {w : World} (h : YS P ops o K a w) :
    o.wpIn (FW none) 0 P (ap ds a) w (fun a' w' => ∃ a0, a' = ap ds a0 ∧ K a0 w') Q' := by
  obtain ⟨h1, h2, h3, l, fn, tmps, assign, body, h4, h5⟩ := h
  unfold Oper.wpIn
  refine ⟨about_wide o w _, ?_⟩
  rw [show (FW none).round = none from rfl, Oper.semAt_none, ap_eval, h4]
  simp only [Oper.uponIn]
  refine ⟨deep_wide, h5.mono ?_⟩
  rintro e w' ⟨v, rfl, hk⟩
  exact ⟨_, by rw [ap_put], hk⟩
variable {n d : Nat} {L : List (Nat × Value)} {a : Act} {w : World} {ty : TypeId} {ps : String} {af : Array Edge} {gd : Option (Nat × Bool)}
theorem ys_call {lp : Nat} {fo : Operand} {xs : List Operand} {vs : List Value} {ts : Array TypeId} {R : Ending → World → Prop} {K : Act → World → Prop} (hE : Env n L a)
    (hf : ev L fo = some (.func (.yield lp) #[] #[])) (hx : evs L xs = some vs) (hd : Nat.blt d n = true)
    (hw : Region.wanted ⟨some d, .call ⟨.value fo, xs.toArray, ts⟩, ty, ps, af, gd⟩ (yielded ops a.tmps) = true)
    (hY : YieldAt (FW none) 0 P lp vs.toArray w R) (hK : ∀ e w', R e w' → ∃ v, e = .returned v ∧ ∀ a', Env n ((d, v) :: L) a' → K a' w') :
    YS P ops ⟨some d, .call ⟨.value fo, xs.toArray, ts⟩, ty, ps, af, gd⟩ K a w := by
  obtain ⟨fn, tmps, assign, body, hy, hR⟩ := hY
  refine ⟨hw, fun c e => (by cases e), fun cs b e => (by cases e), lp, fn, tmps, assign, body, ?_, hR.mono fun e w' h => ?_⟩
  · have he := hE.evals hx
    simp [execOp, resolve, Deferred.ofValue, hE.eval hf, invoke, he, hy]
  · obtain ⟨v, e1, h2⟩ := hK e w' h
    exact ⟨v, e1, h2 _ (hE.put hd v)⟩

/-! ## A list -/
theorem op_inN {ρ : Option Nat} {o : Oper} {N : Act → World → Prop} {K : Act → World → Prop} {Q' : Exit → Act → World → Prop} (hnd : ∀ c, o.op ≠ .defer c) (h : o.wp P a w K (QN N)) :
    o.wpIn (FW ρ) 0 P (ap ds a) w (fun a' w' => ∃ a0, a' = ap ds a0 ∧ K a0 w') Q' := by
  unfold Oper.wp at h
  unfold Oper.wpIn
  refine ⟨about_wide o w _, ?_⟩
  rw [show (FW ρ).round = ρ from rfl, Oper.semAt_eq ρ _ o hnd, ap_eval]
  generalize (execOp a.eval o).run P w = r at h ⊢
  cases r with
  | ok nx w2 =>
    cases nx <;> simp only [Oper.upon] at h <;> simp only [Oper.uponIn, ap_put]
    case value v => exact ⟨_, rfl, h⟩
    case skip => exact ⟨_, rfl, h⟩
    case defer d => exact ⟨_, by rw [← ap_put]; rfl, h⟩
    case enter f args =>
      refine ⟨deep_wide, calls_wide (Calls.mono h fun e w3 he => ?_)⟩
      cases e with
      | returned v => exact ⟨_, rfl, he⟩
      | panicked ch => exact absurd he.1 (by simp)
      | outgrown => obtain ⟨a0, w0, h0⟩ := he; exact absurd h0.1 (by simp)
    case row row args => exact ⟨deep_wide, rows_wide (Rows.mono h fun v w3 hv => ⟨_, rfl, hv⟩)⟩
  | halt x w2 =>
    cases x <;> simp only [Oper.upon] at h
    case panic v => exact absurd h.1 (by simp)
theorem list_cat {ρ : Option Nat} {N : Act → World → Prop} {Q' : Exit → Act → World → Prop} {rest : List Oper} (hN : ∀ a w, N a w → wpListIn (FW ρ) 0 P ops Q' rest (ap ds a) w) :
    ∀ (l : List Oper) (a : Act) (w : World), nodef l = true → wpList P ops (QN N) l a w → wpListIn (FW ρ) 0 P ops Q' (l ++ rest) (ap ds a) w
  | [], a, w, _, h => hN a w h.2
  | o :: l, a, w, hn, h => by
    have hn' : nodef l = true := by
      have h2 := hn
      unfold nodef at h2
      rw [List.all_cons, Bool.and_eq_true] at h2
      exact h2.2
    unfold wpList at h
    rw [List.cons_append]
    unfold wpListIn
    show if Region.wanted o (yielded ops a.tmps) = true then _ else _
    split
    · rename_i hw
      rw [if_pos hw] at h
      rcases h with h | ⟨_, a0, w0, h0⟩
      · refine Oper.wpIn_mono (fun a' w' ⟨a0, e, hk⟩ => ?_) (op_inN (nodef_op hn (List.mem_cons_self)) h)
        subst e
        exact list_cat hN l a0 w' hn' hk
      · exact absurd h0.1 (by simp)
    · rename_i hw
      rw [if_neg hw] at h
      refine ⟨about_wide o w _, ?_⟩
      rw [ap_put]
      exact list_cat hN l _ w hn' h
theorem i_regionY {Q : List Deferred → Exit → Act → World → Prop} {id : Nat} {l : List Oper} (pre : List Oper) (o : Oper) (post : List Oper) (hl : l = pre ++ o :: post) (hn : nodef l = true) (hQ : ∀ a w, Q ds .outgrown a w → False)
    (h : wpList P l.toArray (QN (YS P l.toArray o fun a2 w2 => wpList P l.toArray (Q ds) post a2 w2)) pre a w) : WI none P (.region id l.toArray false) Q ds a w := by
  have hn1 : nodef pre = true ∧ nodef post = true := by
    rw [hl] at hn
    unfold nodef at hn ⊢
    rw [List.all_append, List.all_cons, Bool.and_eq_true, Bool.and_eq_true] at hn
    exact ⟨hn.1, hn.2.2⟩
  refine Go.wpIn_mono (wpIn_region_lit (Q := Sh ds (Q ds)) ?_) fun e a' w' ⟨a0, e1, h1⟩ => ⟨ds, a0, e1, h1⟩
  have key := list_cat (ρ := none) (ds := ds) (Q' := Sh ds (Q ds)) (rest := o :: post) (N := YS P l.toArray o fun a2 w2 => wpList P l.toArray (Q ds) post a2 w2) (ops := l.toArray) (P := P) (fun a w hy => by
    unfold wpListIn
    show if Region.wanted o (yielded l.toArray a.tmps) = true then _ else _
    rw [if_pos hy.1]
    refine Oper.wpIn_mono (fun a' w' ⟨a0, e, hk⟩ => ?_) (YS.in_ (ds := ds) hy)
    subst e
    exact list_in hQ post a0 w' hn1.2 hk) pre a w hn1.1 h
  rw [← hl] at key
  exact key

/-! ## A statement whose order is open -/
def wpOpY (P : Program) (ops : Array Oper) (Q : Exit → Act → World → Prop) (i : Nat) (K : Act → World → Prop) (a : Act) (w : World) : Prop :=
  wpOp P ops Q i K a w ∨ ∃ o, ops[i]? = some o ∧ YS P ops o K a w
theorem wpOpY_mono {i : Nat} {K K' : Act → World → Prop} (h : ∀ a w, K a w → K' a w) (hh : wpOpY P ops Q i K a w) : wpOpY P ops Q i K' a w :=
  hh.imp (wpOp_mono h) fun ⟨o, h1, h2⟩ => ⟨o, h1, h2.mono h⟩
theorem wpOpY_putIf {j : Nat} {oi oj : Oper} {v : Value} (hj : ops[j]? = some oj) (hap : oi.apart ops oj = true)
    (hsi : ∀ cs b, oi.op ≠ .select cs b) (hsj : ∀ cs b, oj.op ≠ .select cs b)
    (hQ : ∀ c a w, Q (.panic c) (a.put oi.dst v) w → Q (.panic c) a w) {K : Act → World → Prop}
    (hy : YieldsIf P ops S oi v a) (h : wpOpY P ops Q j K (a.put oi.dst v) w) :
    wpOpY P ops Q j (fun a' w' => YieldsIf P ops S oi v a' ∧ K (a'.put oi.dst v) w') a w := by
  rcases h with h | ⟨o, ho, h1, h2, h3, l, fn, tmps, assign, body, h4, h5⟩
  · exact .inl (wpOp_putIf hj hap hsi hsj hQ hy h)
  · obtain rfl : oj = o := Option.some.inj (hj.symm.trans ho)
    obtain ⟨g1, g2, g3⟩ := Oper.apart_spec hap
    rw [wanted_put oj a oi.dst v g1] at h1
    rw [execOp_put oj hsj a oi.dst v g1] at h4
    refine .inr ⟨oj, hj, h1, h2, h3, l, fn, tmps, assign, body, h4, h5.mono ?_⟩
    rintro e w' ⟨u, e1, hk⟩
    exact ⟨u, e1, hy.of_same (execOp_put oi hsi a oj.dst u g3) (wanted_put oi a oj.dst u g3), by rw [← Act.put_comm a v u g2]; exact hk⟩
def wpAnyY (P : Program) (ops : Array Oper) (Q : Exit → Act → World → Prop) (lt : Nat) : (World → Prop) → Nat → Array Bool → Act → World → Prop
  | _, 0, listed, a, w => Region.ready .any ops listed = [] ∧ Q .normal a w
  | S, fuel + 1, listed, a, w =>
    (Region.ready .any ops listed = [] → Q .normal a w) ∧
    ∀ i ∈ Region.ready .any ops listed, wpOpY P ops Q i (fun a' w' => ∃ S' : World → Prop, (i < lt → (∀ u, S' u → S u) ∧ S' w') ∧ wpAnyY P ops Q lt S' fuel (listed.setIfInBounds i true) a' w') a w
theorem wpAnyY_of_T : ∀ (S : World → Prop) (fuel : Nat) (listed : Array Bool) (a : Act) (w : World), wpAnyT P ops Q lt S fuel listed a w → wpAnyY P ops Q lt S fuel listed a w
  | _, 0, _, _, _, h => h
  | _, fuel + 1, _, _, _, h => ⟨h.1, fun i hi => .inl (wpOp_mono (fun a' w' ⟨S', h1, h'⟩ => ⟨S', h1, wpAnyY_of_T S' fuel _ a' w' h'⟩) (h.2 i hi))⟩
theorem anyY_in {l : List Oper} (hQ : ∀ a w, ¬ Q .outgrown a w) (hn : nodef l = true) (lt : Nat) : ∀ (S : World → Prop) (fuel : Nat) (listed : Array Bool) (a : Act) (w : World),
    wpAnyY P l.toArray Q lt S fuel listed a w → wpAnyIn (FW none) 0 P .any l.toArray (Sh ds Q) fuel listed (ap ds a) w
  | _, 0, _, a, _, h => ⟨h.1, a, rfl, h.2⟩
  | S, fuel + 1, listed, a, w, h => ⟨fun h0 => ⟨a, rfl, h.1 h0⟩, fun i hi => by
      have key : wpOpIn (FW none) 0 P l.toArray (Sh ds Q) i (fun a' w' => ∃ a0, a' = ap ds a0 ∧ ∃ S' : World → Prop, (i < lt → (∀ u, S' u → S u) ∧ S' w') ∧ wpAnyY P l.toArray Q lt S' fuel (listed.setIfInBounds i true) a0 w') (ap ds a) w := by
        rcases h.2 i hi with h1 | ⟨o, ho, h1⟩
        · exact op_at_in hQ hn h1
        · unfold wpOpIn
          rw [ho]
          show if Region.wanted o (yielded l.toArray a.tmps) = true then _ else _
          rw [if_pos h1.1]
          exact YS.in_ h1
      exact wpOpIn_mono (fun a' w' ⟨a0, e, S', _, h'⟩ => by
        subst e
        exact anyY_in hQ hn lt S' fuel _ a0 w' h') key⟩
theorem wpAnyY_first {i : Nat} {oi : Oper} {v : Value} (hlt : lateOk ops lt = true) (hrd : rdOp oi = true) (hil : i < lt) (hi : ops[i]? = some oi) (hsel : ∀ (j : Nat) (o : Oper) cs b, ops[j]? = some o → o.op ≠ .select cs b)
    (hQ : ∀ c a w, Q (.panic c) (a.put oi.dst v) w → Q (.panic c) a w) :
    ∀ (fuel : Nat) (S : World → Prop) (listed : Array Bool) (a : Act) (w : World),
      (∀ j oj, ops[j]? = some oj → j ≠ i → listed.getD j true = false → (∀ e ∈ oj.after, Region.binds .any e = true → e.on ≠ i) → oi.apart ops oj = true) →
      i ∈ Region.ready .any ops listed → YieldsIf P ops S oi v a → S w →
      wpAnyY P ops Q lt S fuel (listed.setIfInBounds i true) (a.put oi.dst v) w → wpAnyY P ops Q lt S (fuel + 1) listed a w := by
  intro fuel
  induction fuel with
  | zero =>
    intro S listed a w _ hr hy hS H
    refine ⟨fun h => (by rw [h] at hr; cases hr), fun j hj => ?_⟩
    by_cases hji : j = i
    · subst hji; exact .inl (hy.wpOp hi hS ⟨S, fun _ => ⟨fun _ h => h, hS⟩, H⟩)
    · have := ready_mono hj hji
      rw [H.1] at this
      cases this
  | succ fuel ih =>
    intro S listed a w hfree hr hy hS H
    refine ⟨fun h => (by rw [h] at hr; cases hr), fun j hj => ?_⟩
    by_cases hji : j = i
    · subst hji; exact .inl (hy.wpOp hi hS ⟨S, fun _ => ⟨fun _ h => h, hS⟩, H⟩)
    · have h1 := H.2 j (ready_mono hj hji)
      have hjl : j < lt := late_early hlt hi hrd hil (mem_ready.1 hr).1 hj
      obtain ⟨hjun, oj, hoj, hall⟩ := mem_ready.1 hj
      have hnot : ∀ e ∈ oj.after, Region.binds .any e = true → e.on ≠ i := fun e he hb heq => by
        have h1 := hall e he hb
        have h0 := (mem_ready.1 hr).1
        rw [heq] at h1
        rcases Nat.lt_or_ge i listed.size with h' | h'
        · simp [h'] at h0 h1; rw [h0] at h1; cases h1
        · simp [Array.getElem?_eq_none h'] at h1
      have h2 := wpOpY_putIf hoj (hfree j oj hoj hji hjun hnot) (fun cs b => hsel i oi cs b hi) (fun cs b => hsel j oj cs b hoj) hQ hy h1
      have hfree' : ∀ k ok, ops[k]? = some ok → k ≠ i → (listed.setIfInBounds j true).getD k true = false →
          (∀ e ∈ ok.after, Region.binds .any e = true → e.on ≠ i) → oi.apart ops ok = true := fun k ok hk hki hun hno => by
        refine hfree k ok hk hki ?_ hno
        by_cases hjk : j = k
        · subst hjk; exact hjun
        · rw [getD_set_ne true hjk] at hun; exact hun
      refine wpOpY_mono (fun a' w' h3 => ?_) h2
      obtain ⟨h31, S', h32, h33⟩ := h3
      obtain ⟨hs1, hs2⟩ := h32 hjl
      refine ⟨S', fun _ => ⟨hs1, hs2⟩, ih S' (listed.setIfInBounds j true) a' w' hfree' (ready_mono hr (Ne.symm hji)) (yieldsIf_strong h31 hs1) hs2 ?_⟩
      rw [Array.setIfInBounds_comm _ _ hji]
      exact h33
theorem wpAnyY_all {rs : List Nat} {fuel : Nat} {listed : Array Bool} (hr : Region.ready .any ops listed = rs) (hne : rs ≠ [])
    (h : ∀ i ∈ rs, wpOpY P ops Q i (fun a' w' => ∃ S' : World → Prop, (i < lt → (∀ u, S' u → S u) ∧ S' w') ∧ wpAnyY P ops Q lt S' fuel (listed.setIfInBounds i true) a' w') a w) : wpAnyY P ops Q lt S (fuel + 1) listed a w :=
  ⟨fun h0 => absurd (hr ▸ h0) hne, hr ▸ h⟩
end

def Pl.join : Pl → Nat → Pl → Pl
  | .rd j p, i, q => .rd j (p.join i q)
  | .done, i, q => .ef i q
  | p, _, _ => p
def Pl.rds : Pl → Bool
  | .rd _ p => p.rds
  | .done => true
  | _ => false
section
variable {P : Program} {l : List Oper} {Q : Act → World → Prop}
/-- what is to be shown for the operation that may call yield -/
def wpM (P : Program) (l : List Oper) (Q : Act → World → Prop) (i : Nat) (q : Pl) (S : World → Prop) (a : Act) (w : World) : Prop :=
  wpE P l i (fun a w => ∃ S' : World → Prop, (∀ u, S' u → S u) ∧ S' w ∧ wpO P l Q S' q a w) a w ∨
  ∃ o, l[i]? = some o ∧ YS P l.toArray o (fun a w => ∃ S' : World → Prop, (∀ u, S' u → S u) ∧ S' w ∧ wpO P l Q S' q a w) a w
theorem Pl.soundY (k : Nat) (hk0 : lateOk l.toArray k = true) (i : Nat) (q : Pl) (S : World → Prop) : ∀ (p : Pl) (f : Nat) (b : Array Bool) (a : Act) (w : World), Region.noSelect l.toArray = true → p.rds = true → (p.join i q).ok l k f b = true →
    wpO P l (wpM P l Q i q S) S p a w → wpAnyY P l.toArray (QN Q) k S f b a w
  | .done, 0, b, a, w, hs, hr, hk, h => by simp [Pl.join, Pl.ok] at hk
  | .done, f + 1, b, a, w, hs, hr, hk, h => by
    unfold wpO at h
    simp only [Pl.join, Pl.ok, Bool.and_eq_true, beq_iff_eq] at hk
    obtain ⟨o, ho⟩ := Option.isSome_iff_exists.1 hk.1.1
    refine wpAnyY_all hk.1.2 (by simp) fun j hj => ?_
    simp only [List.mem_singleton] at hj
    subst hj
    have fin : ∀ a' w', (∃ S' : World → Prop, (∀ u, S' u → S u) ∧ S' w' ∧ wpO P l Q S' q a' w') → ∃ S' : World → Prop, (j < k → (∀ u, S' u → S u) ∧ S' w') ∧ wpAnyY P l.toArray (QN Q) k S' f (b.setIfInBounds j true) a' w' :=
      fun a' w' ⟨S', h1, h2, h'⟩ => ⟨S', fun _ => ⟨h1, h2⟩, wpAnyY_of_T S' _ _ _ _ (Pl.sound k hk0 S' q f _ _ _ hs hk.2 h')⟩
    rcases h with h | ⟨o2, ho2, h⟩
    · exact .inl (wpE_op ho h fin)
    · exact .inr ⟨o2, by simpa using ho2, h.mono fin⟩
  | .rd j p, 0, b, a, w, hs, hr, hk, h => by simp [Pl.join, Pl.ok] at hk
  | .rd j p, f + 1, b, a, w, hs, hr, hk, h => by
    unfold wpO at h
    obtain ⟨o, v, ho, hy, hS, h⟩ := h
    simp only [Pl.join, Pl.ok, Bool.and_eq_true] at hk
    exact wpAnyY_first (oi := o) (v := v) hk0 (by have := hk.1.1.1.1; rw [ho] at this; simpa using this) (by simpa [Nat.blt_eq] using hk.1.1.1.2) (by simpa using ho) (Region.noSelect_spec hs) (fun c a w h => absurd h.1 (by simp)) f S b a w (Region.free_spec (by simpa using ho) hk.1.1.2) (by simpa using hk.1.2) hy hS
      (Pl.soundY k hk0 i q S p f _ _ _ hs hr hk.2 h)
  | .ef _ _, _, _, _, _, _, hr, _, _ => by cases hr
  | .lt _ _, _, _, _, _, _, hr, _, _ => by cases hr
  | .ef2 _ _ _ _, _, _, _, _, _, hr, _, _ => by cases hr
  | .ef3 _ _ _ _ _ _, _, _, _, _, _, hr, _, _ => by cases hr
theorem i_ordH {Q' : List Deferred → Exit → Act → World → Prop} {ρ : Option Nat} {ds : List Deferred} {id : Nat} {a : Act} {w w0 : World} {H : List HP} (H' : List HP) (hS : St w0 w H) (hH : ∀ u, St w0 u H → St w0 u H') (k : Nat) (p : Pl) (hm : P.follows .mixedOrders = true)
    (hk : (Region.noSelect l.toArray && lateOk l.toArray k && p.ok l k l.length (Array.replicate l.length false)) = true) (hn : nodef l = true)
    (h : ∀ w1, St w0 w1 H → St w0 w1 H' → wpO P l (Q' ds .normal) (fun w' => St w0 w' H') p a w1) : WI ρ P (.region id l.toArray true) Q' ds a w :=
  i_ord (fun w' => St w0 w' H') k p hm hk hn (h _ hS.drew (hH _ hS.drew))
theorem wanted_at {o : Oper} {j dj : Nat} {want : Bool} {n : Nat} {L : List (Nat × Value)} {a : Act} (hE : Env n L a) (hg : o.guard = some (j, want)) (hj : (l[j]?).bind (·.dst) = some dj) (hb : find L dj = some (.bool want)) : Region.wanted o (yielded l.toArray a.tmps) = true := by
  have h1 := hE.has _ _ hb
  have hy : yielded l.toArray a.tmps j = some want := by simp only [yielded, List.getElem?_toArray, hj, Option.bind_some, h1]
  simp [Region.wanted, hg, hy]
theorem i_ordY {Q' : List Deferred → Exit → Act → World → Prop} {ds : List Deferred} {id : Nat} {a : Act} {w w0 : World} {H : List HP} (H' : List HP) (hS : St w0 w H) (hH : ∀ u, St w0 u H → St w0 u H') (k : Nat) (p : Pl) (i : Nat) (q : Pl) (hm : P.follows .mixedOrders = true)
    (hk : (Region.noSelect l.toArray && lateOk l.toArray k && p.rds && (p.join i q).ok l k l.length (Array.replicate l.length false)) = true) (hn : nodef l = true)
    (h : ∀ w1, St w0 w1 H → St w0 w1 H' → wpO P l (fun a w => w = w1 → wpM P l (Q' ds .normal) i q (fun w' => St w0 w' H') a w) (fun w' => St w0 w' H') p a w1) : WI none P (.region id l.toArray true) Q' ds a w := by
  simp only [Bool.and_eq_true] at hk
  have h0 : ∀ (p : Pl) (a : Act) (w1 : World), p.rds = true → wpO P l (fun a w => w = w1 → wpM P l (Q' ds .normal) i q (fun w' => St w0 w' H') a w) (fun w' => St w0 w' H') p a w1 → wpO P l (wpM P l (Q' ds .normal) i q (fun w' => St w0 w' H')) (fun w' => St w0 w' H') p a w1 := by
    intro p
    induction p with
    | done => intro a w1 _ h; unfold wpO at h ⊢; exact h rfl
    | rd j p ih =>
      intro a w1 hr h
      unfold wpO at h ⊢
      obtain ⟨o, v, h1, h2, h3, h4⟩ := h
      exact ⟨o, v, h1, h2, h3, ih _ _ hr h4⟩
    | ef _ _ _ => intro _ _ hr; cases hr
    | lt _ _ _ => intro _ _ hr; cases hr
    | ef2 _ _ _ _ _ _ => intro _ _ hr; cases hr
    | ef3 _ _ _ _ _ _ _ _ _ => intro _ _ hr; cases hr
  have h1 := Pl.soundY k hk.1.1.2 i q (fun w' => St w0 w' H') p _ _ _ _ hk.1.1.1 hk.1.2 hk.2 (h0 p a _ hk.1.2 (h _ hS.drew (hH _ hS.drew)))
  have h2 := anyY_in (ds := ds) (fun a w h => absurd h.1 (by simp)) hn k _ _ _ _ _ h1
  refine Go.wpIn_mono (wpIn_region_any (Q := Sh ds (QN (Q' ds .normal))) hm (by simpa using h2)) ?_
  rintro e a' w' ⟨a0, e1, rfl, h⟩
  exact ⟨ds, a0, e1, h⟩
end
section
variable {P : Program} {n d : Nat} {L : List (Nat × Value)} {a : Act} {w : World} {gd : Option (Nat × Bool)} {ty : TypeId} {ps : String} {af : Array Edge} {x : Operand}
/-- a field of an element -/
theorem r_fieldR {t ft : TypeId} {i off size b o : Nat} {z : Value} {ad : Addr} [TyF P t i off ft] [TyI P ft size z b] (hE : Env n L a) (hx : ev L x = some (.pointer (some (ad.add o)))) (hs : Nat.beq size 0 = false) : (execOp a.eval ⟨some d, .fieldAddr t x i, ty, ps, af, gd⟩).run P w = .ok (.value (.pointer (some (ad.add (o + off))))) w := by
  have h := r_field (P := P) (w := w) (t := t) (ft := ft) (i := i) (off := off) (size := size) (b := b) (z := z) (d := d) (ty := ty) (ps := ps) (af := af) (gd := gd) hE hx hs
  rw [add_add] at h
  exact h
end
section
variable {P : Program} {ops : Array Oper} {l : List Oper} {Q : Exit → Act → World → Prop} {K : Act → World → Prop} {S : World → Prop} {rest : List Oper} {d t ty : Nat} {a : Act} {w : World} {ps : String} {af : Array Edge} {x y z : Operand}
theorem g_sliceLH (h : wpList P ops Q (⟨some d, .slice t x (some y) (some z) none, ty, ps, af, none⟩ :: rest) a w) : wpList P ops Q (⟨some d, .slice t x (some y) (some z) none, ty, ps, af, none⟩ :: rest) a w := h
theorem q_sliceLH {pl : Pl} (h : wpR P l K S ⟨some d, .slice t x (some y) (some z) none, ty, ps, af, none⟩ pl a w) : wpR P l K S ⟨some d, .slice t x (some y) (some z) none, ty, ps, af, none⟩ pl a w := h
theorem g_sliceL (h : wpList P ops Q (⟨some d, .slice t x (some y) none none, ty, ps, af, none⟩ :: rest) a w) : wpList P ops Q (⟨some d, .slice t x (some y) none none, ty, ps, af, none⟩ :: rest) a w := h
theorem q_sliceL {pl : Pl} (h : wpR P l K S ⟨some d, .slice t x (some y) none none, ty, ps, af, none⟩ pl a w) : wpR P l K S ⟨some d, .slice t x (some y) none none, ty, ps, af, none⟩ pl a w := h
theorem g_sliceH (h : wpList P ops Q (⟨some d, .slice t x none (some y) none, ty, ps, af, none⟩ :: rest) a w) : wpList P ops Q (⟨some d, .slice t x none (some y) none, ty, ps, af, none⟩ :: rest) a w := h
theorem q_sliceH {pl : Pl} (h : wpR P l K S ⟨some d, .slice t x none (some y) none, ty, ps, af, none⟩ pl a w) : wpR P l K S ⟨some d, .slice t x none (some y) none, ty, ps, af, none⟩ pl a w := h
end
end Go.Proofs.Ytaiahigeejodaaa
