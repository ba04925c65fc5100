/-
  A loop over a function: the statement, its marks, its rounds; a function that holds one.
-/
import Derived.Test.YtaiahigeejodaaaKt
import Derived.RangeFuncLeaves
import Derived.RangeFuncRecord
namespace Go.Proofs.Ytaiahigeejodaaa
open Go.RowKit
set_option linter.unusedVariables false
set_option linter.unusedSimpArgs false

/-! ## Pieces -/
/-- a block that is no cells -/
def hObj (k : Nat) (o : Obj) : HP where
  at_ S w := S k ∧ w.heap[k]? = some o
  keep := fun ⟨h1, h2⟩ hk => ⟨h1, (hk _ h1).trans h2⟩
/-- blocks for rounds' deferred calls -/
def hMarks (Ds : List Nat) : HP where
  at_ S w := Ds.Nodup ∧ ∀ D ∈ Ds, S D ∧ w.heap[D]? = some (.deferred (some []))
  keep := fun ⟨h0, h⟩ hk => ⟨h0, fun D hD => ⟨(h D hD).1, (hk _ (h D hD).1).trans (h D hD).2⟩⟩
def mark (D : Nat) : Deferred := { target := .collected D, args := #[] }

section
variable {w0 w : World} {H L L' : List HP}
theorem Sep.perm {L L' : List HP} (p : L.Perm L') : ∀ {T : Nat → Prop}, Sep w L T → Sep w L' T := by
  induction p with
  | nil => exact fun h => h
  | cons x _ ih => exact fun h => Sep.cons_mono (fun _ => ih) h
  | swap x y l => exact fun h => Sep.swap h
  | trans _ _ i1 i2 => exact fun h => i2 (i1 h)
theorem St.perm (hS : St w0 w L) (p : L.Perm L') : St w0 w L' := ⟨hS.below, hS.sep.perm p⟩
theorem St.obj {k : Nat} {o : Obj} (hS : St w0 w (hObj k o :: H)) : w.heap[k]? = some o := by
  obtain ⟨_, _, h⟩ := hS.head
  exact h.2
theorem St.put_ {k : Nat} {o o' : Obj} (hS : St w0 w (hObj k o :: H)) : St w0 (w.putObj k o') (hObj k o' :: H) :=
  hS.upd rfl rfl rfl (by simp) fun S ⟨h1, h2⟩ => ⟨S, ⟨h1, World.putObj_heap_same (Array.getElem?_eq_some_iff.1 h2).1⟩, fun k hk => .inl hk, fun j _ hj => World.putObj_heap_other (fun e => hj (e ▸ h1))⟩
theorem St.newObj (hS : St w0 w H) (o : Obj) : St w0 (w.alloc o) (hObj w.heap.size o :: H) :=
  hS.new ((Below.refl _ w).alloc (Nat.le_refl _) o) (fun k => k = w.heap.size) (fun k hk => by subst hk; simp) ⟨rfl, World.alloc_heap_new w o⟩
theorem St.objMark {D : Nat} (hS : St w0 w (hObj D (.deferred (some [])) :: H)) : St w0 w (hMarks [D] :: H) :=
  hS.conv fun S ⟨h1, h2⟩ => ⟨by simp, fun E hE => by simp at hE; subst hE; exact ⟨h1, h2⟩⟩
theorem St.marks0 (hS : St w0 w H) : St w0 w (hMarks [] :: H) :=
  hS.new (Below.refl _ _) (fun _ => False) (fun _ h => h.elim) ⟨List.nodup_nil, fun _ h => by cases h⟩
theorem St.marks2 {D : Nat} {Ds : List Nat} (hS : St w0 w (hMarks [D] :: hMarks Ds :: H)) : St w0 w (hMarks (D :: Ds) :: H) := by
  obtain ⟨hb, S, h1, ⟨_, h2⟩, S2, h3, ⟨h4, h5⟩, r⟩ := hS
  refine ⟨hb, fun k => S k ∨ S2 k, fun k hk => hk.elim (h1 k) fun h => (h3 k h).1, ⟨List.nodup_cons.2 ⟨fun hD => (h3 D (h5 D hD).1).2 (h2 D (by simp)).1, h4⟩, fun E hE => ?_⟩, Sep.mono (fun k hk => ⟨hk.1.1, fun h => h.elim hk.1.2 hk.2⟩) r⟩
  rcases List.mem_cons.1 hE with rfl | hE
  · exact ⟨.inl (h2 E (by simp)).1, (h2 E (by simp)).2⟩
  · exact ⟨.inr (h5 E hE).1, (h5 E hE).2⟩
end

/-! ## A function that holds such a loop -/
def PostI (P : Program) (fn : Func) (R : Value → World → Prop) : List Deferred → Exit → Act → World → Prop := fun ds e a w =>
  match e with
  | .normal | .ret => LeavesInM (FW none) 0 P fn a.tmps (fun e w' => ∃ v, e = .returned v ∧ R v w') (a.defers ++ ds) .returning w
  | _ => False
theorem enterI {P : Program} {f : FuncId} {fn : Func} {c : Code} {args : List Value} {w : World} {R : Value → World → Prop} (n : Nat)
    (hf : P.funcs[f]? = some fn) (hb : fn.body = some c) (hn : fn.ntmps = n) (ha : Nat.ble args.length n = true)
    (h : ∀ a, Env n (argsAt 0 args) a → WI none P c (PostI P fn R) [] a w) : Fn P f args w R := by
  have ha' : args.length ≤ n := Nat.le_of_ble_eq_true ha
  have hE : Env n (argsAt 0 args) { tmps := args.toArray ++ Array.replicate (fn.ntmps - args.toArray.size) undef, defers := [] } := by
    refine ⟨?_, rfl, fun t v ht => ?_⟩
    · simp [hn]; omega
    · obtain ⟨_, h2⟩ := find_argsAt args 0 t v ht
      simp only [Nat.sub_zero] at h2
      have hlt : t < args.length := by
        rcases Nat.lt_or_ge t args.length with hlt | hge
        · exact hlt
        · rw [List.getElem?_eq_none hge] at h2; cases h2
      rw [Array.getElem?_append_left (by simpa using hlt)]
      simpa using h2
  refine calls_of_wide (ρ := none) (n := 0) (callsIn_of_wp_marks hf hb trivial ?_)
  refine Go.wpIn_mono (h _ hE) ?_
  rintro e a' w' ⟨ds', a0, rfl, hq⟩
  cases e with
  | normal => exact hq
  | ret => exact hq
  | exit id => exact hq.elim
  | goto l => exact hq.elim
  | panic ch => exact hq.elim
  | outgrown => exact hq.elim

section
variable {P : Program} {fn : Func} {R : Value → World → Prop}
theorem leave_marks {tmps : Array Value} {v : Value} {w0 : World} {H : List HP} : ∀ (Ds : List Nat) (w : World), St w0 w (hMarks Ds :: H) → (∀ w', St w0 w' H → (results fn tmps).run P w' = .ok v w' ∧ R v w') →
    LeavesInM (FW none) 0 P fn tmps (fun e w' => ∃ v, e = .returned v ∧ R v w') (Ds.map mark) .returning w
  | [], w, hS, hR => ⟨v, (hR w hS.tail).1, v, rfl, (hR w hS.tail).2⟩
  | D :: Ds, w, hS, hR => by
    have hD : w.heap[D]? = some (.deferred (some [])) := by
      obtain ⟨_, _, h⟩ := hS.head
      exact (h.2 D (by simp)).2
    refine ⟨by simp, .inl ⟨D, w.putObj D (.deferred none), rfl, run_takeDeferred hD, leave_marks Ds _ ?_ hR⟩⟩
    refine hS.upd rfl rfl rfl (by simp) fun S ⟨h0, h⟩ => ⟨S, ⟨(List.nodup_cons.1 h0).2, fun E hE => ⟨(h E (List.mem_cons_of_mem _ hE)).1, ?_⟩⟩, fun k hk => .inl hk, fun j _ hj => World.putObj_heap_other (fun e => hj (e ▸ (h D (by simp)).1))⟩
    rw [World.putObj_heap_other (fun e => (List.nodup_cons.1 h0).1 (by rw [← e]; exact hE))]
    exact (h E (List.mem_cons_of_mem _ hE)).2
variable {n : Nat} {L : List (Nat × Value)} {a : Act} {w w0 : World} {H : List HP}
theorem im_ret1 (hE : Env n L a) {t : Nat} {v : Value} (Ds : List Nat) (hS : St w0 w (hMarks Ds :: H)) (hr : fn.results = #[.tmp t]) (ht : find L t = some v) (hR : ∀ w', St w0 w' H → R v w') : PostI P fn R (Ds.map mark) .ret a w := by
  have h1 := hE.has t v ht
  show LeavesInM (FW none) 0 P fn a.tmps _ (a.defers ++ Ds.map mark) .returning w
  rw [hE.defers]
  exact leave_marks (v := v) Ds w hS fun w' hS' => ⟨by simp [results_tmp hr, h1], hR w' hS'⟩
theorem i_ret1 (hE : Env n L a) {t : Nat} {v : Value} (hr : fn.results = #[.tmp t]) (ht : find L t = some v) (hR : R v w) : PostI P fn R [] .ret a w := by
  have h1 := hE.has t v ht
  show LeavesInM (FW none) 0 P fn a.tmps _ (a.defers ++ []) .returning w
  rw [hE.defers]
  exact ⟨v, by simp [results_tmp hr, h1], v, rfl, hR⟩
theorem i_ret0 (hE : Env n L a) (hr : fn.results = #[]) (hR : R (.tuple #[]) w) : PostI P fn R [] .ret a w := by
  show LeavesInM (FW none) 0 P fn a.tmps _ (a.defers ++ []) .returning w
  rw [hE.defers]
  exact ⟨_, results_none hr _ _ _, _, rfl, hR⟩
theorem i_end0 (hE : Env n L a) (hr : fn.results = #[]) (hR : R (.tuple #[]) w) : PostI P fn R [] .normal a w := by
  show LeavesInM (FW none) 0 P fn a.tmps _ (a.defers ++ []) .returning w
  rw [hE.defers]
  exact ⟨_, results_none hr _ _ _, _, rfl, hR⟩
end

/-! ## The loop -/
def cdJ : Option Nat → Code
  | none => .ret
  | some i => .exit i
def exJ : Option Nat → Exit
  | none => .ret
  | some i => .exit i
/-- What a function that is gone over promises: full comes, one by one, to the round; or a round says that it is enough. -/
def Iter {α : Type} (P : Program) (gf : FuncId) (lb : List Value) (Bx : List HP) (enc : α → List Value) (full : List α) (w0 : World) : Prop :=
  ∀ (w : World) (l : Nat) (own : List HP) (H : List α → List HP) (J : Type) (Hx : J → List α → List HP),
    (∀ own pre x w, (∃ post, pre ++ x :: post = full) → St w0 w (Bx ++ (H pre ++ own)) → YieldAt (FW none) 0 P l (enc x).toArray w fun e w' =>
      (e = .returned (.bool true) ∧ St w0 w' (Bx ++ (H (pre ++ [x]) ++ own))) ∨ (e = .returned (.bool false) ∧ ∃ j, St w0 w' (Bx ++ (Hx j (pre ++ [x]) ++ own)))) →
    St w0 w (Bx ++ (H [] ++ own)) →
    Calls P gf (.func (.yield l) #[] #[] :: lb).toArray w fun e w' => (∃ v, e = .returned v) ∧ (St w0 w' (Bx ++ (H full ++ own)) ∨ ∃ j pre x post, pre ++ x :: post = full ∧ St w0 w' (Bx ++ (Hx j (pre ++ [x]) ++ own)))

def lrec (fn : FuncId) (tmps : Array Value) (ps : Array Tmp) (assign body : Code) (D : Nat) (st : LoopState) (pe : Option Code) : Loop := { state := st, pending := pe, fn, tmps, params := ps, assign, body, defers := D }
theorem tmps_zip {n : Nat} : ∀ (ps : List Nat) (vs : List Value) (L : List (Nat × Value)) (t : Array Value) (ds : List Deferred), (∀ p ∈ ps, p < n) → ps.length = vs.length → Env n L { tmps := t, defers := [] } →
    ∃ L', L' = (ps.zip vs).foldl (fun L p => p :: L) L ∧ Env n L' { tmps := (ps.zip vs).foldl (fun t p => t.setIfInBounds p.1 p.2) t, defers := [] }
  | [], _, L, t, _, _, _, hE => ⟨_, rfl, hE⟩
  | p :: ps, [], _, _, _, _, h, _ => by simp at h
  | p :: ps, v :: vs, L, t, ds, hp, hl, hE => by
    have h1 : Env n ((p, v) :: L) { tmps := t.setIfInBounds p v, defers := [] } := by
      have := hE.put (d := p) (by simpa [Nat.blt_eq] using hp p (by simp)) v
      exact this
    exact tmps_zip ps vs _ _ ds (fun q hq => hp q (by simp [hq])) (by simpa using hl) h1

section
variable {P : Program} {Q : List Deferred → Exit → Act → World → Prop} {ds : List Deferred} {n : Nat} {L : List (Nat × Value)} {a : Act} {w w0 : World}
theorem perm_in {A B C D : List HP} {x y : HP} : (x :: y :: (A ++ (B ++ C))).Perm (A ++ (x :: y :: B ++ C)) := by
  have := (List.perm_append_comm (l₁ := [x, y]) (l₂ := A)).append_right (B ++ C)
  simpa using this
theorem perm_own {A B C : List HP} {x y : HP} : (A ++ (x :: y :: B ++ C)).Perm (A ++ (B ++ (x :: y :: C))) := by
  refine List.Perm.append_left _ ?_
  have h1 : (x :: y :: B ++ C) = ([x, y] ++ B) ++ C := rfl
  have h2 : B ++ (x :: y :: C) = (B ++ [x, y]) ++ C := by simp
  rw [h1, h2]
  exact List.perm_append_comm.append_right _
theorem perm_top {A B C : List HP} {x y : HP} : (A ++ (B ++ (x :: y :: C))).Perm (x :: y :: (A ++ (B ++ C))) := by
  have := (List.perm_append_comm (l₁ := A ++ B) (l₂ := [x, y])).append_right C
  simpa using this
theorem perm_topx {B C : List HP} {x y : HP} : (B ++ (x :: y :: C)).Perm (x :: y :: (B ++ C)) := by
  simpa using perm_top (A := []) (B := B) (C := C) (x := x) (y := y)

theorem i_range {α : Type} {g : Operand} {ps : List Tmp} {assign body : Code} {gf : FuncId} {lb : List Value} {enc : α → List Value} {full : List α} {Bx own : List HP} [TyFn P gf]
    (hE : Env n L a) (hg : ev L g = some (.func (.func gf) #[] lb.toArray)) (hI : Iter P gf lb Bx enc full w0)
    (H : List α → List HP) (Hx : Option Nat → List α → List HP) (hS : St w0 w (Bx ++ (H [] ++ own)))
    (hps : ∀ x, ps.length = (enc x).length) (hpn : ∀ p ∈ ps, p < n)
    {Y : Type} (LL : List α → α → Y → List (Nat × Value)) (Ha : List α → α → Y → List HP)
    (hassign : ∀ own pre x w l a1, (∃ post, pre ++ x :: post = full) → St w0 w (Bx ++ (H pre ++ own)) → Env n ((ps.zip (enc x)).foldl (fun L p => p :: L) L) a1 →
      WI (some l) P assign (fun ds e a' w' => e = .normal ∧ ds = [] ∧ ∃ y, Env n (LL pre x y) a' ∧ St w0 w' (Bx ++ (Ha pre x y ++ own))) [] a1 w)
    (hbody : ∀ own pre x y w l a1, (∃ post, pre ++ x :: post = full) → St w0 w (Bx ++ (Ha pre x y ++ own)) → Env n (LL pre x y) a1 →
      WI (some l) P body (fun ds e a' w' => match e with
        | .normal => St w0 w' (Bx ++ (H (pre ++ [x]) ++ own))
        | .ret => St w0 w' (Bx ++ (Hx none (pre ++ [x]) ++ own))
        | .exit i => St w0 w' (Bx ++ (Hx (some i) (pre ++ [x]) ++ own))
        | _ => False) [] a1 w)
    (hdone : ∀ D w', St w0 w' (hMarks [D] :: (Bx ++ (H full ++ own))) → Q (mark D :: ds) .normal a w')
    (hstop : ∀ j D pre x post w', pre ++ x :: post = full → St w0 w' (hMarks [D] :: (Bx ++ (Hx j (pre ++ [x]) ++ own))) → Q (mark D :: ds) (exJ j) a w') :
    WI none P (.rangeFunc g ps.toArray assign body) Q ds a w := by
  have hg' : (ap ds a).eval g = .func (.func gf) #[] lb.toArray := ap_ev hE hg
  refine wpIn_rangeFunc ?_
  intro fn hfn
  obtain ⟨W1, hW1⟩ : ∃ W1, (w.alloc (.deferred (some []))).alloc (.loop (lrec fn a.tmps ps.toArray assign body w.heap.size .ready none)) = W1 := ⟨_, rfl⟩
  have hT : St w0 W1 (hObj (w.heap.size + 1) (.loop (lrec fn a.tmps ps.toArray assign body w.heap.size .ready none)) :: hObj w.heap.size (.deferred (some [])) :: (Bx ++ (H [] ++ own))) := by
    have h1 := (hS.newObj (.deferred (some []))).newObj (.loop (lrec fn a.tmps ps.toArray assign body w.heap.size .ready none))
    rw [hW1, World.size_alloc] at h1
    exact h1
  refine ⟨w.heap.size + 1, [mark w.heap.size], W1, { target := .fn (.func gf) lb.toArray, args := #[.func (.yield (w.heap.size + 1)) #[] #[]] }, W1, gf,
    #[.func (.yield (w.heap.size + 1)) #[] #[]] ++ lb.toArray, W1, ?_, ?_, fun _ _ => trivial, ?_, deep_wide, ?_⟩
  · rw [← hW1]; exact run_enterLoop_outer _ _ _ _ _
  · simp only [resolve, hg']
    simp [go_sem]
  · simp [invoke, run_callFunc]
  · have hI' := hI W1 (w.heap.size + 1) own (fun pre => hObj (w.heap.size + 1) (.loop (lrec fn a.tmps ps.toArray assign body w.heap.size .ready none)) :: hObj w.heap.size (.deferred (some [])) :: H pre) (Option Nat)
      (fun j pre => hObj (w.heap.size + 1) (.loop (lrec fn a.tmps ps.toArray assign body w.heap.size .done (some (cdJ j)))) :: hObj w.heap.size (.deferred (some [])) :: Hx j pre) ?_ (hT.perm (perm_in (D := [])))
    · have e1 : (.func (.yield (w.heap.size + 1)) #[] #[] :: lb).toArray = #[.func (.yield (w.heap.size + 1)) #[] #[]] ++ lb.toArray := by simp
      rw [e1] at hI'
      refine calls_wide (Calls.mono hI' ?_)
      rintro e W2 ⟨⟨v, rfl⟩, h | ⟨j, pre, x, post, hpre, h⟩⟩
      · have h1 := (h.perm perm_own).perm perm_top
        have h2 := h1.put_ (o' := .loop { lrec fn a.tmps ps.toArray assign body w.heap.size .ready none with state := .exhausted })
        refine ⟨none, _, run_endLoop (P := P) h1.obj (by simp [lrec]), mark w.heap.size :: ds, a, ?_, hdone _ _ h2.tail.objMark⟩
        show ({ ap ds a with defers := [mark w.heap.size] ++ (a.defers ++ ds) } : Act) = { a with defers := a.defers ++ mark w.heap.size :: ds }
        rw [hE.defers]; rfl
      · have h1 := (h.perm perm_own).perm perm_top
        have h2 := h1.put_ (o' := .loop { lrec fn a.tmps ps.toArray assign body w.heap.size .done (some (cdJ j)) with state := .exhausted })
        have h3 := hstop j _ pre x post _ hpre h2.tail.objMark
        refine ⟨some (cdJ j), _, run_endLoop (P := P) h1.obj (by simp [lrec]), ?_⟩
        have e2 : ({ ap ds a with defers := [mark w.heap.size] ++ (a.defers ++ ds) } : Act) = ap (mark w.heap.size :: ds) a := by
          show ({ ap ds a with defers := [mark w.heap.size] ++ (a.defers ++ ds) } : Act) = { a with defers := a.defers ++ mark w.heap.size :: ds }
          rw [hE.defers]; rfl
        cases j with
        | none => exact wpIn_ret ⟨_, a, e2, h3⟩
        | some i => exact wpIn_exit ⟨_, a, e2, h3⟩
    · -- a round
      intro own' pre x W hpre hW
      have h1 := (hW.perm perm_own).perm perm_top
      have hl := h1.obj
      have hy := run_yield (P := P) (args := (enc x).toArray) hl (by simpa [lrec] using (hps x).symm)
      have htm : ∃ t, t = (ps.toArray.zip (enc x).toArray).foldl (fun t (p, v) => t.setIfInBounds p v) a.tmps ∧ Env n ((ps.zip (enc x)).foldl (fun L p => p :: L) L) { tmps := t, defers := [] } := by
        obtain ⟨L', e, h⟩ := tmps_zip ps (enc x) L a.tmps [] hpn (hps x) ⟨hE.size, rfl, hE.has⟩
        refine ⟨_, rfl, ?_⟩
        rw [← e]
        have e3 : (ps.toArray.zip (enc x).toArray).foldl (fun t (p, v) => t.setIfInBounds p v) a.tmps = (ps.zip (enc x)).foldl (fun t p => t.setIfInBounds p.1 p.2) a.tmps := by
          rw [← Array.foldl_toList]; simp
        rw [e3]
        exact h
      obtain ⟨t, ht, hEt⟩ := htm
      refine ⟨fn, t, assign, body, by rw [ht]; exact hy, roundIn_of_wpIn (F := FW none) trivial ?_⟩
      have h2 := hassign (hObj (w.heap.size + 1) (.loop (lrec fn a.tmps ps.toArray assign body w.heap.size .ready none)) :: hObj w.heap.size (.deferred (some [])) :: own') pre x W (w.heap.size + 1) _ hpre (hW.perm perm_own) hEt
      refine Go.wpIn_mono (F := FW (some (w.heap.size + 1))) h2 ?_
      rintro e a2 w2 ⟨ds', a0, rfl, rfl, rfl, y, hEy, hSy⟩
      have h3 := hSy.perm perm_top
      refine ⟨_, run_beginRound h3.obj rfl, ?_⟩
      have h4 := (h3.put_ (o' := .loop { lrec fn a.tmps ps.toArray assign body w.heap.size .ready none with state := .busy })).perm ((perm_own (A := Bx) (B := Ha pre x y) (C := own')).symm.trans (perm_own (A := Bx) (B := Ha pre x y) (C := own')) |>.trans perm_top).symm
      have h5 := hbody _ pre x y _ (w.heap.size + 1) a0 hpre h4 hEy
      refine Go.wpIn_mono (F := FW (some (w.heap.size + 1))) h5 ?_
      rintro e a3 w4 ⟨ds3, a4, rfl, hq⟩
      cases e with
      | normal =>
        have h6 : St w0 w4 _ := St.perm hq perm_top
        refine ⟨_, _, run_endRound none h6.obj, .inl ⟨rfl, ?_⟩⟩
        have h7 := (h6.put_ (o' := .loop (lrec fn a.tmps ps.toArray assign body w.heap.size .ready none))).perm (perm_in (D := []))
        exact h7
      | ret =>
        have h6 : St w0 w4 _ := St.perm hq perm_top
        refine ⟨_, _, run_endRound (some .ret) h6.obj, .inr ⟨rfl, none, ?_⟩⟩
        have h7 := (h6.put_ (o' := .loop (lrec fn a.tmps ps.toArray assign body w.heap.size .done (some .ret)))).perm (perm_in (D := []))
        exact h7
      | exit i =>
        have h6 : St w0 w4 _ := St.perm hq perm_top
        refine ⟨_, _, run_endRound (some (.exit i)) h6.obj, .inr ⟨rfl, some i, ?_⟩⟩
        have h7 := (h6.put_ (o' := .loop (lrec fn a.tmps ps.toArray assign body w.heap.size .done (some (.exit i))))).perm (perm_in (D := []))
        exact h7
      | goto l => exact hq.elim
      | panic ch => exact hq.elim
      | outgrown => exact hq.elim
end
end Go.Proofs.Ytaiahigeejodaaa
