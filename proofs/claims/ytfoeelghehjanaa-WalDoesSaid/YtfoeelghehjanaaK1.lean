/-
  The calculus, several texts in one.
-/
import Derived.Calls
import Derived.Tactics
import Derived.Below
import Derived.Laws.Entries
import Derived.Laws.AppendOwn
import Derived.Laws.OwnMore
import Derived.Laws.MakeOwn
import Derived.Deep.LoopGhost
import Derived.Laws.Rows
import Derived.Deep.Draws
import Derived.Maps.AppendAt
import Derived.Laws.BitsLemmas
import Derived.IntWalk
import Derived.Laws.Tables
import Derived.Laws.CopyRow
import Derived.Laws.IdiomCopy
import Derived.Lib.SliceRun
import Derived.Orders
import Derived.OrdersHeld
import Derived.Laws.BytesString
import Derived.Laws.Strings
/-
  A small calculus of one's own over the kit's walks: a frame is told by an association list, a world by a list of
  things owned. Nothing here speaks of one program.
-/
namespace Go.Proofs.Ytfoeelghehjanaa
open Go.RowKit
set_option linter.unusedVariables false
set_option linter.unusedSimpArgs false

/-! ## What a frame holds -/
def find : List (Nat × Value) → Nat → Option Value
  | [], _ => none
  | (s, v) :: L, t => bif Nat.beq s t then some v else find L t

structure Env (n : Nat) (L : List (Nat × Value)) (a : Act) : Prop where
  size : a.tmps.size = n
  defers : a.defers = []
  has : ∀ t v, find L t = some v → a.tmps[t]? = some v

def ev (L : List (Nat × Value)) : Operand → Option Value
  | .tmp t => find L t
  | .const v => some v
  | .func f => some (.func (.func f) #[] #[])
  | .global g => some (.pointer (some ⟨g, 0, none⟩))

def evs (L : List (Nat × Value)) : List Operand → Option (List Value)
  | [] => some []
  | x :: xs => match ev L x, evs L xs with
    | some v, some vs => some (v :: vs)
    | _, _ => none

/-- what is kept of a frame -/
def Sub : List (Nat × Value) → List (Nat × Value) → Prop
  | [], _ => True
  | (t, v) :: L', L => find L t = some v ∧ Sub L' L

section
variable {n : Nat} {L : List (Nat × Value)} {a : Act}
theorem Env.eval (h : Env n L a) {x : Operand} {v : Value} (hx : ev L x = some v) : a.eval x = v := by
  cases x with
  | tmp t =>
    have := h.has t v hx
    simp only [Act.eval, Array.getD_eq_getD_getElem?, this, Option.getD_some]
  | const u => simpa [ev, Act.eval] using hx
  | global g => simpa [ev, Act.eval] using hx
  | func f => simpa [ev, Act.eval] using hx

theorem Env.evals (h : Env n L a) : ∀ {xs : List Operand} {vs : List Value}, evs L xs = some vs → xs.map a.eval = vs
  | [], vs, hx => by simp [evs] at hx; simp [hx]
  | x :: xs, vs, hx => by
    simp only [evs] at hx
    split at hx
    · rename_i v ws h1 h2
      simp only [Option.some.injEq] at hx
      subst hx
      simp [h.eval h1, h.evals h2]
    · cases hx

theorem Env.put (h : Env n L a) {d : Nat} (hd : Nat.blt d n = true) (v : Value) : Env n ((d, v) :: L) (a.put (some d) v) := by
  have hd' : d < n := by simpa [Nat.blt_eq] using hd
  refine ⟨by simp [Act.put, h.size], h.defers, fun t u ht => ?_⟩
  simp only [find] at ht
  cases hb : Nat.beq d t with
  | true =>
    have e : d = t := Nat.eq_of_beq_eq_true hb
    rw [hb] at ht
    simp only [cond_true, Option.some.injEq] at ht
    subst e
    subst ht
    simp only [Act.put, Array.getElem?_setIfInBounds, if_true, h.size, hd']
  | false =>
    have e : d ≠ t := Nat.ne_of_beq_eq_false hb
    rw [hb] at ht
    simp only [cond_false] at ht
    simp only [Act.put, Array.getElem?_setIfInBounds, if_neg e]
    exact h.has t u ht

theorem Sub.find : ∀ {L' L : List (Nat × Value)}, Sub L' L → ∀ {t v}, find L' t = some v → find L t = some v
  | [], _, _, t, v, h => by simp [Proofs.Ytfoeelghehjanaa.find] at h
  | (s, u) :: L', L, ⟨h1, h2⟩, t, v, h => by
    simp only [Proofs.Ytfoeelghehjanaa.find] at h
    cases hb : Nat.beq s t with
    | true =>
      have e : s = t := Nat.eq_of_beq_eq_true hb
      rw [hb] at h
      simp only [cond_true, Option.some.injEq] at h
      subst e
      subst h
      exact h1
    | false =>
      rw [hb] at h
      simp only [cond_false] at h
      exact Sub.find h2 h

theorem Env.sub (h : Env n L a) {L' : List (Nat × Value)} (hs : Sub L' L) : Env n L' a :=
  ⟨h.size, h.defers, fun t v ht => h.has t v (hs.find ht)⟩

end

/-! ## Functions -/
/-- The call returns, and so. -/
def Fn (P : Program) (f : FuncId) (args : List Value) (w : World) (R : Value → World → Prop) : Prop :=
  Calls P f args.toArray w fun e w' => ∃ v, e = .returned v ∧ R v w'

theorem Fn.mono {P : Program} {f : FuncId} {args : List Value} {w : World} {R R' : Value → World → Prop} (h : Fn P f args w R) (hr : ∀ v w', R v w' → R' v w') : Fn P f args w R' :=
  Calls.mono h fun _ _ ⟨v, he, hv⟩ => ⟨v, he, hr v _ hv⟩

/-- What stands at a function's end. -/
def Post (P : Program) (fn : Func) (R : Value → World → Prop) : Exit → Act → World → Prop :=
  bodyPost P fn fun e w' => ∃ v, e = .returned v ∧ R v w'

def argsAt : Nat → List Value → List (Nat × Value)
  | _, [] => []
  | i, v :: vs => (i, v) :: argsAt (i + 1) vs

theorem find_argsAt : ∀ (vs : List Value) (i t : Nat) (v : Value), find (argsAt i vs) t = some v → i ≤ t ∧ vs[t - i]? = some v
  | [], i, t, v, h => by simp [argsAt, find] at h
  | u :: vs, i, t, v, h => by
    simp only [argsAt, find] at h
    cases hb : Nat.beq i t with
    | true =>
      have e : i = t := Nat.eq_of_beq_eq_true hb
      rw [hb] at h
      simp only [cond_true, Option.some.injEq] at h
      subst e
      exact ⟨Nat.le_refl _, by simp [h]⟩
    | false =>
      have e : i ≠ t := Nat.ne_of_beq_eq_false hb
      rw [hb] at h
      simp only [cond_false] at h
      obtain ⟨h1, h2⟩ := find_argsAt vs (i + 1) t v h
      refine ⟨by omega, ?_⟩
      have e2 : t - i = t - (i + 1) + 1 := by omega
      rw [e2, List.getElem?_cons_succ]
      exact h2

theorem enter {P : Program} {f : FuncId} {fn : Func} {c : Code} {args : List Value} {w : World} {R : Value → World → Prop} (n : Nat)
    (hf : P.funcs[f]? = some fn) (hb : fn.body = some c) (hn : fn.ntmps = n) (ha : Nat.ble args.length n = true)
    (h : ∀ a, Env n (argsAt 0 args) a → c.wp P (Post P fn R) a w) : Fn P f args w R := by
  have ha' : args.length ≤ n := Nat.le_of_ble_eq_true ha
  refine calls_of_wp hf hb (h _ ⟨?_, rfl, fun t v ht => ?_⟩)
  · simp [hn]; omega
  · obtain ⟨_, h2⟩ := find_argsAt args 0 t v ht
    simp only [Nat.sub_zero] at h2
    have hlt : t < args.length := by
      rcases Nat.lt_or_ge t args.length with hlt | hge
      · exact hlt
      · rw [List.getElem?_eq_none hge] at h2; cases h2
    rw [Array.getElem?_append_left (by simpa using hlt)]
    simpa using h2

section
variable {P : Program} {fn : Func} {R : Value → World → Prop} {n : Nat} {L : List (Nat × Value)} {a : Act} {w : World}
theorem ret1 (hE : Env n L a) {t : Nat} {v : Value} (hr : fn.results = #[.tmp t]) (ht : find L t = some v) (hR : R v w) : Post P fn R .ret a w := by
  have h1 := hE.has t v ht
  exact ⟨hE.defers, v, by simp [results_tmp hr, h1], v, rfl, hR⟩
theorem ret2 (hE : Env n L a) {t t2 : Nat} {v v2 : Value} (hr : fn.results = #[.tmp t, .tmp t2]) (ht : find L t = some v) (ht2 : find L t2 = some v2) (hR : R (.tuple #[v, v2]) w) : Post P fn R .ret a w := by
  have h1 := hE.has t v ht
  have h2 := hE.has t2 v2 ht2
  exact ⟨hE.defers, .tuple #[v, v2], by simp [results_tmp2 hr, h1, h2], _, rfl, hR⟩
theorem ret3 (hE : Env n L a) {t t2 t3 : Nat} {v v2 v3 : Value} (hr : fn.results = #[.tmp t, .tmp t2, .tmp t3]) (ht : find L t = some v) (ht2 : find L t2 = some v2) (ht3 : find L t3 = some v3) (hR : R (.tuple #[v, v2, v3]) w) : Post P fn R .ret a w := by
  have h1 := hE.has t v ht
  have h2 := hE.has t2 v2 ht2
  have h3 := hE.has t3 v3 ht3
  exact ⟨hE.defers, .tuple #[v, v2, v3], by simp [results, hr, h1, h2, h3], _, rfl, hR⟩
theorem end0 (hE : Env n L a) (hr : fn.results = #[]) (hR : R (.tuple #[]) w) : Post P fn R .normal a w :=
  ⟨hE.defers, _, results_none hr _ _ _, _, rfl, hR⟩
theorem ret0 (hE : Env n L a) (hr : fn.results = #[]) (hR : R (.tuple #[]) w) : Post P fn R .ret a w :=
  ⟨hE.defers, _, results_none hr _ _ _, _, rfl, hR⟩
end

/-! ## Code -/
section
variable {P : Program} {Q : Exit → Act → World → Prop} {n : Nat} {L : List (Nat × Value)} {a : Act} {w : World}
theorem c_dec {c : Operand} {x y : Code} {p : Prop} [Decidable p] (hE : Env n L a) (hc : ev L c = some (.bool (decide p))) (ht : p → x.wp P Q a w) (hf : ¬ p → y.wp P Q a w) : (Code.cond c x y).wp P Q a w :=
  wp_cond_split (hE.eval hc) (fun h => ht (of_decide_eq_true h)) (fun h => hf (of_decide_eq_false h))
theorem c_true {c : Operand} {x y : Code} (hE : Env n L a) (hc : ev L c = some (.bool true)) (h : x.wp P Q a w) : (Code.cond c x y).wp P Q a w :=
  wp_cond_true (hE.eval hc) h
theorem c_false {c : Operand} {x y : Code} (hE : Env n L a) (hc : ev L c = some (.bool false)) (h : y.wp P Q a w) : (Code.cond c x y).wp P Q a w :=
  wp_cond_false (hE.eval hc) h
theorem c_bool {c : Operand} {x y : Code} {b : Bool} (hE : Env n L a) (hc : ev L c = some (.bool b)) (ht : b = true → x.wp P Q a w) (hf : b = false → y.wp P Q a w) : (Code.cond c x y).wp P Q a w :=
  wp_cond_split (hE.eval hc) ht hf
theorem then_normal {N : Act → World → Prop} (h : N a w) : Exit.then N Q .normal a w := h
theorem then_ret {N : Act → World → Prop} (h : Q .ret a w) : Exit.then N Q .ret a w := h
theorem then_exit {N : Act → World → Prop} {i : Nat} (h : Q (.exit i) a w) : Exit.then N Q (.exit i) a w := h
theorem block_normal {i : Nat} (h : Q .normal a w) : Exit.inBlock i Q .normal a w := h
theorem block_ret {i : Nat} (h : Q .ret a w) : Exit.inBlock i Q .ret a w := h
theorem block_same {i : Nat} (h : Q .normal a w) : Exit.inBlock i Q (.exit i) a w := by simp only [Exit.inBlock, if_true]; exact h
theorem block_other {i j : Nat} (hne : Nat.beq j i = false) (h : Q (.exit j) a w) : Exit.inBlock i Q (.exit j) a w := by
  have := Nat.ne_of_beq_eq_false hne
  simp only [Exit.inBlock, if_neg this]
  exact h
theorem c_region {id : Nat} {l : List Oper} (h : wpList P l.toArray Q l a w) : (Code.region id l.toArray false).wp P Q a w := wp_region_lit h
/-- where ways meet -/
theorem c_cut {x y : Code} (I : Act → World → Prop) (hx : x.wp P (Exit.then I Q) a w) (hy : ∀ a w, I a w → y.wp P Q a w) : (Code.seq x y).wp P Q a w :=
  wp_seq (wp_mono hx fun e a w h => by cases e <;> first | exact hy _ _ h | exact h)
end

/-! ## Operations -/
section
variable {P : Program} {ops : Array Oper} {Q : Exit → Act → World → Prop} {rest : List Oper} {n d : Nat} {L : List (Nat × Value)} {a : Act} {w : World}

theorem s_val {o : Oper} {v : Value} {w' : World} (hE : Env n L a) (hg : o.guard = none) (hdst : o.dst = some d) (hd : Nat.blt d n = true)
    (hrun : (execOp a.eval o).run P w = .ok (.value v) w') (k : ∀ a', Env n ((d, v) :: L) a' → wpList P ops Q rest a' w') : wpList P ops Q (o :: rest) a w :=
  wpList_plain hg fun K hK => by
    unfold Oper.wp
    rw [hrun]
    show K (a.put o.dst v) w'
    rw [hdst]
    exact hK _ _ (k _ (hE.put hd v))

theorem s_skip {o : Oper} {w' : World} (hE : Env n L a) (hg : o.guard = none) (hdst : o.dst = none)
    (hrun : (execOp a.eval o).run P w = .ok .skip w') (k : Env n L a → wpList P ops Q rest a w') : wpList P ops Q (o :: rest) a w :=
  wpList_plain hg fun K hK => by
    unfold Oper.wp
    rw [hrun]
    show K (a.put o.dst undef) w'
    rw [hdst]
    exact hK _ _ (k hE)

/-- an operation under a guard -/
theorem s_guard {dd : Option Tmp} {op : Op} {ty : TypeId} {ps : String} {af : Array Edge} {j dj : Nat} {want b : Bool} (hE : Env n L a)
    (hj : (ops[j]?).bind (·.dst) = some dj) (hb : find L dj = some (.bool b))
    (hyes : b = want → wpList P ops Q (⟨dd, op, ty, ps, af, none⟩ :: rest) a w)
    (hno : b = !want → ∀ d, dd = some d → wpList P ops Q rest (a.put (some d) undef) w) (hd : ∃ d, dd = some d) : wpList P ops Q (⟨dd, op, ty, ps, af, some (j, want)⟩ :: rest) a w := by
  have hy : yielded ops a.tmps j = some b := by
    have h1 := hE.has _ _ hb
    simp only [yielded, hj, Option.bind_some, h1]
  by_cases e : b = want
  · have := hyes e
    unfold wpList at this ⊢
    have hw : Region.wanted ⟨dd, op, ty, ps, af, some (j, want)⟩ (yielded ops a.tmps) = true := by simp [Region.wanted, hy, e]
    have hw' : Region.wanted ⟨dd, op, ty, ps, af, none⟩ (yielded ops a.tmps) = true := by simp [Region.wanted]
    rw [if_pos hw'] at this
    rw [if_pos hw]
    exact this
  · have hne : b = !want := by
      cases b <;> cases want <;> first | rfl | exact absurd rfl e
    obtain ⟨d, rfl⟩ := hd
    have := hno hne d rfl
    unfold wpList
    have hw : Region.wanted ⟨some d, op, ty, ps, af, some (j, want)⟩ (yielded ops a.tmps) = false := by
      simp only [Region.wanted, hy]
      subst hne
      cases want <;> rfl
    rw [if_neg (by rw [hw]; simp)]
    exact this

variable {ty : TypeId} {ps : String} {af : Array Edge}
theorem s_move {x : Operand} {v : Value} (hE : Env n L a) (hx : ev L x = some v) (hd : Nat.blt d n = true) (k : ∀ a', Env n ((d, v) :: L) a' → wpList P ops Q rest a' w) :
    wpList P ops Q (⟨some d, .move x, ty, ps, af, none⟩ :: rest) a w :=
  s_val hE rfl rfl hd (by simp [execOp, hE.eval hx]) k
theorem s_assign {x : Operand} {v : Value} (hE : Env n L a) (hx : ev L x = some v) (hd : Nat.blt d n = true) (k : ∀ a', Env n ((d, v) :: L) a' → wpList P ops Q rest a' w) :
    wpList P ops Q (⟨some d, .assign x, ty, ps, af, none⟩ :: rest) a w :=
  s_val hE rfl rfl hd (by simp [execOp, hE.eval hx]) k
end
end Go.Proofs.Ytfoeelghehjanaa

/-
  The world as a list of things owned, each with blocks of its own.
-/
namespace Go.Proofs.Ytfoeelghehjanaa
open Go.RowKit
set_option linter.unusedVariables false
set_option linter.unusedSimpArgs false

/-- What is said of a world, and hangs on some blocks alone. -/
structure HP where
  at_ : (Nat → Prop) → World → Prop
  keep : ∀ {S : Nat → Prop} {w w' : World}, at_ S w → (∀ k, S k → w'.heap[k]? = w.heap[k]?) → at_ S w'

def Sep (w : World) : List HP → (Nat → Prop) → Prop
  | [], _ => True
  | h :: L, T => ∃ S : Nat → Prop, (∀ k, S k → T k) ∧ h.at_ S w ∧ Sep w L (fun k => T k ∧ ¬ S k)

section
variable {w w' : World}
theorem Sep.mono : ∀ {L : List HP} {T T' : Nat → Prop}, (∀ k, T k → T' k) → Sep w L T → Sep w L T'
  | [], _, _, _, _ => trivial
  | _ :: _, _, _, hT, ⟨S, h1, h2, h3⟩ => ⟨S, fun k hk => hT k (h1 k hk), h2, Sep.mono (fun k hk => ⟨hT k hk.1, hk.2⟩) h3⟩
theorem Sep.keep : ∀ {L : List HP} {T : Nat → Prop}, Sep w L T → (∀ k, T k → w'.heap[k]? = w.heap[k]?) → Sep w' L T
  | [], _, _, _ => trivial
  | h :: _, _, ⟨S, h1, h2, h3⟩, hk => ⟨S, h1, h.keep h2 (fun k hs => hk k (h1 k hs)), Sep.keep h3 (fun k hs => hk k hs.1)⟩
theorem Sep.append : ∀ {L L' : List HP} {T T' U : Nat → Prop}, Sep w L T → Sep w L' T' → (∀ k, T k → ¬ T' k) → (∀ k, T k → U k) → (∀ k, T' k → U k) → Sep w (L ++ L') U
  | [], _, _, _, _, _, h', _, _, hu' => Sep.mono hu' h'
  | _ :: _, _, _, _, _, ⟨S, h1, h2, h3⟩, h', hd, hu, hu' =>
    ⟨S, fun k hk => hu k (h1 k hk), h2, Sep.append h3 h' (fun k hk => hd k hk.1) (fun k hk => ⟨hu k hk.1, hk.2⟩) (fun k hk => ⟨hu' k hk, fun hs => hd k (h1 k hs) hk⟩)⟩
theorem Sep.swap {h1 h2 : HP} {L : List HP} {T : Nat → Prop} : Sep w (h1 :: h2 :: L) T → Sep w (h2 :: h1 :: L) T := by
  rintro ⟨S1, a1, b1, S2, a2, b2, r⟩
  refine ⟨S2, fun k hk => (a2 k hk).1, b2, S1, fun k hk => ⟨a1 k hk, fun h => (a2 k h).2 hk⟩, b1, Sep.mono (fun k hk => ?_) r⟩
  exact ⟨⟨hk.1.1, hk.2⟩, hk.1.2⟩
theorem Sep.cons_mono {h : HP} {L L' : List HP} (hL : ∀ T, Sep w L T → Sep w L' T) {T : Nat → Prop} : Sep w (h :: L) T → Sep w (h :: L') T := by
  rintro ⟨S, a, b, r⟩
  exact ⟨S, a, b, hL _ r⟩
end

/-- Since w0 the blocks that were there stand as they stood; what came since is owned, piece by piece. -/
structure St (w0 w : World) (L : List HP) : Prop where
  below : Below w0.heap.size w0 w
  sep : Sep w L (fun k => w0.heap.size ≤ k ∧ k < w.heap.size)

section
variable {w0 w w' : World} {L L' : List HP} {h h' : HP}
theorem St.start (w : World) : St w w [] := ⟨Below.refl _ _, trivial⟩
theorem St.tail (hS : St w0 w (h :: L)) : St w0 w L := by
  obtain ⟨hb, S, _, _, r⟩ := hS
  exact ⟨hb, Sep.mono (fun k hk => hk.1) r⟩
theorem St.nil (hS : St w0 w L) : St w0 w [] := ⟨hS.below, trivial⟩
theorem St.drop1 {a : HP} (hS : St w0 w (a :: h :: L)) : St w0 w (a :: L) := by
  obtain ⟨hb, S, h1, h2, S2, h3, _, r⟩ := hS
  exact ⟨hb, S, h1, h2, Sep.mono (fun k hk => hk.1) r⟩
theorem St.p1 {a b : HP} (hS : St w0 w (a :: b :: L)) : St w0 w (b :: a :: L) := ⟨hS.below, hS.sep.swap⟩
theorem St.p2 {a b c : HP} (hS : St w0 w (a :: b :: c :: L)) : St w0 w (c :: a :: b :: L) :=
  ⟨hS.below, Sep.swap (Sep.cons_mono (fun _ => Sep.swap) hS.sep)⟩
theorem St.p3 {a b c d : HP} (hS : St w0 w (a :: b :: c :: d :: L)) : St w0 w (d :: a :: b :: c :: L) :=
  ⟨hS.below, Sep.swap (Sep.cons_mono (fun _ q => Sep.swap (Sep.cons_mono (fun _ => Sep.swap) q)) hS.sep)⟩
theorem St.p4 {a b c d e : HP} (hS : St w0 w (a :: b :: c :: d :: e :: L)) : St w0 w (e :: a :: b :: c :: d :: L) :=
  ⟨hS.below, Sep.swap (Sep.cons_mono (fun _ q => Sep.swap (Sep.cons_mono (fun _ q => Sep.swap (Sep.cons_mono (fun _ => Sep.swap) q)) q)) hS.sep)⟩

/-- nothing in the heap has turned -/
theorem St.same (hS : St w0 w L) (hh : w'.heap = w.heap) (ho : w'.os = w.os) (ht : w'.tape = w.tape) (hp : w'.output = w.output) : St w0 w' L := by
  refine ⟨hS.below.trans ⟨ho, ht, hp, by rw [hh]; exact Nat.le_refl _, fun k _ => by rw [hh]⟩, ?_⟩
  have h1 : Sep w' L (fun k => w0.heap.size ≤ k ∧ k < w.heap.size) := hS.sep.keep (fun k _ => by rw [hh])
  exact h1.mono (fun k hk => by rw [hh]; exact hk)
theorem St.drewN (hS : St w0 w L) (n : Nat) : St w0 (w.drewN n) L := hS.same rfl rfl rfl rfl
theorem St.drew (hS : St w0 w L) : St w0 w.drew L := hS.same rfl rfl rfl rfl
theorem St.le (hS : St w0 w L) : w0.heap.size ≤ w.heap.size := hS.below.size

/-- What was made since then. -/
theorem St.frame (hS : St w0 w L) (hS' : St w w' L') : St w0 w' (L' ++ L) := by
  refine ⟨hS.below.trans ⟨hS'.below.os, hS'.below.tape, hS'.below.output, hS'.below.size, fun k hk => hS'.below.block k (Nat.lt_of_lt_of_le hk hS.le)⟩, ?_⟩
  refine Sep.append hS'.sep (hS.sep.keep (fun k hk => hS'.below.block k hk.2)) (fun k hk hk' => by omega) (fun k hk => ⟨Nat.le_trans hS.le hk.1, hk.2⟩) (fun k hk => ⟨hk.1, Nat.lt_of_lt_of_le hk.2 hS'.le⟩)

/-- The first thing turns. -/
theorem St.upd (hS : St w0 w (h :: L)) (ho : w'.os = w.os) (ht : w'.tape = w.tape) (hp : w'.output = w.output) (hz : w.heap.size ≤ w'.heap.size)
    (hh : ∀ S : Nat → Prop, h.at_ S w → ∃ S' : Nat → Prop, h'.at_ S' w' ∧ (∀ k, S' k → S k ∨ (w.heap.size ≤ k ∧ k < w'.heap.size)) ∧ ∀ k, k < w.heap.size → ¬ S k → w'.heap[k]? = w.heap[k]?) : St w0 w' (h' :: L) := by
  obtain ⟨hb, S, h1, h2, r⟩ := hS
  obtain ⟨S', g1, g2, g3⟩ := hh S h2
  refine ⟨hb.trans ⟨ho, ht, hp, hz, fun k hk => g3 k (Nat.lt_of_lt_of_le hk hb.size) (fun hs => by have := (h1 k hs).1; omega)⟩, S', fun k hk => ?_, g1, ?_⟩
  · rcases g2 k hk with hs | hn
    · exact ⟨(h1 k hs).1, Nat.lt_of_lt_of_le (h1 k hs).2 hz⟩
    · exact ⟨Nat.le_trans hb.size hn.1, hn.2⟩
  · refine Sep.mono (fun k hk => ?_) (Sep.keep r (fun k hk => g3 k hk.1.2 hk.2))
    refine ⟨⟨hk.1.1, Nat.lt_of_lt_of_le hk.1.2 hz⟩, fun hs => ?_⟩
    rcases g2 k hs with hs | hn
    · exact hk.2 hs
    · have := hk.1.2; omega
/-- The first thing, said otherwise. -/
theorem St.conv (hS : St w0 w (h :: L)) (hh : ∀ S : Nat → Prop, h.at_ S w → h'.at_ S w) : St w0 w (h' :: L) :=
  hS.upd rfl rfl rfl (Nat.le_refl _) fun S hs => ⟨S, hh S hs, fun k hk => .inl hk, fun _ _ _ => rfl⟩
/-- A new thing. -/
theorem St.new (hS : St w0 w L) (hb : Below w.heap.size w w') (S : Nat → Prop) (hs : ∀ k, S k → w.heap.size ≤ k ∧ k < w'.heap.size) (hh : h.at_ S w') : St w0 w' (h :: L) := by
  have : St w w' [h] := ⟨hb, S, hs, hh, trivial⟩
  exact St.frame hS this
theorem St.head (hS : St w0 w (h :: L)) : ∃ S : Nat → Prop, (∀ k, S k → w0.heap.size ≤ k ∧ k < w.heap.size) ∧ h.at_ S w := by
  obtain ⟨hb, S, h1, h2, _⟩ := hS
  exact ⟨S, h1, h2⟩
end

/-! ## Pieces -/
/-- A block, whole. -/
def hBlk (g : Nat) (t : TypeId) (cs : List Value) : HP where
  at_ S w := S g ∧ w.heap[g]? = some (.cells cs.toArray t (0, 0))
  keep := fun ⟨h1, h2⟩ hk => ⟨h1, (hk _ h1).trans h2⟩
/-- A slice of one's own: nil, or the head of a block that holds nothing else. -/
def hRow (e size : Nat) (A : Option Addr) (n c : Nat) (cs : List Value) : HP where
  at_ S w := (∀ ad, A = some ad → S ad.block) ∧ w.ownsRow 0 e size (.slice A n c) n cs
  keep := by
    rintro S w w' ⟨h1, h2, h3⟩ hk
    refine ⟨h1, h2, ?_⟩
    rcases h3 with h3 | ⟨g, cap, cur, he, hg, hh, r⟩
    · exact .inl h3
    · refine .inr ⟨g, cap, cur, he, hg, ?_, r⟩
      have hA : A = some ⟨g, 0, none⟩ := by injection he
      rw [hk g (h1 _ hA)]
      exact hh
def hPure (p : Prop) : HP where
  at_ _ _ := p
  keep := fun h _ => h
def hEx {α : Sort _} (f : α → HP) : HP where
  at_ S w := ∃ x, (f x).at_ S w
  keep := fun ⟨x, h⟩ hk => ⟨x, (f x).keep h hk⟩
def hAll (L : List HP) : HP where
  at_ S w := Sep w L S
  keep := fun h hk => h.keep hk

/-- A slice's cells can be read. -/
def Rd (w : World) (A : Option Addr) (cs : List Value) : Prop :=
  cs ≠ [] → ∃ ad, A = some ad ∧ ∀ j u, cs[j]? = some u → w.cell? (ad.add j) = some u

theorem add_add (a : Addr) (i j : Nat) : (a.add i).add j = a.add (i + j) := by
  unfold Addr.add
  by_cases hi : i = 0 <;> by_cases hj : j = 0 <;> simp [hi, hj, Nat.add_assoc]
theorem add_lit (g o j : Nat) : (⟨g, o, none⟩ : Addr).add j = ⟨g, o + j, none⟩ := by unfold Addr.add; split <;> simp_all
theorem add_block (a : Addr) (j : Nat) : (a.add j).block = a.block := by unfold Addr.add; split <;> rfl

section
variable {w0 w w' : World} {L : List HP} {A : Option Addr} {cs : List Value}
theorem Rd.below (h : Rd w A cs) (hb : Below w.heap.size w w') : Rd w' A cs := fun hne => by
  obtain ⟨ad, e, hc⟩ := h hne
  refine ⟨ad, e, fun j u hu => ?_⟩
  have h1 := hc j u hu
  exact (hb.cell (World.block_lt_of_cell? w _ h1)).trans h1
theorem Rd.st (h : Rd w0 A cs) (hS : St w0 w L) : Rd w A cs := h.below hS.below
theorem Rd.nil : Rd w A [] := fun h => absurd rfl h
theorem Rd.drop (h : Rd w A cs) (k : Nat) : Rd w (A.map (·.add k)) (cs.drop k) := fun hne => by
  have hne' : cs ≠ [] := fun e => hne (by rw [e]; simp)
  obtain ⟨ad, rfl, hc⟩ := h hne'
  refine ⟨ad.add k, rfl, fun j u hu => ?_⟩
  rw [add_add]
  exact hc _ u (by rw [← hu, List.getElem?_drop])
theorem Rd.take (h : Rd w A cs) (k : Nat) : Rd w A (cs.take k) := fun hne => by
  have hne' : cs ≠ [] := fun e => hne (by rw [e]; simp)
  obtain ⟨ad, e, hc⟩ := h hne'
  refine ⟨ad, e, fun j u hu => hc j u ?_⟩
  rw [List.getElem?_take] at hu
  split at hu
  · exact hu
  · cases hu
theorem Rd.cell (h : Rd w A cs) {j : Nat} {u : Value} (hu : cs[j]? = some u) : ∃ ad, A = some ad ∧ w.cell? (ad.add j) = some u := by
  obtain ⟨ad, e, hc⟩ := h (by rintro rfl; simp at hu)
  exact ⟨ad, e, hc j u hu⟩
end

section
variable {w0 w w' : World} {L : List HP} {e size n c : Nat} {A : Option Addr} {cs : List Value}
theorem rd_of_own {b : Nat} (h : w.ownsRow b e size (.slice A n c) n cs) : Rd w A cs := fun hne => by
  rcases h.2 with ⟨h0, hn⟩ | ⟨g, cap, cur, he, hb, hh, r⟩
  · have := h.1
    rw [hn] at this
    exact absurd (List.eq_nil_of_length_eq_zero (by simpa using this)) hne
  · have hA : A = some ⟨g, 0, none⟩ := by injection he
    subst hA
    exact ⟨_, rfl, h.cells (g := g) rfl⟩
theorem St.rd (hS : St w0 w (hRow e size A n c cs :: L)) : Rd w A cs := by
  obtain ⟨S, _, _, ho⟩ := hS.head
  exact rd_of_own ho
theorem St.rowLen (hS : St w0 w (hRow e size A n c cs :: L)) : cs.length = n * size ∧ n ≤ c ∧ c ≤ maxLen := by
  obtain ⟨S, _, _, ho⟩ := hS.head
  refine ⟨ho.1, ?_⟩
  rcases ho.2 with ⟨h0, hn⟩ | ⟨g, cap, cur, he, hb, hh, hnc, hcm, _⟩
  · injection h0 with _ h1 h2
    subst h1 h2
    exact ⟨Nat.le_refl _, by simp [maxLen]⟩
  · injection he with _ _ h2
    subst h2
    exact ⟨hnc, hcm⟩
theorem St.blk {g t : Nat} (hS : St w0 w (hBlk g t cs :: L)) : w.heap[g]? = some (.cells cs.toArray t (0, 0)) ∧ w0.heap.size ≤ g ∧ g < w.heap.size := by
  obtain ⟨S, h1, h2, h3⟩ := hS.head
  exact ⟨h3, h1 g h2⟩
theorem St.blkCell {g t : Nat} (hS : St w0 w (hBlk g t cs :: L)) (j : Nat) : w.cell? ⟨g, j, none⟩ = cs[j]? := by
  rw [cell_of_row w g j cs.toArray t (0, 0) hS.blk.1]
  simp
theorem St.rowNil (hS : St w0 w L) (e size : Nat) : St w0 w (hRow e size none 0 0 [] :: L) :=
  hS.new (Below.refl _ _) (fun _ => False) (fun _ h => h.elim) ⟨fun _ h => (nomatch h), by simp, .inl ⟨rfl, rfl⟩⟩
theorem St.alloc (hS : St w0 w L) (cs : List Value) (t : TypeId) : St w0 (w.alloc (.cells cs.toArray t)) (hBlk w.heap.size t cs :: L) :=
  hS.new ((Below.refl _ _).alloc (Nat.le_refl _) _) (fun k => k = w.heap.size) (fun k hk => by subst hk; simp) ⟨rfl, heap_alloc_new w _⟩
/-- a block is a row -/
theorem St.blkRow {g t : Nat} (hS : St w0 w (hBlk g t cs :: L)) (size n : Nat) (hl : cs.length = n * size) (hm : n ≤ maxLen) : St w0 w (hRow t size (some ⟨g, 0, none⟩) n n cs :: L) :=
  hS.conv fun S ⟨h1, h2⟩ => ⟨fun ad h => by injection h with h; subst h; exact h1, hl, .inr ⟨g, n, cs.toArray, rfl, Nat.zero_le _, h2, Nat.le_refl _, hm, by simpa using hl, by simp [← hl]⟩⟩
theorem St.setBlk {g t : Nat} (hS : St w0 w (hBlk g t cs :: L)) (j : Nat) (u : Value) : St w0 (w.setCell ⟨g, j, none⟩ u) (hBlk g t (cs.set j u) :: L) := by
  refine hS.upd rfl rfl rfl (by simp) fun S ⟨h1, h2⟩ => ⟨S, ⟨h1, ?_⟩, fun k hk => .inl hk, fun k _ hk => ?_⟩
  · rw [heap_setCell_same w g j cs.toArray t u h2]
    simp
  · exact heap_setCell_other w _ k u (fun e => hk (e ▸ h1))
theorem St.setRow (hS : St w0 w (hRow e size A n c cs :: L)) {ad : Addr} (hA : A = some ad) {j : Nat} (hj : j < cs.length) (u : Value) : St w0 (w.setCell (ad.add j) u) (hRow e size A n c (cs.set j u) :: L) := by
  refine hS.upd rfl rfl rfl (by simp) fun S ⟨h1, h2⟩ => ⟨S, ⟨h1, ?_⟩, fun k hk => .inl hk, fun k _ hk => ?_⟩
  · rcases h2.2 with ⟨h0, hn⟩ | ⟨g, cap, cur, he, hb, hh, hnc, hcm, hsz, htk⟩
    · rw [hA] at h0; cases h0
    · have hA' : A = some ⟨g, 0, none⟩ := by injection he
      have hc : c = cap := by injection he
      rw [hA'] at hA
      injection hA with hA
      subst hA
      subst hc
      subst hA'
      refine ⟨by simpa using h2.1, .inr ⟨g, c, cur.setIfInBounds j u, rfl, hb, ?_, hnc, hcm, by simpa using hsz, ?_⟩⟩
      · rw [add_lit, Nat.zero_add]
        exact heap_setCell_same w g j cur e u hh
      · have hlen := h2.1
        rw [Array.toList_setIfInBounds, List.take_set, htk]
  · refine heap_setCell_other w _ k u (fun e => hk ?_)
    rw [add_block] at e
    rw [e]
    exact h1 ad hA
end
end Go.Proofs.Ytfoeelghehjanaa

/-
  Operations on numbers, truth values and addresses.
-/
namespace Go.Proofs.Ytfoeelghehjanaa
open Go.RowKit
set_option linter.unusedVariables false
set_option linter.unusedSimpArgs false

/-- what a type is -/
class TyU (P : Program) (t : TypeId) (d : outParam TypeDesc) : Prop where out : P.underlying t = some d
/-- its cells, its zero value, its bytes -/
class TyI (P : Program) (t : TypeId) (size : outParam Nat) (zero : outParam Value) (bytes : outParam Nat) : Prop where
  out : (P.info? t).map (fun i => (i.size, i.zero, i.bytes)) = some (size, some zero, bytes)

section
variable {P : Program} {t size bytes : Nat} {zero : Value} {w : World}
theorem TyI.info [h : TyI P t size zero bytes] : ∃ i, P.info? t = some i ∧ i.size = size ∧ i.zero = some zero ∧ i.bytes = bytes := by
  obtain ⟨i, hi, he⟩ := Option.map_eq_some_iff.1 h.out
  simp only [Prod.mk.injEq] at he
  exact ⟨i, hi, he.1, he.2.1, he.2.2⟩
theorem run_size [h : TyI P t size zero bytes] : (sizeOf t).run P w = .ok size w := by
  obtain ⟨i, hi, h1, _⟩ := h.info
  simp [sizeOf, typeInfo, hi, h1]
theorem run_zero [h : TyI P t size zero bytes] : (zeroValue t).run P w = .ok zero w := by
  obtain ⟨i, hi, _, h2, _⟩ := h.info
  simp [zeroValue, typeInfo, hi, h2]
theorem run_under {d : TypeDesc} [h : TyU P t d] : (underlying t).run P w = .ok d w := run_underlying h.out w
end

theorem wrap64_in {x : Int} (h : -9223372036854775808 ≤ x ∧ x ≤ 9223372036854775807) : IntKind.i64.wrap x = x := by
  rw [IntKind.wrap_i64]; omega
theorem wrap_u8_in {x : Int} (h : 0 ≤ x ∧ x ≤ 255) : IntKind.u8.wrap x = x := by
  rw [IntKind.wrap_u8]; omega
theorem wrap_u32_in {x : Int} (h : 0 ≤ x ∧ x ≤ 4294967295) : IntKind.u32.wrap x = x := by
  rw [IntKind.wrap_u32]; omega
theorem wrap_u16 (x : Int) : IntKind.u16.wrap x = x % 65536 := by simp [IntKind.wrap, IntKind.bits, IntKind.signed]
theorem wrap_u64 (x : Int) : IntKind.u64.wrap x = x % 18446744073709551616 := by simp [IntKind.wrap, IntKind.bits, IntKind.signed]
theorem wrap_u16_in {x : Int} (h : 0 ≤ x ∧ x ≤ 65535) : IntKind.u16.wrap x = x := by
  rw [wrap_u16]; omega
theorem wrap_u64_in {x : Int} (h : 0 ≤ x ∧ x ≤ 18446744073709551615) : IntKind.u64.wrap x = x := by
  rw [wrap_u64]; omega

section
variable {P : Program} {ops : Array Oper} {Q : Exit → Act → World → Prop} {rest : List Oper} {n d : Nat} {L : List (Nat × Value)} {a : Act} {w : World}
variable {ty xt yt : TypeId} {ps : String} {af : Array Edge} {x y : Operand} {k : IntKind} {i j : Int}

theorem eqg (op : BinOp) (t : TypeId) (x y : Operand) (k k' : IntKind) (i j : Int) (w : World) : (eqGuard op t x y (.int k i) (.int k' j)).run P w = .ok () w := by
  unfold eqGuard
  cases op <;> rfl

theorem s_add (hE : Env n L a) (hx : ev L x = some (.int k i)) (hy : ev L y = some (.int k j)) (hd : Nat.blt d n = true) {r : Int} (hr : k.wrap (i + j) = r) (K : ∀ a', Env n ((d, .int k r) :: L) a' → wpList P ops Q rest a' w) :
    wpList P ops Q (⟨some d, .binOp .add xt x y yt, ty, ps, af, none⟩ :: rest) a w :=
  s_val hE rfl rfl hd (by simp [execOp, hE.eval hx, hE.eval hy, eqg, binOp, Op.intArith, hr]) K
theorem s_sub (hE : Env n L a) (hx : ev L x = some (.int k i)) (hy : ev L y = some (.int k j)) (hd : Nat.blt d n = true) {r : Int} (hr : k.wrap (i - j) = r) (K : ∀ a', Env n ((d, .int k r) :: L) a' → wpList P ops Q rest a' w) :
    wpList P ops Q (⟨some d, .binOp .sub xt x y yt, ty, ps, af, none⟩ :: rest) a w :=
  s_val hE rfl rfl hd (by simp [execOp, hE.eval hx, hE.eval hy, eqg, binOp, Op.intArith, hr]) K
theorem s_mul (hE : Env n L a) (hx : ev L x = some (.int k i)) (hy : ev L y = some (.int k j)) (hd : Nat.blt d n = true) {r : Int} (hr : k.wrap (i * j) = r) (K : ∀ a', Env n ((d, .int k r) :: L) a' → wpList P ops Q rest a' w) :
    wpList P ops Q (⟨some d, .binOp .mul xt x y yt, ty, ps, af, none⟩ :: rest) a w :=
  s_val hE rfl rfl hd (by simp [execOp, hE.eval hx, hE.eval hy, eqg, binOp, Op.intArith, hr]) K
theorem s_quo (hE : Env n L a) (hx : ev L x = some (.int k i)) (hy : ev L y = some (.int k j)) (hj : j ≠ 0) (hd : Nat.blt d n = true) {r : Int} (hr : k.wrap (i.tdiv j) = r) (K : ∀ a', Env n ((d, .int k r) :: L) a' → wpList P ops Q rest a' w) :
    wpList P ops Q (⟨some d, .binOp .quo xt x y yt, ty, ps, af, none⟩ :: rest) a w :=
  s_val hE rfl rfl hd (by simp [execOp, hE.eval hx, hE.eval hy, eqg, binOp, Op.intDiv, hj, hr]) K
theorem s_rem (hE : Env n L a) (hx : ev L x = some (.int k i)) (hy : ev L y = some (.int k j)) (hj : j ≠ 0) (hd : Nat.blt d n = true) {r : Int} (hr : i.tmod j = r) (K : ∀ a', Env n ((d, .int k r) :: L) a' → wpList P ops Q rest a' w) :
    wpList P ops Q (⟨some d, .binOp .rem xt x y yt, ty, ps, af, none⟩ :: rest) a w :=
  s_val hE rfl rfl hd (by simp [execOp, hE.eval hx, hE.eval hy, eqg, binOp, Op.intDiv, hj, hr]) K
theorem s_and (hE : Env n L a) (hx : ev L x = some (.int k i)) (hy : ev L y = some (.int k j)) (hd : Nat.blt d n = true) {r : Int} (hr : bits .and k i j = r) (K : ∀ a', Env n ((d, .int k r) :: L) a' → wpList P ops Q rest a' w) :
    wpList P ops Q (⟨some d, .binOp .and xt x y yt, ty, ps, af, none⟩ :: rest) a w :=
  s_val hE rfl rfl hd (by simp [execOp, hE.eval hx, hE.eval hy, eqg, binOp, intBits_and, hr]) K
theorem s_or (hE : Env n L a) (hx : ev L x = some (.int k i)) (hy : ev L y = some (.int k j)) (hd : Nat.blt d n = true) {r : Int} (hr : bits .or k i j = r) (K : ∀ a', Env n ((d, .int k r) :: L) a' → wpList P ops Q rest a' w) :
    wpList P ops Q (⟨some d, .binOp .or xt x y yt, ty, ps, af, none⟩ :: rest) a w :=
  s_val hE rfl rfl hd (by simp [execOp, hE.eval hx, hE.eval hy, eqg, binOp, intBits_or, hr]) K
theorem s_xor (hE : Env n L a) (hx : ev L x = some (.int k i)) (hy : ev L y = some (.int k j)) (hd : Nat.blt d n = true) {r : Int} (hr : bits .xor k i j = r) (K : ∀ a', Env n ((d, .int k r) :: L) a' → wpList P ops Q rest a' w) :
    wpList P ops Q (⟨some d, .binOp .xor xt x y yt, ty, ps, af, none⟩ :: rest) a w :=
  s_val hE rfl rfl hd (by simp [execOp, hE.eval hx, hE.eval hy, eqg, binOp, intBits_xor, hr]) K
theorem s_shl {k' : IntKind} (hE : Env n L a) (hx : ev L x = some (.int k i)) (hy : ev L y = some (.int k' j)) (hj : 0 ≤ j) (hd : Nat.blt d n = true) {r : Int} (hr : k.wrap (i * 2 ^ min j.toNat k.bits) = r) (K : ∀ a', Env n ((d, .int k r) :: L) a' → wpList P ops Q rest a' w) :
    wpList P ops Q (⟨some d, .binOp .shl xt x y yt, ty, ps, af, none⟩ :: rest) a w :=
  s_val hE rfl rfl hd (by simp [execOp, hE.eval hx, hE.eval hy, eqg, binOp, Op.shift, show ¬ j < 0 from by omega, hr]) K
theorem s_shr {k' : IntKind} (hE : Env n L a) (hx : ev L x = some (.int k i)) (hy : ev L y = some (.int k' j)) (hj : 0 ≤ j) (hd : Nat.blt d n = true) {r : Int} (hr : i.fdiv (2 ^ min j.toNat k.bits) = r) (K : ∀ a', Env n ((d, .int k r) :: L) a' → wpList P ops Q rest a' w) :
    wpList P ops Q (⟨some d, .binOp .shr xt x y yt, ty, ps, af, none⟩ :: rest) a w :=
  s_val hE rfl rfl hd (by simp [execOp, hE.eval hx, hE.eval hy, eqg, binOp, Op.shift, show ¬ j < 0 from by omega, hr]) K

theorem s_lss (hE : Env n L a) (hx : ev L x = some (.int k i)) (hy : ev L y = some (.int k j)) (hd : Nat.blt d n = true) (K : ∀ a', Env n ((d, .bool (decide (i < j))) :: L) a' → wpList P ops Q rest a' w) :
    wpList P ops Q (⟨some d, .binOp .lss xt x y yt, ty, ps, af, none⟩ :: rest) a w :=
  s_val hE rfl rfl hd (by simp [execOp, hE.eval hx, hE.eval hy, eqg, binOp, Op.intCmp]) K
theorem s_leq (hE : Env n L a) (hx : ev L x = some (.int k i)) (hy : ev L y = some (.int k j)) (hd : Nat.blt d n = true) (K : ∀ a', Env n ((d, .bool (decide (i ≤ j))) :: L) a' → wpList P ops Q rest a' w) :
    wpList P ops Q (⟨some d, .binOp .leq xt x y yt, ty, ps, af, none⟩ :: rest) a w :=
  s_val hE rfl rfl hd (by simp [execOp, hE.eval hx, hE.eval hy, eqg, binOp, Op.intCmp]) K
theorem s_gtr (hE : Env n L a) (hx : ev L x = some (.int k i)) (hy : ev L y = some (.int k j)) (hd : Nat.blt d n = true) (K : ∀ a', Env n ((d, .bool (decide (j < i))) :: L) a' → wpList P ops Q rest a' w) :
    wpList P ops Q (⟨some d, .binOp .gtr xt x y yt, ty, ps, af, none⟩ :: rest) a w :=
  s_val hE rfl rfl hd (by simp [execOp, hE.eval hx, hE.eval hy, eqg, binOp, Op.intCmp]) K
theorem s_geq (hE : Env n L a) (hx : ev L x = some (.int k i)) (hy : ev L y = some (.int k j)) (hd : Nat.blt d n = true) (K : ∀ a', Env n ((d, .bool (decide (j ≤ i))) :: L) a' → wpList P ops Q rest a' w) :
    wpList P ops Q (⟨some d, .binOp .geq xt x y yt, ty, ps, af, none⟩ :: rest) a w :=
  s_val hE rfl rfl hd (by simp [execOp, hE.eval hx, hE.eval hy, eqg, binOp, Op.intCmp]) K
theorem s_eql (hE : Env n L a) (hx : ev L x = some (.int k i)) (hy : ev L y = some (.int k j)) (hd : Nat.blt d n = true) (K : ∀ a', Env n ((d, .bool (decide (i = j))) :: L) a' → wpList P ops Q rest a' w) :
    wpList P ops Q (⟨some d, .binOp .eql xt x y yt, ty, ps, af, none⟩ :: rest) a w :=
  s_val hE rfl rfl hd (by simp [execOp, hE.eval hx, hE.eval hy, eqg, binOp, Op.intCmp]; rfl) K
theorem s_neq (hE : Env n L a) (hx : ev L x = some (.int k i)) (hy : ev L y = some (.int k j)) (hd : Nat.blt d n = true) (K : ∀ a', Env n ((d, .bool (decide (i ≠ j))) :: L) a' → wpList P ops Q rest a' w) :
    wpList P ops Q (⟨some d, .binOp .neq xt x y yt, ty, ps, af, none⟩ :: rest) a w :=
  s_val hE rfl rfl hd (by simp [execOp, hE.eval hx, hE.eval hy, eqg, binOp, Op.intCmp, bne, instBEqOfDecidableEq]; rfl) K
theorem s_not {p : Prop} [Decidable p] (hE : Env n L a) (hx : ev L x = some (.bool (decide p))) (hd : Nat.blt d n = true) (K : ∀ a', Env n ((d, .bool (decide (¬ p))) :: L) a' → wpList P ops Q rest a' w) :
    wpList P ops Q (⟨some d, .unOp .not xt x, ty, ps, af, none⟩ :: rest) a w :=
  s_val hE rfl rfl hd (by simp [execOp, hE.eval hx, Op.unary]) K
theorem s_notb {b : Bool} (hE : Env n L a) (hx : ev L x = some (.bool b)) (hd : Nat.blt d n = true) (K : ∀ a', Env n ((d, .bool (!b)) :: L) a' → wpList P ops Q rest a' w) :
    wpList P ops Q (⟨some d, .unOp .not xt x, ty, ps, af, none⟩ :: rest) a w :=
  s_val hE rfl rfl hd (by simp [execOp, hE.eval hx, Op.unary]) K
theorem s_com (hE : Env n L a) (hx : ev L x = some (.int k i)) (hd : Nat.blt d n = true) {r : Int} (hr : bits .xor k (if k.signed then -1 else k.max) i = r) (K : ∀ a', Env n ((d, .int k r) :: L) a' → wpList P ops Q rest a' w) :
    wpList P ops Q (⟨some d, .unOp .xor xt x, ty, ps, af, none⟩ :: rest) a w :=
  s_val hE rfl rfl hd (by simp [execOp, hE.eval hx, Op.unary, intBits_xor, hr]) K
theorem s_conv {k' : IntKind} {src dst : TypeId} {ds : TypeDesc} [TyU P src ds] [TyU P dst (.int k')] (hE : Env n L a) (hx : ev L x = some (.int k i)) (hd : Nat.blt d n = true) {r : Int} (hr : k'.wrap i = r) (K : ∀ a', Env n ((d, .int k' r) :: L) a' → wpList P ops Q rest a' w) :
    wpList P ops Q (⟨some d, .convert src dst x, ty, ps, af, none⟩ :: rest) a w :=
  s_val hE rfl rfl hd (by simp [execOp, hE.eval hx, convert, run_under (d := ds), run_under (d := .int k'), Conv.intToInt, hr]) K
theorem s_len {e : TypeId} {t : TypeId} {A : Option Addr} {m c : Nat} [TyU P t (.slice e)] (hE : Env n L a) (hx : ev L x = some (.slice A m c)) (hd : Nat.blt d n = true) (K : ∀ a', Env n ((d, .int .i64 (m : Int)) :: L) a' → wpList P ops Q rest a' w) :
    wpList P ops Q (⟨some d, .call ⟨.builtin .len, #[x], #[t]⟩, ty, ps, af, none⟩ :: rest) a w :=
  s_val hE rfl rfl hd (by simp [execOp, resolve, invoke, builtin, Builtin.len_, hE.eval hx, run_under (d := .slice e), goInt]) K
theorem s_min {ts : Array TypeId} (hE : Env n L a) (hx : ev L x = some (.int k i)) (hy : ev L y = some (.int k j)) (hd : Nat.blt d n = true) {r : Int} (hr : (if j < i then j else i) = r) (K : ∀ a', Env n ((d, .int k r) :: L) a' → wpList P ops Q rest a' w) :
    wpList P ops Q (⟨some d, .call ⟨.builtin .min, #[x, y], ts⟩, ty, ps, af, none⟩ :: rest) a w :=
  s_val hE rfl rfl hd (by simp [execOp, resolve, invoke, builtin, Builtin.min_, Builtin.min2, hE.eval hx, hE.eval hy, hr]) K
theorem s_max {ts : Array TypeId} (hE : Env n L a) (hx : ev L x = some (.int k i)) (hy : ev L y = some (.int k j)) (hd : Nat.blt d n = true) {r : Int} (hr : (if i < j then j else i) = r) (K : ∀ a', Env n ((d, .int k r) :: L) a' → wpList P ops Q rest a' w) :
    wpList P ops Q (⟨some d, .call ⟨.builtin .max, #[x, y], ts⟩, ty, ps, af, none⟩ :: rest) a w :=
  s_val hE rfl rfl hd (by simp [execOp, resolve, invoke, builtin, Builtin.max_, Builtin.max2, hE.eval hx, hE.eval hy, hr]) K
end
end Go.Proofs.Ytfoeelghehjanaa

/-
  Operations on memory, and calls.
-/
namespace Go.Proofs.Ytfoeelghehjanaa
open Go.RowKit
set_option linter.unusedVariables false
set_option linter.unusedSimpArgs false

/-- a field: where it begins, its type -/
class TyF (P : Program) (t : TypeId) (i : Nat) (off ft : outParam Nat) : Prop where
  out : ∃ fs f, P.underlying t = some (.struct fs) ∧ fs[i]? = some f ∧ f.offset = off ∧ f.type = ft

/-- a function with a body of its own -/
class TyFn (P : Program) (f : FuncId) : Prop where
  out : ∃ fn c, P.funcs[f]? = some fn ∧ (fn.name == "runtime.NumGoroutine") = false ∧ fn.body = some c
theorem run_callFunc {P : Program} {f : FuncId} [h : TyFn P f] {args : Array Value} {w : World} : (callFunc f args).run P w = .ok (.enter f args) w := by
  obtain ⟨fn, c, h1, h2, h3⟩ := h.out
  unfold callFunc
  simp only [Sem.run_bind, run_program, Result.andThen_ok, h1, h2, h3]
  rfl

def isA : TypeDesc → Bool
  | .struct _ | .array _ _ => true
  | _ => false

/-- is it a struct or an array? -/
class TyA (P : Program) (t : TypeId) (agg : outParam Bool) : Prop where out : (P.underlying t).map isA = some agg

section
variable {P : Program} {w : World}
theorem run_isA {t : TypeId} {b : Bool} [h : TyA P t b] : (isAgg t).run P w = .ok b w := by
  obtain ⟨d, hd, he⟩ := Option.map_eq_some_iff.1 h.out
  unfold isAgg
  rw [Sem.run_bind, run_underlying hd w, ← he]
  cases d <;> rfl
theorem run_loadVar1 {t : TypeId} [TyA P t false] {ad : Addr} {v : Value} (hc : w.cell? ad = some v) : (loadVar t ad).run P w = .ok v w := by
  simp [loadVar, run_isA (b := false), hc]
theorem run_loadVarA {t : TypeId} {size b : Nat} {z : Value} [TyA P t true] [TyI P t size z b] {ad : Addr} {cs : List Value} (hl : cs.length = size) (hc : ∀ j u, cs[j]? = some u → w.cell? (ad.add j) = some u) :
    (loadVar t ad).run P w = .ok (.agg cs.toArray) w := by
  have := run_loadCells_list (P := P) w ad cs hc
  simp [loadVar, run_isA (b := true), run_size (size := size) (zero := z) (bytes := b), ← hl, this]
end

section
variable {P : Program} {ops : Array Oper} {Q : Exit → Act → World → Prop} {rest : List Oper} {n d : Nat} {L : List (Nat × Value)} {a : Act} {w w0 : World} {H : List HP}
variable {ty : TypeId} {ps : String} {af : Array Edge} {x y : Operand}

theorem s_call {f : FuncId} {fo : Operand} {xs : List Operand} {first cap : Array Value} {vs : List Value} {ts : Array TypeId} {R : Value → World → Prop} [TyFn P f] (hE : Env n L a)
    (hf : ev L fo = some (.func (.func f) first cap)) (hx : evs L xs = some vs)
    (hd : Nat.blt d n = true) (hc : Fn P f (first.toList ++ vs ++ cap.toList) w R) (K : ∀ v w', R v w' → ∀ a', Env n ((d, v) :: L) a' → wpList P ops Q rest a' w') :
    wpList P ops Q (⟨some d, .call ⟨.value fo, xs.toArray, ts⟩, ty, ps, af, none⟩ :: rest) a w :=
  wpList_plain rfl fun KK hK => by
    have hrun : (execOp a.eval ⟨some d, .call ⟨.value fo, xs.toArray, ts⟩, ty, ps, af, none⟩).run P w = .ok (.enter f (first.toList ++ vs ++ cap.toList).toArray) w := by
      have he := hE.evals hx
      simp [execOp, resolve, Deferred.ofValue, hE.eval hf, invoke, run_callFunc, he]
    unfold Oper.wp
    rw [hrun]
    refine Calls.mono hc ?_
    rintro e w' ⟨v, rfl, hR⟩
    exact hK _ _ (K v w' hR _ (hE.put hd v))
/-- a call whose result nobody takes -/
theorem s_call0 {f : FuncId} {fo : Operand} {xs : List Operand} {first cap : Array Value} {vs : List Value} {ts : Array TypeId} {R : Value → World → Prop} [TyFn P f] (hE : Env n L a)
    (hf : ev L fo = some (.func (.func f) first cap)) (hx : evs L xs = some vs)
    (hc : Fn P f (first.toList ++ vs ++ cap.toList) w R) (K : ∀ v w', R v w' → Env n L a → wpList P ops Q rest a w') :
    wpList P ops Q (⟨none, .call ⟨.value fo, xs.toArray, ts⟩, ty, ps, af, none⟩ :: rest) a w :=
  wpList_plain rfl fun KK hK => by
    have hrun : (execOp a.eval ⟨none, .call ⟨.value fo, xs.toArray, ts⟩, ty, ps, af, none⟩).run P w = .ok (.enter f (first.toList ++ vs ++ cap.toList).toArray) w := by
      have he := hE.evals hx
      simp [execOp, resolve, Deferred.ofValue, hE.eval hf, invoke, run_callFunc, he]
    unfold Oper.wp
    rw [hrun]
    refine Calls.mono hc ?_
    rintro e w' ⟨v, rfl, hR⟩
    exact hK _ _ (K v w' hR hE)

theorem s_extract {i : Nat} {vs : List Value} {v : Value} (hE : Env n L a) (hx : ev L x = some (.tuple vs.toArray)) (hv : vs[i]? = some v) (hd : Nat.blt d n = true) (K : ∀ a', Env n ((d, v) :: L) a' → wpList P ops Q rest a' w) :
    wpList P ops Q (⟨some d, .extract x i, ty, ps, af, none⟩ :: rest) a w :=
  s_val hE rfl rfl hd (by simp [execOp, hE.eval hx, Instr.extract, hv]) K

theorem s_load {t : TypeId} {ad : Addr} {v : Value} [TyA P t false] (hE : Env n L a) (hx : ev L x = some (.pointer (some ad))) (hc : w.cell? ad = some v) (hd : Nat.blt d n = true) (K : ∀ a', Env n ((d, v) :: L) a' → wpList P ops Q rest a' w) :
    wpList P ops Q (⟨some d, .load t x, ty, ps, af, none⟩ :: rest) a w :=
  s_val hE rfl rfl hd (by simp [execOp, Instr.loadAt, Instr.sureAddr, hE.eval hx, run_loadVar1 hc]) K
theorem s_loadA {t : TypeId} {ad : Addr} {cs : List Value} {size b : Nat} {z : Value} [TyA P t true] [TyI P t size z b] (hE : Env n L a) (hx : ev L x = some (.pointer (some ad))) (hl : cs.length = size) (hc : ∀ j u, cs[j]? = some u → w.cell? (ad.add j) = some u) (hd : Nat.blt d n = true) (K : ∀ a', Env n ((d, .agg cs.toArray) :: L) a' → wpList P ops Q rest a' w) :
    wpList P ops Q (⟨some d, .load t x, ty, ps, af, none⟩ :: rest) a w :=
  s_val hE rfl rfl hd (by simp [execOp, Instr.loadAt, Instr.sureAddr, hE.eval hx, run_loadVarA (size := size) (z := z) (b := b) hl hc]) K

/-- the address of a slice's element -/
theorem s_idx {t e : TypeId} {size b : Nat} {z : Value} {A : Option Addr} {m c : Nat} {ad : Addr} {k : IntKind} {i : Int} [TyU P t (.slice e)] [TyI P e size z b] (hE : Env n L a) (hx : ev L x = some (.slice A m c)) (hy : ev L y = some (.int k i)) (h0 : 0 ≤ i) (h1 : i < m) (hA : A = some ad) (hd : Nat.blt d n = true) (K : ∀ a', Env n ((d, .pointer (some (ad.add (i.toNat * size)))) :: L) a' → wpList P ops Q rest a' w) :
    wpList P ops Q (⟨some d, .indexAddr t x y, ty, ps, af, none⟩ :: rest) a w :=
  s_val hE rfl rfl hd (by subst hA; simp [execOp, Instr.indexAt, asIntOf, hE.eval hx, hE.eval hy, run_under (d := .slice e), run_size (size := size) (zero := z) (bytes := b), h0, h1]) K

/-- one element of a slice, read -/
theorem s_get {t e t' : TypeId} {b : Nat} {z : Value} {A : Option Addr} {m c d2 : Nat} {k : IntKind} {i : Int} {cs : List Value} {v : Value} {ty2 : TypeId} {ps2 : String} {af2 : Array Edge} [TyU P t (.slice e)] [TyI P e 1 z b] [TyA P t' false] (hE : Env n L a) (hx : ev L x = some (.slice A m c)) (hy : ev L y = some (.int k i)) (h0 : 0 ≤ i) (h1 : i < m) (hr : Rd w A cs) (hv : cs[i.toNat]? = some v) (hd : Nat.blt d n = true) (hd2 : Nat.blt d2 n = true) (K : ∀ a' p, Env n ((d2, v) :: (d, p) :: L) a' → wpList P ops Q rest a' w) :
    wpList P ops Q (⟨some d, .indexAddr t x y, ty, ps, af, none⟩ :: ⟨some d2, .load t' (.tmp d), ty2, ps2, af2, none⟩ :: rest) a w := by
  obtain ⟨ad, hA, hc⟩ := hr.cell hv
  refine s_idx (size := 1) (z := z) (b := b) hE hx hy h0 h1 hA hd fun a' hE' => ?_
  refine s_load (ad := ad.add (i.toNat * 1)) (v := v) hE' ?_ ?_ hd2 fun a2 hE2 => K _ _ hE2
  · simp [ev, find]
  · rw [Nat.mul_one]; exact hc

theorem s_field {t ft : TypeId} {i off size b : Nat} {z : Value} {ad : Addr} [TyF P t i off ft] [TyI P ft size z b] (hE : Env n L a) (hx : ev L x = some (.pointer (some ad))) (hs : Nat.beq size 0 = false) (hd : Nat.blt d n = true) (K : ∀ a', Env n ((d, .pointer (some (ad.add off))) :: L) a' → wpList P ops Q rest a' w) :
    wpList P ops Q (⟨some d, .fieldAddr t x i, ty, ps, af, none⟩ :: rest) a w := by
  obtain ⟨fs, f, h1, h2, h3, h4⟩ := TyF.out (P := P) (t := t) (i := i) (off := off) (ft := ft)
  have hs' : ¬ size = 0 := Nat.ne_of_beq_eq_false hs
  refine s_val hE rfl rfl hd ?_ K
  simp [execOp, Instr.fieldAt, Instr.sureAddr, hE.eval hx, run_underlying h1, h2, fieldPlace, h3, h4, run_size (size := size) (zero := z) (bytes := b), hs']
theorem s_nilCheck {ad : Addr} (hE : Env n L a) (hx : ev L x = some (.pointer (some ad))) (hd : Nat.blt d n = true) (K : ∀ a', Env n ((d, .pointer (some ad)) :: L) a' → wpList P ops Q rest a' w) :
    wpList P ops Q (⟨some d, .nilCheck x, ty, ps, af, none⟩ :: rest) a w :=
  s_val hE rfl rfl hd (by simp [execOp, hE.eval hx]) K

/-- a variable in memory -/
theorem s_box {t : TypeId} {v : Value} {cs : List Value} (hE : Env n L a) (hS : St w0 w H) (hx : ev L x = some v) (hv : v.cells = cs.toArray) (hd : Nat.blt d n = true) (K : ∀ g a' w', Env n ((d, .pointer (some ⟨g, 0, none⟩)) :: L) a' → St w0 w' (hBlk g t cs :: H) → wpList P ops Q rest a' w') :
    wpList P ops Q (⟨some d, .box t x, ty, ps, af, none⟩ :: rest) a w :=
  s_val (w' := w.alloc (.cells cs.toArray t)) (v := .pointer (some ⟨w.heap.size, 0, none⟩)) hE rfl rfl hd (by simp [execOp, Instr.box, newVar, newRow, hE.eval hx, hv]) fun a' hE' => K _ _ _ hE' (hS.alloc cs t)
theorem s_alloc {t size b : Nat} {z : Value} {cs : List Value} [TyI P t size z b] (hE : Env n L a) (hS : St w0 w H) (hv : z.cells = cs.toArray) (hd : Nat.blt d n = true) (K : ∀ g a' w', Env n ((d, .pointer (some ⟨g, 0, none⟩)) :: L) a' → St w0 w' (hBlk g t cs :: H) → wpList P ops Q rest a' w') :
    wpList P ops Q (⟨some d, .alloc t, ty, ps, af, none⟩ :: rest) a w :=
  s_val (w' := w.alloc (.cells cs.toArray t)) (v := .pointer (some ⟨w.heap.size, 0, none⟩)) hE rfl rfl hd (by simp [execOp, Instr.alloc, newVar, newRow, run_zero (size := size) (zero := z) (bytes := b), hv]) fun a' hE' => K _ _ _ hE' (hS.alloc cs t)
end
end Go.Proofs.Ytfoeelghehjanaa

/-
  Rows: made, appended to, cut, stored into, copied onto.
-/
namespace Go.Proofs.Ytfoeelghehjanaa
open Go.RowKit
set_option linter.unusedVariables false
set_option linter.unusedSimpArgs false

section
variable {P : Program} {w w0 : World} {H : List HP}
theorem St.appendRun {t ty e size bytes n c m c2 : Nat} {z : Value} {A A2 : Option Addr} {cs news : List Value} [TyU P t (.slice e)] [TyI P e size z bytes] (hzs : z.cells.size = size) (hsz : 0 < size) (hby : 0 < bytes)
    (hS : St w0 w (hRow e size A n c cs :: H)) (hr : Rd w A2 news) (hl : news.length = m * size) (h1 : ∀ u ∈ news, u.oneCell' = true) (hb : (n + m) * bytes ≤ 140737488355328) :
    ∃ A' c' w', (Builtin.append_ #[t, t] ty #[.slice A n c, .slice A2 m c2]).run P w = .ok (.slice A' (n + m) c') w' ∧ St w0 w' (hRow e size A' (n + m) c' (cs ++ news) :: H) := by
  obtain ⟨i, hi, hi1, hi2, hi3⟩ := TyI.info (P := P) (t := e) (size := size) (zero := z) (bytes := bytes)
  have ht : P.underlying t = some (.slice e) := TyU.out
  have h63 : n + m ≤ maxLen := by
    have h0 : n + m ≤ (n + m) * bytes := Nat.le_mul_of_pos_right _ hby
    have h1 : n + m ≤ 140737488355328 := Nat.le_trans h0 hb
    exact Nat.le_trans h1 (by decide)
  obtain ⟨S0, hS0, _, hown⟩ := hS.head
  by_cases hm : m = 0
  · subst hm
    have hn : news = [] := List.eq_nil_of_length_eq_zero (by simpa using hl)
    subst hn
    refine ⟨A, c, w, ?_, by simpa using hS⟩
    rcases A2 with _ | a2
    · rcases hown.2 with ⟨h0, h00⟩ | ⟨g, cap, cur, he, _, _, hnc, _⟩
      · injection h0 with ha hn0 hc0
        subst ha; subst hc0; subst hn0
        simp [Builtin.append_, run_underlying ht, sizeOf, typeInfo, hi, Builtin.lenOf, Builtin.firstCells]
      · injection he with ha hn0 hc0
        subst ha; subst hc0
        simp [Builtin.append_, run_underlying ht, sizeOf, typeInfo, hi, Builtin.lenOf, Builtin.firstCells, hnc, storeCells]
    · have hload : (loadCells a2 0).run P w = .ok #[] w := by simpa using run_loadCells_list (P := P) w a2 [] (by simp)
      rcases hown.2 with ⟨h0, h00⟩ | ⟨g, cap, cur, he, _, _, hnc, _⟩
      · injection h0 with ha hn0 hc0
        subst ha; subst hc0; subst hn0
        simp [Builtin.append_, run_underlying ht, sizeOf, typeInfo, hi, Builtin.lenOf, Builtin.firstCells, hload]
      · injection he with ha hn0 hc0
        subst ha; subst hc0
        simp [Builtin.append_, run_underlying ht, sizeOf, typeInfo, hi, Builtin.lenOf, Builtin.firstCells, hnc, storeCells, hload]
  · have hne : news ≠ [] := by
      intro h0
      rw [h0, List.length_nil] at hl
      have := Nat.mul_pos (Nat.pos_of_ne_zero hm) hsz
      omega
    obtain ⟨ad, rfl, hc⟩ := hr hne
    obtain ⟨v', w', hrun, hown', hg, _, hat⟩ := run_append_own_at (P := P) w 0 t ty e i z size bytes ht hi hi2 hi1 hi3 hzs hsz _ n cs hown ad m c2 news hl hc h1 h63 hb (Nat.zero_le _)
    obtain ⟨A', c', hv'⟩ : ∃ A' c', v' = .slice A' (n + m) c' := by
      rcases hown'.2 with ⟨h0, h00⟩ | ⟨g, cap, cur, he, _⟩
      · exact ⟨none, 0, by rw [h0, h00]⟩
      · exact ⟨_, _, he⟩
    subst hv'
    refine ⟨A', c', w', hrun, hS.upd hg.os hg.tape hg.output hg.size fun S ⟨hs1, hs2⟩ => ?_⟩
    refine ⟨fun k => ∃ x, A' = some x ∧ x.block = k, ⟨fun x hx => ⟨x, hx, rfl⟩, hown'⟩, ?_, fun k hk hns => hg.block k hk fun e => hns ?_⟩
    · rintro k ⟨x, rfl, rfl⟩
      rcases hat with hat | hat
      · left
        rcases A with _ | x0
        · simp [Value.ownBlock] at hat
        · have : x.block = x0.block := by simpa [Value.ownBlock] using hat
          rw [this]
          exact hs1 x0 rfl
      · right
        have hb' : x.block = w.heap.size := by simpa [Value.ownBlock] using hat
        refine ⟨by omega, ?_⟩
        exact (hown'.lt x.block (by simp [Value.ownBlock])).2
    · rcases A with _ | x0
      · simp [Value.ownBlock] at e
      · have : k = x0.block := by simpa [Value.ownBlock] using e
        rw [this]
        exact hs1 x0 rfl
end

section
variable {P : Program} {ops : Array Oper} {Q : Exit → Act → World → Prop} {rest : List Oper} {n d : Nat} {L : List (Nat × Value)} {a : Act} {w w0 : World} {H : List HP}
variable {ty : TypeId} {ps : String} {af : Array Edge} {x y : Operand}

/-- append(v, xs...) -/
theorem s_append {t e size bytes k c m c2 : Nat} {z : Value} {A A2 : Option Addr} {cs news : List Value} [TyU P t (.slice e)] [TyI P e size z bytes] (hE : Env n L a) (hS : St w0 w (hRow e size A k c cs :: H))
    (hx : ev L x = some (.slice A k c)) (hy : ev L y = some (.slice A2 m c2)) (hr : Rd w A2 news) (hl : news.length = m * size) (h1 : ∀ u ∈ news, u.oneCell' = true) (hb : (k + m) * bytes ≤ 140737488355328)
    (hzs : z.cells.size = size) (hsz : Nat.blt 0 size = true) (hby : Nat.blt 0 bytes = true) (hd : Nat.blt d n = true)
    (K : ∀ A' c' a' w', Env n ((d, .slice A' (k + m) c') :: L) a' → St w0 w' (hRow e size A' (k + m) c' (cs ++ news) :: H) → wpList P ops Q rest a' w') :
    wpList P ops Q (⟨some d, .call ⟨.builtin .append, #[x, y], #[t, t]⟩, ty, ps, af, none⟩ :: rest) a w := by
  obtain ⟨A', c', w', hrun, hS'⟩ := hS.appendRun (P := P) (t := t) (ty := ty) (c2 := c2) (z := z) (bytes := bytes) hzs (by simpa [Nat.blt_eq] using hsz) (by simpa [Nat.blt_eq] using hby) hr hl h1 hb
  exact s_val (v := .slice A' (k + m) c') (w' := w') hE rfl rfl hd (by simp [execOp, resolve, invoke, builtin, hE.eval hx, hE.eval hy, hrun]) fun a' hE' => K _ _ _ _ hE' hS'


/-- the parts of a literal, one behind the other -/
def enumV : Nat → List Value → List (Nat × Value)
  | _, [] => []
  | k, v :: vs => (k, v) :: enumV (k + 1) vs

theorem fill_enum : ∀ (vs : List Value) (k : Nat) (cur : List Value), cur.length = k + vs.length → (∀ v ∈ vs, v.oneCell' = true) →
    Instr.fill (fun i => some (i * 1, 1)) cur.toArray (enumV k vs) = some (cur.take k ++ vs).toArray
  | [], k, cur, hl, _ => by
    have : cur.take k = cur := List.take_of_length_le (by simp at hl; omega)
    simp [enumV, Instr.fill, this]
  | v :: vs, k, cur, hl, h1 => by
    have hc : v.cells = #[v] := by
      have := h1 v (by simp)
      cases v <;> first | rfl | simp [Value.oneCell'] at this
    have hlt : k < cur.length := by simp at hl; omega
    have ih := fill_enum vs (k + 1) (cur.set k v) (by simp at hl ⊢; omega) (fun u hu => h1 u (by simp [hu]))
    have hn : ¬ (cur.toArray.size < k + 1) := by simp; omega
    simp only [enumV, Instr.fill, hc, Nat.mul_one, List.size_toArray, List.length_cons, List.length_nil, Nat.zero_add, ne_eq, not_true_eq_false, decide_false, Bool.false_or, Array.zipIdx]
    rw [if_neg (by simp; omega)]
    have hz : (#[v].mapIdx fun i a => (a, i)).foldl (fun cs (x : Value × Nat) => cs.setIfInBounds (k + x.2) x.1) cur.toArray = (cur.set k v).toArray := by simp
    simp only [Nat.mul_one] at ih
    rw [hz, ih]
    have hseg := list_seg_step cur k v vs (by simp at hl; omega)
    have d1 : (cur.set k v).drop (k + 1 + vs.length) = [] := List.drop_eq_nil_of_le (by simp at hl ⊢; omega)
    have d2 : cur.drop (k + (vs.length + 1)) = [] := List.drop_eq_nil_of_le (by simp at hl; omega)
    rw [d1, d2, List.append_nil, List.append_nil] at hseg
    rw [hseg]

theorem run_build1 {t e len b : Nat} {z : Value} [TyU P t (.slice e)] [TyI P e 1 z b] (hz : z.cells.size = 1) (hlen : len ≤ 16777216) (vs : List Value) (hl : vs.length = len) (h1 : ∀ v ∈ vs, v.oneCell' = true) :
    (Instr.buildSlice t len (enumV 0 vs).toArray).run P w = .ok (.slice (some ⟨w.heap.size, 0, none⟩) len len) (w.alloc (.cells vs.toArray e)) := by
  have hf := fill_enum vs 0 ((Array.range (len * 1)).map (z.cells[· % z.cells.size]!)).toList (by simp [hl]) h1
  simp only [List.take_zero, List.nil_append, Array.toArray_toList] at hf
  by_cases h0 : len = 0
  · have hv : vs = [] := List.eq_nil_of_length_eq_zero (by omega)
    subst hv
    subst h0
    simp [Instr.buildSlice, run_under (d := .slice e), run_size (size := 1) (zero := z) (bytes := b), newRow, enumV, Instr.fill]
    have e0 : Array.range 0 = #[] := Array.eq_empty_of_size_eq_zero (by simp)
    rw [e0, List.map_toArray]
    rfl
  · have hg : ¬ 16777216 < len * 1 := by omega
    have hg2 : ¬ len * 1 = 0 := by omega
    have e24 : (2 : Nat) ^ 24 = 16777216 := rfl
    simp only [Instr.buildSlice, Sem.run_bind, run_under (d := .slice e), run_size (size := 1) (zero := z) (bytes := b), Result.andThen_ok, e24, Sem.run_ite, if_neg hg, if_neg hg2, gt_iff_lt, Sem.run_pure, run_zero (size := 1) (zero := z) (bytes := b), hf, newRow, run_newObj]
    rfl

/-- a slice literal of one-cell elements -/
theorem s_lit {t e len b : Nat} {z : Value} {parts : List (Nat × Operand)} {cs : List Value} [TyU P t (.slice e)] [TyI P e 1 z b] (hE : Env n L a) (hS : St w0 w H) (hz : z.cells.size = 1) (hlen : Nat.ble len 16777216 = true)
    (hi : parts.map (·.1) = (enumV 0 cs).map (·.1)) (hv : evs L (parts.map (·.2)) = some cs) (hcl : cs.length = len) (h1 : ∀ v ∈ cs, v.oneCell' = true) (hd : Nat.blt d n = true)
    (K : ∀ g a' w', Env n ((d, .slice (some ⟨g, 0, none⟩) len len) :: L) a' → St w0 w' (hRow e 1 (some ⟨g, 0, none⟩) len len cs :: H) → wpList P ops Q rest a' w') :
    wpList P ops Q (⟨some d, .buildSlice t len parts.toArray, ty, ps, af, none⟩ :: rest) a w := by
  have hlen' : len ≤ 16777216 := Nat.le_of_ble_eq_true hlen
  have hrun := run_build1 (P := P) (w := w) (t := t) (e := e) (b := b) (z := z) hz hlen' cs hcl h1
  refine s_val (v := .slice (some ⟨w.heap.size, 0, none⟩) len len) (w' := w.alloc (.cells cs.toArray e)) hE rfl rfl hd ?_ fun a' hE' => K _ _ _ hE' ((hS.alloc cs e).blkRow 1 len (by simpa using hcl) (Nat.le_trans hlen' (by decide)))
  have hv2 := hE.evals hv
  have key : ∀ (ps : List (Nat × Operand)) (k : Nat) (cs : List Value), ps.map (·.1) = (enumV k cs).map (·.1) → (ps.map (·.2)).map a.eval = cs → ps.map (fun p => (p.1, a.eval p.2)) = enumV k cs := by
    intro ps
    induction ps with
    | nil =>
      intro k cs h1 h2
      cases cs with
      | nil => rfl
      | cons v vs => simp at h2
    | cons q qs ih =>
      intro k cs h1 h2
      cases cs with
      | nil => simp at h2
      | cons v vs =>
        simp only [enumV, List.map_cons, List.cons.injEq] at h1 h2 ⊢
        exact ⟨by rw [h1.1, h2.1], ih _ _ h1.2 h2.2⟩
  have hv' : (parts.map fun p => (p.1, a.eval p.2)).toArray = (enumV 0 cs).toArray := by rw [key parts 0 cs hi hv2]
  simp only [execOp, List.map_toArray, hv', Sem.run_bind, hrun, Result.andThen_ok, Sem.run_pure]

/-- append(v, x): one element of one cell -/
theorem s_append1 {t e bytes k c d2 : Nat} {z v : Value} {A : Option Addr} {cs : List Value} {s : Operand} {ty2 : TypeId} {ps2 : String} {af2 : Array Edge} [TyU P t (.slice e)] [TyI P e 1 z bytes] (hE : Env n L a) (hS : St w0 w (hRow e 1 A k c cs :: H))
    (hs : ev L s = some (.slice A k c)) (hx : ev L x = some v) (hne : ∀ t, s = .tmp t → Nat.beq d2 t = false) (h1 : v.oneCell' = true) (hb : (k + 1) * bytes ≤ 140737488355328)
    (hzs : z.cells.size = 1) (hby : Nat.blt 0 bytes = true) (hd2 : Nat.blt d2 n = true) (hd : Nat.blt d n = true)
    (K : ∀ A' c' u a' w', Env n ((d, .slice A' (k + 1) c') :: (d2, u) :: L) a' → St w0 w' (hRow e 1 A' (k + 1) c' (cs ++ [v]) :: H) → wpList P ops Q rest a' w') :
    wpList P ops Q (⟨some d2, .buildSlice t 1 #[(0, x)], ty2, ps2, af2, none⟩ :: ⟨some d, .call ⟨.builtin .append, #[s, .tmp d2], #[t, t]⟩, ty, ps, af, none⟩ :: rest) a w := by
  refine s_lit (z := z) (b := bytes) (parts := [(0, x)]) (cs := [v]) hE hS hzs rfl rfl (by simp [evs, hx]) rfl (by simpa using h1) hd2 fun g a' w' hE' hS' => ?_
  · have hs' : ev ((d2, .slice (some ⟨g, 0, none⟩) 1 1) :: L) s = some (.slice A k c) := by
      cases s with
      | tmp t => simp only [ev, find, hne t rfl, cond_false]; exact hs
      | const v => exact hs
      | func f => exact hs
      | global g => exact hs
    refine s_append (size := 1) (m := 1) (c2 := 1) (news := [v]) (z := z) (bytes := bytes) hE' hS'.p1 hs' (by simp [ev, find]) hS'.rd rfl (by simpa using h1) hb hzs rfl hby hd fun A' c' a2 w2 hE2 hS2 => K A' c' _ a2 w2 hE2 hS2.drop1

theorem s_eqnil {t e : TypeId} {A : Option Addr} {m c m2 c2 : Nat} {yt : TypeId} [TyU P t (.slice e)] (hE : Env n L a) (hx : ev L x = some (.slice A m c)) (hy : ev L y = some (.slice none m2 c2)) (hd : Nat.blt d n = true) (K : ∀ a', Env n ((d, .bool A.isNone) :: L) a' → wpList P ops Q rest a' w) :
    wpList P ops Q (⟨some d, .binOp .eql t x y yt, ty, ps, af, none⟩ :: rest) a w := by
  refine s_val (v := .bool A.isNone) (w' := w) hE rfl rfl hd ?_ K
  have hg : (eqGuard .eql t x y (.slice A m c) (.slice none m2 c2)).run P w = .ok () w := rfl
  have h1 := Lib.run_eql_slice_nil (P := P) w t e A m c m2 c2 TyU.out
  simp only [execOp, hE.eval hx, hE.eval hy, Sem.run_bind, hg, Result.andThen_ok, h1, Sem.run_pure]

theorem made1 (z : Value) (n : Nat) : (madeCells #[z] n).toList = List.replicate n z := by
  apply List.ext_getElem
  · simp [madeCells]
  · intro i h1 h2
    simp [madeCells, Nat.mod_one]

/-- make([]T, n, c) -/
theorem s_make {t e size b : Nat} {m c : Int} {z : Value} {k k2 : IntKind} [TyU P t (.slice e)] [TyI P e size z b] (hE : Env n L a) (hS : St w0 w H) (hx : ev L x = some (.int k m)) (hy : ev L y = some (.int k2 c)) (h0 : 0 ≤ m) (hmc : m ≤ c) (hb : (b : Int) * c ≤ 281474976710656) (h63 : c ≤ 9223372036854775807) (hd : Nat.blt d n = true)
    (K : ∀ g a' w', Env n ((d, .slice (some ⟨g, 0, none⟩) m.toNat c.toNat) :: L) a' → St w0 w' (hRow e size (some ⟨g, 0, none⟩) m.toNat c.toNat ((madeCells z.cells (c.toNat * size)).toList.take (m.toNat * size)) :: H) → wpList P ops Q rest a' w') :
    wpList P ops Q (⟨some d, .makeSlice t x y, ty, ps, af, none⟩ :: rest) a w := by
  obtain ⟨i, hi, hi1, hi2, hi3⟩ := TyI.info (P := P) (t := e) (size := size) (zero := z) (bytes := b)
  have hr := run_make (P := P) w t e i z TyU.out hi hi2 k k2 m c h0 hmc (by rw [hi3]; exact hb) h63
  rw [hi1] at hr
  have hS' := hS.alloc (madeCells z.cells (c.toNat * size)).toList e
  rw [Array.toArray_toList] at hS'
  refine s_val (v := .slice (some ⟨w.heap.size, 0, none⟩) m.toNat c.toNat) (w' := _) hE rfl rfl hd (by simp only [execOp, hE.eval hx, hE.eval hy, Sem.run_bind, hr, Result.andThen_ok, Sem.run_pure]) fun a' hE' => K _ _ _ hE' (hS'.conv ?_)
  intro S hs
  have hsz : (madeCells z.cells (c.toNat * size)).size = c.toNat * size := by simp [madeCells]
  have hle : m.toNat ≤ c.toNat := by omega
  refine ⟨fun ad h => by injection h with h; subst h; exact hs.1, ?_, .inr ⟨w.heap.size, c.toNat, madeCells z.cells (c.toNat * size), rfl, Nat.zero_le _, by simpa using hs.2, hle, ?_, hsz, rfl⟩⟩
  · rw [List.length_take, Array.length_toList, hsz]
    exact Nat.min_eq_left (Nat.mul_le_mul_right _ hle)
  · simp only [maxLen]; omega
end

/-! ## Gates: which step stands next (tried with reducible transparency) -/
section
variable {P : Program} {ops : Array Oper} {Q : Exit → Act → World → Prop} {rest : List Oper} {d : Nat} {dd : Option Nat} {a : Act} {w : World}
variable {ty xt yt : TypeId} {ps : String} {af : Array Edge} {x y z : Operand} {gd : Nat × Bool} {i : Nat}
theorem g_move (h : wpList P ops Q (⟨some d, .move x, ty, ps, af, none⟩ :: rest) a w) : wpList P ops Q (⟨some d, .move x, ty, ps, af, none⟩ :: rest) a w := h
theorem g_assign (h : wpList P ops Q (⟨some d, .assign x, ty, ps, af, none⟩ :: rest) a w) : wpList P ops Q (⟨some d, .assign x, ty, ps, af, none⟩ :: rest) a w := h
theorem g_bin (op : BinOp) (h : wpList P ops Q (⟨some d, .binOp op xt x y yt, ty, ps, af, none⟩ :: rest) a w) : wpList P ops Q (⟨some d, .binOp op xt x y yt, ty, ps, af, none⟩ :: rest) a w := h
theorem g_un (op : UnOp) (h : wpList P ops Q (⟨some d, .unOp op xt x, ty, ps, af, none⟩ :: rest) a w) : wpList P ops Q (⟨some d, .unOp op xt x, ty, ps, af, none⟩ :: rest) a w := h
theorem g_conv (h : wpList P ops Q (⟨some d, .convert xt yt x, ty, ps, af, none⟩ :: rest) a w) : wpList P ops Q (⟨some d, .convert xt yt x, ty, ps, af, none⟩ :: rest) a w := h
theorem g_blt (b : Builtin) {xs : Array Operand} {ts : Array TypeId} (h : wpList P ops Q (⟨some d, .call ⟨.builtin b, xs, ts⟩, ty, ps, af, none⟩ :: rest) a w) : wpList P ops Q (⟨some d, .call ⟨.builtin b, xs, ts⟩, ty, ps, af, none⟩ :: rest) a w := h
theorem g_extract (h : wpList P ops Q (⟨some d, .extract x i, ty, ps, af, none⟩ :: rest) a w) : wpList P ops Q (⟨some d, .extract x i, ty, ps, af, none⟩ :: rest) a w := h
theorem g_fa (h : wpList P ops Q (⟨some d, .fieldAddr xt x i, ty, ps, af, none⟩ :: rest) a w) : wpList P ops Q (⟨some d, .fieldAddr xt x i, ty, ps, af, none⟩ :: rest) a w := h
theorem g_nc (h : wpList P ops Q (⟨some d, .nilCheck x, ty, ps, af, none⟩ :: rest) a w) : wpList P ops Q (⟨some d, .nilCheck x, ty, ps, af, none⟩ :: rest) a w := h
theorem g_cond {c1 c2 : Code} (h : (Code.cond x c1 c2).wp P Q a w) : (Code.cond x c1 c2).wp P Q a w := h
end
end Go.Proofs.Ytfoeelghehjanaa

/-
  A statement whose order is open: each operation comes to one value whatever the order; so the frame behind it is known.
-/
namespace Go.Proofs.Ytfoeelghehjanaa
open Go.RowKit
set_option linter.unusedVariables false
set_option linter.unusedSimpArgs false

/-- What one operation is to leave. -/
def One (d : Nat) (v : Value) (J : World → Prop) : Exit → Act → World → Prop := fun e a w => e = .normal ∧ a.defers = [] ∧ a.tmps[d]? = some v ∧ J w

theorem one_ok {n d : Nat} {L : List (Nat × Value)} {a : Act} {w : World} {v : Value} {J : World → Prop} (hE : Env n L a) (h : find L d = some v) (hJ : J w) : One d v J .normal a w := ⟨rfl, hE.defers, hE.has d v h, hJ⟩

def zipE : List Oper → List Value → List (Nat × Value)
  | o :: os, v :: vs => (o.dst.getD 0, v) :: zipE os vs
  | _, _ => []

def AllOk (P : Program) (n : Nat) (Lf : List (Nat × Value)) (J : World → Prop) (ops : Array Oper) : List Oper → List Value → Prop
  | [], [] => True
  | o :: os, v :: vs => (∀ a w, Env n Lf a → J w → wpList P ops (One (o.dst.getD 0) v J) [o] a w) ∧ AllOk P n Lf J ops os vs
  | _, _ => False

def dstsL (l : List Oper) : List Nat := l.map (fun o => o.dst.getD 0)
def isSel : Op → Bool
  | .select _ _ => true
  | _ => false
/-- the slots that an operation looks at -/
def seesL (l : List Oper) (o : Oper) : List Nat :=
  (o.op.operands.toList.filterMap fun | .tmp t => some t | _ => none) ++ (match o.guard with | some (g, _) => [((l[g]?).map (fun o => o.dst.getD 0)).getD 0] | none => [])
def depsL (l : List Oper) (o : Oper) : List Nat := o.after.toList.filterMap fun e => if Region.binds .any e then (l[e.on]?).map (fun o => o.dst.getD 0) else none
def opFine (l : List Oper) (n i : Nat) (o : Oper) : Bool :=
  (match o.dst with | some d => Nat.blt d n | none => false) && !isSel o.op && (o.after.toList.all fun e => !Region.binds .any e || Nat.blt e.on i) &&
  (match o.guard with | some (g, _) => Nat.blt g l.length | none => true) &&
  (seesL l o).all fun t => !(dstsL l).elem t || (depsL l o).elem t
def allFine (l : List Oper) (n : Nat) : Nat → List Oper → Bool
  | _, [] => true
  | i, o :: os => opFine l n i o && allFine l n (i + 1) os
def nodupB : List Nat → Bool
  | [] => true
  | x :: xs => !xs.elem x && nodupB xs
def baseFine (l : List Oper) (L : List (Nat × Value)) : Bool := l.all fun o => (seesL l o).all fun t => (dstsL l).elem t || (find L t).isSome

theorem nodup_of : ∀ {l : List Nat}, nodupB l = true → l.Nodup
  | [], _ => List.nodup_nil
  | x :: xs, h => by
    simp only [nodupB, Bool.and_eq_true, Bool.not_eq_true', List.elem_eq_mem, decide_eq_false_iff_not] at h
    exact List.nodup_cons.2 ⟨h.1, nodup_of h.2⟩

theorem allFine_at (l : List Oper) (n : Nat) : ∀ (os : List Oper) (i j : Nat) (o : Oper), allFine l n i os = true → os[j]? = some o → opFine l n (i + j) o = true
  | [], _, _, _, _, h => by simp at h
  | p :: os, i, 0, o, h, hj => by
    simp only [allFine, Bool.and_eq_true] at h
    simp at hj
    subst hj
    exact h.1
  | p :: os, i, j + 1, o, h, hj => by
    simp only [allFine, Bool.and_eq_true] at h
    have := allFine_at l n os (i + 1) j o h.2 (by simpa using hj)
    rwa [show i + 1 + j = i + (j + 1) from by omega] at this

theorem AllOk.length {P : Program} {n : Nat} {Lf : List (Nat × Value)} {J : World → Prop} {ops : Array Oper} : ∀ {l : List Oper} {V : List Value}, AllOk P n Lf J ops l V → V.length = l.length
  | [], [], _ => rfl
  | _ :: os, _ :: vs, h => by simp [AllOk.length h.2]
  | [], _ :: _, h => h.elim
  | _ :: _, [], h => h.elim
theorem AllOk.at_ {P : Program} {n : Nat} {Lf : List (Nat × Value)} {J : World → Prop} {ops : Array Oper} : ∀ {l : List Oper} {V : List Value} {i : Nat} {o : Oper} {v : Value}, AllOk P n Lf J ops l V → l[i]? = some o → V[i]? = some v →
    ∀ a w, Env n Lf a → J w → wpList P ops (One (o.dst.getD 0) v J) [o] a w
  | [], [], _, _, _, _, h, _ => by simp at h
  | _ :: os, _ :: vs, 0, o, v, h, ho, hv => by
    simp at ho hv
    subst ho hv
    exact h.1
  | _ :: os, _ :: vs, i + 1, o, v, h, ho, hv => AllOk.at_ h.2 (by simpa using ho) (by simpa using hv)
  | [], _ :: _, _, _, _, h, _, _ => h.elim
  | _ :: _, [], _, _, _, h, _, _ => h.elim

theorem find_append (L' : List (Nat × Value)) : ∀ (L : List (Nat × Value)) (t : Nat), find (L ++ L') t = (find L t).or (find L' t)
  | [], t => by simp [find]
  | (s, v) :: L, t => by
    simp only [List.cons_append, find]
    cases Nat.beq s t with
    | true => simp
    | false => simpa using find_append L' L t
theorem find_zipE_none : ∀ (l : List Oper) (V : List Value) (t : Nat), t ∉ dstsL l → find (zipE l V) t = none
  | [], _, _, _ => by simp [zipE, find]
  | _ :: _, [], _, _ => by simp [zipE, find]
  | o :: os, v :: vs, t, h => by
    simp only [dstsL, List.map_cons, List.mem_cons, not_or] at h
    simp only [zipE, find]
    have hb : Nat.beq (o.dst.getD 0) t = false := by
      cases hb : Nat.beq (o.dst.getD 0) t with
      | false => rfl
      | true => exact absurd (Nat.eq_of_beq_eq_true hb).symm h.1
    rw [hb]
    exact find_zipE_none os vs t h.2
theorem find_zipE_at : ∀ (l : List Oper) (V : List Value) (i : Nat) (o : Oper) (v : Value), (dstsL l).Nodup → l[i]? = some o → V[i]? = some v → find (zipE l V) (o.dst.getD 0) = some v
  | [], _, _, _, _, _, h, _ => by simp at h
  | _ :: _, [], _, _, _, _, _, h => by simp at h
  | p :: os, u :: vs, 0, o, v, hn, ho, hv => by
    simp at ho hv
    subst ho hv
    have : Nat.beq (p.dst.getD 0) (p.dst.getD 0) = true := Nat.beq_refl _
    simp only [zipE, find, this, cond_true]
  | p :: os, u :: vs, i + 1, o, v, hn, ho, hv => by
    simp only [dstsL, List.map_cons, List.nodup_cons] at hn
    have ho' : os[i]? = some o := by simpa using ho
    have hb : Nat.beq (p.dst.getD 0) (o.dst.getD 0) = false := by
      cases hb : Nat.beq (p.dst.getD 0) (o.dst.getD 0) with
      | false => rfl
      | true =>
        have e := Nat.eq_of_beq_eq_true hb
        exact absurd (List.mem_map.2 ⟨o, List.mem_of_getElem? ho', e.symm⟩) hn.1
    simp only [zipE, find, hb, cond_false]
    exact find_zipE_at os vs i o v hn.2 ho' (by simpa using hv)

/-- a frame that holds what a list says -/
def frameOf (n : Nat) (Lf : List (Nat × Value)) : Act := { tmps := (Array.range n).map (fun t => (find Lf t).getD undef), defers := [] }
theorem env_frameOf (n : Nat) (Lf : List (Nat × Value)) (h : ∀ t v, find Lf t = some v → t < n) : Env n Lf (frameOf n Lf) := by
  refine ⟨by simp [frameOf], rfl, fun t v hf => ?_⟩
  have := h t v hf
  simp [frameOf, this, hf]

theorem getD_set_true (l : Array Bool) (i j : Nat) (hj : j < l.size) : (l.setIfInBounds i true).getD j true = (if i = j then true else l.getD j true) := by
  simp only [Array.getD_eq_getD_getElem?, Array.getElem?_setIfInBounds]
  split
  · rename_i h; subst h; simp [hj]
  · rfl

section
variable {P : Program} {Q : Exit → Act → World → Prop} {n : Nat} {L : List (Nat × Value)}

theorem c_draw {id : Nat} {l : List Oper} {a : Act} {w : World} (V : List Value) (J : World → Prop) (hm : P.follows .mixedOrders = true) (hE : Env n L a) (hJ : J { w with drawn := w.drawn + 1 })
    (hf : allFine l n 0 l = true) (hnd : nodupB (dstsL l) = true) (hb : baseFine l L = true)
    (hok : AllOk P n (zipE l V ++ L) J l.toArray l V) (k : ∀ a w, Env n (zipE l V ++ L) a → J w → Q .normal a w) : (Code.region id l.toArray true).wp P Q a w := by
  have hnd' := nodup_of hnd
  have hVl := hok.length
  have hopF : ∀ (i : Nat) (o : Oper), l[i]? = some o → opFine l n i o = true := fun i o h => by simpa using allFine_at l n l 0 i o hf h
  have hdst : ∀ (i : Nat) (o : Oper), l[i]? = some o → ∃ d, o.dst = some d ∧ d < n := by
    intro i o h
    have := hopF i o h
    simp only [opFine, Bool.and_eq_true] at this
    cases hd : o.dst with
    | none => rw [hd] at this; simp at this
    | some d => exact ⟨d, rfl, by have := this.1.1.1.1; rw [hd] at this; simpa [Nat.blt_eq] using this⟩
  have hkeys : ∀ t v, find (zipE l V ++ L) t = some v → t < n := by
    intro t v h
    rw [find_append] at h
    by_cases ht : t ∈ dstsL l
    · obtain ⟨o, ho, rfl⟩ := List.mem_map.1 ht
      obtain ⟨i, hi⟩ := List.getElem?_of_mem ho
      obtain ⟨d, hd, hlt⟩ := hdst i o hi
      simpa [hd] using hlt
    · rw [find_zipE_none l V t ht] at h
      have h1 := hE.has t v (by simpa using h)
      have := (Array.getElem?_eq_some_iff.1 h1).1
      rw [hE.size] at this
      exact this
  have hA := env_frameOf n _ hkeys
  refine wp_region_any hm ?_
  have key : ∀ (fuel : Nat) (listed : Array Bool) (a' : Act) (w' : World), listed.size = l.length → a'.tmps.size = n → a'.defers = [] →
      (∀ t v, find L t = some v → t ∉ dstsL l → a'.tmps[t]? = some v) → (∀ (i : Nat) (o : Oper) (v : Value), l[i]? = some o → V[i]? = some v → listed.getD i true = true → a'.tmps[o.dst.getD 0]? = some v) →
      J w' → (listed.toList.filter (fun b => !b)).length ≤ fuel → wpAny P .any l.toArray Q fuel listed a' w' := by
    intro fuel
    induction fuel with
    | zero =>
      intro listed a' w' hs hsz hdf h1 h2 hJ' hfu
      have hall : ∀ i, i < l.length → listed.getD i true = true := by
        intro i hi
        cases hb2 : listed.getD i true with
        | true => rfl
        | false =>
          have hi' : i < listed.size := by omega
          have hmem : listed[i] ∈ listed.toList.filter (fun b => !b) := by
            refine List.mem_filter.2 ⟨by simp, ?_⟩
            simpa [Array.getD, hi'] using hb2
          have := List.length_pos_of_mem hmem
          omega
      refine ⟨?_, k _ _ ⟨hsz, hdf, fun t v hv => ?_⟩ hJ'⟩
      · simp only [Region.ready, List.filter_eq_nil_iff, List.mem_range, List.size_toArray]
        intro i hi
        simp [hall i hi]
      · rw [find_append] at hv
        by_cases ht : t ∈ dstsL l
        · obtain ⟨o, ho, rfl⟩ := List.mem_map.1 ht
          obtain ⟨i, hi⟩ := List.getElem?_of_mem ho
          have hil : i < l.length := (List.getElem?_eq_some_iff.1 hi).1
          have hVi : V[i]? = some (V[i]'(by omega)) := List.getElem?_eq_getElem (by omega)
          rw [find_zipE_at l V i o _ hnd' hi hVi] at hv
          simp at hv
          rw [h2 i o _ hi hVi (hall i hil), hv]
        · rw [find_zipE_none l V t ht] at hv
          exact h1 t v (by simpa using hv) ht
    | succ fuel ih =>
      intro listed a' w' hs hsz hdf h1 h2 hJ' hfu
      refine ⟨fun hr => ?_, fun i hi => ?_⟩
      · have hall : ∀ i, i < l.length → listed.getD i true = true := by
          intro i
          induction i using Nat.strongRecOn with
          | _ i ihi =>
            intro hi
            cases hb2 : listed.getD i true with
            | true => rfl
            | false =>
              have hmem : i ∈ Region.ready .any l.toArray listed := by
                refine List.mem_filter.2 ⟨by simpa using hi, ?_⟩
                have ho : l[i]? = some l[i] := List.getElem?_eq_getElem hi
                have hF := hopF i _ ho
                simp only [opFine, Bool.and_eq_true] at hF
                have hedge := hF.1.1.2
                simp only [hb2, Bool.not_false, Bool.true_and, List.getElem?_toArray, ho, Option.map_some, Option.getD_some]
                rw [Array.all_eq_true']
                intro e he
                have := List.all_eq_true.1 hedge e (by simpa using he)
                simp only [Bool.or_eq_true, Bool.not_eq_true'] at this ⊢
                rcases this with h | h
                · exact .inl h
                · right
                  have hlt : e.on < i := by simpa [Nat.blt_eq] using h
                  have := ihi e.on hlt (by omega)
                  have hlt2 : e.on < listed.size := by omega
                  simpa [Array.getD, hlt2] using this
              rw [hr] at hmem
              cases hmem
        refine k _ _ ⟨hsz, hdf, fun t v hv => ?_⟩ hJ'
        rw [find_append] at hv
        by_cases ht : t ∈ dstsL l
        · obtain ⟨o, ho, rfl⟩ := List.mem_map.1 ht
          obtain ⟨i, hi⟩ := List.getElem?_of_mem ho
          have hil : i < l.length := (List.getElem?_eq_some_iff.1 hi).1
          have hVi : V[i]? = some (V[i]'(by omega)) := List.getElem?_eq_getElem (by omega)
          rw [find_zipE_at l V i o _ hnd' hi hVi] at hv
          simp at hv
          rw [h2 i o _ hi hVi (hall i hil), hv]
        · rw [find_zipE_none l V t ht] at hv
          exact h1 t v (by simpa using hv) ht
      · obtain ⟨hir, hrd⟩ := List.mem_filter.1 hi
        have hil : i < l.length := by simpa using hir
        have ho : l[i]? = some l[i] := List.getElem?_eq_getElem hil
        have hVi : V[i]? = some (V[i]'(by omega)) := List.getElem?_eq_getElem (by omega)
        generalize l[i] = o at ho
        generalize V[i] = v at hVi
        simp only [Bool.and_eq_true, Bool.not_eq_true', List.getElem?_toArray, ho, Option.map_some, Option.getD_some] at hrd
        obtain ⟨hnl, hdeps⟩ := hrd
        obtain ⟨d, hd, hdn⟩ := hdst i o ho
        have hF := hopF i o ho
        simp only [opFine, Bool.and_eq_true] at hF
        obtain ⟨⟨⟨⟨_, hsel⟩, _⟩, hgl⟩, hsees⟩ := hF
        have hsel' : ∀ cs b, o.op ≠ .select cs b := by
          intro cs b e
          rw [e] at hsel
          simp [isSel] at hsel
        -- what it looks at is there
        have hlook : ∀ t, t ∈ seesL l o → a'.tmps[t]? = (frameOf n (zipE l V ++ L)).tmps[t]? := by
          intro t ht
          have hbase := List.all_eq_true.1 (List.all_eq_true.1 hb o (List.mem_of_getElem? ho)) t ht
          have hs2 := List.all_eq_true.1 hsees t ht
          by_cases htd : t ∈ dstsL l
          · have hdep : t ∈ depsL l o := by
              simp only [Bool.or_eq_true, Bool.not_eq_true', List.elem_eq_mem, decide_eq_true_eq, decide_eq_false_iff_not] at hs2
              rcases hs2 with h | h
              · exact absurd htd h
              · exact h
            obtain ⟨e, he, het⟩ := List.mem_filterMap.1 hdep
            split at het
            · rename_i hbd
              obtain ⟨oj, hoj, rfl⟩ := Option.map_eq_some_iff.1 het
              have hjl : e.on < l.length := (List.getElem?_eq_some_iff.1 hoj).1
              have hlst : listed.getD e.on true = true := by
                have := (Array.all_eq_true'.1 hdeps) e (by simpa using he)
                simp only [hbd, Bool.not_true, Bool.false_or] at this
                have hlt2 : e.on < listed.size := by omega
                simpa [Array.getD, hlt2] using this
              have hVj : V[e.on]? = some (V[e.on]'(by omega)) := List.getElem?_eq_getElem (by omega)
              rw [h2 e.on oj _ hoj hVj hlst]
              have hfz := find_zipE_at l V e.on oj _ hnd' hoj hVj
              rw [hA.has (oj.dst.getD 0) _ (by rw [find_append, hfz]; rfl)]
            · cases het
          · have hsome : (find L t).isSome = true := by
              simp only [Bool.or_eq_true, List.elem_eq_mem, decide_eq_true_eq] at hbase
              rcases hbase with h | h
              · exact absurd h htd
              · exact h
            obtain ⟨u, hu⟩ := Option.isSome_iff_exists.1 hsome
            rw [h1 t u hu htd, hA.has t u (by rw [find_append, find_zipE_none l V t htd, hu]; rfl)]
        have heval : ∀ x ∈ o.op.operands, a'.eval x = (frameOf n (zipE l V ++ L)).eval x := by
          intro x hx
          cases x with
          | tmp t =>
            have := hlook t (List.mem_append_left _ (List.mem_filterMap.2 ⟨.tmp t, by simpa using hx, rfl⟩))
            simp only [Act.eval, Array.getD_eq_getD_getElem?, this]
          | const u => rfl
          | global g => rfl
          | func f => rfl
        have hex := execOp_congr o hsel' heval
        have hwant : Region.wanted o (yielded l.toArray a'.tmps) = Region.wanted o (yielded l.toArray (frameOf n (zipE l V ++ L)).tmps) := by
          unfold Region.wanted
          cases hg : o.guard with
          | none => rfl
          | some gw =>
            obtain ⟨g, want⟩ := gw
            have hgl' : g < l.length := by rw [hg] at hgl; simpa [Nat.blt_eq] using hgl
            have hog : l[g]? = some l[g] := List.getElem?_eq_getElem hgl'
            obtain ⟨dg, hdg, _⟩ := hdst g _ hog
            have := hlook dg (List.mem_append_right _ (by simp [hg, hog, hdg]))
            simp only [yielded, List.getElem?_toArray, hog, Option.bind_some, hdg, this]
        have hone := hok.at_ ho hVi (frameOf n (zipE l V ++ L)) w' hA hJ'
        have hdd : o.dst.getD 0 = d := by rw [hd]; rfl
        rw [hdd] at hone
        have hnext : ∀ w2, J w2 → wpAny P .any l.toArray Q fuel (listed.setIfInBounds i true) (a'.put (some d) v) w2 := by
          intro w2 hJ2
          have hi2 : i < listed.size := by omega
          refine ih _ _ _ (by simpa using hs) (by simpa [Act.put] using hsz) hdf ?_ ?_ hJ2 ?_
          · intro t u hu ht
            have hne : d ≠ t := fun e => ht (e ▸ hdd ▸ List.mem_map.2 ⟨o, List.mem_of_getElem? ho, rfl⟩)
            simp only [Act.put, Array.getElem?_setIfInBounds, if_neg hne]
            exact h1 t u hu ht
          · intro j oj vj hoj hVj hl
            have hjl : j < l.length := (List.getElem?_eq_some_iff.1 hoj).1
            rw [getD_set_true listed i j (by omega)] at hl
            by_cases hij : i = j
            · subst hij
              rw [ho] at hoj
              rw [hVi] at hVj
              injection hoj with hoj
              injection hVj with hVj
              subst hoj
              subst hVj
              rw [hdd]
              simp [Act.put, hsz, hdn]
            · rw [if_neg hij] at hl
              have hne : d ≠ oj.dst.getD 0 := by
                intro e
                apply hij
                have e1 : (dstsL l)[i]? = some d := by simp [dstsL, ho, hd]
                have e2 : (dstsL l)[j]? = some d := by simp [dstsL, hoj, ← e]
                exact (List.getElem?_inj (by simpa [dstsL] using hil) hnd').1 (e1.trans e2.symm)
              simp only [Act.put, Array.getElem?_setIfInBounds, if_neg hne]
              exact h2 j oj vj hoj hVj hl
          · have hfalse : listed[i] = false := by
              have : listed.getD i true = listed[i] := by simp [Array.getD, hi2]
              rw [← this]; exact hnl
            have hcount : ∀ (xs : List Bool) (i : Nat), xs[i]? = some false → ((xs.set i true).filter (fun b => !b)).length + 1 = (xs.filter (fun b => !b)).length := by
              intro xs
              induction xs with
              | nil => intro i h; simp at h
              | cons x xs ihx =>
                intro i h
                cases i with
                | zero => simp at h; subst h; simp
                | succ i =>
                  have := ihx i (by simpa using h)
                  simp only [List.set_cons_succ, List.filter_cons]
                  split <;> simp_all <;> omega
            have := hcount listed.toList i (by simp [hi2, hfalse])
            have e : (listed.setIfInBounds i true).toList = listed.toList.set i true := by simp
            rw [e]
            omega
        unfold wpOp
        simp only [List.getElem?_toArray, ho]
        unfold wpList at hone
        rw [hwant]
        split
        · rename_i hw
          rw [if_pos hw] at hone
          rcases hone with hone | ⟨_, a0, w0, h0, _⟩
          · left
            unfold Oper.wp at hone ⊢
            rw [hex]
            generalize (execOp (frameOf n (zipE l V ++ L)).eval o).run P w' = r at hone ⊢
            have fin : ∀ u w2, One d v J .normal ((frameOf n (zipE l V ++ L)).put o.dst u) w2 → wpAny P .any l.toArray Q fuel (listed.setIfInBounds i true) (a'.put o.dst u) w2 := by
              intro u w2
              rw [hd]
              rintro ⟨_, _, h3, h4⟩
              have hu : u = v := by
                have hsz2 : (frameOf n (zipE l V ++ L)).tmps.size = n := hA.size
                simp only [Act.put, Array.getElem?_setIfInBounds, if_true, hsz2, hdn] at h3
                exact Option.some.inj h3
              subst hu
              exact hnext w2 h4
            cases r with
            | ok nx w2 =>
              cases nx <;> simp only [Oper.upon] at hone ⊢ <;> first
                | exact fin _ _ hone
                | exact absurd hone.2.1 (by rw [hd]; simp [Act.put])
                | exact Calls.mono hone (fun e w3 he => by
                    cases e with
                    | returned u => exact fin _ _ he
                    | panicked ch => exact absurd he.1 (by simp)
                    | outgrown => obtain ⟨a0, w0, h0, _⟩ := he; cases h0)
                | exact Rows.mono hone (fun _ _ he => fin _ _ he)
            | halt x w2 => cases x <;> simp only [Oper.upon] at hone ⊢ <;> exact absurd hone.1 (by simp)
          · cases h0
        · rename_i hw
          rw [if_neg hw] at hone
          obtain ⟨_, _, h3, h4⟩ := hone
          rw [hd] at h3 ⊢
          have hu : undef = v := by
            have hsz2 : (frameOf n (zipE l V ++ L)).tmps.size = n := hA.size
            simp only [Act.put, Array.getElem?_setIfInBounds, if_true, hsz2, hdn] at h3
            exact Option.some.inj h3
          rw [hu]
          exact hnext w' h4
  refine key _ _ _ _ (by simp) hE.size hE.defers (fun t v h _ => hE.has t v h) (fun i o v ho hv hl => ?_) hJ ?_
  · have hi : i < l.length := (List.getElem?_eq_some_iff.1 ho).1
    simp [Array.getD, hi] at hl
  · simp
end
end Go.Proofs.Ytfoeelghehjanaa

/-
  Guards, picks, cuts of slices.
-/
namespace Go.Proofs.Ytfoeelghehjanaa
open Go.RowKit
set_option linter.unusedVariables false
set_option linter.unusedSimpArgs false

section
variable {P : Program} {ops : Array Oper} {Q : Exit → Act → World → Prop} {rest : List Oper} {n d : Nat} {L : List (Nat × Value)} {a : Act} {w w0 : World} {H : List HP}
variable {ty xt yt : TypeId} {ps : String} {af : Array Edge} {x y z : Operand} {op : Op} {dd : Option Tmp} {j dj : Nat} {want : Bool}

theorem g_guard (h : wpList P ops Q (⟨dd, op, ty, ps, af, some (j, want)⟩ :: rest) a w) : wpList P ops Q (⟨dd, op, ty, ps, af, some (j, want)⟩ :: rest) a w := h
theorem g_pick (h : wpList P ops Q (⟨some d, .pick x y z, ty, ps, af, none⟩ :: rest) a w) : wpList P ops Q (⟨some d, .pick x y z, ty, ps, af, none⟩ :: rest) a w := h

theorem Env.more {v : Value} (hE : Env n L a) (h : find L d = some v) : Env n ((d, v) :: L) a := by
  refine ⟨hE.size, hE.defers, fun t u hu => ?_⟩
  simp only [find] at hu
  cases hb : Nat.beq d t with
  | true =>
    have e : d = t := Nat.eq_of_beq_eq_true hb
    rw [hb] at hu
    simp only [cond_true, Option.some.injEq] at hu
    subst e
    subst hu
    exact hE.has _ _ h
  | false =>
    rw [hb] at hu
    simp only [cond_false] at hu
    exact hE.has _ _ hu
theorem Env.as {v u : Value} (hE : Env n L a) (h : find L d = some v) (e : v = u) : Env n ((d, u) :: L) a := e ▸ hE.more h

theorem gd_yes {b : Bool} (hE : Env n L a) (hj : (ops[j]?).bind (·.dst) = some dj) (hb : find L dj = some (.bool b)) (hw : b = want) (h : wpList P ops Q (⟨dd, op, ty, ps, af, none⟩ :: rest) a w) :
    wpList P ops Q (⟨dd, op, ty, ps, af, some (j, want)⟩ :: rest) a w := by
  have hy : yielded ops a.tmps j = some b := by
    have h1 := hE.has _ _ hb
    simp only [yielded, hj, Option.bind_some, h1]
  unfold wpList at h ⊢
  rw [if_pos (by simp [Region.wanted])] at h
  rw [if_pos (by simp [Region.wanted, hy, hw])]
  exact h
theorem gd_no {b : Bool} (hE : Env n L a) (hj : (ops[j]?).bind (·.dst) = some dj) (hb : find L dj = some (.bool b)) (hw : b = !want) (hd : Nat.blt d n = true) (h : ∀ a', Env n ((d, undef) :: L) a' → wpList P ops Q rest a' w) :
    wpList P ops Q (⟨some d, op, ty, ps, af, some (j, want)⟩ :: rest) a w := by
  have hy : yielded ops a.tmps j = some b := by
    have h1 := hE.has _ _ hb
    simp only [yielded, hj, Option.bind_some, h1]
  unfold wpList
  have hw : Region.wanted ⟨some d, op, ty, ps, af, some (j, want)⟩ (yielded ops a.tmps) = false := by
    simp only [Region.wanted, hy]
    subst hw
    cases want <;> rfl
  rw [if_neg (by rw [hw]; simp)]
  exact h _ (hE.put hd undef)
theorem gd_un (hE : Env n L a) (hj : (ops[j]?).bind (·.dst) = some dj) (hb : find L dj = some undef) (hd : Nat.blt d n = true) (h : ∀ a', Env n ((d, undef) :: L) a' → wpList P ops Q rest a' w) :
    wpList P ops Q (⟨some d, op, ty, ps, af, some (j, want)⟩ :: rest) a w := by
  have hy : yielded ops a.tmps j = none := by
    have h1 := hE.has _ _ hb
    simp only [yielded, hj, Option.bind_some, h1]
    rfl
  unfold wpList
  have hw : Region.wanted ⟨some d, op, ty, ps, af, some (j, want)⟩ (yielded ops a.tmps) = false := by
    simp only [Region.wanted, hy]
    cases want <;> rfl
  rw [if_neg (by rw [hw]; simp)]
  exact h _ (hE.put hd undef)
theorem gd_dec {p : Prop} [Decidable p] (hE : Env n L a) (hj : (ops[j]?).bind (·.dst) = some dj) (hb : find L dj = some (.bool (decide p)))
    (ht : p → Env n ((dj, .bool true) :: L) a → wpList P ops Q (⟨dd, op, ty, ps, af, some (j, want)⟩ :: rest) a w) (hf : ¬ p → Env n ((dj, .bool false) :: L) a → wpList P ops Q (⟨dd, op, ty, ps, af, some (j, want)⟩ :: rest) a w) :
    wpList P ops Q (⟨dd, op, ty, ps, af, some (j, want)⟩ :: rest) a w := by
  by_cases hp : p
  · exact ht hp (hE.as hb (by simp [hp]))
  · exact hf hp (hE.as hb (by simp [hp]))
theorem gd_bool {b : Bool} (hE : Env n L a) (hj : (ops[j]?).bind (·.dst) = some dj) (hb : find L dj = some (.bool b))
    (ht : b = true → Env n ((dj, .bool true) :: L) a → wpList P ops Q (⟨dd, op, ty, ps, af, some (j, want)⟩ :: rest) a w) (hf : b = false → Env n ((dj, .bool false) :: L) a → wpList P ops Q (⟨dd, op, ty, ps, af, some (j, want)⟩ :: rest) a w) :
    wpList P ops Q (⟨dd, op, ty, ps, af, some (j, want)⟩ :: rest) a w := by
  cases b
  · exact hf rfl (hE.more hb)
  · exact ht rfl (hE.more hb)
theorem s_pickT {v : Value} (hE : Env n L a) (hx : ev L x = some (.bool true)) (hv : ev L y = some v) (hd : Nat.blt d n = true) (k : ∀ a', Env n ((d, v) :: L) a' → wpList P ops Q rest a' w) :
    wpList P ops Q (⟨some d, .pick x y z, ty, ps, af, none⟩ :: rest) a w :=
  s_val hE rfl rfl hd (by simp [execOp, hE.eval hx, hE.eval hv, asBool]) k
theorem s_pickF {v : Value} (hE : Env n L a) (hx : ev L x = some (.bool false)) (hv : ev L z = some v) (hd : Nat.blt d n = true) (k : ∀ a', Env n ((d, v) :: L) a' → wpList P ops Q rest a' w) :
    wpList P ops Q (⟨some d, .pick x y z, ty, ps, af, none⟩ :: rest) a w :=
  s_val hE rfl rfl hd (by simp [execOp, hE.eval hx, hE.eval hv, asBool]) k

/-- truth values held against each other -/
theorem s_eqb {b c : Bool} [TyU P xt .bool] (hE : Env n L a) (hx : ev L x = some (.bool b)) (hy : ev L y = some (.bool c)) (hd : Nat.blt d n = true) (K : ∀ a', Env n ((d, .bool (b == c)) :: L) a' → wpList P ops Q rest a' w) :
    wpList P ops Q (⟨some d, .binOp .eql xt x y yt, ty, ps, af, none⟩ :: rest) a w := by
  refine s_val (v := .bool (b == c)) (w' := w) hE rfl rfl hd ?_ K
  have hg : (eqGuard .eql xt x y (.bool b) (.bool c)).run P w = .ok () w := rfl
  have h1 : (Op.equal xt (.bool b) (.bool c)).run P w = .ok (b == c) w := by
    have e : Op.maxDepth = 9999 + 1 := rfl
    unfold Op.equal
    rw [e]
    unfold Op.equalIn
    simp only [Sem.run_bind, run_under (d := .bool), Result.andThen_ok, Sem.run_pure]
  simp only [execOp, hE.eval hx, hE.eval hy, Sem.run_bind, hg, Result.andThen_ok, binOp, h1, Sem.run_pure]
theorem s_neb {b c : Bool} [TyU P xt .bool] (hE : Env n L a) (hx : ev L x = some (.bool b)) (hy : ev L y = some (.bool c)) (hd : Nat.blt d n = true) (K : ∀ a', Env n ((d, .bool (b != c)) :: L) a' → wpList P ops Q rest a' w) :
    wpList P ops Q (⟨some d, .binOp .neq xt x y yt, ty, ps, af, none⟩ :: rest) a w := by
  refine s_val (v := .bool (b != c)) (w' := w) hE rfl rfl hd ?_ K
  have hg : (eqGuard .neq xt x y (.bool b) (.bool c)).run P w = .ok () w := rfl
  have h1 : (Op.equal xt (.bool b) (.bool c)).run P w = .ok (b == c) w := by
    have e : Op.maxDepth = 9999 + 1 := rfl
    unfold Op.equal
    rw [e]
    unfold Op.equalIn
    simp only [Sem.run_bind, run_under (d := .bool), Result.andThen_ok, Sem.run_pure]
  simp only [execOp, hE.eval hx, hE.eval hy, Sem.run_bind, hg, Result.andThen_ok, binOp, h1, Sem.run_pure]
  rfl

/-- a conversion that changes nothing -/
theorem s_convS {t e : TypeId} {A : Option Addr} {m c : Nat} (hE : Env n L a) (hx : ev L x = some (.slice A m c)) : True := trivial

theorem run_bound (x : Int) (k : IntKind) (y : Nat) (code : BoundsCode) (h : 0 ≤ x ∧ x ≤ y) : (Instr.sliceBound (.int k x) y code).run P w = .ok x.toNat w := by
  simp [Instr.sliceBound, asIntOf, h]

/-- xs[:h] -/
theorem s_cutH {t e : TypeId} {size b : Nat} {zz : Value} {A : Option Addr} {m c : Nat} {k : IntKind} {h : Int} [TyU P t (.slice e)] [TyI P e size zz b] (hE : Env n L a) (hx : ev L x = some (.slice A m c)) (hy : ev L y = some (.int k h)) (hb : 0 ≤ h ∧ h ≤ c) (hd : Nat.blt d n = true)
    (K : ∀ a', Env n ((d, .slice A h.toNat c) :: L) a' → wpList P ops Q rest a' w) :
    wpList P ops Q (⟨some d, .slice t x none (some y) none, ty, ps, af, none⟩ :: rest) a w := by
  refine s_val (v := .slice A h.toNat c) (w' := w) hE rfl rfl hd ?_ K
  have hA : (if c = 0 then A else A.map (·.add (0 * size))) = A := by
    split
    · rfl
    · cases A <;> simp [Addr.add]
  simp [execOp, Instr.sliceAt, Instr.slice, Instr.sliceBounds, hE.eval hx, hE.eval hy, run_under (d := .slice e), run_bound h k c _ hb, run_size (size := size) (zero := zz) (bytes := b), hA]
  simpa using hA
/-- xs[:h:m] -/
theorem s_cutHM {t e : TypeId} {size b : Nat} {zz : Value} {A : Option Addr} {m c : Nat} {k k2 : IntKind} {h mx : Int} [TyU P t (.slice e)] [TyI P e size zz b] (hE : Env n L a) (hx : ev L x = some (.slice A m c)) (hy : ev L y = some (.int k h)) (hz : ev L z = some (.int k2 mx)) (hb : 0 ≤ mx ∧ mx ≤ c) (hb2 : 0 ≤ h ∧ h ≤ mx) (hd : Nat.blt d n = true)
    (K : ∀ a', Env n ((d, .slice A h.toNat mx.toNat) :: L) a' → wpList P ops Q rest a' w) :
    wpList P ops Q (⟨some d, .slice t x none (some y) (some z), ty, ps, af, none⟩ :: rest) a w := by
  refine s_val (v := .slice A h.toNat mx.toNat) (w' := w) hE rfl rfl hd ?_ K
  have hA : (if mx.toNat = 0 then A else A.map (·.add (0 * size))) = A := by
    split
    · rfl
    · cases A <;> simp [Addr.add]
  have hb3 : 0 ≤ h ∧ h ≤ (mx.toNat : Int) := by omega
  simp [execOp, Instr.sliceAt, Instr.slice, Instr.sliceBounds, hE.eval hx, hE.eval hy, hE.eval hz, run_under (d := .slice e), run_bound mx k2 c _ hb, run_bound h k mx.toNat _ hb3, run_size (size := size) (zero := zz) (bytes := b)]
  simpa using hA
/-- xs[l:] : what it reads -/
theorem s_cutL {t e : TypeId} {size b : Nat} {zz : Value} {A : Option Addr} {m c : Nat} {k : IntKind} {l : Int} [TyU P t (.slice e)] [TyI P e size zz b] (hE : Env n L a) (hx : ev L x = some (.slice A m c)) (hy : ev L y = some (.int k l)) (hb : 0 ≤ l ∧ l ≤ m) (hmc : m ≤ c) (hd : Nat.blt d n = true)
    (K : ∀ A' a', (∀ w' cs, cs.length = m * size → Rd w' A cs → Rd w' A' (cs.drop (l.toNat * size))) → Env n ((d, .slice A' (m - l.toNat) (c - l.toNat)) :: L) a' → wpList P ops Q rest a' w) :
    wpList P ops Q (⟨some d, .slice t x (some y) none none, ty, ps, af, none⟩ :: rest) a w := by
  refine s_val (v := .slice (if c = l.toNat then A else A.map (·.add (l.toNat * size))) (m - l.toNat) (c - l.toNat)) (w' := w) hE rfl rfl hd ?_ fun a' hE' => K _ a' ?_ hE'
  · simp [execOp, Instr.sliceAt, Instr.slice, Instr.sliceBounds, hE.eval hx, hE.eval hy, run_under (d := .slice e), run_bound l k m _ hb, run_size (size := size) (zero := zz) (bytes := b)]
  · intro w' cs hl hr
    split
    · rename_i hc
      have hm : m = l.toNat := by omega
      have : cs.drop (l.toNat * size) = [] := List.drop_eq_nil_of_le (by rw [hl, hm]; exact Nat.le_refl _)
      rw [this]
      exact Rd.nil
    · exact hr.drop _
end
end Go.Proofs.Ytfoeelghehjanaa

/-
  Rows of bytes.
-/
namespace Go.Proofs.Ytfoeelghehjanaa
open Go.RowKit
set_option linter.unusedVariables false
set_option linter.unusedSimpArgs false

/-- bytes as values -/
def bys (xs : List Nat) : List Value := xs.map fun (x : Nat) => .int .u8 (x : Int)
/-- all are bytes -/
def Bs (xs : List Nat) : Prop := ∀ x ∈ xs, x < 256

theorem bys_length (xs : List Nat) : (bys xs).length = xs.length := by simp [bys]
theorem bys_append (xs ys : List Nat) : bys (xs ++ ys) = bys xs ++ bys ys := by simp [bys]
theorem bys_take (xs : List Nat) (k : Nat) : bys (xs.take k) = (bys xs).take k := by simp [bys]
theorem bys_drop (xs : List Nat) (k : Nat) : bys (xs.drop k) = (bys xs).drop k := by simp [bys]
theorem bys_one (xs : List Nat) : ∀ u ∈ bys xs, u.oneCell' = true := by
  intro u hu
  simp only [bys, List.mem_map] at hu
  obtain ⟨x, _, rfl⟩ := hu
  rfl
theorem bys_get {xs : List Nat} {k : Nat} (h : k < xs.length) : (bys xs)[k]? = some (.int .u8 ((xs[k] : Nat) : Int)) := by
  simp [bys, h]
theorem bys_getI {xs : List Nat} {k : Nat} (h : k < xs.length) : (bys xs)[((k : Nat) : Int).toNat]? = some (.int .u8 ((xs[k] : Nat) : Int)) := bys_get h
theorem Bs.nil : Bs [] := fun _ h => by cases h
theorem Bs.append {xs ys : List Nat} (h : Bs xs) (h' : Bs ys) : Bs (xs ++ ys) := fun x hx => by
  rcases List.mem_append.1 hx with hx | hx
  · exact h x hx
  · exact h' x hx
theorem Bs.take {xs : List Nat} (h : Bs xs) (k : Nat) : Bs (xs.take k) := fun x hx => h x (List.mem_of_mem_take hx)
theorem Bs.drop {xs : List Nat} (h : Bs xs) (k : Nat) : Bs (xs.drop k) := fun x hx => h x (List.mem_of_mem_drop hx)
theorem Bs.get {xs : List Nat} (h : Bs xs) {k : Nat} (hk : k < xs.length) : xs[k] < 256 := h _ (List.getElem_mem hk)
theorem Bs.one {x : Nat} (h : x < 256) : Bs [x] := fun y hy => by simp at hy; omega

/-! ## Bits of numbers that are not negative -/
theorem bits_nat3 (k : IntKind) (hs : k.signed = false) (a b : Nat) (ha : a < 2 ^ k.bits) (hb : b < 2 ^ k.bits) :
    bits .and k a b = ((a &&& b : Nat) : Int) ∧ bits .or k a b = ((a ||| b : Nat) : Int) ∧ bits .xor k a b = ((a ^^^ b : Nat) : Int) := by
  have ha' : a % 2 ^ k.bits = a := Nat.mod_eq_of_lt ha
  have hb' : b % 2 ^ k.bits = b := Nat.mod_eq_of_lt hb
  have hw : ∀ n : Nat, n < 2 ^ k.bits → k.wrap (n : Int) = n := fun n h => by
    have h2 : (n : Int) % ((2 ^ k.bits : Nat) : Int) = n := by
      rw [← Int.natCast_emod, Nat.mod_eq_of_lt h]
    simp only [IntKind.wrap, hs, Bool.false_and, Bool.false_eq_true, if_false]
    have h3 : ((2 : Int) ^ k.bits) = ((2 ^ k.bits : Nat) : Int) := by simp
    rw [h3]
    exact h2
  refine ⟨?_, ?_, ?_⟩
  · simp only [bits, BitVec.ofInt_natCast, BitVec.toNat_and, BitVec.toNat_ofNat, ha', hb']
    exact hw _ (Nat.and_lt_two_pow _ hb)
  · simp only [bits, BitVec.ofInt_natCast, BitVec.toNat_or, BitVec.toNat_ofNat, ha', hb']
    exact hw _ (Nat.or_lt_two_pow ha hb)
  · simp only [bits, BitVec.ofInt_natCast, BitVec.toNat_xor, BitVec.toNat_ofNat, ha', hb']
    exact hw _ (Nat.xor_lt_two_pow ha hb)
theorem xor_nat (k : IntKind) (hs : k.signed = false) {a b : Nat} (ha : a < 2 ^ k.bits) (hb : b < 2 ^ k.bits) : bits .xor k a b = ((a ^^^ b : Nat) : Int) := (bits_nat3 k hs a b ha hb).2.2
theorem and_nat (k : IntKind) (hs : k.signed = false) {a b : Nat} (ha : a < 2 ^ k.bits) (hb : b < 2 ^ k.bits) : bits .and k a b = ((a &&& b : Nat) : Int) := (bits_nat3 k hs a b ha hb).1
theorem or_nat (k : IntKind) (hs : k.signed = false) {a b : Nat} (ha : a < 2 ^ k.bits) (hb : b < 2 ^ k.bits) : bits .or k a b = ((a ||| b : Nat) : Int) := (bits_nat3 k hs a b ha hb).2.1
theorem shr_nat (a m b : Nat) (h : m ≤ b) : ((a : Nat) : Int).fdiv (2 ^ min ((m : Nat) : Int).toNat b) = ((a / 2 ^ m : Nat) : Int) := by
  rw [Int.toNat_natCast, Nat.min_eq_left h]
  have h3 : ((2 : Int) ^ m) = ((2 ^ m : Nat) : Int) := by simp
  rw [h3, Int.fdiv_eq_ediv_of_nonneg _ (Int.natCast_nonneg _)]
  simp
theorem xor_u8 {a b : Nat} (ha : a < 256) (hb : b < 256) : bits .xor .u8 a b = ((a ^^^ b : Nat) : Int) := xor_nat .u8 rfl ha hb
theorem and_u8 {a b : Nat} (ha : a < 256) (hb : b < 256) : bits .and .u8 a b = ((a &&& b : Nat) : Int) := and_nat .u8 rfl ha hb
theorem or_u8 {a b : Nat} (ha : a < 256) (hb : b < 256) : bits .or .u8 a b = ((a ||| b : Nat) : Int) := or_nat .u8 rfl ha hb
theorem xor_u16 {a b : Nat} (ha : a < 65536) (hb : b < 65536) : bits .xor .u16 a b = ((a ^^^ b : Nat) : Int) := xor_nat .u16 rfl ha hb
theorem and_u16 {a b : Nat} (ha : a < 65536) (hb : b < 65536) : bits .and .u16 a b = ((a &&& b : Nat) : Int) := and_nat .u16 rfl ha hb
theorem or_u16 {a b : Nat} (ha : a < 65536) (hb : b < 65536) : bits .or .u16 a b = ((a ||| b : Nat) : Int) := or_nat .u16 rfl ha hb
theorem xor_u32 {a b : Nat} (ha : a < 4294967296) (hb : b < 4294967296) : bits .xor .u32 a b = ((a ^^^ b : Nat) : Int) := xor_nat .u32 rfl ha hb
theorem and_u32 {a b : Nat} (ha : a < 4294967296) (hb : b < 4294967296) : bits .and .u32 a b = ((a &&& b : Nat) : Int) := and_nat .u32 rfl ha hb
theorem or_u32 {a b : Nat} (ha : a < 4294967296) (hb : b < 4294967296) : bits .or .u32 a b = ((a ||| b : Nat) : Int) := or_nat .u32 rfl ha hb
theorem xor_u64 {a b : Nat} (ha : a < 18446744073709551616) (hb : b < 18446744073709551616) : bits .xor .u64 a b = ((a ^^^ b : Nat) : Int) := xor_nat .u64 rfl ha hb
theorem and_u64 {a b : Nat} (ha : a < 18446744073709551616) (hb : b < 18446744073709551616) : bits .and .u64 a b = ((a &&& b : Nat) : Int) := and_nat .u64 rfl ha hb
theorem or_u64 {a b : Nat} (ha : a < 18446744073709551616) (hb : b < 18446744073709551616) : bits .or .u64 a b = ((a ||| b : Nat) : Int) := or_nat .u64 rfl ha hb
theorem wrap_u8_nat (m : Nat) : IntKind.u8.wrap (m : Int) = ((m % 256 : Nat) : Int) := by rw [IntKind.wrap_u8]; simp
theorem wrap_u16_nat (m : Nat) : IntKind.u16.wrap (m : Int) = ((m % 65536 : Nat) : Int) := by rw [wrap_u16]; simp
theorem wrap_u32_nat (m : Nat) : IntKind.u32.wrap (m : Int) = ((m % 4294967296 : Nat) : Int) := by rw [IntKind.wrap_u32]; simp
theorem wrap_u64_nat (m : Nat) : IntKind.u64.wrap (m : Int) = ((m % 18446744073709551616 : Nat) : Int) := by rw [wrap_u64]; simp
theorem tmod_nat (a b : Nat) : ((a : Nat) : Int).tmod ((b : Nat) : Int) = ((a % b : Nat) : Int) := rfl
theorem quo_u64 {a b : Nat} (ha : a < 18446744073709551616) : IntKind.u64.wrap (((a : Nat) : Int).tdiv ((b : Nat) : Int)) = ((a / b : Nat) : Int) := by
  have e : ((a : Nat) : Int).tdiv ((b : Nat) : Int) = ((a / b : Nat) : Int) := rfl
  rw [e, wrap_u64_nat, Nat.mod_eq_of_lt (Nat.lt_of_le_of_lt (Nat.div_le_self a b) ha)]
theorem odd_half {s : Nat} (h : ((s % 2 : Nat) : Int) = 1) (hs : s < 18446744073709551616) : IntKind.u64.wrap ((((s : Nat) : Int) - 1).tdiv 2) = ((s / 2 : Nat) : Int) := by
  have e : ((s : Nat) : Int) - 1 = ((s - 1 : Nat) : Int) := by omega
  rw [e]
  have := quo_u64 (a := s - 1) (b := 2) (by omega)
  rw [show s / 2 = (s - 1) / 2 from by omega]
  exact this
theorem com_u16 {a : Nat} (h : a < 65536) : bits .xor .u16 (if IntKind.u16.signed = true then -1 else IntKind.u16.max) a = ((65535 ^^^ a : Nat) : Int) :=
  xor_nat .u16 rfl (a := 65535) (by decide) h
theorem com_u32 {a : Nat} (h : a < 4294967296) : bits .xor .u32 (if IntKind.u32.signed = true then -1 else IntKind.u32.max) a = ((4294967295 ^^^ a : Nat) : Int) :=
  xor_nat .u32 rfl (a := 4294967295) (by decide) h
theorem com_u16_0 : bits .xor .u16 (if IntKind.u16.signed = true then -1 else IntKind.u16.max) 0 = ((65535 : Nat) : Int) := com_u16 (a := 0) (by decide)
theorem com_u32_0 : bits .xor .u32 (if IntKind.u32.signed = true then -1 else IntKind.u32.max) 0 = ((4294967295 : Nat) : Int) := com_u32 (a := 0) (by decide)
end Go.Proofs.Ytfoeelghehjanaa

/-
  Rows that can only be read; conversions of rows.
-/
namespace Go.Proofs.Ytfoeelghehjanaa
open Go.RowKit
set_option linter.unusedVariables false
set_option linter.unusedSimpArgs false

/-- a slice of one's own that is only read from now on -/
def hRd (A : Option Addr) (cs : List Value) : HP where
  at_ S w := (∀ ad, A = some ad → S ad.block) ∧ Rd w A cs
  keep := by
    rintro S w w' ⟨h1, h2⟩ hk
    refine ⟨h1, fun hne => ?_⟩
    obtain ⟨ad, e, hc⟩ := h2 hne
    refine ⟨ad, e, fun j u hu => ?_⟩
    have hb := hk _ (h1 ad e)
    rw [World.cell?_of_block (w := w) (by rw [add_block]; exact hb)]
    exact hc j u hu

section
variable {P : Program} {ops : Array Oper} {Q : Exit → Act → World → Prop} {rest : List Oper} {n d : Nat} {L : List (Nat × Value)} {a : Act} {w w0 : World} {H : List HP}
variable {ty xt yt : TypeId} {ps : String} {af : Array Edge} {x y z : Operand}

theorem St.rd2 {A : Option Addr} {cs : List Value} (hS : St w0 w (hRd A cs :: H)) : Rd w A cs := by
  obtain ⟨S, _, _, h⟩ := hS.head
  exact h
theorem St.rowRd {e size m c : Nat} {A : Option Addr} {cs : List Value} (hS : St w0 w (hRow e size A m c cs :: H)) : St w0 w (hRd A cs :: H) :=
  hS.conv fun S ⟨h1, h2⟩ => ⟨h1, rd_of_own h2⟩

/-- []byte(x), x a row of bytes of one's own -/
theorem s_convB {t e m c : Nat} {g : Nat} {cs : List Value} [TyU P t (.slice e)] [TyU P e (.int .u8)] (hE : Env n L a) (hS : St w0 w (hRow e 1 (some ⟨g, 0, none⟩) m c cs :: H)) (hx : ev L x = some (.slice (some ⟨g, 0, none⟩) m c)) (hd : Nat.blt d n = true)
    (K : ∀ a' w', Env n ((d, .slice (some ⟨g, 0, none⟩) m c) :: L) a' → St w0 w' (hRd (some ⟨g, 0, none⟩) cs :: H) → wpList P ops Q rest a' w') :
    wpList P ops Q (⟨some d, .convert t t x, ty, ps, af, none⟩ :: rest) a w := by
  obtain ⟨S0, _, _, hown⟩ := hS.head
  obtain ⟨cur, hh⟩ : ∃ cur, w.heap[g]? = some (.cells cur e (0, 0)) := by
    rcases hown.2 with ⟨h0, _⟩ | ⟨g', cap, cur, he, _, hh, _⟩
    · cases h0
    · have : g' = g := by injection he with h1; injection h1 with h1; injection h1 with h1; exact h1.symm
      subst this
      exact ⟨cur, hh⟩
  have hsh : w.shape? g = some (e, cur.size) := by simp [World.shape?, hh]
  refine s_val (v := .slice (some ⟨g, 0, none⟩) m c) (w' := w.freeze ⟨g, cur.size, none⟩ 1) hE rfl rfl hd ?_ fun a' hE' => K a' _ hE' ?_
  · simp [execOp, hE.eval hx, convert, run_under (d := .slice e), run_under (d := .int .u8), markStringish, hsh]
  · have hother : ∀ k, k ≠ g → (w.freeze ⟨g, cur.size, none⟩ 1).heap[k]? = w.heap[k]? := by
      intro k hk
      simp only [World.freeze, Nat.one_ne_zero, if_false, Array.getElem?_modify]
      rw [if_neg (fun e => hk e.symm)]
    have hcell : ∀ ad : Addr, (w.freeze ⟨g, cur.size, none⟩ 1).cell? ad = w.cell? ad := by
      intro ad
      by_cases hk : ad.block = g
      · simp only [World.cell?, World.freeze, Nat.one_ne_zero, if_false, Array.getElem?_modify, hk, if_true, hh, Option.map_some]
      · exact World.cell?_of_block (hother _ hk)
    refine hS.upd rfl rfl rfl (by simp [World.freeze]) fun S ⟨h1, h2⟩ => ⟨S, ⟨h1, fun hne => ?_⟩, fun k hk => .inl hk, fun k _ hk => hother k (fun e => hk (e ▸ h1 _ rfl))⟩
    obtain ⟨ad, e2, hc⟩ := rd_of_own h2 hne
    exact ⟨ad, e2, fun j u hu => (hcell _).trans (hc j u hu)⟩
end
end Go.Proofs.Ytfoeelghehjanaa

/-
  A statement whose order is open, walked in one order: what only reads is taken first; what acts comes up alone, or way by way.
-/
namespace Go.Proofs.Ytfoeelghehjanaa
open Go.RowKit
set_option linter.unusedVariables false
set_option linter.unusedSimpArgs false

/-! ## What one operation yields -/
section
variable {P : Program} {n d : Nat} {L : List (Nat × Value)} {a : Act} {w : World} {gd : Option (Nat × Bool)}
variable {ty xt yt : TypeId} {ps : String} {af : Array Edge} {x y z : Operand} {k : IntKind} {i j : Int}
theorem r_move {v : Value} (hE : Env n L a) (hx : ev L x = some v) : (execOp a.eval ⟨some d, .move x, ty, ps, af, gd⟩).run P w = .ok (.value v) w := by simp [execOp, hE.eval hx]
theorem r_assign {v : Value} (hE : Env n L a) (hx : ev L x = some v) : (execOp a.eval ⟨some d, .assign x, ty, ps, af, gd⟩).run P w = .ok (.value v) w := by simp [execOp, hE.eval hx]
theorem r_pickT {v : Value} (hE : Env n L a) (hx : ev L x = some (.bool true)) (hv : ev L y = some v) : (execOp a.eval ⟨some d, .pick x y z, ty, ps, af, gd⟩).run P w = .ok (.value v) w := by simp [execOp, hE.eval hx, hE.eval hv, asBool]
theorem r_pickF {v : Value} (hE : Env n L a) (hx : ev L x = some (.bool false)) (hv : ev L z = some v) : (execOp a.eval ⟨some d, .pick x y z, ty, ps, af, gd⟩).run P w = .ok (.value v) w := by simp [execOp, hE.eval hx, hE.eval hv, asBool]
theorem r_eqb {b c : Bool} [TyU P xt .bool] (hE : Env n L a) (hx : ev L x = some (.bool b)) (hy : ev L y = some (.bool c)) : (execOp a.eval ⟨some d, .binOp .eql xt x y yt, ty, ps, af, gd⟩).run P w = .ok (.value (.bool (b == c))) w := by
  have hg : (eqGuard .eql xt x y (.bool b) (.bool c)).run P w = .ok () w := rfl
  have h1 : (Op.equal xt (.bool b) (.bool c)).run P w = .ok (b == c) w := by
    have e : Op.maxDepth = 9999 + 1 := rfl
    unfold Op.equal
    rw [e]
    unfold Op.equalIn
    simp only [Sem.run_bind, run_under (d := .bool), Result.andThen_ok, Sem.run_pure]
  simp only [execOp, hE.eval hx, hE.eval hy, Sem.run_bind, hg, Result.andThen_ok, binOp, h1, Sem.run_pure]
theorem r_neb {b c : Bool} [TyU P xt .bool] (hE : Env n L a) (hx : ev L x = some (.bool b)) (hy : ev L y = some (.bool c)) : (execOp a.eval ⟨some d, .binOp .neq xt x y yt, ty, ps, af, gd⟩).run P w = .ok (.value (.bool (b != c))) w := by
  have hg : (eqGuard .neq xt x y (.bool b) (.bool c)).run P w = .ok () w := rfl
  have h1 : (Op.equal xt (.bool b) (.bool c)).run P w = .ok (b == c) w := by
    have e : Op.maxDepth = 9999 + 1 := rfl
    unfold Op.equal
    rw [e]
    unfold Op.equalIn
    simp only [Sem.run_bind, run_under (d := .bool), Result.andThen_ok, Sem.run_pure]
  simp only [execOp, hE.eval hx, hE.eval hy, Sem.run_bind, hg, Result.andThen_ok, binOp, h1, Sem.run_pure]
  rfl
theorem r_eqnil {t e : TypeId} {A : Option Addr} {m c m2 c2 : Nat} [TyU P t (.slice e)] (hE : Env n L a) (hx : ev L x = some (.slice A m c)) (hy : ev L y = some (.slice none m2 c2)) : (execOp a.eval ⟨some d, .binOp .eql t x y yt, ty, ps, af, gd⟩).run P w = .ok (.value (.bool A.isNone)) w := by
  have hg : (eqGuard .eql t x y (.slice A m c) (.slice none m2 c2)).run P w = .ok () w := rfl
  have h1 := Lib.run_eql_slice_nil (P := P) w t e A m c m2 c2 TyU.out
  simp only [execOp, hE.eval hx, hE.eval hy, Sem.run_bind, hg, Result.andThen_ok, h1, Sem.run_pure]
theorem r_field {t ft : TypeId} {i off size b : Nat} {z : Value} {ad : Addr} [TyF P t i off ft] [TyI P ft size z b] (hE : Env n L a) (hx : ev L x = some (.pointer (some ad))) (hs : Nat.beq size 0 = false) : (execOp a.eval ⟨some d, .fieldAddr t x i, ty, ps, af, gd⟩).run P w = .ok (.value (.pointer (some (ad.add off)))) w := by
  obtain ⟨fs, f, h1, h2, h3, h4⟩ := TyF.out (P := P) (t := t) (i := i) (off := off) (ft := ft)
  have hs' : ¬ size = 0 := Nat.ne_of_beq_eq_false hs
  simp [execOp, Instr.fieldAt, Instr.sureAddr, hE.eval hx, run_underlying h1, h2, fieldPlace, h3, h4, run_size (size := size) (zero := z) (bytes := b), hs']
theorem r_add (hE : Env n L a) (hx : ev L x = some (.int k i)) (hy : ev L y = some (.int k j)) {r : Int} (hr : k.wrap (i + j) = r) : (execOp a.eval ⟨some d, .binOp .add xt x y yt, ty, ps, af, gd⟩).run P w = .ok (.value (.int k r)) w := by simp [execOp, hE.eval hx, hE.eval hy, eqg, binOp, Op.intArith, hr]
theorem r_sub (hE : Env n L a) (hx : ev L x = some (.int k i)) (hy : ev L y = some (.int k j)) {r : Int} (hr : k.wrap (i - j) = r) : (execOp a.eval ⟨some d, .binOp .sub xt x y yt, ty, ps, af, gd⟩).run P w = .ok (.value (.int k r)) w := by simp [execOp, hE.eval hx, hE.eval hy, eqg, binOp, Op.intArith, hr]
theorem r_mul (hE : Env n L a) (hx : ev L x = some (.int k i)) (hy : ev L y = some (.int k j)) {r : Int} (hr : k.wrap (i * j) = r) : (execOp a.eval ⟨some d, .binOp .mul xt x y yt, ty, ps, af, gd⟩).run P w = .ok (.value (.int k r)) w := by simp [execOp, hE.eval hx, hE.eval hy, eqg, binOp, Op.intArith, hr]
theorem r_quo (hE : Env n L a) (hx : ev L x = some (.int k i)) (hy : ev L y = some (.int k j)) (hj : j ≠ 0) {r : Int} (hr : k.wrap (i.tdiv j) = r) : (execOp a.eval ⟨some d, .binOp .quo xt x y yt, ty, ps, af, gd⟩).run P w = .ok (.value (.int k r)) w := by simp [execOp, hE.eval hx, hE.eval hy, eqg, binOp, Op.intDiv, hj, hr]
theorem r_rem (hE : Env n L a) (hx : ev L x = some (.int k i)) (hy : ev L y = some (.int k j)) (hj : j ≠ 0) {r : Int} (hr : i.tmod j = r) : (execOp a.eval ⟨some d, .binOp .rem xt x y yt, ty, ps, af, gd⟩).run P w = .ok (.value (.int k r)) w := by simp [execOp, hE.eval hx, hE.eval hy, eqg, binOp, Op.intDiv, hj, hr]
theorem r_and (hE : Env n L a) (hx : ev L x = some (.int k i)) (hy : ev L y = some (.int k j)) {r : Int} (hr : bits .and k i j = r) : (execOp a.eval ⟨some d, .binOp .and xt x y yt, ty, ps, af, gd⟩).run P w = .ok (.value (.int k r)) w := by simp [execOp, hE.eval hx, hE.eval hy, eqg, binOp, intBits_and, hr]
theorem r_or (hE : Env n L a) (hx : ev L x = some (.int k i)) (hy : ev L y = some (.int k j)) {r : Int} (hr : bits .or k i j = r) : (execOp a.eval ⟨some d, .binOp .or xt x y yt, ty, ps, af, gd⟩).run P w = .ok (.value (.int k r)) w := by simp [execOp, hE.eval hx, hE.eval hy, eqg, binOp, intBits_or, hr]
theorem r_xor (hE : Env n L a) (hx : ev L x = some (.int k i)) (hy : ev L y = some (.int k j)) {r : Int} (hr : bits .xor k i j = r) : (execOp a.eval ⟨some d, .binOp .xor xt x y yt, ty, ps, af, gd⟩).run P w = .ok (.value (.int k r)) w := by simp [execOp, hE.eval hx, hE.eval hy, eqg, binOp, intBits_xor, hr]
theorem r_shl {k' : IntKind} (hE : Env n L a) (hx : ev L x = some (.int k i)) (hy : ev L y = some (.int k' j)) (hj : 0 ≤ j) {r : Int} (hr : k.wrap (i * 2 ^ min j.toNat k.bits) = r) : (execOp a.eval ⟨some d, .binOp .shl xt x y yt, ty, ps, af, gd⟩).run P w = .ok (.value (.int k r)) w := by simp [execOp, hE.eval hx, hE.eval hy, eqg, binOp, Op.shift, show ¬ j < 0 from by omega, hr]
theorem r_shr {k' : IntKind} (hE : Env n L a) (hx : ev L x = some (.int k i)) (hy : ev L y = some (.int k' j)) (hj : 0 ≤ j) {r : Int} (hr : i.fdiv (2 ^ min j.toNat k.bits) = r) : (execOp a.eval ⟨some d, .binOp .shr xt x y yt, ty, ps, af, gd⟩).run P w = .ok (.value (.int k r)) w := by simp [execOp, hE.eval hx, hE.eval hy, eqg, binOp, Op.shift, show ¬ j < 0 from by omega, hr]
theorem r_lss (hE : Env n L a) (hx : ev L x = some (.int k i)) (hy : ev L y = some (.int k j)) : (execOp a.eval ⟨some d, .binOp .lss xt x y yt, ty, ps, af, gd⟩).run P w = .ok (.value (.bool (decide (i < j)))) w := by simp [execOp, hE.eval hx, hE.eval hy, eqg, binOp, Op.intCmp]
theorem r_leq (hE : Env n L a) (hx : ev L x = some (.int k i)) (hy : ev L y = some (.int k j)) : (execOp a.eval ⟨some d, .binOp .leq xt x y yt, ty, ps, af, gd⟩).run P w = .ok (.value (.bool (decide (i ≤ j)))) w := by simp [execOp, hE.eval hx, hE.eval hy, eqg, binOp, Op.intCmp]
theorem r_gtr (hE : Env n L a) (hx : ev L x = some (.int k i)) (hy : ev L y = some (.int k j)) : (execOp a.eval ⟨some d, .binOp .gtr xt x y yt, ty, ps, af, gd⟩).run P w = .ok (.value (.bool (decide (j < i)))) w := by simp [execOp, hE.eval hx, hE.eval hy, eqg, binOp, Op.intCmp]
theorem r_geq (hE : Env n L a) (hx : ev L x = some (.int k i)) (hy : ev L y = some (.int k j)) : (execOp a.eval ⟨some d, .binOp .geq xt x y yt, ty, ps, af, gd⟩).run P w = .ok (.value (.bool (decide (j ≤ i)))) w := by simp [execOp, hE.eval hx, hE.eval hy, eqg, binOp, Op.intCmp]
theorem r_eql (hE : Env n L a) (hx : ev L x = some (.int k i)) (hy : ev L y = some (.int k j)) : (execOp a.eval ⟨some d, .binOp .eql xt x y yt, ty, ps, af, gd⟩).run P w = .ok (.value (.bool (decide (i = j)))) w := by simp [execOp, hE.eval hx, hE.eval hy, eqg, binOp, Op.intCmp]; rfl
theorem r_neq (hE : Env n L a) (hx : ev L x = some (.int k i)) (hy : ev L y = some (.int k j)) : (execOp a.eval ⟨some d, .binOp .neq xt x y yt, ty, ps, af, gd⟩).run P w = .ok (.value (.bool (decide (i ≠ j)))) w := by simp [execOp, hE.eval hx, hE.eval hy, eqg, binOp, Op.intCmp, bne, instBEqOfDecidableEq]; rfl
theorem r_not {p : Prop} [Decidable p] (hE : Env n L a) (hx : ev L x = some (.bool (decide p))) : (execOp a.eval ⟨some d, .unOp .not xt x, ty, ps, af, gd⟩).run P w = .ok (.value (.bool (decide (¬ p)))) w := by simp [execOp, hE.eval hx, Op.unary]
theorem r_notb {b : Bool} (hE : Env n L a) (hx : ev L x = some (.bool b)) : (execOp a.eval ⟨some d, .unOp .not xt x, ty, ps, af, gd⟩).run P w = .ok (.value (.bool (!b))) w := by simp [execOp, hE.eval hx, Op.unary]
theorem r_com (hE : Env n L a) (hx : ev L x = some (.int k i)) {r : Int} (hr : bits .xor k (if k.signed then -1 else k.max) i = r) : (execOp a.eval ⟨some d, .unOp .xor xt x, ty, ps, af, gd⟩).run P w = .ok (.value (.int k r)) w := by simp [execOp, hE.eval hx, Op.unary, intBits_xor, hr]
theorem r_conv {k' : IntKind} {src dst : TypeId} {ds : TypeDesc} [TyU P src ds] [TyU P dst (.int k')] (hE : Env n L a) (hx : ev L x = some (.int k i)) {r : Int} (hr : k'.wrap i = r) : (execOp a.eval ⟨some d, .convert src dst x, ty, ps, af, gd⟩).run P w = .ok (.value (.int k' r)) w := by simp [execOp, hE.eval hx, convert, run_under (d := ds), run_under (d := .int k'), Conv.intToInt, hr]
theorem r_len {e : TypeId} {t : TypeId} {A : Option Addr} {m c : Nat} [TyU P t (.slice e)] (hE : Env n L a) (hx : ev L x = some (.slice A m c)) : (execOp a.eval ⟨some d, .call ⟨.builtin .len, #[x], #[t]⟩, ty, ps, af, gd⟩).run P w = .ok (.value (.int .i64 (m : Int))) w := by simp [execOp, resolve, invoke, builtin, Builtin.len_, hE.eval hx, run_under (d := .slice e), goInt]
theorem r_min {ts : Array TypeId} (hE : Env n L a) (hx : ev L x = some (.int k i)) (hy : ev L y = some (.int k j)) {r : Int} (hr : (if j < i then j else i) = r) : (execOp a.eval ⟨some d, .call ⟨.builtin .min, #[x, y], ts⟩, ty, ps, af, gd⟩).run P w = .ok (.value (.int k r)) w := by simp [execOp, resolve, invoke, builtin, Builtin.min_, Builtin.min2, hE.eval hx, hE.eval hy, hr]
theorem r_max {ts : Array TypeId} (hE : Env n L a) (hx : ev L x = some (.int k i)) (hy : ev L y = some (.int k j)) {r : Int} (hr : (if i < j then j else i) = r) : (execOp a.eval ⟨some d, .call ⟨.builtin .max, #[x, y], ts⟩, ty, ps, af, gd⟩).run P w = .ok (.value (.int k r)) w := by simp [execOp, resolve, invoke, builtin, Builtin.max_, Builtin.max2, hE.eval hx, hE.eval hy, hr]
theorem r_extract {i : Nat} {vs : List Value} {v : Value} (hE : Env n L a) (hx : ev L x = some (.tuple vs.toArray)) (hv : vs[i]? = some v) : (execOp a.eval ⟨some d, .extract x i, ty, ps, af, gd⟩).run P w = .ok (.value (v)) w := by simp [execOp, hE.eval hx, Instr.extract, hv]
theorem r_load {t : TypeId} {ad : Addr} {v : Value} [TyA P t false] (hE : Env n L a) (hx : ev L x = some (.pointer (some ad))) (hc : w.cell? ad = some v) : (execOp a.eval ⟨some d, .load t x, ty, ps, af, gd⟩).run P w = .ok (.value (v)) w := by simp [execOp, Instr.loadAt, Instr.sureAddr, hE.eval hx, run_loadVar1 hc]
theorem r_loadA {t : TypeId} {ad : Addr} {cs : List Value} {size b : Nat} {z : Value} [TyA P t true] [TyI P t size z b] (hE : Env n L a) (hx : ev L x = some (.pointer (some ad))) (hl : cs.length = size) (hc : ∀ j u, cs[j]? = some u → w.cell? (ad.add j) = some u) : (execOp a.eval ⟨some d, .load t x, ty, ps, af, gd⟩).run P w = .ok (.value (.agg cs.toArray)) w := by simp [execOp, Instr.loadAt, Instr.sureAddr, hE.eval hx, run_loadVarA (size := size) (z := z) (b := b) hl hc]
theorem r_idx {t e : TypeId} {size b : Nat} {z : Value} {A : Option Addr} {m c : Nat} {ad : Addr} {k : IntKind} {i : Int} [TyU P t (.slice e)] [TyI P e size z b] (hE : Env n L a) (hx : ev L x = some (.slice A m c)) (hy : ev L y = some (.int k i)) (h0 : 0 ≤ i) (h1 : i < m) (hA : A = some ad) : (execOp a.eval ⟨some d, .indexAddr t x y, ty, ps, af, gd⟩).run P w = .ok (.value (.pointer (some (ad.add (i.toNat * size))))) w := by subst hA; simp [execOp, Instr.indexAt, asIntOf, hE.eval hx, hE.eval hy, run_under (d := .slice e), run_size (size := size) (zero := z) (bytes := b), h0, h1]
theorem r_nilCheck {ad : Addr} (hE : Env n L a) (hx : ev L x = some (.pointer (some ad))) : (execOp a.eval ⟨some d, .nilCheck x, ty, ps, af, gd⟩).run P w = .ok (.value (.pointer (some ad))) w := by simp [execOp, hE.eval hx]
end

/-! ## A region that draws its order, in one order -/
section
variable {P : Program} {ops : Array Oper} {Q : Exit → Act → World → Prop} {S : World → Prop} {lt : Nat}
/-- whatever order is picked from here on; behind what comes up early S holds -/
def wpAnyT (P : Program) (ops : Array Oper) (Q : Exit → Act → World → Prop) (lt : Nat) : (World → Prop) → Nat → Array Bool → Act → World → Prop
  | _, 0, listed, a, w => Region.ready .any ops listed = [] ∧ Q .normal a w
  | S, fuel + 1, listed, a, w =>
    (Region.ready .any ops listed = [] → Q .normal a w) ∧
    ∀ i ∈ Region.ready .any ops listed, wpOp P ops Q i (fun a' w' => ∃ S' : World → Prop, (i < lt → (∀ u, S' u → S u) ∧ S' w') ∧ wpAnyT P ops Q lt S' fuel (listed.setIfInBounds i true) a' w') a w
theorem wpAny_of_T : ∀ (S : World → Prop) (fuel : Nat) (listed : Array Bool) (a : Act) (w : World), wpAnyT P ops Q lt S fuel listed a w → wpAny P .any ops Q fuel listed a w
  | _, 0, _, _, _, h => h
  | _, fuel + 1, _, _, _, h => ⟨h.1, fun i hi => wpOp_mono (fun a' w' ⟨S', _, h'⟩ => wpAny_of_T S' fuel _ a' w' h') (h.2 i hi)⟩
theorem yieldsIf_strong {S S' : World → Prop} {o : Oper} {v : Value} {a : Act} (h : YieldsIf P ops S o v a) (hs : ∀ u, S' u → S u) : YieldsIf P ops S' o v a :=
  h.imp (fun ⟨h1, h2⟩ => ⟨h1, fun w hw => h2 w (hs w hw)⟩) id
/-- an operation that does not act -/
def rdOp (o : Oper) : Bool := match o.op with
  | .store .. => false
  | .alloc .. => false
  | .box .. => false
  | .buildSlice .. => false
  | .makeSlice .. => false
  | .call c => match c.callee with
    | .value _ => false
    | .builtin .append => false
    | _ => true
  | _ => true
/-- those from lt on wait for all ahead of lt that do not act -/
def lateOk (ops : Array Oper) (lt : Nat) : Bool := (List.range ops.size).all fun j => Nat.blt j lt || match ops[j]? with
  | some o => (List.range lt).all fun i => ((ops[i]?).any rdOp).not || o.after.any fun e => Region.binds .any e && e.on == i
  | none => true
theorem late_early (hl : lateOk ops lt = true) {i j : Nat} {listed : Array Bool} {oi : Oper} (hoi : ops[i]? = some oi) (hrd : rdOp oi = true) (hi : i < lt) (hun : listed.getD i true = false) (hj : j ∈ Region.ready .any ops listed) : j < lt := by
  obtain ⟨_, o, ho, hall⟩ := mem_ready.1 hj
  have hjs : j < ops.size := (Array.getElem?_eq_some_iff.1 ho).1
  have h := List.all_eq_true.1 hl j (List.mem_range.2 hjs)
  simp only [ho, Bool.or_eq_true] at h
  rcases h with h | h
  · simpa [Nat.blt_eq] using h
  · have h2 := List.all_eq_true.1 h i (List.mem_range.2 hi)
    simp only [hoi, Option.any_some, hrd, Bool.not_true, Bool.false_or] at h2
    obtain ⟨e, he, hb⟩ := Array.any_eq_true'.1 h2
    simp only [Bool.and_eq_true, beq_iff_eq] at hb
    have h3 := hall e he hb.1
    rw [hb.2] at h3
    rcases Nat.lt_or_ge i listed.size with h' | h'
    · simp [h'] at hun h3; rw [hun] at h3; cases h3
    · simp [Array.getElem?_eq_none h'] at h3
theorem wpAnyT_first {i : Nat} {oi : Oper} {v : Value} (hlt : lateOk ops lt = true) (hrd : rdOp oi = true) (hil : i < lt) (hi : ops[i]? = some oi) (hsel : ∀ (j : Nat) (o : Oper) cs b, ops[j]? = some o → o.op ≠ .select cs b)
    (hQ : ∀ c a w, Q (.panic c) (a.put oi.dst v) w → Q (.panic c) a w) :
    ∀ (fuel : Nat) (S : World → Prop) (listed : Array Bool) (a : Act) (w : World),
      (∀ j oj, ops[j]? = some oj → j ≠ i → listed.getD j true = false → (∀ e ∈ oj.after, Region.binds .any e = true → e.on ≠ i) → oi.apart ops oj = true) →
      i ∈ Region.ready .any ops listed → YieldsIf P ops S oi v a → S w →
      wpAnyT P ops Q lt S fuel (listed.setIfInBounds i true) (a.put oi.dst v) w → wpAnyT P ops Q lt S (fuel + 1) listed a w := by
  intro fuel
  induction fuel with
  | zero =>
    intro S listed a w _ hr hy hS H
    refine ⟨fun h => (by rw [h] at hr; cases hr), fun j hj => ?_⟩
    by_cases hji : j = i
    · subst hji; exact hy.wpOp hi hS ⟨S, fun _ => ⟨fun _ h => h, hS⟩, H⟩
    · have := ready_mono hj hji
      rw [H.1] at this
      cases this
  | succ fuel ih =>
    intro S listed a w hfree hr hy hS H
    refine ⟨fun h => (by rw [h] at hr; cases hr), fun j hj => ?_⟩
    by_cases hji : j = i
    · subst hji; exact hy.wpOp hi hS ⟨S, fun _ => ⟨fun _ h => h, hS⟩, H⟩
    · have h1 := H.2 j (ready_mono hj hji)
      have hjl : j < lt := late_early hlt hi hrd hil (mem_ready.1 hr).1 hj
      obtain ⟨hjun, oj, hoj, hall⟩ := mem_ready.1 hj
      have hnot : ∀ e ∈ oj.after, Region.binds .any e = true → e.on ≠ i := fun e he hb heq => by
        have h1 := hall e he hb
        have h0 := (mem_ready.1 hr).1
        rw [heq] at h1
        rcases Nat.lt_or_ge i listed.size with h' | h'
        · simp [h'] at h0 h1; rw [h0] at h1; cases h1
        · simp [Array.getElem?_eq_none h'] at h1
      have h2 := wpOp_putIf hoj (hfree j oj hoj hji hjun hnot) (fun cs b => hsel i oi cs b hi) (fun cs b => hsel j oj cs b hoj) hQ hy h1
      have hfree' : ∀ k ok, ops[k]? = some ok → k ≠ i → (listed.setIfInBounds j true).getD k true = false →
          (∀ e ∈ ok.after, Region.binds .any e = true → e.on ≠ i) → oi.apart ops ok = true := fun k ok hk hki hun hno => by
        refine hfree k ok hk hki ?_ hno
        by_cases hjk : j = k
        · subst hjk; exact hjun
        · rw [getD_set_ne true hjk] at hun; exact hun
      refine wpOp_mono (fun a' w' h3 => ?_) h2
      obtain ⟨h31, S', h32, h33⟩ := h3
      obtain ⟨hs1, hs2⟩ := h32 hjl
      refine ⟨S', fun _ => ⟨hs1, hs2⟩, ih S' (listed.setIfInBounds j true) a' w' hfree' (ready_mono hr (Ne.symm hji)) (yieldsIf_strong h31 hs1) hs2 ?_⟩
      rw [Array.setIfInBounds_comm _ _ hji]
      exact h33
theorem wpAnyT_take {i : Nat} {oi : Oper} {v : Value} {fuel : Nat} {listed : Array Bool} {a : Act} {w : World} (hlt : lateOk ops lt = true) (hrd : rdOp oi = true) (hil : i < lt) (hi : ops[i]? = some oi)
    (hs : Region.noSelect ops = true) (hf : Region.free .any ops listed i = true) (hr : (Region.ready .any ops listed).contains i = true)
    (hQ : ∀ c a w, Q (.panic c) (a.put oi.dst v) w → Q (.panic c) a w) (hy : YieldsIf P ops S oi v a) (hS : S w)
    (h : wpAnyT P ops Q lt S fuel (listed.setIfInBounds i true) (a.put oi.dst v) w) : wpAnyT P ops Q lt S (fuel + 1) listed a w :=
  wpAnyT_first hlt hrd hil hi (Region.noSelect_spec hs) hQ fuel S listed a w (Region.free_spec hi hf) (by simpa using hr) hy hS h
theorem wpAnyT_all {rs : List Nat} {fuel : Nat} {listed : Array Bool} {a : Act} {w : World} (hr : Region.ready .any ops listed = rs) (hne : rs ≠ [])
    (h : ∀ i ∈ rs, wpOp P ops Q i (fun a' w' => ∃ S' : World → Prop, (i < lt → (∀ u, S' u → S u) ∧ S' w') ∧ wpAnyT P ops Q lt S' fuel (listed.setIfInBounds i true) a' w') a w) : wpAnyT P ops Q lt S (fuel + 1) listed a w :=
  ⟨fun h0 => absurd (hr ▸ h0) hne, hr ▸ h⟩
theorem wpAnyT_done {listed : Array Bool} {a : Act} {w : World} (hr : Region.ready .any ops listed = []) (h : Q .normal a w) :
    ∀ fuel, wpAnyT P ops Q lt S fuel listed a w
  | 0 => ⟨hr, h⟩
  | _ + 1 => ⟨fun _ => h, by rw [hr]; simp⟩
end

inductive Pl where
  | done
  | rd (i : Nat) (p : Pl)
  | ef (i : Nat) (p : Pl)
  | lt (i : Nat) (p : Pl)
  | ef2 (i : Nat) (p : Pl) (j : Nat) (q : Pl)
  | ef3 (i : Nat) (p : Pl) (j : Nat) (q : Pl) (m : Nat) (r : Pl)

def Pl.ok (l : List Oper) (k : Nat) : Pl → Nat → Array Bool → Bool
  | .done, f, b => Nat.beq f 0 && (Region.ready .any l.toArray b).isEmpty
  | .rd i p, f + 1, b => (l[i]?).any rdOp && Nat.blt i k && Region.free .any l.toArray b i && (Region.ready .any l.toArray b).contains i && p.ok l k f (b.setIfInBounds i true)
  | .ef i p, f + 1, b => (l[i]?).isSome && (Region.ready .any l.toArray b == [i]) && p.ok l k f (b.setIfInBounds i true)
  | .lt i p, f + 1, b => (l[i]?).isSome && Nat.ble k i && (Region.ready .any l.toArray b == [i]) && p.ok l k f (b.setIfInBounds i true)
  | .ef2 i p j q, f + 1, b => (l[i]?).isSome && (l[j]?).isSome && (Region.ready .any l.toArray b == [i, j]) && p.ok l k f (b.setIfInBounds i true) && q.ok l k f (b.setIfInBounds j true)
  | .ef3 i p j q m r, f + 1, b => (l[i]?).isSome && (l[j]?).isSome && (l[m]?).isSome && (Region.ready .any l.toArray b == [i, j, m]) && p.ok l k f (b.setIfInBounds i true) && q.ok l k f (b.setIfInBounds j true) && r.ok l k f (b.setIfInBounds m true)
  | _, 0, _ => false

def QN (Q : Act → World → Prop) : Exit → Act → World → Prop := fun e a w => e = .normal ∧ Q a w

/-- what is to be shown for one operation that acts -/
def wpE (P : Program) (l : List Oper) (i : Nat) (K : Act → World → Prop) (a : Act) (w : World) : Prop :=
  ∀ o, l[i]? = some o → wpList P l.toArray (fun e a' w' => e = .normal ∧ K a' w') [o] a w
def wpO (P : Program) (l : List Oper) (Q : Act → World → Prop) : (World → Prop) → Pl → Act → World → Prop
  | _, .done, a, w => Q a w
  | S, .rd i p, a, w => ∃ o v, l[i]? = some o ∧ YieldsIf P l.toArray S o v a ∧ S w ∧ wpO P l Q S p (a.put o.dst v) w
  | S, .ef i p, a, w => wpE P l i (fun a w => ∃ S' : World → Prop, (∀ u, S' u → S u) ∧ S' w ∧ wpO P l Q S' p a w) a w
  | S, .lt i p, a, w => wpE P l i (fun a w => wpO P l Q S p a w) a w
  | S, .ef2 i p j q, a, w => wpE P l i (fun a w => ∃ S' : World → Prop, (∀ u, S' u → S u) ∧ S' w ∧ wpO P l Q S' p a w) a w ∧ wpE P l j (fun a w => ∃ S' : World → Prop, (∀ u, S' u → S u) ∧ S' w ∧ wpO P l Q S' q a w) a w
  | S, .ef3 i p j q m r, a, w => wpE P l i (fun a w => ∃ S' : World → Prop, (∀ u, S' u → S u) ∧ S' w ∧ wpO P l Q S' p a w) a w ∧ wpE P l j (fun a w => ∃ S' : World → Prop, (∀ u, S' u → S u) ∧ S' w ∧ wpO P l Q S' q a w) a w ∧ wpE P l m (fun a w => ∃ S' : World → Prop, (∀ u, S' u → S u) ∧ S' w ∧ wpO P l Q S' r a w) a w

section
variable {P : Program} {l : List Oper} {Q : Act → World → Prop} {S : World → Prop}

theorem wpE_op {i : Nat} {a : Act} {w : World} {o : Oper} {K0 : Act → World → Prop} (ho : l[i]? = some o) (h : wpE P l i K0 a w) {K : Act → World → Prop} (hk : ∀ a' w', K0 a' w' → K a' w') :
    wpOp P l.toArray (QN Q) i K a w := by
  unfold wpE at h
  have h := h o ho
  unfold wpOp
  simp only [List.getElem?_toArray, ho]
  unfold wpList at h
  have fin : ∀ a' w', wpList P l.toArray (fun e a' w' => e = .normal ∧ K0 a' w') [] a' w' → K a' w' := by
    intro a' w' h'
    unfold wpList at h'
    exact hk _ _ h'.2
  split
  · rename_i hw
    rw [if_pos hw] at h
    left
    rcases h with h | ⟨_, a0, w0, h0, _⟩
    · unfold Oper.wp at h ⊢
      generalize (execOp a.eval o).run P w = r at h ⊢
      cases r with
      | ok nx w2 =>
        cases nx <;> simp only [Oper.upon] at h ⊢ <;> first
          | exact fin _ _ h
          | exact Calls.mono h (fun e w3 he => by
              cases e with
              | returned u => exact fin _ _ he
              | panicked ch => exact absurd he.1 (by simp)
              | outgrown => obtain ⟨a0, w0, h0, _⟩ := he; cases h0)
          | exact Rows.mono h (fun _ _ he => fin _ _ he)
          | exact absurd h.1 (by simp)
      | halt x w2 => cases x <;> simp only [Oper.upon] at h ⊢ <;> exact absurd h.1 (by simp)
    · cases h0
  · rename_i hw
    rw [if_neg hw] at h
    exact fin _ _ h

theorem Pl.sound (k : Nat) (hk0 : lateOk l.toArray k = true) : ∀ (S : World → Prop) (p : Pl) (f : Nat) (b : Array Bool) (a : Act) (w : World), Region.noSelect l.toArray = true → p.ok l k f b = true → wpO P l Q S p a w → wpAnyT P l.toArray (QN Q) k S f b a w
  | S, .done, f, b, a, w, hs, hk, h => by
    unfold wpO at h
    simp only [Pl.ok, Bool.and_eq_true] at hk
    exact wpAnyT_done (by simpa using hk.2) ⟨rfl, h⟩ f
  | S, .rd i p, 0, b, a, w, hs, hk, h => by simp [Pl.ok] at hk
  | S, .rd i p, f + 1, b, a, w, hs, hk, h => by
    unfold wpO at h
    obtain ⟨o, v, ho, hy, hS, h⟩ := h
    simp only [Pl.ok, Bool.and_eq_true] at hk
    exact wpAnyT_take (oi := o) (v := v) hk0 (by have := hk.1.1.1.1; rw [ho] at this; simpa using this) (by simpa [Nat.blt_eq] using hk.1.1.1.2) (by simpa using ho) hs hk.1.1.2 hk.1.2 (fun c a w h => absurd h.1 (by simp)) hy hS (Pl.sound k hk0 S p f _ _ _ hs hk.2 h)
  | S, .ef i p, 0, b, a, w, hs, hk, h => by simp [Pl.ok] at hk
  | S, .ef i p, f + 1, b, a, w, hs, hk, h => by
    unfold wpO at h
    simp only [Pl.ok, Bool.and_eq_true, beq_iff_eq] at hk
    obtain ⟨o, ho⟩ := Option.isSome_iff_exists.1 hk.1.1
    refine wpAnyT_all hk.1.2 (by simp) fun j hj => ?_
    simp only [List.mem_singleton] at hj
    subst hj
    exact wpE_op ho h fun a' w' ⟨S', h1, h2, h'⟩ => ⟨S', fun _ => ⟨h1, h2⟩, Pl.sound k hk0 S' p f _ _ _ hs hk.2 h'⟩
  | S, .lt i p, 0, b, a, w, hs, hk, h => by simp [Pl.ok] at hk
  | S, .lt i p, f + 1, b, a, w, hs, hk, h => by
    unfold wpO at h
    simp only [Pl.ok, Bool.and_eq_true, beq_iff_eq] at hk
    obtain ⟨o, ho⟩ := Option.isSome_iff_exists.1 hk.1.1.1
    have hle : k ≤ i := Nat.le_of_ble_eq_true hk.1.1.2
    refine wpAnyT_all hk.1.2 (by simp) fun j hj => ?_
    simp only [List.mem_singleton] at hj
    subst hj
    exact wpE_op ho h fun a' w' h' => ⟨S, fun hlt => absurd hlt (by omega), Pl.sound k hk0 S p f _ _ _ hs hk.2 h'⟩
  | S, .ef2 i p j q, 0, b, a, w, hs, hk, h => by simp [Pl.ok] at hk
  | S, .ef2 i p j q, f + 1, b, a, w, hs, hk, h => by
    unfold wpO at h
    simp only [Pl.ok, Bool.and_eq_true, beq_iff_eq] at hk
    obtain ⟨o, ho⟩ := Option.isSome_iff_exists.1 hk.1.1.1.1
    obtain ⟨o2, ho2⟩ := Option.isSome_iff_exists.1 hk.1.1.1.2
    refine wpAnyT_all hk.1.1.2 (by simp) fun m hm => ?_
    simp only [List.mem_cons, List.not_mem_nil, or_false] at hm
    rcases hm with rfl | rfl
    · exact wpE_op ho h.1 fun a' w' ⟨S', h1, h2, h'⟩ => ⟨S', fun _ => ⟨h1, h2⟩, Pl.sound k hk0 S' p f _ _ _ hs hk.1.2 h'⟩
    · exact wpE_op ho2 h.2 fun a' w' ⟨S', h1, h2, h'⟩ => ⟨S', fun _ => ⟨h1, h2⟩, Pl.sound k hk0 S' q f _ _ _ hs hk.2 h'⟩
  | S, .ef3 i p j q m r, 0, b, a, w, hs, hk, h => by simp [Pl.ok] at hk
  | S, .ef3 i p j q m r, f + 1, b, a, w, hs, hk, h => by
    unfold wpO at h
    simp only [Pl.ok, Bool.and_eq_true, beq_iff_eq] at hk
    obtain ⟨o, ho⟩ := Option.isSome_iff_exists.1 hk.1.1.1.1.1.1
    obtain ⟨o2, ho2⟩ := Option.isSome_iff_exists.1 hk.1.1.1.1.1.2
    obtain ⟨o3, ho3⟩ := Option.isSome_iff_exists.1 hk.1.1.1.1.2
    refine wpAnyT_all hk.1.1.1.2 (by simp) fun n hn => ?_
    simp only [List.mem_cons, List.not_mem_nil, or_false] at hn
    rcases hn with rfl | rfl | rfl
    · exact wpE_op ho h.1 fun a' w' ⟨S', h1, h2, h'⟩ => ⟨S', fun _ => ⟨h1, h2⟩, Pl.sound k hk0 S' p f _ _ _ hs hk.1.1.2 h'⟩
    · exact wpE_op ho2 h.2.1 fun a' w' ⟨S', h1, h2, h'⟩ => ⟨S', fun _ => ⟨h1, h2⟩, Pl.sound k hk0 S' q f _ _ _ hs hk.1.2 h'⟩
    · exact wpE_op ho3 h.2.2 fun a' w' ⟨S', h1, h2, h'⟩ => ⟨S', fun _ => ⟨h1, h2⟩, Pl.sound k hk0 S' r f _ _ _ hs hk.2 h'⟩

/-- the beginning; those from k on come last -/
theorem c_ord {id : Nat} {Q' : Exit → Act → World → Prop} {a : Act} {w : World} (S : World → Prop) (k : Nat) (p : Pl) (hm : P.follows .mixedOrders = true)
    (hk : (Region.noSelect l.toArray && lateOk l.toArray k && p.ok l k l.length (Array.replicate l.length false)) = true)
    (h : wpO P l (Q' .normal) S p a { w with drawn := w.drawn + 1 }) : (Code.region id l.toArray true).wp P Q' a w := by
  simp only [Bool.and_eq_true] at hk
  have h1 := Pl.sound k hk.1.2 S p _ _ _ _ hk.1.1 hk.2 h
  have h2 : (Code.region id l.toArray true).wp P (QN (Q' .normal)) a w := wp_region_any hm (wpAny_of_T S _ _ _ _ (by simpa using h1))
  refine wp_mono h2 ?_
  rintro e a w ⟨rfl, h⟩
  exact h

/-- an operation that reads, taken now -/
def wpR (P : Program) (l : List Oper) (Q : Act → World → Prop) (S : World → Prop) (o : Oper) (p : Pl) (a : Act) (w : World) : Prop :=
  ∃ v, YieldsIf P l.toArray S o v a ∧ S w ∧ wpO P l Q S p (a.put o.dst v) w

variable {n d : Nat} {L : List (Nat × Value)} {a : Act} {w : World}
theorem o_rd {i : Nat} {p : Pl} {o : Oper} (hi : l[i]? = some o) (h : wpR P l Q S o p a w) : wpO P l Q S (.rd i p) a w := by
  obtain ⟨v, h1, h2, h3⟩ := h
  unfold wpO
  exact ⟨o, v, hi, h1, h2, h3⟩
theorem o_ef {i : Nat} {p : Pl} {o : Oper} (hi : l[i]? = some o) (h : wpList P l.toArray (fun e a' w' => e = .normal ∧ ∃ S' : World → Prop, (∀ u, S' u → S u) ∧ S' w' ∧ wpO P l Q S' p a' w') [o] a w) : wpO P l Q S (.ef i p) a w := by
  unfold wpO wpE
  intro o' ho'
  obtain rfl : o = o' := Option.some.inj (hi.symm.trans ho')
  exact h
theorem o_lt {i : Nat} {p : Pl} {o : Oper} (hi : l[i]? = some o) (h : wpList P l.toArray (fun e a' w' => e = .normal ∧ wpO P l Q S p a' w') [o] a w) : wpO P l Q S (.lt i p) a w := by
  unfold wpO wpE
  intro o' ho'
  obtain rfl : o = o' := Option.some.inj (hi.symm.trans ho')
  exact h
theorem o_ef2 {i j : Nat} {p q : Pl} {o o2 : Oper} (hi : l[i]? = some o) (hj : l[j]? = some o2)
    (h : wpList P l.toArray (fun e a' w' => e = .normal ∧ ∃ S' : World → Prop, (∀ u, S' u → S u) ∧ S' w' ∧ wpO P l Q S' p a' w') [o] a w) (h2 : wpList P l.toArray (fun e a' w' => e = .normal ∧ ∃ S' : World → Prop, (∀ u, S' u → S u) ∧ S' w' ∧ wpO P l Q S' q a' w') [o2] a w) : wpO P l Q S (.ef2 i p j q) a w := by
  unfold wpO wpE
  refine ⟨fun o' ho' => ?_, fun o' ho' => ?_⟩
  · obtain rfl : o = o' := Option.some.inj (hi.symm.trans ho')
    exact h
  · obtain rfl : o2 = o' := Option.some.inj (hj.symm.trans ho')
    exact h2
theorem o_ef3 {i j m : Nat} {p q r : Pl} {o o2 o3 : Oper} (hi : l[i]? = some o) (hj : l[j]? = some o2) (hm : l[m]? = some o3)
    (h : wpList P l.toArray (fun e a' w' => e = .normal ∧ ∃ S' : World → Prop, (∀ u, S' u → S u) ∧ S' w' ∧ wpO P l Q S' p a' w') [o] a w) (h2 : wpList P l.toArray (fun e a' w' => e = .normal ∧ ∃ S' : World → Prop, (∀ u, S' u → S u) ∧ S' w' ∧ wpO P l Q S' q a' w') [o2] a w) (h3 : wpList P l.toArray (fun e a' w' => e = .normal ∧ ∃ S' : World → Prop, (∀ u, S' u → S u) ∧ S' w' ∧ wpO P l Q S' r a' w') [o3] a w) : wpO P l Q S (.ef3 i p j q m r) a w := by
  unfold wpO wpE
  refine ⟨fun o' ho' => ?_, fun o' ho' => ?_, fun o' ho' => ?_⟩
  · obtain rfl : o = o' := Option.some.inj (hi.symm.trans ho')
    exact h
  · obtain rfl : o2 = o' := Option.some.inj (hj.symm.trans ho')
    exact h2
  · obtain rfl : o3 = o' := Option.some.inj (hm.symm.trans ho')
    exact h3
theorem o_back {p : Pl} (S' : World → Prop) (h1 : ∀ u, S' u → S u) (hS : S' w) (h : wpO P l Q S' p a w) : (fun (e : Exit) (a' : Act) (w' : World) => e = .normal ∧ ∃ S' : World → Prop, (∀ u, S' u → S u) ∧ S' w' ∧ wpO P l Q S' p a' w') .normal a w := ⟨rfl, S', h1, hS, h⟩
theorem o_backL {p : Pl} (h : wpO P l Q S p a w) : (fun (e : Exit) (a' : Act) (w' : World) => e = .normal ∧ wpO P l Q S p a' w') .normal a w := ⟨rfl, h⟩
theorem o_done (h : Q a w) : wpO P l Q S .done a w := by unfold wpO; exact h

variable {dd : Option Tmp} {op : Op} {ty : TypeId} {ps : String} {af : Array Edge} {v : Value}
theorem d_val (hE : Env n L a) (hS : S w) (hd : Nat.blt d n = true) {p : Pl}
    (hrun : ∀ w, S w → (execOp a.eval ⟨some d, op, ty, ps, af, none⟩).run P w = .ok (.value v) w) (k : ∀ a', Env n ((d, v) :: L) a' → wpO P l Q S p a' w) : wpR P l Q S ⟨some d, op, ty, ps, af, none⟩ p a w :=
  ⟨v, .inl ⟨by simp [Region.wanted], hrun⟩, hS, k _ (hE.put hd v)⟩
variable {j dj : Nat} {want : Bool}
theorem d_yes {b : Bool} {p : Pl} (hE : Env n L a) (hj : (l[j]?).bind (·.dst) = some dj) (hb : find L dj = some (.bool b)) (hw : b = want) (h : wpR P l Q S ⟨some d, op, ty, ps, af, none⟩ p a w) : wpR P l Q S ⟨some d, op, ty, ps, af, some (j, want)⟩ p a w := by
  have hy : yielded l.toArray a.tmps j = some b := by
    have h1 := hE.has _ _ hb
    simp only [yielded, List.getElem?_toArray, hj, Option.bind_some, h1]
  obtain ⟨v, h1, h2, h3⟩ := h
  refine ⟨v, ?_, h2, h3⟩
  rcases h1 with ⟨_, h1⟩ | ⟨h1, _⟩
  · exact .inl ⟨by simp [Region.wanted, hy, hw], h1⟩
  · simp [Region.wanted] at h1
theorem d_no {b : Bool} {p : Pl} (hE : Env n L a) (hS : S w) (hj : (l[j]?).bind (·.dst) = some dj) (hb : find L dj = some (.bool b)) (hw : b = !want) (hd : Nat.blt d n = true) (k : ∀ a', Env n ((d, undef) :: L) a' → wpO P l Q S p a' w) : wpR P l Q S ⟨some d, op, ty, ps, af, some (j, want)⟩ p a w := by
  have hy : yielded l.toArray a.tmps j = some b := by
    have h1 := hE.has _ _ hb
    simp only [yielded, List.getElem?_toArray, hj, Option.bind_some, h1]
  refine ⟨undef, .inr ⟨?_, rfl⟩, hS, k _ (hE.put hd undef)⟩
  simp only [Region.wanted, hy]
  subst hw
  cases want <;> rfl
theorem d_un {p : Pl} (hE : Env n L a) (hS : S w) (hj : (l[j]?).bind (·.dst) = some dj) (hb : find L dj = some undef) (hd : Nat.blt d n = true) (k : ∀ a', Env n ((d, undef) :: L) a' → wpO P l Q S p a' w) : wpR P l Q S ⟨some d, op, ty, ps, af, some (j, want)⟩ p a w := by
  have hy : yielded l.toArray a.tmps j = none := by
    have h1 := hE.has _ _ hb
    simp only [yielded, List.getElem?_toArray, hj, Option.bind_some, h1]
    rfl
  refine ⟨undef, .inr ⟨?_, rfl⟩, hS, k _ (hE.put hd undef)⟩
  simp only [Region.wanted, hy]
  cases want <;> rfl
theorem d_dec {q : Prop} [Decidable q] {p : Pl} (hE : Env n L a) (hj : (l[j]?).bind (·.dst) = some dj) (hb : find L dj = some (.bool (decide q)))
    (ht : q → Env n ((dj, .bool true) :: L) a → wpR P l Q S ⟨some d, op, ty, ps, af, some (j, want)⟩ p a w) (hf : ¬ q → Env n ((dj, .bool false) :: L) a → wpR P l Q S ⟨some d, op, ty, ps, af, some (j, want)⟩ p a w) : wpR P l Q S ⟨some d, op, ty, ps, af, some (j, want)⟩ p a w := by
  by_cases hp : q
  · exact ht hp (hE.as hb (by simp [hp]))
  · exact hf hp (hE.as hb (by simp [hp]))
theorem d_bool {b : Bool} {p : Pl} (hE : Env n L a) (hj : (l[j]?).bind (·.dst) = some dj) (hb : find L dj = some (.bool b))
    (ht : b = true → Env n ((dj, .bool true) :: L) a → wpR P l Q S ⟨some d, op, ty, ps, af, some (j, want)⟩ p a w) (hf : b = false → Env n ((dj, .bool false) :: L) a → wpR P l Q S ⟨some d, op, ty, ps, af, some (j, want)⟩ p a w) : wpR P l Q S ⟨some d, op, ty, ps, af, some (j, want)⟩ p a w := by
  cases b
  · exact hf rfl (hE.more hb)
  · exact ht rfl (hE.more hb)
/-! ### Gates -/
variable {xt yt : TypeId} {x y z : Operand} {gd : Nat × Bool} {i : Nat} {p : Pl}
theorem q_move (h : wpR P l Q S ⟨some d, .move x, ty, ps, af, none⟩ p a w) : wpR P l Q S ⟨some d, .move x, ty, ps, af, none⟩ p a w := h
theorem q_assign (h : wpR P l Q S ⟨some d, .assign x, ty, ps, af, none⟩ p a w) : wpR P l Q S ⟨some d, .assign x, ty, ps, af, none⟩ p a w := h
theorem q_bin (op : BinOp) (h : wpR P l Q S ⟨some d, .binOp op xt x y yt, ty, ps, af, none⟩ p a w) : wpR P l Q S ⟨some d, .binOp op xt x y yt, ty, ps, af, none⟩ p a w := h
theorem q_un (op : UnOp) (h : wpR P l Q S ⟨some d, .unOp op xt x, ty, ps, af, none⟩ p a w) : wpR P l Q S ⟨some d, .unOp op xt x, ty, ps, af, none⟩ p a w := h
theorem q_conv (h : wpR P l Q S ⟨some d, .convert xt yt x, ty, ps, af, none⟩ p a w) : wpR P l Q S ⟨some d, .convert xt yt x, ty, ps, af, none⟩ p a w := h
theorem q_blt (b : Builtin) {xs : Array Operand} {ts : Array TypeId} (h : wpR P l Q S ⟨some d, .call ⟨.builtin b, xs, ts⟩, ty, ps, af, none⟩ p a w) : wpR P l Q S ⟨some d, .call ⟨.builtin b, xs, ts⟩, ty, ps, af, none⟩ p a w := h
theorem q_extract (h : wpR P l Q S ⟨some d, .extract x i, ty, ps, af, none⟩ p a w) : wpR P l Q S ⟨some d, .extract x i, ty, ps, af, none⟩ p a w := h
theorem q_fa (h : wpR P l Q S ⟨some d, .fieldAddr xt x i, ty, ps, af, none⟩ p a w) : wpR P l Q S ⟨some d, .fieldAddr xt x i, ty, ps, af, none⟩ p a w := h
theorem q_nc (h : wpR P l Q S ⟨some d, .nilCheck x, ty, ps, af, none⟩ p a w) : wpR P l Q S ⟨some d, .nilCheck x, ty, ps, af, none⟩ p a w := h
theorem q_pick (h : wpR P l Q S ⟨some d, .pick x y z, ty, ps, af, none⟩ p a w) : wpR P l Q S ⟨some d, .pick x y z, ty, ps, af, none⟩ p a w := h
theorem q_ia (h : wpR P l Q S ⟨some d, .indexAddr xt x y, ty, ps, af, none⟩ p a w) : wpR P l Q S ⟨some d, .indexAddr xt x y, ty, ps, af, none⟩ p a w := h
theorem q_load (h : wpR P l Q S ⟨some d, .load xt x, ty, ps, af, none⟩ p a w) : wpR P l Q S ⟨some d, .load xt x, ty, ps, af, none⟩ p a w := h
theorem q_guard (h : wpR P l Q S ⟨dd, op, ty, ps, af, some (j, want)⟩ p a w) : wpR P l Q S ⟨dd, op, ty, ps, af, some (j, want)⟩ p a w := h
end
end Go.Proofs.Ytfoeelghehjanaa

/-
  Pieces by their place: a block's cells read and written, a row's elements read and written.
-/
namespace Go.Proofs.Ytfoeelghehjanaa
open Go.RowKit
set_option linter.unusedVariables false
set_option linter.unusedSimpArgs false

section
variable {w w' w0 : World} {L : List HP} {h h' : HP}
theorem Sep.focus : ∀ {L : List HP} {k : Nat} {h : HP} {T : Nat → Prop}, L[k]? = some h → Sep w L T → Sep w (h :: L.eraseIdx k) T
  | [], _, _, _, hk, _ => by simp at hk
  | a :: L, 0, h, T, hk, hs => by
    simp at hk
    subst hk
    exact hs
  | a :: L, k + 1, h, T, hk, hs => by
    rw [List.eraseIdx_cons_succ]
    exact Sep.swap (Sep.cons_mono (fun T q => Sep.focus (by simpa using hk) q) hs)
theorem Sep.unfocus : ∀ {L : List HP} {k : Nat} {h h' : HP} {T : Nat → Prop}, L[k]? = some h → Sep w (h' :: L.eraseIdx k) T → Sep w (L.set k h') T
  | [], _, _, _, _, hk, _ => by simp at hk
  | a :: L, 0, h, h', T, hk, hs => hs
  | a :: L, k + 1, h, h', T, hk, hs => by
    rw [List.eraseIdx_cons_succ] at hs
    rw [List.set_cons_succ]
    exact Sep.cons_mono (fun T q => Sep.unfocus (by simpa using hk) q) (Sep.swap hs)
theorem Sep.drop_ : ∀ {L : List HP} {k : Nat} {T : Nat → Prop}, Sep w L T → Sep w (L.eraseIdx k) T
  | [], _, _, hs => hs
  | a :: L, 0, T, hs => by
    obtain ⟨S, _, _, r⟩ := hs
    exact Sep.mono (fun k hk => hk.1) r
  | a :: L, k + 1, T, hs => Sep.cons_mono (fun T q => Sep.drop_ q) hs
theorem St.focus {k : Nat} (hS : St w0 w L) (hk : L[k]? = some h) : St w0 w (h :: L.eraseIdx k) := ⟨hS.below, hS.sep.focus hk⟩
theorem St.unfocus {k : Nat} (hk : L[k]? = some h) (hS : St w0 w (h' :: L.eraseIdx k)) : St w0 w (L.set k h') := ⟨hS.below, hS.sep.unfocus hk⟩
/-- a piece is let go -/
theorem St.drop (k : Nat) (hS : St w0 w L) : St w0 w (L.eraseIdx k) := ⟨hS.below, hS.sep.drop_⟩
theorem St.at {k : Nat} (hS : St w0 w L) (hk : L[k]? = some h) : ∃ S : Nat → Prop, (∀ j, S j → w0.heap.size ≤ j ∧ j < w.heap.size) ∧ h.at_ S w := (hS.focus hk).head
/-- a piece is said otherwise -/
theorem St.convAt {k : Nat} (hS : St w0 w L) (hk : L[k]? = some h) (hh : ∀ S : Nat → Prop, h.at_ S w → h'.at_ S w) : St w0 w (L.set k h') := St.unfocus hk ((hS.focus hk).conv hh)
theorem St.updAt {k : Nat} (hS : St w0 w L) (hk : L[k]? = some h) (ho : w'.os = w.os) (ht : w'.tape = w.tape) (hp : w'.output = w.output) (hz : w.heap.size ≤ w'.heap.size)
    (hh : ∀ S : Nat → Prop, h.at_ S w → ∃ S' : Nat → Prop, h'.at_ S' w' ∧ (∀ j, S' j → S j ∨ (w.heap.size ≤ j ∧ j < w'.heap.size)) ∧ ∀ j, j < w.heap.size → ¬ S j → w'.heap[j]? = w.heap[j]?) : St w0 w' (L.set k h') :=
  St.unfocus hk ((hS.focus hk).upd ho ht hp hz hh)
/-- a piece that is many -/
theorem St.open_ {M : List HP} (hS : St w0 w (hAll M :: L)) : St w0 w (M ++ L) := by
  obtain ⟨hb, S, h1, h2, r⟩ := hS
  refine ⟨hb, Sep.append (T := S) (T' := fun k => (w0.heap.size ≤ k ∧ k < w.heap.size) ∧ ¬ S k) h2 r (fun k hk hk' => hk'.2 hk) h1 (fun k hk => hk.1)⟩
theorem Sep.split : ∀ {M L : List HP} {T : Nat → Prop}, Sep w (M ++ L) T → ∃ S : Nat → Prop, (∀ k, S k → T k) ∧ Sep w M S ∧ Sep w L (fun k => T k ∧ ¬ S k)
  | [], L, T, hs => ⟨fun _ => False, fun _ h => h.elim, trivial, Sep.mono (fun k hk => ⟨hk, fun h => h⟩) hs⟩
  | m :: M, L, T, ⟨S, h1, h2, r⟩ => by
    obtain ⟨S2, g1, g2, g3⟩ := Sep.split r
    refine ⟨fun k => S k ∨ S2 k, fun k hk => ?_, ⟨S, fun k hk => .inl hk, h2, Sep.mono (fun k hk => ⟨.inr hk, (g1 k hk).2⟩) g2⟩, Sep.mono (fun k hk => ⟨hk.1.1, fun h => ?_⟩) g3⟩
    · rcases hk with hk | hk
      · exact h1 k hk
      · exact (g1 k hk).1
    · rcases h with h | h
      · exact hk.1.2 h
      · exact hk.2 h
theorem St.close_ {M : List HP} (hS : St w0 w (M ++ L)) : St w0 w (hAll M :: L) := by
  obtain ⟨S, h1, h2, h3⟩ := hS.sep.split
  exact ⟨hS.below, S, h1, h2, h3⟩
/-- a piece that is something or other -/
theorem St.ex {α : Sort _} {f : α → HP} (hS : St w0 w (hEx f :: L)) : ∃ x, St w0 w (f x :: L) := by
  obtain ⟨hb, S, h1, ⟨x, h2⟩, r⟩ := hS
  exact ⟨x, hb, S, h1, h2, r⟩
theorem St.exI {α : Sort _} {f : α → HP} (x : α) (hS : St w0 w (f x :: L)) : St w0 w (hEx f :: L) := hS.conv fun S h => ⟨x, h⟩
theorem St.pure {p : Prop} (hS : St w0 w (hPure p :: L)) : p := by
  obtain ⟨hb, S, h1, h2, r⟩ := hS
  exact h2
theorem St.pureI {p : Prop} (hp : p) (hS : St w0 w L) : St w0 w (hPure p :: L) := hS.new (Below.refl _ _) (fun _ => False) (fun _ h => h.elim) hp
/-- two pieces are one -/
theorem St.nth {k : Nat} (hS : St w0 w L) (hk : L[k]? = some h) : ∃ S : Nat → Prop, h.at_ S w := by
  obtain ⟨S, _, h2⟩ := hS.at hk
  exact ⟨S, h2⟩
end

section
variable {w w' w0 : World} {L : List HP} {g t : Nat} {cs : List Value} {k : Nat}
theorem St.blkAt (hS : St w0 w L) (hk : L[k]? = some (hBlk g t cs)) : w.heap[g]? = some (.cells cs.toArray t (0, 0)) ∧ w0.heap.size ≤ g ∧ g < w.heap.size := (hS.focus hk).blk
theorem St.cellAt (hS : St w0 w L) (hk : L[k]? = some (hBlk g t cs)) (j : Nat) : w.cell? ⟨g, j, none⟩ = cs[j]? := (hS.focus hk).blkCell j
theorem St.setAt (hS : St w0 w L) (hk : L[k]? = some (hBlk g t cs)) (j : Nat) (u : Value) : St w0 (w.setCell ⟨g, j, none⟩ u) (L.set k (hBlk g t (cs.set j u))) := St.unfocus hk ((hS.focus hk).setBlk j u)
/-- cells one behind the other, set -/
def splice (cs : List Value) (o : Nat) (vs : List Value) : List Value := cs.take o ++ vs ++ cs.drop (o + vs.length)
theorem splice_length (cs : List Value) (o : Nat) (vs : List Value) (h : o + vs.length ≤ cs.length) : (splice cs o vs).length = cs.length := by
  simp [splice]; omega
theorem setRow_size (w : World) (g : Nat) (c : Array Value) : (w.setRow g c).heap.size = w.heap.size := by simp [World.setRow]
theorem setRow_other (w : World) (g j : Nat) (c : Array Value) (h : j ≠ g) : (w.setRow g c).heap[j]? = w.heap[j]? := by
  simp only [World.setRow, Array.getElem?_modify]
  rw [if_neg (fun e => h e.symm)]
theorem St.spliceAt (hS : St w0 w L) (hk : L[k]? = some (hBlk g t cs)) (o : Nat) (vs : List Value) : St w0 (w.setRow g (splice cs o vs).toArray) (L.set k (hBlk g t (splice cs o vs))) := by
  refine hS.updAt hk rfl rfl rfl (by rw [setRow_size]; exact Nat.le_refl _) fun S ⟨h1, h2⟩ => ⟨S, ⟨h1, setRow_heap w g _ _ t _ h2⟩, fun j hj => .inl hj, fun j _ hj => setRow_other w g j _ (fun e => hj (e ▸ h1))⟩
end

section
variable {P : Program} {ops : Array Oper} {Q : Exit → Act → World → Prop} {rest : List Oper} {n d : Nat} {L : List (Nat × Value)} {a : Act} {w w0 : World} {H : List HP}
variable {ty : TypeId} {ps : String} {af : Array Edge} {x y : Operand} {k : Nat} {gd : Option (Nat × Bool)}

/-- a pointer's field -/
theorem r_fieldL {t ft : TypeId} {i off size b g o : Nat} {z : Value} [TyF P t i off ft] [TyI P ft size z b] (hE : Env n L a) (hx : ev L x = some (.pointer (some ⟨g, o, none⟩))) (hs : Nat.beq size 0 = false) : (execOp a.eval ⟨some d, .fieldAddr t x i, ty, ps, af, gd⟩).run P w = .ok (.value (.pointer (some ⟨g, o + off, none⟩))) w := by
  have := r_field (P := P) (d := d) (ty := ty) (ps := ps) (af := af) (gd := gd) (w := w) (t := t) (i := i) (off := off) hE hx hs
  rw [add_lit] at this
  exact this
theorem s_fieldL {t ft : TypeId} {i off size b g o : Nat} {z : Value} [TyF P t i off ft] [TyI P ft size z b] (hE : Env n L a) (hx : ev L x = some (.pointer (some ⟨g, o, none⟩))) (hs : Nat.beq size 0 = false) (hd : Nat.blt d n = true) (K : ∀ a', Env n ((d, .pointer (some ⟨g, o + off, none⟩)) :: L) a' → wpList P ops Q rest a' w) :
    wpList P ops Q (⟨some d, .fieldAddr t x i, ty, ps, af, none⟩ :: rest) a w :=
  s_val hE rfl rfl hd (r_fieldL hE hx hs) K
/-- one cell of a block, read -/
theorem r_loadB {t u g o : Nat} {cs : List Value} {v : Value} [TyA P t false] (hS : St w0 w H) (hE : Env n L a) (hx : ev L x = some (.pointer (some ⟨g, o, none⟩))) (hk : H[k]? = some (hBlk g u cs)) (hv : cs[o]? = some v) : (execOp a.eval ⟨some d, .load t x, ty, ps, af, gd⟩).run P w = .ok (.value v) w :=
  r_load hE hx ((hS.cellAt hk o).trans hv)
theorem s_loadB {t u g o : Nat} {cs : List Value} {v : Value} [TyA P t false] (hS : St w0 w H) (hE : Env n L a) (hx : ev L x = some (.pointer (some ⟨g, o, none⟩))) (hk : H[k]? = some (hBlk g u cs)) (hv : cs[o]? = some v) (hd : Nat.blt d n = true) (K : ∀ a', Env n ((d, v) :: L) a' → wpList P ops Q rest a' w) :
    wpList P ops Q (⟨some d, .load t x, ty, ps, af, none⟩ :: rest) a w :=
  s_val hE rfl rfl hd (r_loadB hS hE hx hk hv) K
/-- cells of a block one behind the other, read -/
theorem r_loadBs {t u g o size b : Nat} {z : Value} {cs vs : List Value} [TyA P t true] [TyI P t size z b] (hS : St w0 w H) (hE : Env n L a) (hx : ev L x = some (.pointer (some ⟨g, o, none⟩))) (hk : H[k]? = some (hBlk g u cs)) (hv : (cs.drop o).take size = vs) (hl : o + size ≤ cs.length) : (execOp a.eval ⟨some d, .load t x, ty, ps, af, gd⟩).run P w = .ok (.value (.agg vs.toArray)) w := by
  subst hv
  refine r_loadA (size := size) (z := z) (b := b) hE hx (by simp; omega) fun j u hu => ?_
  rw [add_lit, hS.cellAt hk]
  rw [List.getElem?_take, List.getElem?_drop] at hu
  split at hu
  · exact hu
  · cases hu
theorem s_loadBs {t u g o size b : Nat} {z : Value} {cs vs : List Value} [TyA P t true] [TyI P t size z b] (hS : St w0 w H) (hE : Env n L a) (hx : ev L x = some (.pointer (some ⟨g, o, none⟩))) (hk : H[k]? = some (hBlk g u cs)) (hv : (cs.drop o).take size = vs) (hl : o + size ≤ cs.length) (hd : Nat.blt d n = true) (K : ∀ a', Env n ((d, .agg vs.toArray) :: L) a' → wpList P ops Q rest a' w) :
    wpList P ops Q (⟨some d, .load t x, ty, ps, af, none⟩ :: rest) a w :=
  s_val hE rfl rfl hd (r_loadBs hS hE hx hk hv hl) K

theorem one_cells {v : Value} (h : v.oneCell' = true) : v.cells = #[v] := by cases v <;> first | rfl | simp [Value.oneCell'] at h
/-- one cell of a block, written -/
theorem s_storeB {t u g o b : Nat} {z : Value} {cs : List Value} {v : Value} {s1 : Nat} [TyI P t s1 z b] (hS : St w0 w H) (hE : Env n L a) (hx : ev L x = some (.pointer (some ⟨g, o, none⟩))) (hy : ev L y = some v) (hk : H[k]? = some (hBlk g u cs)) (hs : s1 = 1) (ho : Nat.blt o cs.length = true) (h1 : v.oneCell' = true)
    (K : ∀ w', St w0 w' (H.set k (hBlk g u (cs.set o v))) → wpList P ops Q rest a w') :
    wpList P ops Q (⟨none, .store t x y, ty, ps, af, none⟩ :: rest) a w := by
  subst hs
  have ho' : o < cs.length := by simpa [Nat.blt_eq] using ho
  have hb := hS.blkAt hk
  refine s_skip (w' := w.setCell ⟨g, o, none⟩ v) hE rfl rfl ?_ fun _ => K _ (hS.setAt hk o v)
  have hcell : w.cell? ⟨g, o, none⟩ = some cs[o] := by rw [hS.cellAt hk]; simp [ho']
  have hfro : w.frozen? ⟨g, o, none⟩ = false := by simp [World.frozen?, hb.1]
  have hst : (store ⟨g, o, none⟩ v).run P w = .ok () (w.setCell ⟨g, o, none⟩ v) := by
    rw [run_store P w _ v _ h1, hcell]
    simp [hfro]
  have hst' : (storeCells ⟨g, o, none⟩ [v]).run P w = .ok () (w.setCell ⟨g, o, none⟩ v) := by
    simp only [storeCells]
    rw [add_lit]
    simp only [Nat.add_zero, Sem.run_bind, hst, Result.andThen_ok, Sem.run_pure]
  simp [execOp, Instr.storeAt, Instr.sureAddr, storeVar, hE.eval hx, hE.eval hy, one_cells h1, run_size (size := 1) (zero := z) (bytes := b), hst']
/-- cells of a block one behind the other, written -/
theorem s_storeBs {t u g o b size : Nat} {z : Value} {cs vs : List Value} [TyI P t size z b] (hS : St w0 w H) (hE : Env n L a) (hx : ev L x = some (.pointer (some ⟨g, o, none⟩))) (hy : ev L y = some (.agg vs.toArray)) (hk : H[k]? = some (hBlk g u cs)) (hs : vs.length = size) (ho : o + size ≤ cs.length) (h1 : ∀ v ∈ vs, v.oneCell' = true)
    (K : ∀ w', St w0 w' (H.set k (hBlk g u (splice cs o vs))) → wpList P ops Q rest a w') :
    wpList P ops Q (⟨none, .store t x y, ty, ps, af, none⟩ :: rest) a w := by
  subst hs
  have hb := hS.blkAt hk
  refine s_skip (w' := w.setRow g (splice cs o vs).toArray) hE rfl rfl ?_ fun _ => K _ (hS.spliceAt hk o vs)
  have hst := run_storeCells_at P g o u vs 0 cs.toArray w hb.1 (by simpa using ho) h1
  simp [execOp, Instr.storeAt, Instr.sureAddr, storeVar, hE.eval hx, hE.eval hy, Value.cells, run_size (size := vs.length) (zero := z) (bytes := b), hst, splice]
end

/-! ## Rows whose elements have several cells -/
section
variable {P : Program} {ops : Array Oper} {Q : Exit → Act → World → Prop} {rest : List Oper} {n d : Nat} {L : List (Nat × Value)} {a : Act} {w w0 : World} {H : List HP}
variable {ty : TypeId} {ps : String} {af : Array Edge} {x y : Operand} {k : Nat} {gd : Option (Nat × Bool)}
theorem St.rdAt {e size m c : Nat} {A : Option Addr} {cs : List Value} (hS : St w0 w H) (hk : H[k]? = some (hRow e size A m c cs)) : Rd w A cs := (hS.focus hk).rd
theorem St.lenAt {e size m c : Nat} {A : Option Addr} {cs : List Value} (hS : St w0 w H) (hk : H[k]? = some (hRow e size A m c cs)) : cs.length = m * size ∧ m ≤ c ∧ c ≤ maxLen := (hS.focus hk).rowLen
theorem Rd.seg {A : Option Addr} {cs : List Value} (h : Rd w A cs) {ad : Addr} (hA : A = some ad) (o m : Nat) : ∀ j u, ((cs.drop o).take m)[j]? = some u → w.cell? ((ad.add o).add j) = some u := by
  intro j u hu
  rw [List.getElem?_take, List.getElem?_drop] at hu
  split at hu
  · have hne : cs ≠ [] := by rintro rfl; simp at hu
    obtain ⟨ad', e, hc⟩ := h hne
    rw [hA] at e
    obtain rfl : ad = ad' := Option.some.inj e
    rw [add_add]
    exact hc _ u hu
  · cases hu
/-- an element of several cells, read -/
theorem r_elem {t size b o : Nat} {z : Value} {A : Option Addr} {ad : Addr} {cs vs : List Value} [TyA P t true] [TyI P t size z b] (hE : Env n L a) (hr : Rd w A cs) (hA : A = some ad) (hx : ev L x = some (.pointer (some (ad.add o)))) (hv : (cs.drop o).take size = vs) (hl : vs.length = size) : (execOp a.eval ⟨some d, .load t x, ty, ps, af, gd⟩).run P w = .ok (.value (.agg vs.toArray)) w := by
  subst hv
  exact r_loadA (size := size) (z := z) (b := b) hE hx hl (hr.seg hA o size)
theorem s_elem {t size b o : Nat} {z : Value} {A : Option Addr} {ad : Addr} {cs vs : List Value} [TyA P t true] [TyI P t size z b] (hE : Env n L a) (hr : Rd w A cs) (hA : A = some ad) (hx : ev L x = some (.pointer (some (ad.add o)))) (hv : (cs.drop o).take size = vs) (hl : vs.length = size) (hd : Nat.blt d n = true) (K : ∀ a', Env n ((d, .agg vs.toArray) :: L) a' → wpList P ops Q rest a' w) :
    wpList P ops Q (⟨some d, .load t x, ty, ps, af, none⟩ :: rest) a w :=
  s_val hE rfl rfl hd (r_elem hE hr hA hx hv hl) K
theorem St.spliceRow {e size m c : Nat} {A : Option Addr} {cs vs : List Value} {ad : Addr} {o : Nat} (hS : St w0 w H) (hk : H[k]? = some (hRow e size A m c cs)) (hA : A = some ad) (ho : o + vs.length ≤ cs.length) (h1 : ∀ v ∈ vs, v.oneCell' = true) :
    ∃ w', (storeCells (ad.add o) vs).run P w = .ok () w' ∧ St w0 w' (H.set k (hRow e size A m c (splice cs o vs))) := by
  obtain ⟨S, _, h1', hown⟩ := hS.at hk
  rcases hown.2 with ⟨h0, hn⟩ | ⟨g, cap, cur, he, hb, hh, hnc, hcm, hsz, htk⟩
  · rw [hA] at h0; cases h0
  · have hA' : A = some ⟨g, 0, none⟩ := by injection he
    have hc : c = cap := by injection he
    rw [hA'] at hA
    injection hA with hA
    subst hA
    subst hc
    subst hA'
    have hlen := hown.1
    have hcur : o + 0 + vs.length ≤ cur.size := by
      have : cs.length ≤ cur.size := by rw [hsz, hlen]; exact Nat.mul_le_mul_right _ hnc
      omega
    have hst := run_storeCells_at P g o e vs 0 cur w hh hcur h1
    rw [add_lit, Nat.zero_add]
    refine ⟨_, hst, ?_⟩
    refine hS.updAt hk rfl rfl rfl (by rw [setRow_size]; exact Nat.le_refl _) fun S ⟨g1, g2⟩ => ⟨S, ⟨g1, ?_⟩, fun j hj => .inl hj, fun j _ hj => setRow_other w g j _ (fun e => hj (e ▸ g1 _ rfl))⟩
    refine ⟨by rw [splice_length _ _ _ ho]; exact hown.1, .inr ⟨g, c, _, rfl, hb, setRow_heap w g _ _ e _ hh, hnc, hcm, ?_, ?_⟩⟩
    · simp only [Nat.add_zero] at hcur ⊢
      simp
      omega
    · simp only [Nat.add_zero, splice]
      rw [← htk]
      have h2 : m * size ≤ cur.toList.length := by rw [Array.length_toList, hsz]; exact Nat.mul_le_mul_right _ hnc
      have h3 : o + vs.length ≤ m * size := by rw [← hlen]; exact ho
      rw [List.take_append, List.take_append, List.take_take]
      have e1 : min (m * size) o = o := by omega
      have e2 : (cur.toList.take o).length = o := by rw [List.length_take]; omega
      rw [List.take_take, e1, e2, List.take_of_length_le (by omega : vs.length ≤ m * size - o), List.drop_take, List.length_append, e2]
      congr 2
      rw [Nat.min_eq_left (by omega)]
/-- an element's cells, written -/
theorem s_storeR {t e size size2 m c o b : Nat} {z : Value} {A : Option Addr} {ad : Addr} {cs vs : List Value} {v : Value} [TyI P t size2 z b] (hS : St w0 w H) (hE : Env n L a) (hx : ev L x = some (.pointer (some (ad.add o)))) (hy : ev L y = some v) (hvs : v.cells = vs.toArray) (hk : H[k]? = some (hRow e size A m c cs)) (hA : A = some ad) (hs : vs.length = size2) (ho : o + size2 ≤ cs.length) (h1 : ∀ v ∈ vs, v.oneCell' = true)
    (K : ∀ w', St w0 w' (H.set k (hRow e size A m c (splice cs o vs))) → wpList P ops Q rest a w') :
    wpList P ops Q (⟨none, .store t x y, ty, ps, af, none⟩ :: rest) a w := by
  subst hs
  obtain ⟨w', hrun, hS'⟩ := hS.spliceRow (P := P) (vs := vs) hk hA ho h1
  refine s_skip (w' := w') hE rfl rfl ?_ fun _ => K _ hS'
  simp [execOp, Instr.storeAt, Instr.sureAddr, storeVar, hE.eval hx, hE.eval hy, hvs, run_size (size := vs.length) (zero := z) (bytes := b), hrun]
end
theorem splice_one {cs : List Value} {o : Nat} {v : Value} (h : o < cs.length) : splice cs o [v] = cs.set o v := by
  simp only [splice, List.length_singleton]
  rw [List.set_eq_take_append_cons_drop, if_pos h]
  simp
theorem bys_set (xs : List Nat) (o y : Nat) : (bys xs).set o (.int .u8 (y : Int)) = bys (xs.set o y) := by simp [bys, List.map_set]

/-! ## A row's place, as a total function -/
def adr (A : Option Addr) : Addr := A.getD ⟨0, 0, none⟩
theorem Rd.some {w : World} {A : Option Addr} {cs : List Value} (h : Rd w A cs) {o : Nat} {v : Value} (hv : cs[o]? = some v) : A = some (adr A) ∧ w.cell? ((adr A).add o) = some v := by
  obtain ⟨ad, rfl, hc⟩ := h.cell hv
  exact ⟨rfl, hc⟩
section
variable {P : Program} {ops : Array Oper} {Q : Exit → Act → World → Prop} {rest : List Oper} {n d : Nat} {L : List (Nat × Value)} {a : Act} {w w0 : World} {H : List HP}
variable {ty : TypeId} {ps : String} {af : Array Edge} {x y : Operand} {k : Nat} {gd : Option (Nat × Bool)}
theorem r_idxR {t e size b m c : Nat} {z : Value} {A : Option Addr} {k : IntKind} {i : Int} {cs : List Value} [TyU P t (.slice e)] [TyI P e size z b] (hE : Env n L a) (hx : ev L x = some (.slice A m c)) (hy : ev L y = some (.int k i)) (h0 : 0 ≤ i) (h1 : i < m) (hr : Rd w A cs) (hl : i.toNat * size < cs.length) : (execOp a.eval ⟨some d, .indexAddr t x y, ty, ps, af, gd⟩).run P w = .ok (.value (.pointer (some ((adr A).add (i.toNat * size))))) w := by
  obtain ⟨hA, _⟩ := hr.some (List.getElem?_eq_getElem hl)
  exact r_idx (size := size) (z := z) (b := b) hE hx hy h0 h1 hA
theorem s_idxR {t e size b m c : Nat} {z : Value} {A : Option Addr} {k : IntKind} {i : Int} {cs : List Value} [TyU P t (.slice e)] [TyI P e size z b] (hE : Env n L a) (hx : ev L x = some (.slice A m c)) (hy : ev L y = some (.int k i)) (h0 : 0 ≤ i) (h1 : i < m) (hr : Rd w A cs) (hl : i.toNat * size < cs.length) (hd : Nat.blt d n = true) (K : ∀ a', Env n ((d, .pointer (some ((adr A).add (i.toNat * size)))) :: L) a' → wpList P ops Q rest a' w) :
    wpList P ops Q (⟨some d, .indexAddr t x y, ty, ps, af, none⟩ :: rest) a w :=
  s_val hE rfl rfl hd (r_idxR hE hx hy h0 h1 hr hl) K
theorem r_loadR {t o : Nat} {A : Option Addr} {cs : List Value} {v : Value} [TyA P t false] (hE : Env n L a) (hx : ev L x = some (.pointer (some ((adr A).add o)))) (hr : Rd w A cs) (hv : cs[o]? = some v) : (execOp a.eval ⟨some d, .load t x, ty, ps, af, gd⟩).run P w = .ok (.value v) w :=
  r_load hE hx (hr.some hv).2
theorem s_loadR {t o : Nat} {A : Option Addr} {cs : List Value} {v : Value} [TyA P t false] (hE : Env n L a) (hx : ev L x = some (.pointer (some ((adr A).add o)))) (hr : Rd w A cs) (hv : cs[o]? = some v) (hd : Nat.blt d n = true) (K : ∀ a', Env n ((d, v) :: L) a' → wpList P ops Q rest a' w) :
    wpList P ops Q (⟨some d, .load t x, ty, ps, af, none⟩ :: rest) a w :=
  s_val hE rfl rfl hd (r_loadR hE hx hr hv) K
theorem r_elemR {t size b o : Nat} {z : Value} {A : Option Addr} {cs vs : List Value} [TyA P t true] [TyI P t size z b] (hE : Env n L a) (hx : ev L x = some (.pointer (some ((adr A).add o)))) (hr : Rd w A cs) (hv : (cs.drop o).take size = vs) (hl : vs.length = size) (hs : Nat.blt 0 size = true) : (execOp a.eval ⟨some d, .load t x, ty, ps, af, gd⟩).run P w = .ok (.value (.agg vs.toArray)) w := by
  have hs' : 0 < size := by simpa [Nat.blt_eq] using hs
  have ho : o < cs.length := by
    subst hv
    simp at hl
    omega
  obtain ⟨hA, _⟩ := hr.some (List.getElem?_eq_getElem ho)
  exact r_elem (size := size) (z := z) (b := b) hE hr hA hx hv hl
theorem s_elemR {t size b o : Nat} {z : Value} {A : Option Addr} {cs vs : List Value} [TyA P t true] [TyI P t size z b] (hE : Env n L a) (hx : ev L x = some (.pointer (some ((adr A).add o)))) (hr : Rd w A cs) (hv : (cs.drop o).take size = vs) (hl : vs.length = size) (hs : Nat.blt 0 size = true) (hd : Nat.blt d n = true) (K : ∀ a', Env n ((d, .agg vs.toArray) :: L) a' → wpList P ops Q rest a' w) :
    wpList P ops Q (⟨some d, .load t x, ty, ps, af, none⟩ :: rest) a w :=
  s_val hE rfl rfl hd (r_elemR hE hx hr hv hl hs) K
/-- one cell of a row, written -/
theorem s_storeR1 {t e size m c o b : Nat} {z : Value} {A : Option Addr} {cs : List Value} {v : Value} {s1 : Nat} [TyI P t s1 z b] (hS : St w0 w H) (hE : Env n L a) (hx : ev L x = some (.pointer (some ((adr A).add o)))) (hy : ev L y = some v) (hk : H[k]? = some (hRow e size A m c cs)) (hs : s1 = 1) (ho : o < cs.length) (h1 : v.oneCell' = true)
    (K : ∀ w', St w0 w' (H.set k (hRow e size A m c (cs.set o v))) → wpList P ops Q rest a w') :
    wpList P ops Q (⟨none, .store t x y, ty, ps, af, none⟩ :: rest) a w := by
  subst hs
  obtain ⟨hA, _⟩ := (hS.rdAt hk).some (List.getElem?_eq_getElem ho)
  refine s_storeR (vs := [v]) hS hE hx hy (one_cells h1) hk hA rfl (by simp; omega) (by simpa using h1) ?_
  rw [splice_one ho]
  exact K
/-- an element of several cells, written -/
theorem s_storeRs {t e size size2 m c o b : Nat} {z : Value} {A : Option Addr} {cs vs : List Value} [TyI P t size2 z b] (hS : St w0 w H) (hE : Env n L a) (hx : ev L x = some (.pointer (some ((adr A).add o)))) (hy : ev L y = some (.agg vs.toArray)) (hk : H[k]? = some (hRow e size A m c cs)) (hs : vs.length = size2) (hs0 : Nat.blt 0 size2 = true) (ho : o + size2 ≤ cs.length) (h1 : ∀ v ∈ vs, v.oneCell' = true)
    (K : ∀ w', St w0 w' (H.set k (hRow e size A m c (splice cs o vs))) → wpList P ops Q rest a w') :
    wpList P ops Q (⟨none, .store t x y, ty, ps, af, none⟩ :: rest) a w := by
  have hs0' : 0 < size2 := by simpa [Nat.blt_eq] using hs0
  obtain ⟨hA, _⟩ := (hS.rdAt hk).some (List.getElem?_eq_getElem (show o < cs.length by omega))
  exact s_storeR (vs := vs) hS hE hx hy rfl hk hA hs ho h1 K
end

theorem bys_getM {xs : List Nat} {k : Nat} (h : k < xs.length) : (bys xs)[((k : Nat) : Int).toNat * 1]? = some (.int .u8 ((xs[k] : Nat) : Int)) := by
  rw [Nat.mul_one]; exact bys_getI h
section
variable {P : Program} {ops : Array Oper} {Q : Exit → Act → World → Prop} {rest : List Oper} {d : Nat} {dd : Option Nat} {a : Act} {w : World}
variable {ty xt yt : TypeId} {ps : String} {af : Array Edge} {x y z : Operand}
theorem g_ia (h : wpList P ops Q (⟨some d, .indexAddr xt x y, ty, ps, af, none⟩ :: rest) a w) : wpList P ops Q (⟨some d, .indexAddr xt x y, ty, ps, af, none⟩ :: rest) a w := h
theorem g_load (h : wpList P ops Q (⟨some d, .load xt x, ty, ps, af, none⟩ :: rest) a w) : wpList P ops Q (⟨some d, .load xt x, ty, ps, af, none⟩ :: rest) a w := h
theorem g_store (h : wpList P ops Q (⟨none, .store xt x y, ty, ps, af, none⟩ :: rest) a w) : wpList P ops Q (⟨none, .store xt x y, ty, ps, af, none⟩ :: rest) a w := h
theorem g_box (h : wpList P ops Q (⟨some d, .box xt x, ty, ps, af, none⟩ :: rest) a w) : wpList P ops Q (⟨some d, .box xt x, ty, ps, af, none⟩ :: rest) a w := h
theorem g_alloc (h : wpList P ops Q (⟨some d, .alloc xt, ty, ps, af, none⟩ :: rest) a w) : wpList P ops Q (⟨some d, .alloc xt, ty, ps, af, none⟩ :: rest) a w := h
end
end Go.Proofs.Ytfoeelghehjanaa

/-
  Structs, nil pointers, strings, cuts; what a function hands back out of memory.
-/
namespace Go.Proofs.Ytfoeelghehjanaa
open Go.RowKit
set_option linter.unusedVariables false
set_option linter.unusedSimpArgs false

/-! ## What is handed back -/
def Res (P : Program) (L : List (Nat × Value)) (w : World) : List ResultVar → List Value → Prop
  | [], [] => True
  | .tmp t :: rs, v :: vs => find L t = some v ∧ Res P L w rs vs
  | .cell t ty :: rs, v :: vs => (∃ ad, find L t = some (.pointer (some ad)) ∧ (loadVar ty ad).run P w = .ok v w) ∧ Res P L w rs vs
  | _, _ => False
def mkRes : List Value → Value
  | [v] => v
  | vs => .tuple vs.toArray
section
variable {P : Program} {fn : Func} {R : Value → World → Prop} {n : Nat} {L : List (Nat × Value)} {a : Act} {w : World}
def resOne (tmps : Array Value) : ResultVar → Sem Value
  | .tmp t => pure (tmps.getD t undef)
  | .cell a t => do loadVar t (← asAddr (tmps.getD a undef))
theorem Res.run (hE : Env n L a) : ∀ {rs : List ResultVar} {vs : List Value}, Res P L w rs vs → (rs.mapM (resOne a.tmps) : Sem (List Value)).run P w = .ok vs w
  | [], [], _ => rfl
  | .tmp t :: rs, v :: vs, h => by
    have h1 := hE.has t v h.1
    have h2 := Res.run hE h.2
    have e : a.tmps.getD t undef = v := by simp [Array.getD_eq_getD_getElem?, h1]
    simp only [List.mapM_cons, Sem.run_bind, resOne, e, Sem.run_pure, Result.andThen_ok, h2]
  | .cell t ty :: rs, v :: vs, h => by
    obtain ⟨⟨ad, h0, hl⟩, h3⟩ := h
    have h1 := hE.has t _ h0
    have h2 := Res.run hE h3
    have e : a.tmps.getD t undef = .pointer (some ad) := by simp [Array.getD_eq_getD_getElem?, h1]
    have h4 : (resOne a.tmps (.cell t ty)).run P w = .ok v w := by
      simp only [resOne, e, asAddr, Sem.run_bind, Sem.run_pure, Result.andThen_ok, hl]
    simp only [List.mapM_cons, Sem.run_bind, h4, Sem.run_pure, Result.andThen_ok, h2]
  | [], _ :: _, h => h.elim
  | .tmp _ :: _, [], h => h.elim
  | .cell _ _ :: _, [], h => h.elim
theorem results_eq (fn : Func) (tmps : Array Value) : results fn tmps = (do let vs ← fn.results.mapM (resOne tmps); pure (if h : vs.size = 1 then vs[0] else .tuple vs)) := by
  unfold results
  congr 1
theorem retG (hE : Env n L a) {rs : List ResultVar} {vs : List Value} (hr : fn.results = rs.toArray) (hv : Res P L w rs vs) (hR : R (mkRes vs) w) : Post P fn R .ret a w := by
  have h := Res.run hE hv
  have h' : (results fn a.tmps).run P w = .ok (mkRes vs) w := by
    rw [results_eq, hr]
    simp only [Array.mapM_eq_mapM_toList, Sem.run_bind, Sem.run_map, h, Result.andThen_ok, Sem.run_pure]
    congr 1
    match vs with
    | [] => rfl
    | [v] => rfl
    | v :: u :: vs => simp [mkRes]
  exact ⟨hE.defers, mkRes vs, h', mkRes vs, rfl, hR⟩
end

section
variable {P : Program} {ops : Array Oper} {Q : Exit → Act → World → Prop} {rest : List Oper} {n d : Nat} {L : List (Nat × Value)} {a : Act} {w w0 : World} {H : List HP} {gd : Option (Nat × Bool)}
variable {ty xt yt : TypeId} {ps : String} {af : Array Edge} {x y z : Operand} {k : Nat}

/-! ## Nil pointers -/
theorem r_eqp {e : TypeId} {p : Option Addr} [TyU P xt (.pointer e)] (hE : Env n L a) (hx : ev L x = some (.pointer p)) (hy : ev L y = some (.pointer none)) : (execOp a.eval ⟨some d, .binOp .eql xt x y yt, ty, ps, af, gd⟩).run P w = .ok (.value (.bool p.isNone)) w := by
  have hg : (eqGuard .eql xt x y (.pointer p) (.pointer none)).run P w = .ok () w := rfl
  have h1 : (Op.equal xt (.pointer p) (.pointer none)).run P w = .ok p.isNone w := by
    have e : Op.maxDepth = 9999 + 1 := rfl
    unfold Op.equal
    rw [e]
    unfold Op.equalIn
    cases p <;> simp only [Sem.run_bind, run_under (d := .pointer _), Result.andThen_ok, Sem.run_pure] <;> rfl
  simp only [execOp, hE.eval hx, hE.eval hy, Sem.run_bind, hg, Result.andThen_ok, binOp, h1, Sem.run_pure]
theorem r_nep {e : TypeId} {p : Option Addr} [TyU P xt (.pointer e)] (hE : Env n L a) (hx : ev L x = some (.pointer p)) (hy : ev L y = some (.pointer none)) : (execOp a.eval ⟨some d, .binOp .neq xt x y yt, ty, ps, af, gd⟩).run P w = .ok (.value (.bool (!p.isNone))) w := by
  have hg : (eqGuard .neq xt x y (.pointer p) (.pointer none)).run P w = .ok () w := rfl
  have h1 : (Op.equal xt (.pointer p) (.pointer none)).run P w = .ok p.isNone w := by
    have e : Op.maxDepth = 9999 + 1 := rfl
    unfold Op.equal
    rw [e]
    unfold Op.equalIn
    cases p <;> simp only [Sem.run_bind, run_under (d := .pointer _), Result.andThen_ok, Sem.run_pure] <;> rfl
  simp only [execOp, hE.eval hx, hE.eval hy, Sem.run_bind, hg, Result.andThen_ok, binOp, h1, Sem.run_pure]

/-! ## Cuts -/
theorem r_cutLH {t e : TypeId} {size b : Nat} {zz : Value} {A : Option Addr} {m c : Nat} {k k2 : IntKind} {l h : Int} [TyU P t (.slice e)] [TyI P e size zz b] (hE : Env n L a) (hx : ev L x = some (.slice A m c)) (hy : ev L y = some (.int k l)) (hz : ev L z = some (.int k2 h)) (hb : 0 ≤ h ∧ h ≤ c) (hb2 : 0 ≤ l ∧ l ≤ h) :
    (execOp a.eval ⟨some d, .slice t x (some y) (some z) none, ty, ps, af, gd⟩).run P w = .ok (.value (.slice (if c = l.toNat then A else A.map (·.add (l.toNat * size))) (h.toNat - l.toNat) (c - l.toNat))) w := by
  have hb3 : 0 ≤ l ∧ l ≤ (h.toNat : Int) := by omega
  simp [execOp, Instr.sliceAt, Instr.slice, Instr.sliceBounds, hE.eval hx, hE.eval hy, hE.eval hz, run_under (d := .slice e), run_bound h k2 c _ hb, run_bound l k h.toNat _ hb3, run_size (size := size) (zero := zz) (bytes := b)]
theorem r_cutL {t e : TypeId} {size b : Nat} {zz : Value} {A : Option Addr} {m c : Nat} {k : IntKind} {l : Int} [TyU P t (.slice e)] [TyI P e size zz b] (hE : Env n L a) (hx : ev L x = some (.slice A m c)) (hy : ev L y = some (.int k l)) (hb : 0 ≤ l ∧ l ≤ m) :
    (execOp a.eval ⟨some d, .slice t x (some y) none none, ty, ps, af, gd⟩).run P w = .ok (.value (.slice (if c = l.toNat then A else A.map (·.add (l.toNat * size))) (m - l.toNat) (c - l.toNat))) w := by
  simp [execOp, Instr.sliceAt, Instr.slice, Instr.sliceBounds, hE.eval hx, hE.eval hy, run_under (d := .slice e), run_bound l k m _ hb, run_size (size := size) (zero := zz) (bytes := b)]
theorem r_cutH {t e : TypeId} {size b : Nat} {zz : Value} {A : Option Addr} {m c : Nat} {k : IntKind} {h : Int} [TyU P t (.slice e)] [TyI P e size zz b] (hE : Env n L a) (hx : ev L x = some (.slice A m c)) (hy : ev L y = some (.int k h)) (hb : 0 ≤ h ∧ h ≤ c) :
    (execOp a.eval ⟨some d, .slice t x none (some y) none, ty, ps, af, gd⟩).run P w = .ok (.value (.slice A h.toNat c)) w := by
  have hA : (if c = 0 then A else A.map (·.add (0 * size))) = A := by
    split
    · rfl
    · cases A <;> simp [Addr.add]
  simp [execOp, Instr.sliceAt, Instr.slice, Instr.sliceBounds, hE.eval hx, hE.eval hy, run_under (d := .slice e), run_bound h k c _ hb, run_size (size := size) (zero := zz) (bytes := b)]
  simpa using hA
/-- what a cut reads -/
theorem Rd.cut {A : Option Addr} {cs : List Value} (h : Rd w A cs) {c l : Nat} (hl : cs.length ≤ c) (o : Nat) (ho : o = l) : Rd w (if c = l then A else A.map (·.add o)) (cs.drop o) := by
  subst ho
  split
  · have : cs.drop o = [] := List.drop_eq_nil_of_le (by omega)
    rw [this]
    exact Rd.nil
  · exact h.drop _
theorem Rd.cutS {A : Option Addr} {cs : List Value} (h : Rd w A cs) {c l size : Nat} (hl : cs.length ≤ c * size) : Rd w (if c = l then A else A.map (·.add (l * size))) (cs.drop (l * size)) := by
  split
  · rename_i hc
    subst hc
    have : cs.drop (c * size) = [] := List.drop_eq_nil_of_le hl
    rw [this]
    exact Rd.nil
  · exact h.drop _

/-! ## Strings -/
def str (xs : List Nat) : ByteArray := ⟨(xs.map UInt8.ofNat).toArray⟩
theorem r_str {e : TypeId} {A : Option Addr} {m c : Nat} {xs : List Nat} [TyU P xt (.slice e)] [TyU P yt .string] [TyU P e (.int .u8)] (hE : Env n L a) (hx : ev L x = some (.slice A m c)) (hr : Rd w A (bys xs)) (hl : xs.length = m) :
    (execOp a.eval ⟨some d, .convert xt yt x, ty, ps, af, gd⟩).run P w = .ok (.value (.string (str xs))) w := by
  subst hl
  have h1 : (Conv.bytesToString (.slice A xs.length c)).run P w = .ok (.string (str xs)) w := by
    cases A with
    | none =>
      have : xs = [] := by
        cases xs with
        | nil => rfl
        | cons x xs => exact absurd (hr (by simp [bys])) (by rintro ⟨ad, h, _⟩; cases h)
      subst this
      rfl
    | some ad =>
      have h3 : (loadCells ad xs.length).run P w = .ok ((xs.map fun (x : Nat) => (x : Int)).map (Value.int .u8)).toArray w := by
        have hq : ∀ j v, (bys xs)[j]? = some v → w.cell? (ad.add j) = some v := by
          intro j v hv
          obtain ⟨ad', e, hc⟩ := hr (by rintro h0; rw [h0] at hv; simp at hv)
          obtain rfl : ad = ad' := Option.some.inj e
          exact hc j v hv
        have := run_loadCells_list (P := P) w ad (bys xs) hq
        rw [bys_length] at this
        rw [this]
        simp [bys, Function.comp_def]
      have h2 := run_bytesToString (P := P) w ad xs.length c _ h3
      rw [h2]
      congr 2
      unfold str
      have : ∀ (l : List Nat) (s : ByteArray), (l.map fun (x : Nat) => (x : Int)).foldl (fun r n => r.push (UInt8.ofNat n.toNat)) s = ⟨s.data ++ (l.map UInt8.ofNat).toArray⟩ := by
        intro l
        induction l with
        | nil => intro s; simp
        | cons x l ih =>
          intro s
          simp only [List.map_cons, List.foldl_cons, ih, Int.toNat_natCast]
          simp [ByteArray.push]
      rw [this]
      simp [ByteArray.empty, ByteArray.emptyWithCapacity]
      rfl
  simp only [execOp, hE.eval hx, convert, Sem.run_bind, run_under (d := .slice e), run_under (d := .string), run_under (d := .int .u8), Result.andThen_ok, h1, Sem.run_pure]
theorem r_slt {p q : ByteArray} (hE : Env n L a) (hx : ev L x = some (.string p)) (hy : ev L y = some (.string q)) : (execOp a.eval ⟨some d, .binOp .lss xt x y yt, ty, ps, af, gd⟩).run P w = .ok (.value (.bool (Op.bytesLess p.toList q.toList))) w := by
  have hg : (eqGuard .lss xt x y (.string p) (.string q)).run P w = .ok () w := rfl
  simp only [execOp, hE.eval hx, hE.eval hy, Sem.run_bind, hg, Result.andThen_ok, binOp, Op.stringOp, Sem.run_pure]
theorem r_seq {p q : ByteArray} (hE : Env n L a) (hx : ev L x = some (.string p)) (hy : ev L y = some (.string q)) : (execOp a.eval ⟨some d, .binOp .eql xt x y yt, ty, ps, af, gd⟩).run P w = .ok (.value (.bool (p.toList == q.toList))) w := by
  have hg : (eqGuard .eql xt x y (.string p) (.string q)).run P w = .ok () w := rfl
  simp only [execOp, hE.eval hx, hE.eval hy, Sem.run_bind, hg, Result.andThen_ok, binOp, Op.stringOp, Sem.run_pure]
theorem r_sne {p q : ByteArray} (hE : Env n L a) (hx : ev L x = some (.string p)) (hy : ev L y = some (.string q)) : (execOp a.eval ⟨some d, .binOp .neq xt x y yt, ty, ps, af, gd⟩).run P w = .ok (.value (.bool (!(p.toList == q.toList)))) w := by
  have hg : (eqGuard .neq xt x y (.string p) (.string q)).run P w = .ok () w := rfl
  simp only [execOp, hE.eval hx, hE.eval hy, Sem.run_bind, hg, Result.andThen_ok, binOp, Op.stringOp, Sem.run_pure]
end
end Go.Proofs.Ytfoeelghehjanaa

/-
  Structs built, kept, handed on.
-/
namespace Go.Proofs.Ytfoeelghehjanaa
open Go.RowKit
set_option linter.unusedVariables false
set_option linter.unusedSimpArgs false

def placesOf (P : Program) (t : TypeId) : Option (List (Nat × Nat)) :=
  match P.underlying t with
  | some (.struct fs) => fs.toList.mapM (fun f => (P.info? f.type).map fun i => (f.offset, i.size))
  | some (.array len e) => (P.info? e).map fun i => (List.range len).map fun j => (j * i.size, i.size)
  | _ => none
/-- a struct: where its parts lie, its zero cells -/
class TyS (P : Program) (t : TypeId) (places : outParam (List (Nat × Nat))) (zero : outParam (List Value)) : Prop where
  zero : (P.info? t).bind (·.zero) = some (.agg zero.toArray)
  places : placesOf P t = some places

def fillL (places : List (Nat × Nat)) : List Value → List (Nat × Value) → Option (List Value)
  | cur, [] => some cur
  | cur, (i, v) :: rest => match places[i]? with
    | none => none
    | some (off, size) => bif Nat.beq v.cells.toList.length size && Nat.ble (off + v.cells.toList.length) cur.length then fillL places (splice cur off v.cells.toList) rest else none
theorem foldl_splice : ∀ (vs : List Value) (cur : List Value) (off i : Nat), off + i + vs.length ≤ cur.length →
    ((vs.zipIdx i).foldl (fun (cs : Array Value) (x : Value × Nat) => cs.setIfInBounds (off + x.2) x.1) cur.toArray) = (splice cur (off + i) vs).toArray
  | [], cur, off, i, _ => by simp [splice]
  | v :: vs, cur, off, i, h => by
    have ih := foldl_splice vs (cur.set (off + i) v) off (i + 1) (by simp at h ⊢; omega)
    simp only [List.zipIdx_cons, List.foldl_cons]
    have e : (cur.toArray.setIfInBounds (off + i) v) = (cur.set (off + i) v).toArray := by simp
    rw [e, ih]
    congr 1
    have := list_seg_step cur (off + i) v vs (by simp at h; omega)
    simpa [splice, Nat.add_assoc] using this
theorem fill_fillG (places : List (Nat × Nat)) (pl : Nat → Option (Nat × Nat)) (hpl : ∀ i q, places[i]? = some q → pl i = some q) : ∀ (ps : List (Nat × Value)) (cur cs : List Value), fillL places cur ps = some cs → Instr.fill pl cur.toArray ps = some cs.toArray
  | [], cur, cs, h => by simp [fillL] at h; subst h; rfl
  | (i, v) :: rest, cur, cs, h => by
    unfold fillL at h
    cases hp : places[i]? with
    | none => simp [hp] at h
    | some p =>
      obtain ⟨off, size⟩ := p
      simp only [hp] at h
      cases hb : (Nat.beq v.cells.toList.length size && Nat.ble (off + v.cells.toList.length) cur.length) with
      | false => rw [hb] at h; cases h
      | true =>
        rw [hb] at h
        simp only [cond_true] at h
        simp only [Bool.and_eq_true] at hb
        have h1 : v.cells.size = size := by have := Nat.eq_of_beq_eq_true hb.1; simpa using this
        have h2 : off + v.cells.size ≤ cur.length := by have := Nat.le_of_ble_eq_true hb.2; simpa using this
        unfold Instr.fill
        simp only [hpl _ _ hp]
        rw [if_neg (by simp; omega)]
        have e := foldl_splice v.cells.toList cur off 0 (by simpa using h2)
        have e2 : v.cells.zipIdx.foldl (fun (cs : Array Value) (x : Value × Nat) => cs.setIfInBounds (off + x.2) x.1) cur.toArray = (splice cur off v.cells.toList).toArray := by
          rw [← Array.foldl_toList, Array.toList_zipIdx]
          simpa using e
        have := fill_fillG places pl hpl rest _ cs h
        rw [← e2] at this
        exact this
theorem fill_fillL (places : List (Nat × Nat)) (ps : List (Nat × Value)) (cur cs : List Value) (h : fillL places cur ps = some cs) : Instr.fill (fun i => places[i]?) cur.toArray ps = some cs.toArray := fill_fillG places _ (fun _ _ h => h) ps cur cs h
def zipI : List Nat → List Value → List (Nat × Value)
  | i :: is, v :: vs => (i, v) :: zipI is vs
  | _, _ => []
section
variable {P : Program} {ops : Array Oper} {Q : Exit → Act → World → Prop} {rest : List Oper} {n d : Nat} {L : List (Nat × Value)} {a : Act} {w w0 : World} {H : List HP} {gd : Option (Nat × Bool)}
variable {ty xt yt : TypeId} {ps : String} {af : Array Edge} {x y z : Operand} {k : Nat}
theorem built_of {t : TypeId} {places : List (Nat × Nat)} {zero cs : List Value} [h : TyS P t places zero] {parts : List (Nat × Value)} (hf : fillL places zero parts = some cs) : P.built t parts = some cs.toArray := by
  have h1 := h.zero
  have h2 := h.places
  unfold placesOf at h2
  obtain ⟨it, hit, hz⟩ := Option.bind_eq_some_iff.1 h1
  unfold Program.built
  cases hu : P.underlying t with
  | none => simp [hu] at h2
  | some dd =>
    rw [hu] at h2
    cases dd <;> try (simp at h2; done)
    · rename_i len e
      simp only [hit, hz] at h2 ⊢
      cases hi : P.info? e with
      | none => rw [hi] at h2; cases h2
      | some ie =>
        rw [hi] at h2
        simp only [Option.map_some, Option.some.injEq] at h2
        subst h2
        have := fill_fillG _ (fun i => some (i * ie.size, ie.size)) (fun i q hq => by
          rw [List.getElem?_map] at hq
          cases hr : (List.range len)[i]? with
          | none => rw [hr] at hq; cases hq
          | some j =>
            rw [hr] at hq
            have := List.getElem?_eq_some_iff.1 hr
            obtain ⟨h3, h4⟩ := this
            rw [List.getElem_range] at h4
            subst h4
            exact hq) parts zero cs hf
        simpa [Value.cells] using this
    · rename_i fs
      simp only [hit, hz] at h2 ⊢
      rw [h2]
      have := fill_fillL places parts zero cs hf
      simpa [Value.cells] using this
/-- T{..} -/
theorem r_build {t : TypeId} {places : List (Nat × Nat)} {zero vs : List Value} {parts : List (Nat × Operand)} [TyS P t places zero] (cs : List Value) (hE : Env n L a) (hv : evs L (parts.map (·.2)) = some vs) (hf : fillL places zero (zipI (parts.map (·.1)) vs) = some cs) :
    (execOp a.eval ⟨some d, .build t parts.toArray, ty, ps, af, gd⟩).run P w = .ok (.value (.agg cs.toArray)) w := by
  have hv2 := hE.evals hv
  have key : ∀ (q : List (Nat × Operand)) (vs : List Value), (q.map (·.2)).map a.eval = vs → q.map (fun p => (p.1, a.eval p.2)) = zipI (q.map (·.1)) vs := by
    intro q
    induction q with
    | nil => intro vs h; rfl
    | cons p q ih =>
      intro vs h
      cases vs with
      | nil => simp at h
      | cons v vs =>
        simp only [List.map_cons, List.cons.injEq] at h
        simp only [List.map_cons, zipI, ih vs h.2, h.1]
  have hb := built_of (P := P) (t := t) (parts := zipI (parts.map (·.1)) vs) hf
  rw [← key parts vs hv2] at hb
  have := run_build (P := P) w t (parts.map fun p => (p.1, a.eval p.2)).toArray cs.toArray (by simpa using hb)
  simp only [execOp, List.map_toArray, Sem.run_bind, this, Result.andThen_ok, Sem.run_pure]
theorem s_build {t : TypeId} {places : List (Nat × Nat)} {zero vs : List Value} {parts : List (Nat × Operand)} [TyS P t places zero] (cs : List Value) (hE : Env n L a) (hv : evs L (parts.map (·.2)) = some vs) (hf : fillL places zero (zipI (parts.map (·.1)) vs) = some cs) (hd : Nat.blt d n = true) (K : ∀ a', Env n ((d, .agg cs.toArray) :: L) a' → wpList P ops Q rest a' w) :
    wpList P ops Q (⟨some d, .build t parts.toArray, ty, ps, af, none⟩ :: rest) a w := s_val hE rfl rfl hd (r_build cs hE hv hf) K
/-- a struct laid into a block, told anew -/
theorem s_storeBs' {t u g o b size : Nat} {z : Value} {cs vs : List Value} (cs' : List Value) [TyI P t size z b] (hS : St w0 w H) (hE : Env n L a) (hx : ev L x = some (.pointer (some ⟨g, o, none⟩))) (hy : ev L y = some (.agg vs.toArray)) (hk : H[k]? = some (hBlk g u cs)) (hcs : splice cs o vs = cs') (hs : vs.length = size) (ho : o + size ≤ cs.length) (h1 : ∀ v ∈ vs, v.oneCell' = true)
    (K : ∀ w', St w0 w' (H.set k (hBlk g u cs')) → wpList P ops Q rest a w') :
    wpList P ops Q (⟨none, .store t x y, ty, ps, af, none⟩ :: rest) a w := by
  subst hcs
  exact s_storeBs hS hE hx hy hk hs ho h1 K
/-- a new variable -/
theorem s_allocL {t size b : Nat} {zz : Value} (cs : List Value) [TyI P t size zz b] (hE : Env n L a) (hS : St w0 w H) (hv : zz.cells = cs.toArray) (hd : Nat.blt d n = true) (K : ∀ g a' w', Env n ((d, .pointer (some ⟨g, 0, none⟩)) :: L) a' → St w0 w' (hBlk g t cs :: H) → wpList P ops Q rest a' w') :
    wpList P ops Q (⟨some d, .alloc t, ty, ps, af, none⟩ :: rest) a w := s_alloc hE hS hv hd K
/-- a part of a struct's value -/
theorem r_part1 {t ft : TypeId} {i off : Nat} {cs : List Value} {v : Value} [TyF P t i off ft] [TyA P ft false] (hE : Env n L a) (hx : ev L x = some (.agg cs.toArray)) (hv : cs[off]? = some v) :
    (execOp a.eval ⟨some d, .field t x i, ty, ps, af, gd⟩).run P w = .ok (.value v) w := by
  obtain ⟨fs, f, h1, h2, h3, h4⟩ := TyF.out (P := P) (t := t) (i := i) (off := off) (ft := ft)
  subst h3 h4
  simp [execOp, Instr.field, hE.eval hx, run_underlying h1, h2, asAgg, part, run_isA (b := false), hv]
theorem r_partA {t ft : TypeId} {i off size b : Nat} {zz : Value} {cs vs : List Value} [TyF P t i off ft] [TyA P ft true] [TyI P ft size zz b] (hE : Env n L a) (hx : ev L x = some (.agg cs.toArray)) (hv : (cs.drop off).take size = vs) :
    (execOp a.eval ⟨some d, .field t x i, ty, ps, af, gd⟩).run P w = .ok (.value (.agg vs.toArray)) w := by
  obtain ⟨fs, f, h1, h2, h3, h4⟩ := TyF.out (P := P) (t := t) (i := i) (off := off) (ft := ft)
  subst h3 h4 hv
  simp [execOp, Instr.field, hE.eval hx, run_underlying h1, h2, asAgg, part, run_isA (b := true), run_size (size := size) (zero := zz) (bytes := b), List.extract_toArray, List.extract_eq_take_drop]
/-- a part of an array's value -/
theorem r_index1 {t e : TypeId} {len size b : Nat} {zz v : Value} {cs : List Value} {k : IntKind} {i : Int} [TyU P t (.array len e)] [TyA P e false] [TyI P e size zz b] (hE : Env n L a) (hx : ev L x = some (.agg cs.toArray)) (hy : ev L y = some (.int k i)) (h0 : 0 ≤ i) (h1 : i < (len : Int)) (hv : cs[i.toNat * size]? = some v) :
    (execOp a.eval ⟨some d, .index t x y, ty, ps, af, gd⟩).run P w = .ok (.value v) w := by
  simp [execOp, Instr.index, asIntOf, hE.eval hx, hE.eval hy, run_under (d := .array len e), part, run_isA (b := false), run_size (size := size) (zero := zz) (bytes := b), h0, h1, hv]
theorem r_indexA {t e : TypeId} {len size b : Nat} {zz : Value} {cs vs : List Value} {k : IntKind} {i : Int} [TyU P t (.array len e)] [TyA P e true] [TyI P e size zz b] (hE : Env n L a) (hx : ev L x = some (.agg cs.toArray)) (hy : ev L y = some (.int k i)) (h0 : 0 ≤ i) (h1 : i < (len : Int)) (hv : (cs.drop (i.toNat * size)).take size = vs) :
    (execOp a.eval ⟨some d, .index t x y, ty, ps, af, gd⟩).run P w = .ok (.value (.agg vs.toArray)) w := by
  subst hv
  simp [execOp, Instr.index, asIntOf, hE.eval hx, hE.eval hy, run_under (d := .array len e), part, run_isA (b := true), run_size (size := size) (zero := zz) (bytes := b), h0, h1, List.extract_toArray, List.extract_eq_take_drop]
theorem g_index (h : wpList P ops Q (⟨some d, .index xt x y, ty, ps, af, none⟩ :: rest) a w) : wpList P ops Q (⟨some d, .index xt x y, ty, ps, af, none⟩ :: rest) a w := h
theorem r_func {fn : Go.Fn} {first cap : List Operand} {fv cv : List Value} (hE : Env n L a) (hf : evs L first = some fv) (hc : evs L cap = some cv) :
    (execOp a.eval ⟨some d, .makeFunc fn first.toArray cap.toArray, ty, ps, af, gd⟩).run P w = .ok (.value (.func fn fv.toArray cv.toArray)) w := by
  have h1 := hE.evals hf
  have h2 := hE.evals hc
  simp [execOp, Instr.makeFunc, h1, h2]
end
section
variable {P : Program} {ops : Array Oper} {Q : Exit → Act → World → Prop} {rest : List Oper} {d : Nat} {a : Act} {w : World}
variable {ty xt yt : TypeId} {ps : String} {af : Array Edge} {x y z : Operand} {xs : Array Operand} {ts : Array TypeId}
theorem g_call {f : FuncId} (h : wpList P ops Q (⟨some d, .call ⟨.value (.func f), xs, ts⟩, ty, ps, af, none⟩ :: rest) a w) : wpList P ops Q (⟨some d, .call ⟨.value (.func f), xs, ts⟩, ty, ps, af, none⟩ :: rest) a w := h
theorem g_lit {t : TypeId} {k : Nat} {parts : Array (Nat × Operand)} (h : wpList P ops Q (⟨some d, .buildSlice t k parts, ty, ps, af, none⟩ :: rest) a w) : wpList P ops Q (⟨some d, .buildSlice t k parts, ty, ps, af, none⟩ :: rest) a w := h
theorem g_build {t : TypeId} {parts : Array (Nat × Operand)} (h : wpList P ops Q (⟨some d, .build t parts, ty, ps, af, none⟩ :: rest) a w) : wpList P ops Q (⟨some d, .build t parts, ty, ps, af, none⟩ :: rest) a w := h
theorem g_slice {l h m : Option Operand} (q : wpList P ops Q (⟨some d, .slice xt x l h m, ty, ps, af, none⟩ :: rest) a w) : wpList P ops Q (⟨some d, .slice xt x l h m, ty, ps, af, none⟩ :: rest) a w := q
end
end Go.Proofs.Ytfoeelghehjanaa

/-
  Appends by place; whole blocks read and written.
-/
namespace Go.Proofs.Ytfoeelghehjanaa
open Go.RowKit
set_option linter.unusedVariables false
set_option linter.unusedSimpArgs false

section
variable {P : Program} {ops : Array Oper} {Q : Exit → Act → World → Prop} {rest : List Oper} {n d : Nat} {L : List (Nat × Value)} {a : Act} {w w0 : World} {H : List HP} {gd : Option (Nat × Bool)}
variable {ty xt yt : TypeId} {ps : String} {af : Array Edge} {x y z : Operand} {k : Nat}
theorem s_appendAt {t e size bytes m c m2 c2 : Nat} {z : Value} {A A2 : Option Addr} {cs news : List Value} [TyU P t (.slice e)] [TyI P e size z bytes] (hE : Env n L a) (hS : St w0 w H)
    (hx : ev L x = some (.slice A m c)) (hy : ev L y = some (.slice A2 m2 c2)) (hk : H[k]? = some (hRow e size A m c cs)) (hr : Rd w A2 news) (hl : news.length = m2 * size) (h1 : ∀ u ∈ news, u.oneCell' = true) (hb : (m + m2) * bytes ≤ 140737488355328)
    (hzs : z.cells.size = size) (hsz : Nat.blt 0 size = true) (hby : Nat.blt 0 bytes = true) (hd : Nat.blt d n = true)
    (K : ∀ A' c' a' w', Env n ((d, .slice A' (m + m2) c') :: L) a' → St w0 w' (H.set k (hRow e size A' (m + m2) c' (cs ++ news))) → wpList P ops Q rest a' w') :
    wpList P ops Q (⟨some d, .call ⟨.builtin .append, #[x, y], #[t, t]⟩, ty, ps, af, none⟩ :: rest) a w :=
  s_append hE (hS.focus hk) hx hy hr hl h1 hb hzs hsz hby hd fun A' c' a' w' hE' hS' => K A' c' a' w' hE' (St.unfocus hk hS')
theorem s_appendAt0 {t e size bytes c m2 c2 : Nat} {z : Value} {A A2 : Option Addr} {news : List Value} [TyU P t (.slice e)] [TyI P e size z bytes] (hE : Env n L a) (hS : St w0 w H)
    (hx : ev L x = some (.slice A 0 c)) (hy : ev L y = some (.slice A2 m2 c2)) (hk : H[k]? = some (hRow e size A 0 c [])) (hr : Rd w A2 news) (hl : news.length = m2 * size) (h1 : ∀ u ∈ news, u.oneCell' = true) (hb : m2 * bytes ≤ 140737488355328)
    (hzs : z.cells.size = size) (hsz : Nat.blt 0 size = true) (hby : Nat.blt 0 bytes = true) (hd : Nat.blt d n = true)
    (K : ∀ A' c' a' w', Env n ((d, .slice A' m2 c') :: L) a' → St w0 w' (H.set k (hRow e size A' m2 c' news)) → wpList P ops Q rest a' w') :
    wpList P ops Q (⟨some d, .call ⟨.builtin .append, #[x, y], #[t, t]⟩, ty, ps, af, none⟩ :: rest) a w := by
  refine s_append hE (hS.focus hk) hx hy hr hl h1 (by rw [Nat.zero_add]; exact hb) hzs hsz hby hd fun A' c' a' w' hE' hS' => ?_
  rw [Nat.zero_add] at hE' hS'
  rw [List.nil_append] at hS'
  exact K A' c' a' w' hE' (St.unfocus hk hS')
theorem s_appendNil {t e size bytes m2 c2 : Nat} {z : Value} {A2 : Option Addr} {news : List Value} [TyU P t (.slice e)] [TyI P e size z bytes] (hE : Env n L a) (hS : St w0 w H)
    (hx : ev L x = some (.slice none 0 0)) (hy : ev L y = some (.slice A2 m2 c2)) (hr : Rd w A2 news) (hl : news.length = m2 * size) (h1 : ∀ u ∈ news, u.oneCell' = true) (hb : m2 * bytes ≤ 140737488355328)
    (hzs : z.cells.size = size) (hsz : Nat.blt 0 size = true) (hby : Nat.blt 0 bytes = true) (hd : Nat.blt d n = true)
    (K : ∀ A' c' a' w', Env n ((d, .slice A' m2 c') :: L) a' → St w0 w' (hRow e size A' m2 c' news :: H) → wpList P ops Q rest a' w') :
    wpList P ops Q (⟨some d, .call ⟨.builtin .append, #[x, y], #[t, t]⟩, ty, ps, af, none⟩ :: rest) a w := by
  refine s_append hE (hS.rowNil e size) hx hy hr hl h1 (by rw [Nat.zero_add]; exact hb) hzs hsz hby hd fun A' c' a' w' hE' hS' => ?_
  rw [Nat.zero_add] at hE' hS'
  rw [List.nil_append] at hS'
  exact K A' c' a' w' hE' hS'
/-- bytes behind bytes -/
theorem s_appendB {t e bytes m2 c c2 : Nat} {z : Value} {A A2 : Option Addr} {news : List Value} {xs ys : List Nat} [TyU P t (.slice e)] [TyI P e 1 z bytes] (hE : Env n L a) (hS : St w0 w H)
    (hx : ev L x = some (.slice A xs.length c)) (hy : ev L y = some (.slice A2 m2 c2)) (hk : H[k]? = some (hRow e 1 A xs.length c (bys xs))) (hr : Rd w A2 news) (hn : news = bys ys) (hm : m2 = ys.length) (hb : (xs.length + ys.length) * bytes ≤ 140737488355328)
    (hzs : z.cells.size = 1) (hby : Nat.blt 0 bytes = true) (hd : Nat.blt d n = true)
    (K : ∀ A' c' a' w', Env n ((d, .slice A' (xs ++ ys).length c') :: L) a' → St w0 w' (H.set k (hRow e 1 A' (xs ++ ys).length c' (bys (xs ++ ys)))) → wpList P ops Q rest a' w') :
    wpList P ops Q (⟨some d, .call ⟨.builtin .append, #[x, y], #[t, t]⟩, ty, ps, af, none⟩ :: rest) a w := by
  subst hn hm
  refine s_appendAt hE hS hx hy hk hr (by rw [bys_length, Nat.mul_one]) (bys_one _) hb hzs rfl hby hd fun A' c' a' w' hE' hS' => ?_
  rw [← List.length_append] at hE' hS'
  rw [← bys_append] at hS'
  exact K A' c' a' w' hE' hS'
theorem s_appendBNil {t e bytes m2 c2 : Nat} {z : Value} {A2 : Option Addr} {news : List Value} {ys : List Nat} [TyU P t (.slice e)] [TyI P e 1 z bytes] (hE : Env n L a) (hS : St w0 w H)
    (hx : ev L x = some (.slice none 0 0)) (hy : ev L y = some (.slice A2 m2 c2)) (hr : Rd w A2 news) (hn : news = bys ys) (hm : m2 = ys.length) (hb : ys.length * bytes ≤ 140737488355328)
    (hzs : z.cells.size = 1) (hby : Nat.blt 0 bytes = true) (hd : Nat.blt d n = true)
    (K : ∀ A' c' a' w', Env n ((d, .slice A' ys.length c') :: L) a' → St w0 w' (hRow e 1 A' ys.length c' (bys ys) :: H) → wpList P ops Q rest a' w') :
    wpList P ops Q (⟨some d, .call ⟨.builtin .append, #[x, y], #[t, t]⟩, ty, ps, af, none⟩ :: rest) a w := by
  subst hn hm
  exact s_appendNil hE hS hx hy hr (by rw [bys_length, Nat.mul_one]) (bys_one _) hb hzs rfl hby hd K
theorem s_appendB0 {t e bytes c m2 c2 : Nat} {z : Value} {A A2 : Option Addr} {news : List Value} {ys : List Nat} [TyU P t (.slice e)] [TyI P e 1 z bytes] (hE : Env n L a) (hS : St w0 w H)
    (hx : ev L x = some (.slice A 0 c)) (hy : ev L y = some (.slice A2 m2 c2)) (hk : H[k]? = some (hRow e 1 A 0 c [])) (hr : Rd w A2 news) (hn : news = bys ys) (hm : m2 = ys.length) (hb : ys.length * bytes ≤ 140737488355328)
    (hzs : z.cells.size = 1) (hby : Nat.blt 0 bytes = true) (hd : Nat.blt d n = true)
    (K : ∀ A' c' a' w', Env n ((d, .slice A' ys.length c') :: L) a' → St w0 w' (H.set k (hRow e 1 A' ys.length c' (bys ys))) → wpList P ops Q rest a' w') :
    wpList P ops Q (⟨some d, .call ⟨.builtin .append, #[x, y], #[t, t]⟩, ty, ps, af, none⟩ :: rest) a w := by
  subst hn hm
  exact s_appendAt0 hE hS hx hy hk hr (by rw [bys_length, Nat.mul_one]) (bys_one _) hb hzs rfl hby hd K
/-- a row of bytes written out -/
theorem s_litB {t e len b : Nat} {z : Value} {parts : List (Nat × Operand)} {cs : List Value} (xs : List Nat) [TyU P t (.slice e)] [TyI P e 1 z b] (hE : Env n L a) (hS : St w0 w H) (hz : z.cells.size = 1) (hlen : Nat.ble len 16777216 = true)
    (hi : parts.map (·.1) = (enumV 0 cs).map (·.1)) (hv : evs L (parts.map (·.2)) = some cs) (hcl : cs.length = len) (hx : cs = bys xs) (hd : Nat.blt d n = true)
    (K : ∀ g a' w', Env n ((d, .slice (some ⟨g, 0, none⟩) xs.length len) :: L) a' → St w0 w' (hRow e 1 (some ⟨g, 0, none⟩) xs.length len (bys xs) :: H) → wpList P ops Q rest a' w') :
    wpList P ops Q (⟨some d, .buildSlice t len parts.toArray, ty, ps, af, none⟩ :: rest) a w := by
  subst hx
  have hl : xs.length = len := by rw [← hcl, bys_length]
  subst hl
  exact s_lit hE hS hz hlen hi hv hcl (bys_one _) hd K
theorem bys1 (x : Nat) : [(.int .u8 (x : Int) : Value)] = bys [x] := rfl
theorem bys2 (x y : Nat) : [(.int .u8 (x : Int) : Value), .int .u8 (y : Int)] = bys [x, y] := rfl
theorem wrap8_nat {x : Int} (h : 0 ≤ x ∧ x < 256) : IntKind.u8.wrap x = ((x.toNat : Nat) : Int) := by
  rw [wrap_u8_in (by omega)]; omega
theorem wrap8_len {x : Nat} (h : x < 256) : IntKind.u8.wrap (x : Int) = (x : Int) := wrap_u8_in (by omega)
theorem r_loadW {t u g size b : Nat} {z : Value} {cs : List Value} [TyA P t true] [TyI P t size z b] (hS : St w0 w H) (hE : Env n L a) (hx : ev L x = some (.pointer (some ⟨g, 0, none⟩))) (hk : H[k]? = some (hBlk g u cs)) (hl : cs.length = size) : (execOp a.eval ⟨some d, .load t x, ty, ps, af, gd⟩).run P w = .ok (.value (.agg cs.toArray)) w :=
  r_loadBs hS hE hx hk (by subst hl; simp) (by omega)
theorem s_loadW {t u g size b : Nat} {z : Value} {cs : List Value} [TyA P t true] [TyI P t size z b] (hS : St w0 w H) (hE : Env n L a) (hx : ev L x = some (.pointer (some ⟨g, 0, none⟩))) (hk : H[k]? = some (hBlk g u cs)) (hl : cs.length = size) (hd : Nat.blt d n = true) (K : ∀ a', Env n ((d, .agg cs.toArray) :: L) a' → wpList P ops Q rest a' w) :
    wpList P ops Q (⟨some d, .load t x, ty, ps, af, none⟩ :: rest) a w := s_val hE rfl rfl hd (r_loadW hS hE hx hk hl) K
theorem splice_all (cs vs : List Value) (h : vs.length = cs.length) : splice cs 0 vs = vs := by
  simp only [splice, List.take_zero, List.nil_append, Nat.zero_add]
  rw [List.drop_eq_nil_of_le (by omega), List.append_nil]
theorem run_buildA {P : Program} {w : World} {t e size b : Nat} {z : Value} {vs : List Value} [TyU P t (.slice e)] [TyI P e size z b] (hs : vs.length = size) (h0 : 0 < size) (hm : size ≤ 16777216) :
    (Instr.buildSlice t 1 #[(0, .agg vs.toArray)]).run P w = .ok (.slice (some ⟨w.heap.size, 0, none⟩) 1 1) (w.alloc (.cells vs.toArray e)) := by
  have hf := fill_fillG [(0, size)] (fun i => some (i * size, size)) (fun i q hq => by
    cases i with
    | zero => simp at hq; subst hq; simp
    | succ i => simp at hq) [(0, .agg vs.toArray)] ((Array.range (1 * size)).map (z.cells[· % z.cells.size]!)).toList vs (by
      unfold fillL
      simp only [List.getElem?_cons_zero]
      rw [show (Nat.beq (Value.agg vs.toArray).cells.toList.length size && Nat.ble (0 + (Value.agg vs.toArray).cells.toList.length) ((Array.range (1 * size)).map (z.cells[· % z.cells.size]!)).toList.length) = true from by
        simp [Value.cells, hs]]
      simp only [cond_true]
      unfold fillL
      congr 1
      exact splice_all _ _ (by simp [Value.cells, hs]))
  simp only [Array.toArray_toList] at hf
  have hg : ¬ 16777216 < 1 * size := by omega
  have hg2 : ¬ 1 * size = 0 := by omega
  have e24 : (2 : Nat) ^ 24 = 16777216 := rfl
  simp only [Instr.buildSlice, Sem.run_bind, run_under (d := .slice e), run_size (size := size) (zero := z) (bytes := b), Result.andThen_ok, e24, Sem.run_ite, if_neg hg, if_neg hg2, gt_iff_lt, Sem.run_pure, run_zero (size := size) (zero := z) (bytes := b), hf]
  rfl
/-- a row of one struct written out -/
theorem s_litA {t e size b : Nat} {z : Value} {vs : List Value} [TyU P t (.slice e)] [TyI P e size z b] (hE : Env n L a) (hS : St w0 w H) (hx : ev L x = some (.agg vs.toArray)) (hs : vs.length = size) (h0 : Nat.blt 0 size = true) (hm : Nat.ble size 16777216 = true) (hd : Nat.blt d n = true)
    (K : ∀ g a' w', Env n ((d, .slice (some ⟨g, 0, none⟩) 1 1) :: L) a' → St w0 w' (hRow e size (some ⟨g, 0, none⟩) 1 1 vs :: H) → wpList P ops Q rest a' w') :
    wpList P ops Q (⟨some d, .buildSlice t 1 #[(0, x)], ty, ps, af, none⟩ :: rest) a w := by
  have hrun := run_buildA (P := P) (w := w) (t := t) (e := e) (b := b) (z := z) hs (by simpa [Nat.blt_eq] using h0) (Nat.le_of_ble_eq_true hm)
  refine s_val (v := .slice (some ⟨w.heap.size, 0, none⟩) 1 1) (w' := w.alloc (.cells vs.toArray e)) hE rfl rfl hd ?_ fun a' hE' => K _ _ _ hE' ((hS.alloc vs e).blkRow size 1 (by omega) (by decide))
  simp [execOp, hE.eval hx, hrun]
theorem s_storeW {t u g b size : Nat} {z : Value} {cs vs : List Value} [TyI P t size z b] (hS : St w0 w H) (hE : Env n L a) (hx : ev L x = some (.pointer (some ⟨g, 0, none⟩))) (hy : ev L y = some (.agg vs.toArray)) (hk : H[k]? = some (hBlk g u cs)) (hs : vs.length = size) (ho : cs.length = size) (h1 : ∀ v ∈ vs, v.oneCell' = true)
    (K : ∀ w', St w0 w' (H.set k (hBlk g u vs)) → wpList P ops Q rest a w') :
    wpList P ops Q (⟨none, .store t x y, ty, ps, af, none⟩ :: rest) a w :=
  s_storeBs' vs hS hE hx hy hk (splice_all cs vs (by omega)) hs (by omega) h1 K
end
/-- a block's cells, handed back -/
theorem res_W {P : Program} {w w0 : World} {H : List HP} {t u g size b k : Nat} {z : Value} {cs : List Value} [TyA P t true] [TyI P t size z b] (hS : St w0 w H) (hk : H[k]? = some (hBlk g u cs)) (hl : cs.length = size) : (loadVar t ⟨g, 0, none⟩).run P w = .ok (.agg cs.toArray) w :=
  run_loadVarA (size := size) (z := z) (b := b) hl fun j u hu => by rw [add_lit, hS.cellAt hk, Nat.zero_add]; exact hu
theorem res_1 {P : Program} {w w0 : World} {H : List HP} {t u g k : Nat} {v : Value} [TyA P t false] (hS : St w0 w H) (hk : H[k]? = some (hBlk g u [v])) : (loadVar t ⟨g, 0, none⟩).run P w = .ok v w :=
  run_loadVar1 ((hS.cellAt hk 0).trans rfl)
/-! ### numbers that are not negative -/
theorem addN {a b : Nat} (h : a + b ≤ 9223372036854775807) : IntKind.i64.wrap ((a : Int) + (b : Int)) = ((a + b : Nat) : Int) := by
  rw [wrap64_in (by omega)]; omega
theorem subN {a b : Nat} (h : b ≤ a) (h2 : a ≤ 9223372036854775807) : IntKind.i64.wrap ((a : Int) - (b : Int)) = ((a - b : Nat) : Int) := by
  rw [wrap64_in (by omega)]; omega
theorem mulN {a b : Nat} (h : a * b ≤ 9223372036854775807) : IntKind.i64.wrap ((a : Int) * (b : Int)) = ((a * b : Nat) : Int) := by
  have e : (a : Int) * (b : Int) = ((a * b : Nat) : Int) := by simp
  rw [e, wrap64_in (by omega)]
theorem quoN {a b : Nat} (h : a ≤ 9223372036854775807) : IntKind.i64.wrap (((a : Nat) : Int).tdiv ((b : Nat) : Int)) = ((a / b : Nat) : Int) := by
  have e : ((a : Nat) : Int).tdiv ((b : Nat) : Int) = ((a / b : Nat) : Int) := rfl
  have : a / b ≤ a := Nat.div_le_self a b
  rw [e]
  generalize a / b = q at *
  exact wrap64_in (by omega)
section
variable {P : Program} {l : List Oper} {Q : Act → World → Prop} {S : World → Prop} {d : Nat} {a : Act} {w : World} {p : Pl}
variable {ty xt yt : TypeId} {ps : String} {af : Array Edge} {x y z : Operand}
theorem q_slice {l1 h m : Option Operand} (q : wpR P l Q S ⟨some d, .slice xt x l1 h m, ty, ps, af, none⟩ p a w) : wpR P l Q S ⟨some d, .slice xt x l1 h m, ty, ps, af, none⟩ p a w := q
theorem q_build {t : TypeId} {parts : Array (Nat × Operand)} (q : wpR P l Q S ⟨some d, .build t parts, ty, ps, af, none⟩ p a w) : wpR P l Q S ⟨some d, .build t parts, ty, ps, af, none⟩ p a w := q
end
/-- what a cut of bytes reads -/
theorem Rd.cutB {w : World} {A : Option Addr} {xs : List Nat} (h : Rd w A (bys xs)) {c l : Nat} (hl : xs.length ≤ c) (m : Nat) : Rd w (if c = l then A else A.map (·.add (l * 1))) (bys ((xs.drop l).take m)) := by
  rw [bys_take, bys_drop]
  exact (h.cut (by rw [bys_length]; exact hl) (l * 1) (Nat.mul_one l)).take m |> fun q => by rw [Nat.mul_one] at q ⊢; exact q
/-- the beginning, where all that is owned stays as it is while something is read -/
theorem c_ordS {P : Program} {l : List Oper} {id : Nat} {Q' : Exit → Act → World → Prop} {a : Act} {w w0 : World} {H : List HP} (hS : St w0 w H) (k : Nat) (p : Pl) (hm : P.follows .mixedOrders = true)
    (hk : (Region.noSelect l.toArray && lateOk l.toArray k && p.ok l k l.length (Array.replicate l.length false)) = true)
    (h : ∀ w1, St w0 w1 H → wpO P l (Q' .normal) (fun w' => St w0 w' H) p a w1) : (Code.region id l.toArray true).wp P Q' a w :=
  c_ord (fun w' => St w0 w' H) k p hm hk (h _ hS.drew)
section
variable {P : Program} {ops : Array Oper} {Q : Exit → Act → World → Prop} {rest : List Oper} {n d : Nat} {L : List (Nat × Value)} {a : Act} {w w0 : World} {H : List HP} {gd : Option (Nat × Bool)}
variable {ty xt yt : TypeId} {ps : String} {af : Array Edge} {x y z : Operand} {k : Nat}
theorem s_allocS {t size b : Nat} {zs : Array Value} {cs : List Value} [TyI P t size (.agg zs) b] (hE : Env n L a) (hS : St w0 w H) (hz : zs = cs.toArray) (hd : Nat.blt d n = true) (K : ∀ g a' w', Env n ((d, .pointer (some ⟨g, 0, none⟩)) :: L) a' → St w0 w' (hBlk g t cs :: H) → wpList P ops Q rest a' w') :
    wpList P ops Q (⟨some d, .alloc t, ty, ps, af, none⟩ :: rest) a w := s_alloc (z := .agg zs) hE hS (by rw [hz]; rfl) hd K
theorem s_alloc1 {t size b : Nat} {v : Value} [TyI P t size v b] (hE : Env n L a) (hS : St w0 w H) (h1 : v.oneCell' = true) (hd : Nat.blt d n = true) (K : ∀ g a' w', Env n ((d, .pointer (some ⟨g, 0, none⟩)) :: L) a' → St w0 w' (hBlk g t [v] :: H) → wpList P ops Q rest a' w') :
    wpList P ops Q (⟨some d, .alloc t, ty, ps, af, none⟩ :: rest) a w := s_alloc (z := v) hE hS (one_cells h1) hd K
theorem s_boxS {t : TypeId} {cs : List Value} (hE : Env n L a) (hS : St w0 w H) (hx : ev L x = some (.agg cs.toArray)) (hd : Nat.blt d n = true) (K : ∀ g a' w', Env n ((d, .pointer (some ⟨g, 0, none⟩)) :: L) a' → St w0 w' (hBlk g t cs :: H) → wpList P ops Q rest a' w') :
    wpList P ops Q (⟨some d, .box t x, ty, ps, af, none⟩ :: rest) a w := s_box hE hS hx rfl hd K
theorem s_box1 {t : TypeId} {v : Value} (hE : Env n L a) (hS : St w0 w H) (hx : ev L x = some v) (h1 : v.oneCell' = true) (hd : Nat.blt d n = true) (K : ∀ g a' w', Env n ((d, .pointer (some ⟨g, 0, none⟩)) :: L) a' → St w0 w' (hBlk g t [v] :: H) → wpList P ops Q rest a' w') :
    wpList P ops Q (⟨some d, .box t x, ty, ps, af, none⟩ :: rest) a w := s_box hE hS hx (one_cells h1) hd K
end
/-- one piece alone -/
theorem Sep.none_ {w : World} {L : List HP} (T : Nat → Prop) (_ : Sep w L T) : Sep w [] T := trivial
theorem St.keep2 {w w0 : World} {L : List HP} {a b : HP} (hS : St w0 w (a :: b :: L)) : St w0 w [a, b] := ⟨hS.below, Sep.cons_mono (L' := [b]) (fun _ => Sep.cons_mono (L' := []) Sep.none_) hS.sep⟩
theorem St.keep3 {w w0 : World} {L : List HP} {a b c : HP} (hS : St w0 w (a :: b :: c :: L)) : St w0 w [a, b, c] := ⟨hS.below, Sep.cons_mono (L' := [b, c]) (fun _ => Sep.cons_mono (L' := [c]) (fun _ => Sep.cons_mono (L' := []) Sep.none_)) hS.sep⟩
/-- of all pieces the j-th of the others, and the i-th -/
theorem St.only2 {w w0 : World} {L : List HP} {a b : HP} (i j : Nat) (hS : St w0 w L) (hi : L[i]? = some a) (hj : (L.eraseIdx i)[j]? = some b) : St w0 w [b, a] :=
  St.keep2 (L := (L.eraseIdx i).eraseIdx j) ((hS.focus hi).focus (k := j + 1) (by simpa using hj))
theorem St.only {w w0 : World} {L : List HP} {h : HP} (k : Nat) (hS : St w0 w L) (hk : L[k]? = some h) : St w0 w [h] := by
  obtain ⟨hb, S, h1, h2, r⟩ := hS.focus hk
  exact ⟨hb, S, h1, h2, trivial⟩
/-- the beginning, where one piece stays as it is -/
theorem c_ordK {P : Program} {l : List Oper} {id : Nat} {Q' : Exit → Act → World → Prop} {a : Act} {w w0 : World} {H : List HP} {h : HP} (hS : St w0 w H) (i : Nat) (hi : H[i]? = some h) (k : Nat) (p : Pl) (hm : P.follows .mixedOrders = true)
    (hk : (Region.noSelect l.toArray && lateOk l.toArray k && p.ok l k l.length (Array.replicate l.length false)) = true)
    (K : ∀ w1, St w0 w1 H → St w0 w1 [h] → wpO P l (Q' .normal) (fun w' => St w0 w' [h]) p a w1) : (Code.region id l.toArray true).wp P Q' a w :=
  c_ord (fun w' => St w0 w' [h]) k p hm hk (K _ hS.drew (hS.drew.only i hi))
/-- the same, where two pieces stay: the j-th of the others, and the i-th -/
theorem c_ordK2 {P : Program} {l : List Oper} {id : Nat} {Q' : Exit → Act → World → Prop} {a : Act} {w w0 : World} {H : List HP} {h h2 : HP} (hS : St w0 w H) (i j : Nat) (hi : H[i]? = some h) (hj : (H.eraseIdx i)[j]? = some h2) (k : Nat) (p : Pl) (hm : P.follows .mixedOrders = true)
    (hk : (Region.noSelect l.toArray && lateOk l.toArray k && p.ok l k l.length (Array.replicate l.length false)) = true)
    (K : ∀ w1, St w0 w1 H → St w0 w1 [h2, h] → wpO P l (Q' .normal) (fun w' => St w0 w' [h2, h]) p a w1) : (Code.region id l.toArray true).wp P Q' a w :=
  c_ord (fun w' => St w0 w' [h2, h]) k p hm hk (K _ hS.drew (hS.drew.only2 i j hi hj))
section
variable {P : Program} {l : List Oper} {Q : Act → World → Prop} {a : Act} {w w0 : World} {H : List HP} {h : HP} {p : Pl}
theorem o_grow (hS : St w0 w (h :: H)) (k : wpO P l Q (fun w' => St w0 w' (h :: H)) p a w) : (fun (e : Exit) (a' : Act) (w' : World) => e = .normal ∧ ∃ S' : World → Prop, (∀ u, S' u → St w0 u H) ∧ S' w' ∧ wpO P l Q S' p a' w') .normal a w :=
  o_back (fun w' => St w0 w' (h :: H)) (fun u hu => hu.tail) hS k
theorem o_same (hS : St w0 w H) (k : wpO P l Q (fun w' => St w0 w' H) p a w) : (fun (e : Exit) (a' : Act) (w' : World) => e = .normal ∧ ∃ S' : World → Prop, (∀ u, S' u → St w0 u H) ∧ S' w' ∧ wpO P l Q S' p a' w') .normal a w :=
  o_back (fun w' => St w0 w' H) (fun u hu => hu) hS k
end
theorem Rd.none_nil {w : World} {xs : List Nat} (h : Rd w none (bys xs)) : xs = [] := by
  cases xs with
  | nil => rfl
  | cons x xs => exact absurd (h (by simp [bys])) (by rintro ⟨ad, h, _⟩; cases h)
theorem St.unfocus2 {w w0 : World} {L : List HP} {h h' m : HP} {k : Nat} (hk : L[k]? = some h) (hS : St w0 w (m :: h' :: L.eraseIdx k)) : St w0 w (m :: L.set k h') := by
  obtain ⟨hb, S, h1, h2, r⟩ := hS
  exact ⟨hb, S, h1, h2, Sep.unfocus hk r⟩
section
variable {P : Program} {l : List Oper} {Q : Act → World → Prop} {a : Act} {w w0 : World} {H : List HP} {h h2 h3 : HP} {p : Pl}
theorem o_grow2 (hS : St w0 w (h :: h2 :: H)) (k : wpO P l Q (fun w' => St w0 w' (h :: h2 :: H)) p a w) : (fun (e : Exit) (a' : Act) (w' : World) => e = .normal ∧ ∃ S' : World → Prop, (∀ u, S' u → St w0 u H) ∧ S' w' ∧ wpO P l Q S' p a' w') .normal a w :=
  o_back (fun w' => St w0 w' (h :: h2 :: H)) (fun u hu => hu.tail.tail) hS k
theorem o_grow3 (hS : St w0 w (h :: h2 :: h3 :: H)) (k : wpO P l Q (fun w' => St w0 w' (h :: h2 :: h3 :: H)) p a w) : (fun (e : Exit) (a' : Act) (w' : World) => e = .normal ∧ ∃ S' : World → Prop, (∀ u, S' u → St w0 u H) ∧ S' w' ∧ wpO P l Q S' p a' w') .normal a w :=
  o_back (fun w' => St w0 w' (h :: h2 :: h3 :: H)) (fun u hu => hu.tail.tail.tail) hS k
end
/-! ### rows of like things -/
theorem flat_len {α : Type} {c : α → List Value} {size : Nat} : ∀ {l : List α}, (∀ y ∈ l, (c y).length = size) → (l.flatMap c).length = l.length * size
  | [], _ => by simp
  | y :: l, h => by
    rw [List.flatMap_cons, List.length_append, h y (by simp), flat_len (fun z hz => h z (by simp [hz])), List.length_cons, Nat.succ_mul, Nat.add_comm]
theorem flat_seg {α : Type} {c : α → List Value} {size : Nat} : ∀ {l : List α}, (∀ y ∈ l, (c y).length = size) → ∀ {i : Nat} (hi : i < l.length), ((l.flatMap c).drop (i * size)).take size = c l[i]
  | [], _, i, hi => by simp at hi
  | y :: l, h, 0, hi => by
    have := h y (by simp)
    simp [← this]
  | y :: l, h, i + 1, hi => by
    have h1 := h y (by simp)
    have ih := flat_seg (l := l) (fun z hz => h z (by simp [hz])) (i := i) (by simpa using hi)
    rw [List.flatMap_cons, Nat.succ_mul, Nat.add_comm, ← List.drop_drop, show ((c y ++ l.flatMap c).drop size) = l.flatMap c from by rw [← h1, List.drop_left]]
    simpa using ih
theorem flat_one {α : Type} {c : α → List Value} {size : Nat} {l : List α} (h : ∀ y ∈ l, (c y).length = size) {i j : Nat} (hi : i < l.length) (hj : j < size) : (l.flatMap c)[i * size + j]? = (c l[i])[j]? := by
  rw [← flat_seg h hi, List.getElem?_take, if_pos hj, List.getElem?_drop]
end Go.Proofs.Ytfoeelghehjanaa
