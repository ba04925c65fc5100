/-
  A statement whose order is open: each operation comes to one value whatever the order; so the frame behind it is known.
-/
import Derived.Test.YtaiahigeejodaaaKe
import Derived.Orders
namespace Go.Proofs.Ytaiahigeejodaaa
open Go.RowKit
set_option linter.unusedVariables false
set_option linter.unusedSimpArgs false

/-- What one operation is to leave. -/
def One (d : Nat) (v : Value) (J : World → Prop) : Exit → Act → World → Prop := fun e a w => e = .normal ∧ a.defers = [] ∧ a.tmps[d]? = some v ∧ J w

theorem one_ok {n d : Nat} {L : List (Nat × Value)} {a : Act} {w : World} {v : Value} {J : World → Prop} (hE : Env n L a) (h : find L d = some v) (hJ : J w) : One d v J .normal a w := ⟨rfl, hE.defers, hE.has d v h, hJ⟩

def zipE : List Oper → List Value → List (Nat × Value)
  | o :: os, v :: vs => (o.dst.getD 0, v) :: zipE os vs
  | _, _ => []

def AllOk (P : Program) (n : Nat) (Lf : List (Nat × Value)) (J : World → Prop) (ops : Array Oper) : List Oper → List Value → Prop
  | [], [] => True
  | o :: os, v :: vs => (∀ a w, Env n Lf a → J w → wpList P ops (One (o.dst.getD 0) v J) [o] a w) ∧ AllOk P n Lf J ops os vs
  | _, _ => False

def dstsL (l : List Oper) : List Nat := l.map (fun o => o.dst.getD 0)
def isSel : Op → Bool
  | .select _ _ => true
  | _ => false
/-- the slots that an operation looks at -/
def seesL (l : List Oper) (o : Oper) : List Nat :=
  (o.op.operands.toList.filterMap fun | .tmp t => some t | _ => none) ++ (match o.guard with | some (g, _) => [((l[g]?).map (fun o => o.dst.getD 0)).getD 0] | none => [])
def depsL (l : List Oper) (o : Oper) : List Nat := o.after.toList.filterMap fun e => if Region.binds .any e then (l[e.on]?).map (fun o => o.dst.getD 0) else none
def opFine (l : List Oper) (n i : Nat) (o : Oper) : Bool :=
  (match o.dst with | some d => Nat.blt d n | none => false) && !isSel o.op && (o.after.toList.all fun e => !Region.binds .any e || Nat.blt e.on i) &&
  (match o.guard with | some (g, _) => Nat.blt g l.length | none => true) &&
  (seesL l o).all fun t => !(dstsL l).elem t || (depsL l o).elem t
def allFine (l : List Oper) (n : Nat) : Nat → List Oper → Bool
  | _, [] => true
  | i, o :: os => opFine l n i o && allFine l n (i + 1) os
def nodupB : List Nat → Bool
  | [] => true
  | x :: xs => !xs.elem x && nodupB xs
def baseFine (l : List Oper) (L : List (Nat × Value)) : Bool := l.all fun o => (seesL l o).all fun t => (dstsL l).elem t || (find L t).isSome

theorem nodup_of : ∀ {l : List Nat}, nodupB l = true → l.Nodup
  | [], _ => List.nodup_nil
  | x :: xs, h => by
    simp only [nodupB, Bool.and_eq_true, Bool.not_eq_true', List.elem_eq_mem, decide_eq_false_iff_not] at h
    exact List.nodup_cons.2 ⟨h.1, nodup_of h.2⟩

theorem allFine_at (l : List Oper) (n : Nat) : ∀ (os : List Oper) (i j : Nat) (o : Oper), allFine l n i os = true → os[j]? = some o → opFine l n (i + j) o = true
  | [], _, _, _, _, h => by simp at h
  | p :: os, i, 0, o, h, hj => by
    simp only [allFine, Bool.and_eq_true] at h
    simp at hj
    subst hj
    exact h.1
  | p :: os, i, j + 1, o, h, hj => by
    simp only [allFine, Bool.and_eq_true] at h
    have := allFine_at l n os (i + 1) j o h.2 (by simpa using hj)
    rwa [show i + 1 + j = i + (j + 1) from by omega] at this

theorem AllOk.length {P : Program} {n : Nat} {Lf : List (Nat × Value)} {J : World → Prop} {ops : Array Oper} : ∀ {l : List Oper} {V : List Value}, AllOk P n Lf J ops l V → V.length = l.length
  | [], [], _ => rfl
  | _ :: os, _ :: vs, h => by simp [AllOk.length h.2]
  | [], _ :: _, h => h.elim
  | _ :: _, [], h => h.elim
theorem AllOk.at_ {P : Program} {n : Nat} {Lf : List (Nat × Value)} {J : World → Prop} {ops : Array Oper} : ∀ {l : List Oper} {V : List Value} {i : Nat} {o : Oper} {v : Value}, AllOk P n Lf J ops l V → l[i]? = some o → V[i]? = some v →
    ∀ a w, Env n Lf a → J w → wpList P ops (One (o.dst.getD 0) v J) [o] a w
  | [], [], _, _, _, _, h, _ => by simp at h
  | _ :: os, _ :: vs, 0, o, v, h, ho, hv => by
    simp at ho hv
    subst ho hv
    exact h.1
  | _ :: os, _ :: vs, i + 1, o, v, h, ho, hv => AllOk.at_ h.2 (by simpa using ho) (by simpa using hv)
  | [], _ :: _, _, _, _, h, _, _ => h.elim
  | _ :: _, [], _, _, _, h, _, _ => h.elim

theorem find_append (L' : List (Nat × Value)) : ∀ (L : List (Nat × Value)) (t : Nat), find (L ++ L') t = (find L t).or (find L' t)
  | [], t => by simp [find]
  | (s, v) :: L, t => by
    simp only [List.cons_append, find]
    cases Nat.beq s t with
    | true => simp
    | false => simpa using find_append L' L t
theorem find_zipE_none : ∀ (l : List Oper) (V : List Value) (t : Nat), t ∉ dstsL l → find (zipE l V) t = none
  | [], _, _, _ => by simp [zipE, find]
  | _ :: _, [], _, _ => by simp [zipE, find]
  | o :: os, v :: vs, t, h => by
    simp only [dstsL, List.map_cons, List.mem_cons, not_or] at h
    simp only [zipE, find]
    have hb : Nat.beq (o.dst.getD 0) t = false := by
      cases hb : Nat.beq (o.dst.getD 0) t with
      | false => rfl
      | true => exact absurd (Nat.eq_of_beq_eq_true hb).symm h.1
    rw [hb]
    exact find_zipE_none os vs t h.2
theorem find_zipE_at : ∀ (l : List Oper) (V : List Value) (i : Nat) (o : Oper) (v : Value), (dstsL l).Nodup → l[i]? = some o → V[i]? = some v → find (zipE l V) (o.dst.getD 0) = some v
  | [], _, _, _, _, _, h, _ => by simp at h
  | _ :: _, [], _, _, _, _, _, h => by simp at h
  | p :: os, u :: vs, 0, o, v, hn, ho, hv => by
    simp at ho hv
    subst ho hv
    have : Nat.beq (p.dst.getD 0) (p.dst.getD 0) = true := Nat.beq_refl _
    simp only [zipE, find, this, cond_true]
  | p :: os, u :: vs, i + 1, o, v, hn, ho, hv => by
    simp only [dstsL, List.map_cons, List.nodup_cons] at hn
    have ho' : os[i]? = some o := by simpa using ho
    have hb : Nat.beq (p.dst.getD 0) (o.dst.getD 0) = false := by
      cases hb : Nat.beq (p.dst.getD 0) (o.dst.getD 0) with
      | false => rfl
      | true =>
        have e := Nat.eq_of_beq_eq_true hb
        exact absurd (List.mem_map.2 ⟨o, List.mem_of_getElem? ho', e.symm⟩) hn.1
    simp only [zipE, find, hb, cond_false]
    exact find_zipE_at os vs i o v hn.2 ho' (by simpa using hv)

/-- a frame that holds what a list says -/
def frameOf (n : Nat) (Lf : List (Nat × Value)) : Act := { tmps := (Array.range n).map (fun t => (find Lf t).getD undef), defers := [] }
theorem env_frameOf (n : Nat) (Lf : List (Nat × Value)) (h : ∀ t v, find Lf t = some v → t < n) : Env n Lf (frameOf n Lf) := by
  refine ⟨by simp [frameOf], rfl, fun t v hf => ?_⟩
  have := h t v hf
  simp [frameOf, this, hf]

theorem getD_set_true (l : Array Bool) (i j : Nat) (hj : j < l.size) : (l.setIfInBounds i true).getD j true = (if i = j then true else l.getD j true) := by
  simp only [Array.getD_eq_getD_getElem?, Array.getElem?_setIfInBounds]
  split
  · rename_i h; subst h; simp [hj]
  · rfl

section
variable {P : Program} {Q : Exit → Act → World → Prop} {n : Nat} {L : List (Nat × Value)}

theorem c_draw {id : Nat} {l : List Oper} {a : Act} {w : World} (V : List Value) (J : World → Prop) (hm : P.follows .mixedOrders = true) (hE : Env n L a) (hJ : J { w with drawn := w.drawn + 1 })
    (hf : allFine l n 0 l = true) (hnd : nodupB (dstsL l) = true) (hb : baseFine l L = true)
    (hok : AllOk P n (zipE l V ++ L) J l.toArray l V) (k : ∀ a w, Env n (zipE l V ++ L) a → J w → Q .normal a w) : (Code.region id l.toArray true).wp P Q a w := by
  have hnd' := nodup_of hnd
  have hVl := hok.length
  have hopF : ∀ (i : Nat) (o : Oper), l[i]? = some o → opFine l n i o = true := fun i o h => by simpa using allFine_at l n l 0 i o hf h
  have hdst : ∀ (i : Nat) (o : Oper), l[i]? = some o → ∃ d, o.dst = some d ∧ d < n := by
    intro i o h
    have := hopF i o h
    simp only [opFine, Bool.and_eq_true] at this
    cases hd : o.dst with
    | none => rw [hd] at this; simp at this
    | some d => exact ⟨d, rfl, by have := this.1.1.1.1; rw [hd] at this; simpa [Nat.blt_eq] using this⟩
  have hkeys : ∀ t v, find (zipE l V ++ L) t = some v → t < n := by
    intro t v h
    rw [find_append] at h
    by_cases ht : t ∈ dstsL l
    · obtain ⟨o, ho, rfl⟩ := List.mem_map.1 ht
      obtain ⟨i, hi⟩ := List.getElem?_of_mem ho
      obtain ⟨d, hd, hlt⟩ := hdst i o hi
      simpa [hd] using hlt
    · rw [find_zipE_none l V t ht] at h
      have h1 := hE.has t v (by simpa using h)
      have := (Array.getElem?_eq_some_iff.1 h1).1
      rw [hE.size] at this
      exact this
  have hA := env_frameOf n _ hkeys
  refine wp_region_any hm ?_
  have key : ∀ (fuel : Nat) (listed : Array Bool) (a' : Act) (w' : World), listed.size = l.length → a'.tmps.size = n → a'.defers = [] →
      (∀ t v, find L t = some v → t ∉ dstsL l → a'.tmps[t]? = some v) → (∀ (i : Nat) (o : Oper) (v : Value), l[i]? = some o → V[i]? = some v → listed.getD i true = true → a'.tmps[o.dst.getD 0]? = some v) →
      J w' → (listed.toList.filter (fun b => !b)).length ≤ fuel → wpAny P .any l.toArray Q fuel listed a' w' := by
    intro fuel
    induction fuel with
    | zero =>
      intro listed a' w' hs hsz hdf h1 h2 hJ' hfu
      have hall : ∀ i, i < l.length → listed.getD i true = true := by
        intro i hi
        cases hb2 : listed.getD i true with
        | true => rfl
        | false =>
          have hi' : i < listed.size := by omega
          have hmem : listed[i] ∈ listed.toList.filter (fun b => !b) := by
            refine List.mem_filter.2 ⟨by simp, ?_⟩
            simpa [Array.getD, hi'] using hb2
          have := List.length_pos_of_mem hmem
          omega
      refine ⟨?_, k _ _ ⟨hsz, hdf, fun t v hv => ?_⟩ hJ'⟩
      · simp only [Region.ready, List.filter_eq_nil_iff, List.mem_range, List.size_toArray]
        intro i hi
        simp [hall i hi]
      · rw [find_append] at hv
        by_cases ht : t ∈ dstsL l
        · obtain ⟨o, ho, rfl⟩ := List.mem_map.1 ht
          obtain ⟨i, hi⟩ := List.getElem?_of_mem ho
          have hil : i < l.length := (List.getElem?_eq_some_iff.1 hi).1
          have hVi : V[i]? = some (V[i]'(by omega)) := List.getElem?_eq_getElem (by omega)
          rw [find_zipE_at l V i o _ hnd' hi hVi] at hv
          simp at hv
          rw [h2 i o _ hi hVi (hall i hil), hv]
        · rw [find_zipE_none l V t ht] at hv
          exact h1 t v (by simpa using hv) ht
    | succ fuel ih =>
      intro listed a' w' hs hsz hdf h1 h2 hJ' hfu
      refine ⟨fun hr => ?_, fun i hi => ?_⟩
      · have hall : ∀ i, i < l.length → listed.getD i true = true := by
          intro i
          induction i using Nat.strongRecOn with
          | _ i ihi =>
            intro hi
            cases hb2 : listed.getD i true with
            | true => rfl
            | false =>
              have hmem : i ∈ Region.ready .any l.toArray listed := by
                refine List.mem_filter.2 ⟨by simpa using hi, ?_⟩
                have ho : l[i]? = some l[i] := List.getElem?_eq_getElem hi
                have hF := hopF i _ ho
                simp only [opFine, Bool.and_eq_true] at hF
                have hedge := hF.1.1.2
                simp only [hb2, Bool.not_false, Bool.true_and, List.getElem?_toArray, ho, Option.map_some, Option.getD_some]
                rw [Array.all_eq_true']
                intro e he
                have := List.all_eq_true.1 hedge e (by simpa using he)
                simp only [Bool.or_eq_true, Bool.not_eq_true'] at this ⊢
                rcases this with h | h
                · exact .inl h
                · right
                  have hlt : e.on < i := by simpa [Nat.blt_eq] using h
                  have := ihi e.on hlt (by omega)
                  have hlt2 : e.on < listed.size := by omega
                  simpa [Array.getD, hlt2] using this
              rw [hr] at hmem
              cases hmem
        refine k _ _ ⟨hsz, hdf, fun t v hv => ?_⟩ hJ'
        rw [find_append] at hv
        by_cases ht : t ∈ dstsL l
        · obtain ⟨o, ho, rfl⟩ := List.mem_map.1 ht
          obtain ⟨i, hi⟩ := List.getElem?_of_mem ho
          have hil : i < l.length := (List.getElem?_eq_some_iff.1 hi).1
          have hVi : V[i]? = some (V[i]'(by omega)) := List.getElem?_eq_getElem (by omega)
          rw [find_zipE_at l V i o _ hnd' hi hVi] at hv
          simp at hv
          rw [h2 i o _ hi hVi (hall i hil), hv]
        · rw [find_zipE_none l V t ht] at hv
          exact h1 t v (by simpa using hv) ht
      · obtain ⟨hir, hrd⟩ := List.mem_filter.1 hi
        have hil : i < l.length := by simpa using hir
        have ho : l[i]? = some l[i] := List.getElem?_eq_getElem hil
        have hVi : V[i]? = some (V[i]'(by omega)) := List.getElem?_eq_getElem (by omega)
        generalize l[i] = o at ho
        generalize V[i] = v at hVi
        simp only [Bool.and_eq_true, Bool.not_eq_true', List.getElem?_toArray, ho, Option.map_some, Option.getD_some] at hrd
        obtain ⟨hnl, hdeps⟩ := hrd
        obtain ⟨d, hd, hdn⟩ := hdst i o ho
        have hF := hopF i o ho
        simp only [opFine, Bool.and_eq_true] at hF
        obtain ⟨⟨⟨⟨_, hsel⟩, _⟩, hgl⟩, hsees⟩ := hF
        have hsel' : ∀ cs b, o.op ≠ .select cs b := by
          intro cs b e
          rw [e] at hsel
          simp [isSel] at hsel
        -- what it looks at is there
        have hlook : ∀ t, t ∈ seesL l o → a'.tmps[t]? = (frameOf n (zipE l V ++ L)).tmps[t]? := by
          intro t ht
          have hbase := List.all_eq_true.1 (List.all_eq_true.1 hb o (List.mem_of_getElem? ho)) t ht
          have hs2 := List.all_eq_true.1 hsees t ht
          by_cases htd : t ∈ dstsL l
          · have hdep : t ∈ depsL l o := by
              simp only [Bool.or_eq_true, Bool.not_eq_true', List.elem_eq_mem, decide_eq_true_eq, decide_eq_false_iff_not] at hs2
              rcases hs2 with h | h
              · exact absurd htd h
              · exact h
            obtain ⟨e, he, het⟩ := List.mem_filterMap.1 hdep
            split at het
            · rename_i hbd
              obtain ⟨oj, hoj, rfl⟩ := Option.map_eq_some_iff.1 het
              have hjl : e.on < l.length := (List.getElem?_eq_some_iff.1 hoj).1
              have hlst : listed.getD e.on true = true := by
                have := (Array.all_eq_true'.1 hdeps) e (by simpa using he)
                simp only [hbd, Bool.not_true, Bool.false_or] at this
                have hlt2 : e.on < listed.size := by omega
                simpa [Array.getD, hlt2] using this
              have hVj : V[e.on]? = some (V[e.on]'(by omega)) := List.getElem?_eq_getElem (by omega)
              rw [h2 e.on oj _ hoj hVj hlst]
              have hfz := find_zipE_at l V e.on oj _ hnd' hoj hVj
              rw [hA.has (oj.dst.getD 0) _ (by rw [find_append, hfz]; rfl)]
            · cases het
          · have hsome : (find L t).isSome = true := by
              simp only [Bool.or_eq_true, List.elem_eq_mem, decide_eq_true_eq] at hbase
              rcases hbase with h | h
              · exact absurd h htd
              · exact h
            obtain ⟨u, hu⟩ := Option.isSome_iff_exists.1 hsome
            rw [h1 t u hu htd, hA.has t u (by rw [find_append, find_zipE_none l V t htd, hu]; rfl)]
        have heval : ∀ x ∈ o.op.operands, a'.eval x = (frameOf n (zipE l V ++ L)).eval x := by
          intro x hx
          cases x with
          | tmp t =>
            have := hlook t (List.mem_append_left _ (List.mem_filterMap.2 ⟨.tmp t, by simpa using hx, rfl⟩))
            simp only [Act.eval, Array.getD_eq_getD_getElem?, this]
          | const u => rfl
          | global g => rfl
          | func f => rfl
        have hex := execOp_congr o hsel' heval
        have hwant : Region.wanted o (yielded l.toArray a'.tmps) = Region.wanted o (yielded l.toArray (frameOf n (zipE l V ++ L)).tmps) := by
          unfold Region.wanted
          cases hg : o.guard with
          | none => rfl
          | some gw =>
            obtain ⟨g, want⟩ := gw
            have hgl' : g < l.length := by rw [hg] at hgl; simpa [Nat.blt_eq] using hgl
            have hog : l[g]? = some l[g] := List.getElem?_eq_getElem hgl'
            obtain ⟨dg, hdg, _⟩ := hdst g _ hog
            have := hlook dg (List.mem_append_right _ (by simp [hg, hog, hdg]))
            simp only [yielded, List.getElem?_toArray, hog, Option.bind_some, hdg, this]
        have hone := hok.at_ ho hVi (frameOf n (zipE l V ++ L)) w' hA hJ'
        have hdd : o.dst.getD 0 = d := by rw [hd]; rfl
        rw [hdd] at hone
        have hnext : ∀ w2, J w2 → wpAny P .any l.toArray Q fuel (listed.setIfInBounds i true) (a'.put (some d) v) w2 := by
          intro w2 hJ2
          have hi2 : i < listed.size := by omega
          refine ih _ _ _ (by simpa using hs) (by simpa [Act.put] using hsz) hdf ?_ ?_ hJ2 ?_
          · intro t u hu ht
            have hne : d ≠ t := fun e => ht (e ▸ hdd ▸ List.mem_map.2 ⟨o, List.mem_of_getElem? ho, rfl⟩)
            simp only [Act.put, Array.getElem?_setIfInBounds, if_neg hne]
            exact h1 t u hu ht
          · intro j oj vj hoj hVj hl
            have hjl : j < l.length := (List.getElem?_eq_some_iff.1 hoj).1
            rw [getD_set_true listed i j (by omega)] at hl
            by_cases hij : i = j
            · subst hij
              rw [ho] at hoj
              rw [hVi] at hVj
              injection hoj with hoj
              injection hVj with hVj
              subst hoj
              subst hVj
              rw [hdd]
              simp [Act.put, hsz, hdn]
            · rw [if_neg hij] at hl
              have hne : d ≠ oj.dst.getD 0 := by
                intro e
                apply hij
                have e1 : (dstsL l)[i]? = some d := by simp [dstsL, ho, hd]
                have e2 : (dstsL l)[j]? = some d := by simp [dstsL, hoj, ← e]
                exact (List.getElem?_inj (by simpa [dstsL] using hil) hnd').1 (e1.trans e2.symm)
              simp only [Act.put, Array.getElem?_setIfInBounds, if_neg hne]
              exact h2 j oj vj hoj hVj hl
          · have hfalse : listed[i] = false := by
              have : listed.getD i true = listed[i] := by simp [Array.getD, hi2]
              rw [← this]; exact hnl
            have hcount : ∀ (xs : List Bool) (i : Nat), xs[i]? = some false → ((xs.set i true).filter (fun b => !b)).length + 1 = (xs.filter (fun b => !b)).length := by
              intro xs
              induction xs with
              | nil => intro i h; simp at h
              | cons x xs ihx =>
                intro i h
                cases i with
                | zero => simp at h; subst h; simp
                | succ i =>
                  have := ihx i (by simpa using h)
                  simp only [List.set_cons_succ, List.filter_cons]
                  split <;> simp_all <;> omega
            have := hcount listed.toList i (by simp [hi2, hfalse])
            have e : (listed.setIfInBounds i true).toList = listed.toList.set i true := by simp
            rw [e]
            omega
        unfold wpOp
        simp only [List.getElem?_toArray, ho]
        unfold wpList at hone
        rw [hwant]
        split
        · rename_i hw
          rw [if_pos hw] at hone
          rcases hone with hone | ⟨_, a0, w0, h0, _⟩
          · left
            unfold Oper.wp at hone ⊢
            rw [hex]
            generalize (execOp (frameOf n (zipE l V ++ L)).eval o).run P w' = r at hone ⊢
            have fin : ∀ u w2, One d v J .normal ((frameOf n (zipE l V ++ L)).put o.dst u) w2 → wpAny P .any l.toArray Q fuel (listed.setIfInBounds i true) (a'.put o.dst u) w2 := by
              intro u w2
              rw [hd]
              rintro ⟨_, _, h3, h4⟩
              have hu : u = v := by
                have hsz2 : (frameOf n (zipE l V ++ L)).tmps.size = n := hA.size
                simp only [Act.put, Array.getElem?_setIfInBounds, if_true, hsz2, hdn] at h3
                exact Option.some.inj h3
              subst hu
              exact hnext w2 h4
            cases r with
            | ok nx w2 =>
              cases nx <;> simp only [Oper.upon] at hone ⊢ <;> first
                | exact fin _ _ hone
                | exact absurd hone.2.1 (by rw [hd]; simp [Act.put])
                | exact Calls.mono hone (fun e w3 he => by
                    cases e with
                    | returned u => exact fin _ _ he
                    | panicked ch => exact absurd he.1 (by simp)
                    | outgrown => obtain ⟨a0, w0, h0, _⟩ := he; cases h0)
                | exact Rows.mono hone (fun _ _ he => fin _ _ he)
            | halt x w2 => cases x <;> simp only [Oper.upon] at hone ⊢ <;> exact absurd hone.1 (by simp)
          · cases h0
        · rename_i hw
          rw [if_neg hw] at hone
          obtain ⟨_, _, h3, h4⟩ := hone
          rw [hd] at h3 ⊢
          have hu : undef = v := by
            have hsz2 : (frameOf n (zipE l V ++ L)).tmps.size = n := hA.size
            simp only [Act.put, Array.getElem?_setIfInBounds, if_true, hsz2, hdn] at h3
            exact Option.some.inj h3
          rw [hu]
          exact hnext w' h4
  refine key _ _ _ _ (by simp) hE.size hE.defers (fun t v h _ => hE.has t v h) (fun i o v ho hv hl => ?_) hJ ?_
  · have hi : i < l.length := (List.getElem?_eq_some_iff.1 ho).1
    simp [Array.getD, hi] at hl
  · simp
end
end Go.Proofs.Ytaiahigeejodaaa
