/-
  The law RecordDecodes.
-/
import Derived.Test.YtmfcffeoooegcaaRQ
import Derived.Test.YtmfcffeoooegcaaRN
namespace Go.Proofs.Ytmfcffeoooegcaa
open Go.RowKit
set_option linter.unusedVariables false
set_option linter.unusedSimpArgs false
attribute [local irreducible] Rd hRow hBlk hRd hAll Fn hRdr
attribute [local simp] Rc.cells

theorem zero_wf {A : Option Addr} {c : Nat} {B : Option Addr} {d : Nat} : (Rc.zero.at_ A c B d).wf := by
  refine ⟨by show (0 : Nat) < _; decide, by show (0 : Nat) < _; decide, by show (0 : Nat) < _; decide, by show (0 : Nat) < _; decide, by show _ ≤ (0 : Int) ∧ (0 : Int) ≤ _; decide, by show _ ≤ (0 : Int) ∧ (0 : Int) ≤ _; decide, by show _ ≤ (0 : Int) ∧ (0 : Int) ≤ _; decide, fun c hc => (by cases hc), fun c hc => (by cases hc), ⟨Nat.zero_le _, Nat.zero_le _⟩, ⟨Nat.zero_le _, Nat.zero_le _⟩⟩
theorem parse_wf {xs : List Nat} (hx : Bs xs) {r : Rc} {n : Nat} (h : parse xs = some (r, n)) {A : Option Addr} {c : Nat} {B : Option Addr} {d : Nat} (h1 : r.o.length ≤ c) (h2 : r.w.length ≤ d) : (r.at_ A c B d).wf := by
  unfold parse at h
  split at h
  · cases h
  · split at h
    · split at h
      · cases h
      · cases h; exact P1_wf hx h1 h2
    · split at h
      · split at h
        · cases h
        · cases h; exact P2_wf hx h2
      · cases h; exact P3_wf hx
theorem decM_wf {xs : List Nat} (hx : Bs xs) {A : Option Addr} {c : Nat} {B : Option Addr} {d : Nat} (h1 : (decM xs).1.o.length ≤ c) (h2 : (decM xs).1.w.length ≤ d) : ((decM xs).1.at_ A c B d).wf := by
  by_cases h0 : xs = []
  · have : decM xs = (Rc.zero, 0, 7) := by unfold decM; rw [if_pos h0]
    rw [this]; exact zero_wf
  · by_cases hk : oct xs 0 < 1 ∨ 4 < oct xs 0
    · rw [decM_bad h0 hk]; exact zero_wf
    · cases hp : parse xs with
      | none => rw [decM_none h0 hk hp]; exact zero_wf
      | some q =>
        obtain ⟨r, n⟩ := q
        by_cases hr : r.right
        · rw [decM_yes h0 hk hp hr] at h1 h2 ⊢; exact parse_wf hx hp h1 h2
        · rw [decM_no h0 hk hp hr]; exact zero_wf
theorem Rc.same_at (r : Rc) {A A' : Option Addr} {c c' : Nat} {B B' : Option Addr} {d d' : Nat} : (r.at_ A c B d).same (r.at_ A' c' B' d') := ⟨rfl, rfl, rfl, rfl, rfl, rfl, rfl, rfl, rfl⟩
set_option maxHeartbeats 4000000 in
theorem law_RecordDecodes (A : Option Addr) (c : Nat) (xs : List Nat) (w0 : World) (hr : Rd w0 A (bys xs)) (hx : Bs xs) (hcap : xs.length ≤ c) (hl : xs.length ≤ 140737488351232) : Fn Try.prog 4 [.slice A xs.length c] w0 fun v w' => v = .bool true ∧ St w0 w' [] := by
  refine enter 41 Try.func4 rfl rfl rfl ?_
  intro a hE
  have hS := St.start w0
  repeat' (first
    | (with_reducible refine wp_seq ?_)
    | (with_reducible refine c_region ?_)
    | (with_reducible refine wpList_nil ?_)
    | (with_reducible refine then_normal ?_)
    | ((with_reducible refine g_assign ?_); refine s_assign hE rfl rfl ?_; clear hE a; intro a hE)
    )
  refine s_call hE rfl rfl rfl (wakes w0) ?_; rintro _ w ⟨rfl, hS1⟩; clear hE a; intro a hE; replace hS := hS.frame hS1; clear hS1; try simp only [List.cons_append, List.nil_append] at hS
  repeat' (first
    | (with_reducible refine wp_seq ?_)
    | (with_reducible refine c_region ?_)
    | (with_reducible refine wpList_nil ?_)
    | (with_reducible refine then_normal ?_)
    | (with_reducible refine wp_skip ?_)
    | (with_reducible refine wp_ret ?_)
    | (with_reducible refine then_ret ?_)
    | ((with_reducible refine g_move ?_); refine s_move hE rfl rfl ?_; clear hE a; intro a hE)
    | ((with_reducible refine g_assign ?_); refine s_assign hE rfl rfl ?_; clear hE a; intro a hE)
    | ((with_reducible refine g_bin .gtr ?_); refine s_gtr hE rfl rfl rfl ?_; clear hE a; intro a hE)
    | ((with_reducible refine g_un .not ?_); refine s_notb hE rfl rfl ?_; clear hE a; intro a hE)
    | ((with_reducible refine g_blt .len ?_); refine s_len hE rfl rfl ?_; clear hE a; intro a hE)
    | ((with_reducible refine g_cond ?_); refine c_false hE rfl ?_)
    | ((with_reducible refine g_cond ?_); refine c_dec hE rfl (fun hc => ?_) (fun hc => ?_) <;> try omega)
    | ((with_reducible refine g_lit ?_); refine s_lit hE hS rfl rfl rfl rfl rfl (by simp [Value.oneCell']) rfl ?_; clear hE a hS; intro g a w hE hS)
    | ((with_reducible refine g_blt .append ?_); (first | (refine s_appendAt0 (k := 0) hE hS rfl rfl rfl (by (first | exact Rd.st (by assumption) hS )) (by (first | (rw [bys_length, Nat.mul_one]))) (by (first | exact bys_one _ )) (by omega) rfl rfl rfl rfl ?_) ); clear hE a hS; intro A c a w hE hS; simp only [List.set_cons_zero, List.set_cons_succ, Nat.add_zero] at hS)
    )
  · exact ret1 hE rfl rfl ⟨rfl, hS.nil⟩
  refine s_call hE rfl rfl rfl (decode _ _ xs w (hS.rdAt (k := 0) rfl) hx (by omega)) ?_
  rintro _ w ⟨A2, c2, B2, d2, rfl, hS1⟩; clear hE a; intro a hE; replace hS := hS.frame hS1; clear hS1; try simp only [List.cons_append, List.nil_append] at hS
  repeat' (first
    | (with_reducible refine wp_seq ?_)
    | (with_reducible refine c_region ?_)
    | (with_reducible refine wpList_nil ?_)
    | (with_reducible refine then_normal ?_)
    | ((with_reducible refine g_move ?_); refine s_move hE rfl rfl ?_; clear hE a; intro a hE)
    | ((with_reducible refine g_assign ?_); refine s_assign hE rfl rfl ?_; clear hE a; intro a hE)
    | ((with_reducible refine g_extract ?_); refine s_extract hE rfl rfl rfl ?_; clear hE a; intro a hE)
    | ((with_reducible refine g_alloc ?_); refine s_allocS hE hS rfl rfl ?_; clear hE a hS; intro g a w hE hS)
    | ((with_reducible refine g_store ?_); (first | (refine s_storeW (k := 0) hS hE rfl rfl rfl rfl rfl (by simp [Value.oneCell']) ?_) ); clear hS; intro w hS; simp only [List.set_cons_zero, List.set_cons_succ, Nat.add_zero] at hS)
    )
  skip
  refine s_call hE rfl rfl rfl (rdecode _ _ xs w (hr.st hS) hx hcap (by omega)) ?_
  rintro _ w ⟨A3, c3, B3, d3, rfl, hcut, h1, h2, hS1⟩; clear hE a; intro a hE; replace hS := hS.frame hS1; clear hS1; try simp only [List.cons_append, List.nil_append] at hS
  repeat' (first
    | (with_reducible refine wp_seq ?_)
    | (with_reducible refine c_region ?_)
    | (with_reducible refine wpList_nil ?_)
    | (with_reducible refine then_normal ?_)
    | ((with_reducible refine g_move ?_); refine s_move hE rfl rfl ?_; clear hE a; intro a hE)
    | ((with_reducible refine g_assign ?_); refine s_assign hE rfl rfl ?_; clear hE a; intro a hE)
    | ((with_reducible refine g_bin .eql ?_); refine s_eql hE rfl rfl rfl ?_; clear hE a; intro a hE)
    | ((with_reducible refine g_extract ?_); refine s_extract hE rfl rfl rfl ?_; clear hE a; intro a hE)
    | ((with_reducible refine g_guard ?_); refine gd_yes hE rfl rfl rfl ?_)
    | ((with_reducible refine g_guard ?_); refine gd_dec hE rfl rfl (fun hc hE2 => ?_) (fun hc hE2 => ?_) <;> (try omega) <;> (replace hE := hE2; clear hE2))
    | ((with_reducible refine g_pick ?_); refine s_pickT hE rfl rfl rfl ?_; clear hE a; intro a hE)
    | ((with_reducible refine g_alloc ?_); refine s_allocS hE hS rfl rfl ?_; clear hE a hS; intro g a w hE hS)
    | ((with_reducible refine g_load ?_); (first | (refine s_loadW (k := 0) hS hE rfl rfl rfl rfl ?_) | (refine s_loadW (k := 1) hS hE rfl rfl rfl rfl ?_) ); clear hE a; intro a hE)
    | ((with_reducible refine g_store ?_); (first | (refine s_storeW (k := 0) hS hE rfl rfl rfl rfl rfl (by simp [Value.oneCell']) ?_) ); clear hS; intro w hS; simp only [List.set_cons_zero, List.set_cons_succ, Nat.add_zero] at hS)
    )
  · refine s_call hE rfl rfl rfl (rsameR _ _ w ⟨hS.rdAt (k := 2) rfl, hS.rdAt (k := 3) rfl⟩ (decM_wf hx (hS.lenAt (k := 2) rfl).2.1 (hS.lenAt (k := 3) rfl).2.1) (hcut w (hr.st hS)) (decM_wf hx h1 h2)) ?_
    rintro _ w ⟨rfl, hS1⟩; clear hE a; intro a hE; replace hS := hS.frame hS1; clear hS1; try simp only [List.cons_append, List.nil_append] at hS
    rw [decide_eq_true (Rc.same_at _)] at hE
    repeat' (first
      | (with_reducible refine wpList_nil ?_)
      | (with_reducible refine then_normal ?_)
      | (with_reducible refine wp_ret ?_)
      | ((with_reducible refine g_assign ?_); refine s_assign hE rfl rfl ?_; clear hE a; intro a hE)
      | ((with_reducible refine g_pick ?_); refine s_pickT hE rfl rfl rfl ?_; clear hE a; intro a hE)
      )
    exact ret1 hE rfl rfl ⟨rfl, hS.nil⟩
  all_goals skip
end Go.Proofs.Ytmfcffeoooegcaa
