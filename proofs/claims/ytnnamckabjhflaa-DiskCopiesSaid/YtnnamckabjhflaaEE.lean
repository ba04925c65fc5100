/-
  Contracts of the document's disk: syncing, crashing, writing; what its rows are read from.
-/
import Derived.Test.YtnnamckabjhflaaED
namespace Go.Proofs.Ytnnamckabjhflaa
open Go.RowKit
set_option linter.unusedVariables false
set_option linter.unusedSimpArgs false
attribute [local irreducible] Rd hRow hBlk hRd hRs hAll Fn hMarks
attribute [local simp] Wr.cells Opn.cells

abbrev Kn (w : World) (l : List (Option Addr × List Value)) : Prop := ∀ p ∈ l, Rd w p.1 p.2
def RM.at_ (R : RM) (S Q : Option Addr) (l : List (Option Addr × List Value)) : Prop := (S, R.safe.flatMap bys) ∈ l ∧ (Q, R.pend.flatMap Wr.cells) ∈ l
theorem RM.at_.same {R R' : RM} {S Q : Option Addr} {l new : List (Option Addr × List Value)} (h : R.at_ S Q l) (h1 : R'.safe = R.safe) (h2 : R'.pend = R.pend) : R'.at_ S Q (new ++ l) := by
  unfold RM.at_ at h ⊢
  rw [h1, h2]
  exact ⟨List.mem_append_right _ h.1, List.mem_append_right _ h.2⟩
theorem live_ok {R : RM} (h : R.ok) (keep : List Bool) : (R.live keep).ok := by
  obtain ⟨h1, h2, h3, h4, h5, h6, h7⟩ := h
  have hl := lay_length R.pend R.safe (fun i => keep.getD i false) 0
  exact ⟨lay_ok _ _ _ _ h1 fun x hx => (h2 x hx).1, fun x hx => (by cases hx), by show (lay R.safe R.pend _ 0).length ≤ _ ∧ 1 ≤ (lay R.safe R.pend _ 0).length; rw [hl]; exact h3, Nat.zero_le _, h5, h6, h7⟩
section
variable {S : Option Addr} {c : Nat} {Q : Option Addr} {d : Nat} {R : RM} {H : List HP} {w0 w : World} {l : List (Option Addr × List Value)}
set_option maxHeartbeats 8000000
theorem rsync (hR : R.ok) (ho : R.ops < 4611686018427387904) (hk : Kn w0 l) (hin : R.at_ S Q l) :
    Fn Try.prog 36 [.agg (R.cells S c Q d).toArray] w0 fun v w' => ∃ (S' : Option Addr) (c' : Nat) (Q' : Option Addr) (d' : Nat) (new : List (Option Addr × List Value)), v = .tuple #[.agg (R.sync.1.cells S' c' Q' d').toArray, .int .i64 R.sync.2] ∧ R.sync.1.at_ S' Q' (new ++ l) ∧ St w0 w' [hRs new] := by
  have hao := asked_ok hR 0
  obtain ⟨hops, hpe, hsa⟩ := asked_same R 0
  refine enter 27 Try.func36 rfl rfl rfl ?_
  intro a hE
  have hS := St.start w0
  repeat' (first

    | (with_reducible refine wp_seq ?_)
    | (with_reducible refine c_region ?_)
    | (with_reducible refine wpList_nil ?_)
    | (with_reducible refine then_normal ?_)
    | ((with_reducible refine g_assign ?_); refine s_assign hE rfl rfl ?_; clear hE a; intro a hE)
    | ((with_reducible refine g_alloc ?_); refine s_allocS hE hS rfl rfl ?_; clear hE a hS; intro g a w hE hS)
    | ((with_reducible refine g_box ?_); refine s_boxS hE hS rfl rfl ?_; clear hE a hS; intro g a w hE hS)
    | ((with_reducible refine g_load ?_); (first | (refine s_loadW (k := 1) hS hE rfl rfl rfl rfl ?_) ); clear hE a; intro a hE)
    )
  refine s_call hE rfl rfl rfl (rasked hR 0 w) ?_
  rintro _ w ⟨rfl, hS1⟩; clear hE a; intro a hE; replace hS := hS.frame hS1; clear hS1; try simp only [List.cons_append, List.nil_append] at hS
  by_cases he : (R.asked 0).2 = 0
  · rw [he] at hE
    rw [← hops] at ho
    have hdo := done_ok hao ho
    obtain ⟨dpe, dsa⟩ := done_same (R.asked 0).1
    repeat' (first

      | (with_reducible refine wp_seq ?_)
      | (with_reducible refine c_region ?_)
      | (with_reducible refine wpList_nil ?_)
      | (with_reducible refine then_normal ?_)
      | (with_reducible refine wp_skip ?_)
      | ((with_reducible refine g_move ?_); refine s_move hE rfl rfl ?_; clear hE a; intro a hE)
      | ((with_reducible refine g_assign ?_); refine s_assign hE rfl rfl ?_; clear hE a; intro a hE)
      | ((with_reducible refine g_bin .neq ?_); refine s_neq hE rfl rfl rfl ?_; clear hE a; intro a hE)
      | ((with_reducible refine g_extract ?_); refine s_extract hE rfl rfl rfl ?_; clear hE a; intro a hE)
      | ((with_reducible refine g_cond ?_); refine c_false hE rfl ?_)
      | ((with_reducible refine g_load ?_); (first | (refine s_loadW (k := 1) hS hE rfl rfl rfl rfl ?_) ); clear hE a; intro a hE)
      | ((with_reducible refine g_store ?_); (first | (refine s_storeW (k := 1) hS hE rfl rfl rfl rfl rfl (by first | (simp [Value.oneCell']; done)) ?_) ); clear hS; intro w hS; simp only [List.set_cons_zero, List.set_cons_succ, Nat.add_zero] at hS)
      )
    refine s_call hE rfl rfl rfl (rdone hao ho w) ?_
    rintro _ w ⟨rfl, hS1⟩; clear hE a; intro a hE; replace hS := hS.frame hS1; clear hS1; try simp only [List.cons_append, List.nil_append] at hS
    cases hb : (R.asked 0).1.done.2
    · have e : R.sync = ((R.asked 0).1.done.1, 9) := by unfold RM.sync; rw [if_pos he, hb]; rfl
      rw [hb] at hE
      rw [e]
      repeat' (first

        | (with_reducible refine wp_seq ?_)
        | (with_reducible refine c_region ?_)
        | (with_reducible refine wpList_nil ?_)
        | (with_reducible refine then_normal ?_)
        | (with_reducible refine wp_ret ?_)
        | (with_reducible refine then_ret ?_)
        | ((with_reducible refine g_move ?_); refine s_move hE rfl rfl ?_; clear hE a; intro a hE)
        | ((with_reducible refine g_assign ?_); refine s_assign hE rfl rfl ?_; clear hE a; intro a hE)
        | ((with_reducible refine g_un .not ?_); refine s_notb hE rfl rfl ?_; clear hE a; intro a hE)
        | ((with_reducible refine g_extract ?_); refine s_extract hE rfl rfl rfl ?_; clear hE a; intro a hE)
        | ((with_reducible refine g_cond ?_); refine c_true hE rfl ?_)
        | ((with_reducible refine g_load ?_); (first | (refine s_loadW (k := 1) hS hE rfl rfl rfl rfl ?_) ); clear hE a; intro a hE)
        | ((with_reducible refine g_store ?_); (first | (refine s_storeW (k := 0) hS hE rfl rfl rfl rfl rfl (by first | (simp [Value.oneCell']; done)) ?_) | (refine s_storeW (k := 1) hS hE rfl rfl rfl rfl rfl (by first | (simp [Value.oneCell']; done)) ?_) ); clear hS; intro w hS; simp only [List.set_cons_zero, List.set_cons_succ, Nat.add_zero] at hS)
        )
      exact retG (vs := [_, _]) hE rfl ⟨⟨_, rfl, res_W (k := 0) hS rfl rfl⟩, rfl, trivial⟩ ⟨S, c, Q, d, _, rfl, hin.same (dsa.trans hsa) (dpe.trans hpe), hS.nil.rsNil⟩
    · have e : R.sync = ((R.asked 0).1.done.1.live (List.replicate (R.asked 0).1.done.1.pend.length true), 0) := by unfold RM.sync; rw [if_pos he, hb, dpe, hpe]; rfl
      rw [hb] at hE
      rw [e]
      have hr : Rd w0 S (((R.asked 0).1.done.1).safe.flatMap bys) := by rw [dsa, hsa]; exact hk _ hin.1
      have hq : Rd w0 Q (((R.asked 0).1.done.1).pend.flatMap Wr.cells) := by rw [dpe, hpe]; exact hk _ hin.2
      clear hpe hsa dpe dsa hb e hao
      generalize (R.asked 0).1.done.1 = D at hE hdo hr hq ⊢
      repeat' (first

        | (with_reducible refine wp_seq ?_)
        | (with_reducible refine c_region ?_)
        | (with_reducible refine wpList_nil ?_)
        | (with_reducible refine then_normal ?_)
        | (with_reducible refine wp_skip ?_)
        | ((with_reducible refine g_move ?_); refine s_move hE rfl rfl ?_; clear hE a; intro a hE)
        | ((with_reducible refine g_assign ?_); refine s_assign hE rfl rfl ?_; clear hE a; intro a hE)
        | ((with_reducible refine g_un .not ?_); refine s_notb hE rfl rfl ?_; clear hE a; intro a hE)
        | ((with_reducible refine g_extract ?_); refine s_extract hE rfl rfl rfl ?_; clear hE a; intro a hE)
        | ((with_reducible refine g_cond ?_); refine c_false hE rfl ?_)
        | ((with_reducible refine g_store ?_); (first | (refine s_storeW (k := 1) hS hE rfl rfl rfl rfl rfl (by first | (simp [Value.oneCell']; done)) ?_) ); clear hS; intro w hS; simp only [List.set_cons_zero, List.set_cons_succ, Nat.add_zero] at hS)
        )
      refine c_ordK hS 1 rfl 4 ((.rd 0 (.rd 1 (.ef 2 (.ef 3 (.lt 4 (.lt 5 .done))))))) mixed (by decide +kernel) ?_
      clear hS; intro w hF hS
      repeat' (first
        | (with_reducible refine o_rd rfl ?_)
        | ((with_reducible refine q_load ?_); (first | (refine d_val hE hS rfl (fun w hS => r_loadW (k := 0) hS hE rfl rfl rfl) ?_) ); clear hE a; intro a hE)
        | ((with_reducible refine o_ef rfl ?_))
        )
      refine s_call hE rfl rfl rfl (rall hdo w) ?_
      rintro _ w ⟨ga, rfl, hS1⟩; clear hE a; intro a hE; replace hF := hF.frame hS1; clear hS1; simp only [List.cons_append, List.nil_append] at hF
      refine wpList_nil ?_
      refine o_back _ (fun _ h => h) (hF.only 2 rfl) ?_
      clear hS; have hS := hF.only 2 rfl
      repeat' (first
        | ((with_reducible refine o_ef rfl ?_))
        )
      have hrep : (List.replicate D.pend.length true).length = D.pend.length := List.length_replicate
      have hpl := hdo.plen
      have hcl := rlive (c := c) (d := d) (some ⟨ga, 0, none⟩) D.pend.length (List.replicate D.pend.length true) hdo (hr.st hF) (hq.st hF) (hF.rdAt (k := 0) rfl) (by omega)
      rw [hrep] at hcl
      refine s_call hE rfl rfl rfl hcl ?_
      clear hcl
      rintro _ w ⟨S', c', rfl, hS1⟩; clear hE a; intro a hE; replace hF := hF.frame hS1; clear hS1; simp only [List.cons_append, List.nil_append] at hF
      refine wpList_nil ?_
      refine o_back _ (fun _ h => h) (hF.only 3 rfl) ?_
      clear hS; have hS := hF; clear hF
      repeat' (first
        | ((with_reducible refine o_lt rfl ?_))
        )
      repeat' (first

        | (with_reducible refine wpList_nil ?_)
        | ((with_reducible refine g_store ?_); (first | (refine s_storeW (k := 2) hS hE rfl rfl rfl rfl rfl (by first | (simp [Value.oneCell']; done)) ?_) ); clear hS; intro w hS; simp only [List.set_cons_zero, List.set_cons_succ, Nat.add_zero] at hS)
        )
      refine o_backL ?_
      repeat' (first
        | ((with_reducible refine o_lt rfl ?_))
        )
      repeat' (first

        | (with_reducible refine wpList_nil ?_)
        | ((with_reducible refine g_assign ?_); refine s_assign hE rfl rfl ?_; clear hE a; intro a hE)
        )
      refine o_backL ?_
      repeat' (first
        | (with_reducible refine o_done ?_)
        )
      repeat' (first

        | (with_reducible refine then_normal ?_)
        | (with_reducible refine wp_ret ?_)
        )
      refine retG (vs := [_, _]) hE rfl ⟨⟨_, rfl, res_W (k := 2) hS rfl rfl⟩, rfl, trivial⟩ ⟨S', c', none, 0, _, rfl, ?_, (hS.only 0 rfl).rowRs.rsNil.rsJoin⟩
      exact ⟨List.mem_append_left _ (by simp), List.mem_append_left _ (by simp [RM.live])⟩
  · have e : R.sync = ((R.asked 0).1, (R.asked 0).2) := by unfold RM.sync; rw [if_neg he]
    rw [e]
    repeat' (first

      | (with_reducible refine wp_seq ?_)
      | (with_reducible refine c_region ?_)
      | (with_reducible refine wpList_nil ?_)
      | (with_reducible refine then_normal ?_)
      | (with_reducible refine wp_ret ?_)
      | (with_reducible refine then_ret ?_)
      | ((with_reducible refine g_move ?_); refine s_move hE rfl rfl ?_; clear hE a; intro a hE)
      | ((with_reducible refine g_assign ?_); refine s_assign hE rfl rfl ?_; clear hE a; intro a hE)
      | ((with_reducible refine g_bin .neq ?_); refine s_neq hE rfl rfl rfl ?_; clear hE a; intro a hE)
      | ((with_reducible refine g_extract ?_); refine s_extract hE rfl rfl rfl ?_; clear hE a; intro a hE)
      | ((with_reducible refine g_cond ?_); refine c_dec hE rfl (fun hc => ?_) (fun hc => ?_) <;> try omega)
      | ((with_reducible refine g_load ?_); (first | (refine s_loadW (k := 1) hS hE rfl rfl rfl rfl ?_) ); clear hE a; intro a hE)
      | ((with_reducible refine g_store ?_); (first | (refine s_storeW (k := 0) hS hE rfl rfl rfl rfl rfl (by first | (simp [Value.oneCell']; done)) ?_) | (refine s_storeW (k := 1) hS hE rfl rfl rfl rfl rfl (by first | (simp [Value.oneCell']; done)) ?_) ); clear hS; intro w hS; simp only [List.set_cons_zero, List.set_cons_succ, Nat.add_zero] at hS)
      )
    exact retG (vs := [_, _]) hE rfl ⟨⟨_, rfl, res_W (k := 0) hS rfl rfl⟩, rfl, trivial⟩ ⟨S, c, Q, d, _, rfl, hin.same hsa hpe, hS.nil.rsNil⟩
theorem rcrash (K : Option Addr) (m : Nat) (keep : List Bool) (hR : R.ok) (hk : Kn w0 l) (hin : R.at_ S Q l) (hkr : Rd w0 K (keep.map .bool)) (hl : keep.length ≤ 9223372036854775806) :
    Fn Try.prog 39 [.agg (R.cells S c Q d).toArray, .slice K keep.length m] w0 fun v w' => ∃ (S' : Option Addr) (c' : Nat) (Q' : Option Addr) (d' : Nat) (new : List (Option Addr × List Value)), v = .agg ((R.crash keep).cells S' c' Q' d').toArray ∧ (R.crash keep).at_ S' Q' (new ++ l) ∧ St w0 w' [hRs new] := by
  refine enter 12 Try.func39 rfl rfl rfl ?_
  intro a hE
  have hS := St.start w0
  repeat' (first

    | (with_reducible refine wp_seq ?_)
    | (with_reducible refine c_region ?_)
    | (with_reducible refine wpList_nil ?_)
    | (with_reducible refine then_normal ?_)
    | ((with_reducible refine g_move ?_); refine s_move hE rfl rfl ?_; clear hE a; intro a hE)
    | ((with_reducible refine g_alloc ?_); refine s_allocS hE hS rfl rfl ?_; clear hE a hS; intro g a w hE hS)
    | ((with_reducible refine g_box ?_); refine s_boxS hE hS rfl rfl ?_; clear hE a hS; intro g a w hE hS)
    | ((with_reducible refine g_load ?_); (first | (refine s_loadW (k := 1) hS hE rfl rfl rfl rfl ?_) ); clear hE a; intro a hE)
    )
  refine s_call hE rfl rfl rfl (rlive (c := c) (d := d) K m keep hR ((hk _ hin.1).st hS) ((hk _ hin.2).st hS) (hkr.st hS) hl) ?_
  rintro _ w ⟨S', c', rfl, hS1⟩; clear hE a; intro a hE; replace hS := hS.frame hS1; clear hS1; try simp only [List.cons_append, List.nil_append] at hS
  repeat' (first

    | (with_reducible refine wp_seq ?_)
    | (with_reducible refine c_region ?_)
    | (with_reducible refine wpList_nil ?_)
    | (with_reducible refine then_normal ?_)
    | (with_reducible refine wp_ret ?_)
    | ((with_reducible refine g_fa ?_); refine s_fieldL hE rfl rfl rfl ?_; clear hE a; intro a hE)
    | ((with_reducible refine g_store ?_); (first | (refine s_storeB (k := 2) hS hE rfl rfl rfl rfl rfl rfl ?_) ); clear hS; intro w hS; simp only [List.set_cons_zero, List.set_cons_succ, Nat.add_zero] at hS)
    | ((with_reducible refine g_load ?_); (first | (refine s_loadW (k := 2) hS hE rfl rfl rfl rfl ?_) ); clear hE a; intro a hE)
    | ((with_reducible refine g_store ?_); (first | (refine s_storeW (k := 1) hS hE rfl rfl rfl rfl rfl (by first | (simp [Value.oneCell']; done)) ?_) | (refine s_storeW (k := 2) hS hE rfl rfl rfl rfl rfl (by first | (simp [Value.oneCell']; done)) ?_) ); clear hS; intro w hS; simp only [List.set_cons_zero, List.set_cons_succ, Nat.add_zero] at hS)
    )
  refine retG (vs := [_]) hE rfl ⟨⟨_, rfl, res_W (k := 1) hS rfl rfl⟩, trivial⟩ ⟨S', c', none, 0, _, rfl, ?_, (hS.only 0 rfl).rowRs.rsNil.rsJoin⟩
  exact ⟨List.mem_append_left _ (by simp [RM.crash]), List.mem_append_left _ (by simp [RM.live, RM.crash])⟩
end
end Go.Proofs.Ytnnamckabjhflaa
