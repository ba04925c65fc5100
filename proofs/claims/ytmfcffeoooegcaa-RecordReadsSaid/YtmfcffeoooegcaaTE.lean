/-
  Contracts of record: the document's word on a row's bytes; rows that are the same.
-/
import Derived.Test.YtmfcffeoooegcaaTD
namespace Go.Proofs.Ytmfcffeoooegcaa
open Go.RowKit
set_option linter.unusedVariables false
set_option linter.unusedSimpArgs false
attribute [local irreducible] Rd hRow hBlk hAll Fn hRdr hMarks hRcs
attribute [local simp] Rc.cells

set_option maxHeartbeats 8000000 in
theorem sameRow (A B : Option Addr) (c d : Nat) (ls ms : List Rc) (w0 : World) (hr : Rd w0 A (ls.flatMap Rc.cells)) (hr2 : Rd w0 B (ms.flatMap Rc.cells)) (hl : ls.length ≤ 1000000) (hrd : ∀ r ∈ ls, r.rd w0) (hrd2 : ∀ r ∈ ms, r.rd w0) (hwf : ∀ r ∈ ls, r.wf) (hwf2 : ∀ r ∈ ms, r.wf) (hcp : ls.map Rc.core = ms.map Rc.core) :
    Fn Try.prog 28 [.slice A ls.length c, .slice B ms.length d] w0 fun v w' => v = .bool true ∧ St w0 w' [] := by
  have hlen := core_len hcp
  rw [← hlen]
  refine enter 27 Try.func28 rfl rfl rfl ?_
  intro a hE
  have hS := St.start w0
  have hfl : (ls.flatMap Rc.cells).length = ls.length * 9 := flat_len (fun _ _ => rfl)
  have hfl2 : (ms.flatMap Rc.cells).length = ms.length * 9 := flat_len (fun _ _ => rfl)
  repeat' (first
    | (with_reducible refine wp_seq ?_)
    | (with_reducible refine c_region ?_)
    | (with_reducible refine wpList_nil ?_)
    | (with_reducible refine then_normal ?_)
    | (with_reducible refine wp_skip ?_)
    | (with_reducible refine wp_block ?_)
    | ((with_reducible refine g_move ?_); refine s_move hE rfl rfl ?_; clear hE a; intro a hE)
    | ((with_reducible refine g_assign ?_); refine s_assign hE rfl rfl ?_; clear hE a; intro a hE)
    | ((with_reducible refine g_bin .neq ?_); refine s_neq hE rfl rfl rfl ?_; clear hE a; intro a hE)
    | ((with_reducible refine g_blt .len ?_); refine s_len hE rfl rfl ?_; clear hE a; intro a hE)
    | ((with_reducible refine g_cond ?_); refine c_dec hE rfl (fun hc => ?_) (fun hc => ?_) <;> try omega)
    )
  refine wp_loop_ghost (fun q a w => ∃ (k : Nat), k + q = ls.length ∧ St w0 w [] ∧ Env 27 [(0, .slice A ls.length c), (1, .slice B ls.length d), (5, .int .i64 (k : Int))] a) ls.length ⟨0, by omega, hS, hE.sub ⟨rfl, rfl, rfl, trivial⟩⟩ ?_
  clear hE a hS
  rintro q a w ⟨k, hk, hS, hE⟩
  by_cases hk1 : k < ls.length
  · have hk2 : k < ms.length := by omega
    have hseg := flat_seg (c := Rc.cells) (size := 9) (l := ls) (fun _ _ => rfl) hk1
    have hseg2 := flat_seg (c := Rc.cells) (size := 9) (l := ms) (fun _ _ => rfl) hk2
    have hs : ls[k].same ms[k] := by
      have h1 : (ls.map Rc.core)[k]? = (ms.map Rc.core)[k]? := by rw [hcp]
      rw [List.getElem?_map, List.getElem?_map, List.getElem?_eq_getElem hk1, List.getElem?_eq_getElem hk2] at h1
      have h2 : ls[k].core = ms[k].core := Option.some.inj h1
      have h3 : ls[k].same ls[k].core := ⟨rfl, rfl, rfl, rfl, rfl, rfl, rfl, rfl, rfl⟩
      rw [h2] at h3
      exact h3
    repeat' (first
      | (with_reducible refine wp_seq ?_)
      | (with_reducible refine c_region ?_)
      | (with_reducible refine wpList_nil ?_)
      | (with_reducible refine then_normal ?_)
      | (with_reducible refine wp_skip ?_)
      | (with_reducible refine wp_block ?_)
      | ((with_reducible refine g_move ?_); refine s_move hE rfl rfl ?_; clear hE a; intro a hE)
      | ((with_reducible refine g_bin .lss ?_); refine s_lss hE rfl rfl rfl ?_; clear hE a; intro a hE)
      | ((with_reducible refine g_blt .len ?_); refine s_len hE rfl rfl ?_; clear hE a; intro a hE)
      | ((with_reducible refine g_cond ?_); refine c_dec hE rfl (fun hc => ?_) (fun hc => ?_) <;> try omega)
      )
    refine c_ordS hS 10 ((.rd 0 (.rd 1 (.rd 2 (.rd 3 (.rd 4 (.rd 5 (.rd 6 (.rd 7 (.ef 8 (.rd 9 .done))))))))))) mixed (by decide +kernel) ?_
    clear hS; intro w hS
    repeat' (first
      | (with_reducible refine o_rd rfl ?_)
      | ((with_reducible refine q_move ?_); refine d_val hE hS rfl (fun w hS => r_move hE rfl) ?_; clear hE a; intro a hE)
      | ((with_reducible refine q_ia ?_); refine d_val hE hS rfl (fun w hS => r_idxR hE rfl rfl (by omega) (by omega) (by (first | exact Rd.st (by assumption) hS )) (by first | omega )) ?_; clear hE a; intro a hE)
      | ((with_reducible refine o_ef rfl ?_))
      | ((with_reducible refine q_load ?_); refine d_val hE hS rfl (fun w hS => r_elemR hE rfl (by first | exact Rd.st (by assumption) hS ) (by first | exact hseg | exact hseg2) (by rfl) rfl) ?_; clear hE a; intro a hE)
      )
    refine s_call hE rfl rfl rfl (rsameR ls[k] ms[k] w (Rc.rd_st (hrd _ (List.getElem_mem hk1)) hS) (hwf _ (List.getElem_mem hk1)) (Rc.rd_st (hrd2 _ (List.getElem_mem hk2)) hS) (hwf2 _ (List.getElem_mem hk2))) ?_
    rintro _ w ⟨rfl, hS1⟩; clear hE a; intro a hE; replace hS := hS.frame hS1; clear hS1; try simp only [List.cons_append, List.nil_append] at hS
    rw [decide_eq_true hs] at hE
    repeat' (first
      | (with_reducible refine wpList_nil ?_)
      )
    refine o_same hS ?_
    repeat' (first
      | (with_reducible refine o_rd rfl ?_)
      | (with_reducible refine o_done ?_)
      | ((with_reducible refine q_un .not ?_); refine d_val hE hS rfl (fun w hS => r_notb hE rfl) ?_; clear hE a; intro a hE)
      )
    repeat' (first
      | (with_reducible refine c_region ?_)
      | (with_reducible refine wpList_nil ?_)
      | (with_reducible refine then_normal ?_)
      | (with_reducible refine wp_skip ?_)
      | (with_reducible refine block_normal ?_)
      | ((with_reducible refine g_move ?_); refine s_move hE rfl rfl ?_; clear hE a; intro a hE)
      | ((with_reducible refine g_assign ?_); refine s_assign hE rfl rfl ?_; clear hE a; intro a hE)
      | ((with_reducible refine g_bin .add ?_); refine s_add hE rfl rfl rfl (by first  | exact wrap64_in (by omega) ) ?_; clear hE a; intro a hE)
      | ((with_reducible refine g_cond ?_); refine c_false hE rfl ?_)
      )
    exact ⟨q - 1, by omega, k + 1, by omega, hS, hE.sub ⟨rfl, rfl, rfl, trivial⟩⟩
  · obtain rfl : k = ls.length := by omega
    repeat' (first
      | (with_reducible refine wp_seq ?_)
      | (with_reducible refine c_region ?_)
      | (with_reducible refine wpList_nil ?_)
      | (with_reducible refine then_normal ?_)
      | (with_reducible refine wp_ret ?_)
      | (with_reducible refine wp_exit ?_)
      | (with_reducible refine then_exit ?_)
      | (with_reducible refine block_same ?_)
      | ((with_reducible refine g_move ?_); refine s_move hE rfl rfl ?_; clear hE a; intro a hE)
      | ((with_reducible refine g_assign ?_); refine s_assign hE rfl rfl ?_; clear hE a; intro a hE)
      | ((with_reducible refine g_bin .lss ?_); refine s_lss hE rfl rfl rfl ?_; clear hE a; intro a hE)
      | ((with_reducible refine g_blt .len ?_); refine s_len hE rfl rfl ?_; clear hE a; intro a hE)
      | ((with_reducible refine g_cond ?_); refine c_dec hE rfl (fun hc => ?_) (fun hc => ?_) <;> try omega)
      )
    exact ret1 hE rfl rfl ⟨rfl, hS⟩
set_option maxHeartbeats 8000000 in
theorem rdecodeRow (A : Option Addr) (c : Nat) (xs : List Nat) (w0 : World) (hr : Rd w0 A (bys xs)) (hx : Bs xs) (hcap : xs.length ≤ c) (hl : xs.length ≤ 140737488351232) :
    Fn Try.prog 27 [.slice A xs.length c] w0 fun v w' => ∃ (A' : Option Addr) (c' : Nat) (ls : List Rc), v = .tuple #[.slice A' ls.length c', .int .i64 (decRow xs).2] ∧ ls.map Rc.core = (decRow xs).1.map Rc.core ∧ (∀ r ∈ ls, r.wf) ∧
      (∀ w1, Rd w1 A (bys xs) → ∀ r ∈ ls, r.rd w1) ∧ St w0 w' [hRd A' (ls.flatMap Rc.cells)] := by
  refine enter 53 Try.func27 rfl rfl rfl ?_
  intro a hE
  have hS := St.start w0
  by_cases h2 : xs.length < 2
  · have e0 : decRow xs = ([], 7) := by unfold decRow; rw [if_pos h2]
    rw [e0]
    repeat' (first
      | (with_reducible refine wp_seq ?_)
      | (with_reducible refine c_region ?_)
      | (with_reducible refine wpList_nil ?_)
      | (with_reducible refine then_normal ?_)
      | (with_reducible refine wp_ret ?_)
      | (with_reducible refine then_ret ?_)
      | ((with_reducible refine g_move ?_); refine s_move hE rfl rfl ?_; clear hE a; intro a hE)
      | ((with_reducible refine g_assign ?_); refine s_assign hE rfl rfl ?_; clear hE a; intro a hE)
      | ((with_reducible refine g_bin .lss ?_); refine s_lss hE rfl rfl rfl ?_; clear hE a; intro a hE)
      | ((with_reducible refine g_blt .len ?_); refine s_len hE rfl rfl ?_; clear hE a; intro a hE)
      | ((with_reducible refine g_cond ?_); refine c_dec hE rfl (fun hc => ?_) (fun hc => ?_) <;> try omega)
      )
    exact ret2 hE rfl rfl rfl ⟨none, 0, [], rfl, rfl, fun r hr => (by cases hr), fun _ _ r hr => (by cases hr), (hS.nil.rowNil 0 0).rowRd⟩
  · have hn2 : bnum 0 (xs.take 2) < 65536 := by
      have := bnum_lt (xs.take 2) (fun c hc => hx c (List.mem_of_mem_take hc))
      rw [List.length_take, Nat.min_eq_left (by omega)] at this
      exact this
    repeat' (first
      | (with_reducible refine wp_seq ?_)
      | (with_reducible refine c_region ?_)
      | (with_reducible refine wpList_nil ?_)
      | (with_reducible refine then_normal ?_)
      | (with_reducible refine wp_skip ?_)
      | ((with_reducible refine g_move ?_); refine s_move hE rfl rfl ?_; clear hE a; intro a hE)
      | ((with_reducible refine g_assign ?_); refine s_assign hE rfl rfl ?_; clear hE a; intro a hE)
      | ((with_reducible refine g_bin .lss ?_); refine s_lss hE rfl rfl rfl ?_; clear hE a; intro a hE)
      | ((with_reducible refine g_blt .len ?_); refine s_len hE rfl rfl ?_; clear hE a; intro a hE)
      | ((with_reducible refine g_cond ?_); refine c_dec hE rfl (fun hc => ?_) (fun hc => ?_) <;> try omega)
      | ((with_reducible refine g_sliceH ?_); refine s_val hE rfl rfl rfl (r_cutH hE rfl rfl (by omega)) ?_; clear hE a; intro a hE)
      )
    have e2 : (2 : Int).toNat = (xs.take 2).length := by rw [List.length_take]; omega
    rw [e2] at hE
    refine s_call hE rfl rfl rfl (rnumber _ _ (xs.take 2) w0 (by rw [bys_take]; exact hr.take 2) (hx.take 2) (by rw [List.length_take]; omega)) ?_
    rintro _ w ⟨rfl, hS1⟩; clear hE a; intro a hE; replace hS := hS.frame hS1; clear hS1; try simp only [List.cons_append, List.nil_append] at hS
    repeat' (first
      | (with_reducible refine wp_seq ?_)
      | (with_reducible refine c_region ?_)
      | (with_reducible refine wpList_nil ?_)
      | (with_reducible refine then_normal ?_)
      | (with_reducible refine wp_skip ?_)
      | (with_reducible refine wp_ret ?_)
      | (with_reducible refine then_ret ?_)
      | (with_reducible refine wp_block ?_)
      | ((with_reducible refine g_move ?_); refine s_move hE rfl rfl ?_; clear hE a; intro a hE)
      | ((with_reducible refine g_assign ?_); refine s_assign hE rfl rfl ?_; clear hE a; intro a hE)
      | ((with_reducible refine g_bin .gtr ?_); refine s_gtr hE rfl rfl rfl ?_; clear hE a; intro a hE)
      | ((with_reducible refine g_conv ?_); refine s_conv hE rfl rfl (by first | exact wrap64_in (by omega) ) ?_; clear hE a; intro a hE)
      | ((with_reducible refine g_cond ?_); refine c_dec hE rfl (fun hc => ?_) (fun hc => ?_) <;> try omega)
      )
    · have e0 : decRow xs = ([], 3) := by unfold decRow; rw [if_neg h2, if_pos (by omega)]
      rw [e0]
      exact ret2 hE rfl rfl rfl ⟨none, 0, [], rfl, rfl, fun r hr => (by cases hr), fun _ _ r hr => (by cases hr), (hS.nil.rowNil 0 0).rowRd⟩
    · obtain ⟨n, hn⟩ : ∃ n, n = bnum 0 (xs.take 2) := ⟨_, rfl⟩
      rw [← hn] at hE hc
      have e0 : decRow xs = if (decN n (xs.drop 2) []).2 = 0 then (if (decN n (xs.drop 2) []).1.2 = [] ∧ rowE (decN n (xs.drop 2) []).1.1 = 0 then ((decN n (xs.drop 2) []).1.1, 0) else ([], 150)) else ([], (decN n (xs.drop 2) []).2) := by
        unfold decRow; rw [if_neg h2, if_neg (by omega), hn]
      rw [e0]
      clear e0
      refine wp_loop_ghost (fun q a w => ∃ (k p : Nat) (A' : Option Addr) (c' : Nat) (ls acc : List Rc), k + q = n ∧ decN n (xs.drop 2) [] = decN q (xs.drop p) acc ∧ p ≤ xs.length ∧ ls.map Rc.core = acc.map Rc.core ∧ ls.length = k ∧ (∀ r ∈ ls, r.wf) ∧ (∀ w1, Rd w1 A (bys xs) → ∀ r ∈ ls, r.rd w1) ∧ St w0 w [hRow 25 9 A' k c' (ls.flatMap Rc.cells)] ∧
        Env 53 [(0, .slice A xs.length c), (4, .int .i64 (n : Int)), (5, .int .i64 (p : Int)), (6, .slice A' k c'), (7, .int .i64 (k : Int))] a) n ⟨0, 2, none, 0, [], [], by omega, rfl, by omega, rfl, rfl, fun r hr => (by cases hr), fun _ _ r hr => (by cases hr), hS.rowNil _ _, hE.sub ⟨rfl, rfl, rfl, rfl, rfl, trivial⟩⟩ ?_
      clear hE a hS
      rintro q a w ⟨k, p, A', c', ls, acc, hk, hN, hp, hcp, hlen, hw, hrd, hS, hE⟩
      by_cases hk1 : k < n
      · obtain ⟨q, rfl⟩ : ∃ q', q = q' + 1 := ⟨q - 1, by omega⟩
        repeat' (first
          | (with_reducible refine wp_seq ?_)
          | (with_reducible refine c_region ?_)
          | (with_reducible refine wpList_nil ?_)
          | (with_reducible refine then_normal ?_)
          | (with_reducible refine wp_skip ?_)
          | (with_reducible refine wp_block ?_)
          | ((with_reducible refine g_move ?_); refine s_move hE rfl rfl ?_; clear hE a; intro a hE)
          | ((with_reducible refine g_bin .lss ?_); refine s_lss hE rfl rfl rfl ?_; clear hE a; intro a hE)
          | ((with_reducible refine g_cond ?_); refine c_dec hE rfl (fun hc => ?_) (fun hc => ?_) <;> try omega)
          | ((with_reducible refine g_sliceL ?_); refine s_val hE rfl rfl rfl (r_cutL hE rfl rfl (by omega)) ?_; clear hE a; intro a hE)
          )
        have hxy : Bs (xs.drop p) := hx.drop p
        have e3 : xs.length - p = (xs.drop p).length := by rw [List.length_drop]
        rw [Int.toNat_natCast, e3] at hE
        have hcut : ∀ w1, Rd w1 A (bys xs) → Rd w1 (if c = p then A else A.map (·.add (p * 1))) (bys (xs.drop p)) := fun w1 h1 => by
          have := h1.cutB hcap (l := p) xs.length
          rw [List.take_of_length_le (by rw [List.length_drop]; omega)] at this
          exact this
        refine s_call hE rfl rfl rfl (rdecode _ _ (xs.drop p) w (hcut w (hr.st hS)) hxy (by omega) (by rw [← e3]; omega)) ?_
        rintro _ w ⟨A2, c2, B2, d2, rfl, hct, hl1, hl2, hS1⟩; clear hE a; intro a hE; replace hS := hS.frame hS1; clear hS1; try simp only [List.cons_append, List.nil_append] at hS
        have hwl := decM_wf hxy (A := A2) (B := B2) hl1 hl2
        have hnn := decM_n (ys := xs.drop p)
        generalize hm : (decM (xs.drop p)).2.1 = m at hE hnn
        repeat' (first
          | (with_reducible refine wp_seq ?_)
          | (with_reducible refine c_region ?_)
          | (with_reducible refine wpList_nil ?_)
          | (with_reducible refine then_normal ?_)
          | (with_reducible refine wp_skip ?_)
          | (with_reducible refine wp_ret ?_)
          | (with_reducible refine then_ret ?_)
          | (with_reducible refine block_ret ?_)
          | ((with_reducible refine g_move ?_); refine s_move hE rfl rfl ?_; clear hE a; intro a hE)
          | ((with_reducible refine g_assign ?_); refine s_assign hE rfl rfl ?_; clear hE a; intro a hE)
          | ((with_reducible refine g_bin .neq ?_); refine s_neq hE rfl rfl rfl ?_; clear hE a; intro a hE)
          | ((with_reducible refine g_extract ?_); refine s_extract hE rfl rfl rfl ?_; clear hE a; intro a hE)
          | ((with_reducible refine g_cond ?_); refine c_dec hE rfl (fun hc => ?_) (fun hc => ?_) <;> try omega)
          | ((with_reducible refine g_alloc ?_); refine s_allocS hE hS rfl rfl ?_; clear hE a hS; intro g a w hE hS)
          | ((with_reducible refine g_load ?_); (first | (refine s_loadW (k := 0) hS hE rfl rfl rfl rfl ?_) ); clear hE a; intro a hE)
          | ((with_reducible refine g_store ?_); (first | (refine s_storeW (k := 0) hS hE rfl rfl rfl rfl rfl (by simp [Value.oneCell']) ?_) ); clear hS; intro w hS; simp only [List.set_cons_zero, List.set_cons_succ, Nat.add_zero] at hS)
          )
        · rw [hN, decN_no hc, if_neg hc]
          exact ret2 hE rfl rfl rfl ⟨none, 0, [], rfl, rfl, fun r hr => (by cases hr), fun _ _ r hr => (by cases hr), (hS.nil.rowNil 0 0).rowRd⟩
        · have he0 := Decidable.not_not.mp hc
          skip
          refine s_litA hE hS rfl rfl rfl rfl rfl ?_
          clear hE a hS; intro g2 a w hE hS
          refine s_appendAt (k := 2) hE hS rfl rfl rfl hS.rd rfl (cells_one (rs := [(decM (xs.drop p)).1.at_ A2 c2 B2 d2])) (by omega) rfl rfl rfl rfl ?_
          clear hE a hS; intro A3 c3 a w hE hS
          simp only [List.set_cons_succ, List.set_cons_zero] at hS
          rw [← e3] at hnn
          repeat' (first
            | (with_reducible refine c_region ?_)
            | (with_reducible refine wpList_nil ?_)
            | (with_reducible refine then_normal ?_)
            | (with_reducible refine block_normal ?_)
            | ((with_reducible refine g_move ?_); refine s_move hE rfl rfl ?_; clear hE a; intro a hE)
            | ((with_reducible refine g_assign ?_); refine s_assign hE rfl rfl ?_; clear hE a; intro a hE)
            | ((with_reducible refine g_bin .add ?_); refine s_add hE rfl rfl rfl (by first  | exact addN (by omega) | exact wrap64_in (by omega) ) ?_; clear hE a; intro a hE)
            )
          have hS6 := hS.only 2 rfl
          have e2 : ls.flatMap Rc.cells ++ ((decM (xs.drop p)).1.at_ A2 c2 B2 d2).cells = (ls ++ [(decM (xs.drop p)).1.at_ A2 c2 B2 d2]).flatMap Rc.cells := by simp
          rw [e2] at hS6
          refine ⟨q, by omega, k + 1, p + m, A3, c3, ls ++ [(decM (xs.drop p)).1.at_ A2 c2 B2 d2], acc ++ [(decM (xs.drop p)).1], by omega, by rw [hN, decN_yes he0, hm, List.drop_drop], by omega, by rw [List.map_append, List.map_append, hcp]; rfl, by simp [hlen], ?_, ?_, hS6, hE.sub ⟨rfl, rfl, rfl, rfl, rfl, trivial⟩⟩
          · intro r hr
            rcases List.mem_append.1 hr with hr | hr
            · exact hw r hr
            · rw [List.mem_singleton] at hr
              subst hr
              exact hwl
          · intro w1 h1 r hr
            rcases List.mem_append.1 hr with hr | hr
            · exact hrd w1 h1 r hr
            · rw [List.mem_singleton] at hr
              subst hr
              exact hct w1 (hcut w1 h1)
      · obtain rfl : k = n := by omega
        obtain rfl : q = 0 := by omega
        have hN0 : decN k (xs.drop 2) [] = ((acc, xs.drop p), 0) := hN
        rw [hN0]
        dsimp only
        rw [if_pos rfl]
        have hrE := rowE_of_core hcp
        repeat' (first
          | (with_reducible refine wp_seq ?_)
          | (with_reducible refine c_region ?_)
          | (with_reducible refine wpList_nil ?_)
          | (with_reducible refine then_normal ?_)
          | (with_reducible refine wp_ret ?_)
          | (with_reducible refine then_ret ?_)
          | (with_reducible refine wp_exit ?_)
          | (with_reducible refine then_exit ?_)
          | (with_reducible refine block_same ?_)
          | ((with_reducible refine g_move ?_); refine s_move hE rfl rfl ?_; clear hE a; intro a hE)
          | ((with_reducible refine g_assign ?_); refine s_assign hE rfl rfl ?_; clear hE a; intro a hE)
          | ((with_reducible refine g_bin .lss ?_); refine s_lss hE rfl rfl rfl ?_; clear hE a; intro a hE)
          | ((with_reducible refine g_blt .len ?_); refine s_len hE rfl rfl ?_; clear hE a; intro a hE)
          | ((with_reducible refine g_guard ?_); refine gd_yes hE rfl rfl rfl ?_)
          | ((with_reducible refine g_guard ?_); refine gd_no hE rfl rfl rfl rfl ?_; clear hE a; intro a hE)
          | ((with_reducible refine g_guard ?_); refine gd_dec hE rfl rfl (fun hc hE2 => ?_) (fun hc hE2 => ?_) <;> (try omega) <;> (replace hE := hE2; clear hE2))
          | ((with_reducible refine g_pick ?_); refine s_pickT hE rfl rfl rfl ?_; clear hE a; intro a hE)
          | ((with_reducible refine g_cond ?_); refine c_true hE rfl ?_)
          | ((with_reducible refine g_cond ?_); refine c_dec hE rfl (fun hc => ?_) (fun hc => ?_) <;> try omega)
          )
        · rw [if_neg (fun h => by have := congrArg List.length h.1; rw [List.length_drop, List.length_nil] at this; omega)]
          exact ret2 hE rfl rfl rfl ⟨none, 0, [], rfl, rfl, fun r hr => (by cases hr), fun _ _ r hr => (by cases hr), (hS.nil.rowNil 0 0).rowRd⟩
        have hck := rightRow A' c' ls w (hS.rdAt (k := 0) rfl) (by omega) (hrd w (hr.st hS)) hw
        rw [hlen] at hck
        refine s_call hE rfl rfl rfl hck ?_
        rintro _ w ⟨rfl, hS1⟩; clear hE a; intro a hE; replace hS := hS.frame hS1; clear hS1; try simp only [List.cons_append, List.nil_append] at hS
        have hys : xs.drop p = [] := List.length_eq_zero_iff.mp (by rw [List.length_drop]; omega)
        by_cases hok : rowOk ls
        · have e4 : rowE acc = 0 := by rw [← hrE]; unfold rowE; rw [if_neg (by omega), if_pos hok]
          rw [decide_eq_true hok] at hE
          repeat' (first
            | (with_reducible refine wp_seq ?_)
            | (with_reducible refine c_region ?_)
            | (with_reducible refine wpList_nil ?_)
            | (with_reducible refine then_normal ?_)
            | (with_reducible refine wp_skip ?_)
            | (with_reducible refine wp_ret ?_)
            | ((with_reducible refine g_move ?_); refine s_move hE rfl rfl ?_; clear hE a; intro a hE)
            | ((with_reducible refine g_assign ?_); refine s_assign hE rfl rfl ?_; clear hE a; intro a hE)
            | ((with_reducible refine g_un .not ?_); refine s_notb hE rfl rfl ?_; clear hE a; intro a hE)
            | ((with_reducible refine g_guard ?_); refine gd_yes hE rfl rfl rfl ?_)
            | ((with_reducible refine g_pick ?_); refine s_pickF hE rfl rfl rfl ?_; clear hE a; intro a hE)
            | ((with_reducible refine g_cond ?_); refine c_false hE rfl ?_)
            )
          rw [if_pos ⟨hys, e4⟩]
          exact ret2 hE rfl rfl rfl ⟨A', c', ls, by rw [hlen], hcp, hw, hrd, hS.rowRd.only 0 rfl⟩
        · have e4 : ¬ rowE acc = 0 := by rw [← hrE]; unfold rowE; rw [if_neg (by omega), if_neg hok]; decide
          rw [decide_eq_false hok] at hE
          repeat' (first
            | (with_reducible refine wp_seq ?_)
            | (with_reducible refine c_region ?_)
            | (with_reducible refine wpList_nil ?_)
            | (with_reducible refine then_normal ?_)
            | (with_reducible refine wp_ret ?_)
            | (with_reducible refine then_ret ?_)
            | ((with_reducible refine g_assign ?_); refine s_assign hE rfl rfl ?_; clear hE a; intro a hE)
            | ((with_reducible refine g_un .not ?_); refine s_notb hE rfl rfl ?_; clear hE a; intro a hE)
            | ((with_reducible refine g_guard ?_); refine gd_yes hE rfl rfl rfl ?_)
            | ((with_reducible refine g_pick ?_); refine s_pickF hE rfl rfl rfl ?_; clear hE a; intro a hE)
            | ((with_reducible refine g_cond ?_); refine c_true hE rfl ?_)
            )
          rw [if_neg (fun h => e4 h.2)]
          exact ret2 hE rfl rfl rfl ⟨none, 0, [], rfl, rfl, fun r hr => (by cases hr), fun _ _ r hr => (by cases hr), (hS.nil.rowNil 0 0).rowRd⟩
end Go.Proofs.Ytmfcffeoooegcaa
