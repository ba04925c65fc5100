/-
  Contracts of record: the records of a row's bytes.
-/
import Derived.Test.YtmfcffeoooegcaaTC
import Derived.Test.YtmfcffeoooegcaaRS
namespace Go.Proofs.Ytmfcffeoooegcaa
open Go.RowKit
set_option linter.unusedVariables false
set_option linter.unusedSimpArgs false
attribute [local irreducible] Rd hRow hBlk hAll Fn hRdr hMarks hRcs
attribute [local simp] Rc.cells

/-- so many records, one behind the other -/
def decN : Nat → List Nat → List Rc → (List Rc × List Nat) × Int
  | 0, ys, acc => ((acc, ys), 0)
  | n + 1, ys, acc => if (decM ys).2.2 = 0 then decN n (ys.drop (decM ys).2.1) (acc ++ [(decM ys).1]) else (([], []), (decM ys).2.2)
theorem decN_yes {n : Nat} {ys : List Nat} {acc : List Rc} (h : (decM ys).2.2 = 0) : decN (n + 1) ys acc = decN n (ys.drop (decM ys).2.1) (acc ++ [(decM ys).1]) := if_pos h
theorem decN_no {n : Nat} {ys : List Nat} {acc : List Rc} (h : ¬ (decM ys).2.2 = 0) : decN (n + 1) ys acc = (([], []), (decM ys).2.2) := if_neg h
/-- the records of a row's bytes; the error -/
def decRow (xs : List Nat) : List Rc × Int :=
  if xs.length < 2 then ([], 7)
  else if 64 < bnum 0 (xs.take 2) then ([], 3)
  else if (decN (bnum 0 (xs.take 2)) (xs.drop 2) []).2 = 0 then
    (if (decN (bnum 0 (xs.take 2)) (xs.drop 2) []).1.2 = [] ∧ rowE (decN (bnum 0 (xs.take 2)) (xs.drop 2) []).1.1 = 0 then ((decN (bnum 0 (xs.take 2)) (xs.drop 2) []).1.1, 0) else ([], 150))
  else ([], (decN (bnum 0 (xs.take 2)) (xs.drop 2) []).2)
theorem St.rdCut {w0 w : World} {H : List HP} {B : Option Addr} {d l : Nat} {ys : List Nat} (hS : St w0 w (hRd B (bys ys) :: H)) (hd : ys.length ≤ d) : St w0 w (hRd (if d = l then B else B.map (·.add (l * 1))) (bys (ys.drop l)) :: H) := by
  refine hS.conv fun S ⟨h1, h2⟩ => ⟨fun ad e => ?_, ?_⟩
  · split at e
    · exact h1 ad e
    · cases B with
      | none => cases e
      | some b =>
        simp only [Option.map_some, Option.some.injEq] at e
        subst e
        rw [add_block]
        exact h1 b rfl
  · have := h2.cutB hd (l := l) (ys.length)
    rw [List.take_of_length_le (by rw [List.length_drop]; omega)] at this
    exact this
theorem decM_n {ys : List Nat} : (decM ys).2.1 ≤ ys.length := by
  by_cases h0 : ys = []
  · have : decM ys = (Rc.zero, 0, 7) := by unfold decM; rw [if_pos h0]
    rw [this]; exact Nat.zero_le _
  · by_cases hk : oct ys 0 < 1 ∨ 4 < oct ys 0
    · rw [decM_bad h0 hk]; exact Nat.zero_le _
    · cases hp : parse ys with
      | none => rw [decM_none h0 hk hp]; exact Nat.zero_le _
      | some q =>
        obtain ⟨r, n⟩ := q
        by_cases hr : r.right
        · rw [decM_yes h0 hk hp hr]
          show n ≤ ys.length
          unfold parse at hp
          split at hp
          · cases hp
          · split at hp
            · split at hp
              · cases hp
              · cases hp; omega
            · split at hp
              · split at hp
                · cases hp
                · cases hp; omega
              · cases hp; omega
        · rw [decM_no h0 hk hp hr]; exact Nat.zero_le _
section
variable {P : Program} {n d : Nat} {L : List (Nat × Value)} {a : Act} {w : World} {gd : Option (Nat × Bool)} {ty : TypeId} {ps : String} {af : Array Edge} {x y z : Operand}
/-- a cut that lessens the room -/
theorem r_cutHM {t e : TypeId} {size b : Nat} {zz : Value} {A : Option Addr} {m c : Nat} {k k2 : IntKind} {h mx : Int} [TyU P t (.slice e)] [TyI P e size zz b] (hE : Env n L a) (hx : ev L x = some (.slice A m c)) (hy : ev L y = some (.int k h)) (hz : ev L z = some (.int k2 mx)) (hb : 0 ≤ h ∧ h ≤ mx) (hb2 : 0 ≤ mx ∧ mx ≤ c) :
    (execOp a.eval ⟨some d, .slice t x none (some y) (some z), ty, ps, af, gd⟩).run P w = .ok (.value (.slice A h.toNat mx.toNat)) w := by
  have hb3 : 0 ≤ h ∧ h ≤ (mx.toNat : Int) := by omega
  have hA : (if mx.toNat = 0 then A else A.map (·.add (0 * size))) = A := by
    split
    · rfl
    · cases A <;> simp [Addr.add]
  simp [execOp, Instr.sliceAt, Instr.slice, Instr.sliceBounds, hE.eval hx, hE.eval hy, hE.eval hz, run_under (d := .slice e), run_bound mx k2 c _ hb2, run_bound h k mx.toNat _ hb3, run_size (size := size) (zero := zz) (bytes := b)]
  simpa using hA
end
theorem clip (A : Option Addr) (m c : Nat) (h : m ≤ c) (w0 : World) : Fn Try.prog 46 [.slice A m c] w0 fun v w' => v = .slice A m m ∧ St w0 w' [] := by
  refine enter 9 Try.func46 rfl rfl rfl ?_
  intro a hE
  have hS := St.start w0
  repeat' (first
    | (with_reducible refine wp_seq ?_)
    | (with_reducible refine c_region ?_)
    | (with_reducible refine wpList_nil ?_)
    | (with_reducible refine then_normal ?_)
    | ((with_reducible refine g_move ?_); refine s_move hE rfl rfl ?_; clear hE a; intro a hE)
    | ((with_reducible refine g_assign ?_); refine s_assign hE rfl rfl ?_; clear hE a; intro a hE)
    | ((with_reducible refine g_blt .len ?_); refine s_len hE rfl rfl ?_; clear hE a; intro a hE)
    )
  refine s_val hE rfl rfl rfl (r_cutHM hE rfl rfl rfl (by omega) (by omega)) ?_
  clear hE a; intro a hE
  repeat' (first
    | (with_reducible refine wpList_nil ?_)
    | (with_reducible refine then_normal ?_)
    | (with_reducible refine wp_ret ?_)
    | ((with_reducible refine g_assign ?_); refine s_assign hE rfl rfl ?_; clear hE a; intro a hE)
    )
  exact ret1 hE rfl rfl ⟨by simp only [Int.toNat_natCast], hS⟩
set_option maxHeartbeats 8000000 in
theorem decodeRow (A : Option Addr) (c : Nat) (xs : List Nat) (w0 : World) (hr : Rd w0 A (bys xs)) (hx : Bs xs) (hl : xs.length ≤ 140737488351232) :
    Fn Try.prog 26 [.slice A xs.length c] w0 fun v w' => ∃ A' c' ls, v = .tuple #[.slice A' ls.length c', .int .i64 (decRow xs).2] ∧ ls.map Rc.core = (decRow xs).1.map Rc.core ∧ (∀ r ∈ ls, r.wf) ∧
      St w0 w' [hRd A' (ls.flatMap Rc.cells), hRcs ls] := by
  refine enter 57 Try.func26 rfl rfl rfl ?_
  intro a hE
  have hS := St.start w0
  by_cases h2 : xs.length < 2
  · have e0 : decRow xs = ([], 7) := by unfold decRow; rw [if_pos h2]
    rw [e0]
    repeat' (first
      | (with_reducible refine wp_seq ?_)
      | (with_reducible refine c_region ?_)
      | (with_reducible refine wpList_nil ?_)
      | (with_reducible refine then_normal ?_)
      | (with_reducible refine wp_ret ?_)
      | (with_reducible refine then_ret ?_)
      | (with_reducible refine wp_block ?_)
      | (with_reducible refine block_ret ?_)
      | ((with_reducible refine g_move ?_); refine s_move hE rfl rfl ?_; clear hE a; intro a hE)
      | ((with_reducible refine g_assign ?_); refine s_assign hE rfl rfl ?_; clear hE a; intro a hE)
      | ((with_reducible refine g_bin .neq ?_); refine s_neq hE rfl rfl rfl ?_; clear hE a; intro a hE)
      | ((with_reducible refine g_conv ?_); refine s_conv hE rfl rfl (by first  | exact wrap64_in (by omega) ) ?_; clear hE a; intro a hE)
      | ((with_reducible refine g_cond ?_); refine c_true hE rfl ?_)
      | ((with_reducible refine g_call (f := 35) ?_); refine s_call hE rfl rfl rfl (read _ _ _ _ (by first | exact Rd.st (by assumption) hS ) (by first | omega )) ?_; rintro _ w ⟨g, _, _, rfl, hS1⟩; clear hE a; intro a hE; replace hS := hS.frame hS1; clear hS1; try simp only [List.cons_append, List.nil_append] at hS) | ((with_reducible refine g_call (f := 44) ?_); (first | (refine s_call hE rfl rfl rfl (u16_short _ _ _ _ _ _ _ _ (hS.focus (k := 0) rfl) (by assumption) (by omega) (by omega) (by omega)) ?_; rintro _ w ⟨rfl, hS1⟩; clear hE a; intro a hE; have hS2 := St.unfocus (k := 0) rfl hS1; clear hS hS1; have hS := hS2; clear hS2; simp only [List.set_cons_zero, List.set_cons_succ, Nat.zero_add, Nat.reduceAdd] at hS) )) | ((with_reducible refine g_call (f := 39) ?_); (first | (refine s_call hE rfl rfl rfl (rerr _ _ _ _ _ _ _ _ _ (hS.focus (k := 0) rfl)) ?_; rintro _ w ⟨rfl, hS1⟩; clear hE a; intro a hE; have hS2 := St.unfocus (k := 0) rfl hS1; clear hS hS1; have hS := hS2; clear hS2; simp only [List.set_cons_zero, List.set_cons_succ] at hS) ))
      )
    exact ret2 hE rfl rfl rfl ⟨none, 0, [], rfl, rfl, fun r hr => (by cases hr), (hS.nil.rcs0.rowNil 0 0).rowRd⟩
  · have hn2 : bnum 0 (xs.take 2) < 65536 := by
      have := bnum_lt (xs.take 2) (fun c hc => hx c (List.mem_of_mem_take hc))
      rw [List.length_take, Nat.min_eq_left (by omega)] at this
      exact this
    have hn3 : bnum 0 ((xs.drop 0).take 2) < 65536 := by rw [List.drop_zero]; exact hn2
    repeat' (first
      | (with_reducible refine wp_seq ?_)
      | (with_reducible refine c_region ?_)
      | (with_reducible refine wpList_nil ?_)
      | (with_reducible refine then_normal ?_)
      | (with_reducible refine wp_skip ?_)
      | (with_reducible refine wp_ret ?_)
      | (with_reducible refine then_ret ?_)
      | (with_reducible refine wp_block ?_)
      | (with_reducible refine block_normal ?_)
      | (with_reducible refine block_ret ?_)
      | ((with_reducible refine g_move ?_); refine s_move hE rfl rfl ?_; clear hE a; intro a hE)
      | ((with_reducible refine g_assign ?_); refine s_assign hE rfl rfl ?_; clear hE a; intro a hE)
      | ((with_reducible refine g_bin .gtr ?_); refine s_gtr hE rfl rfl rfl ?_; clear hE a; intro a hE)
      | ((with_reducible refine g_bin .neq ?_); refine s_neq hE rfl rfl rfl ?_; clear hE a; intro a hE)
      | ((with_reducible refine g_conv ?_); refine s_conv hE rfl rfl (by first | exact wrap64_in (by omega) ) ?_; clear hE a; intro a hE)
      | ((with_reducible refine g_cond ?_); refine c_false hE rfl ?_)
      | ((with_reducible refine g_cond ?_); refine c_dec hE rfl (fun hc => ?_) (fun hc => ?_) <;> try omega)
      | ((with_reducible refine g_call (f := 35) ?_); refine s_call hE rfl rfl rfl (read _ _ _ _ (by first | exact Rd.st (by assumption) hS ) (by first | omega )) ?_; rintro _ w ⟨g, _, _, rfl, hS1⟩; clear hE a; intro a hE; replace hS := hS.frame hS1; clear hS1; try simp only [List.cons_append, List.nil_append] at hS) | ((with_reducible refine g_call (f := 44) ?_); (first | (refine s_call hE rfl rfl rfl (u16_ok _ _ _ _ _ _ _ _ (hS.focus (k := 0) rfl) (by assumption) (by omega) (by omega) (by omega)) ?_; rintro _ w ⟨rfl, hS1⟩; clear hE a; intro a hE; have hS2 := St.unfocus (k := 0) rfl hS1; clear hS hS1; have hS := hS2; clear hS2; simp only [List.set_cons_zero, List.set_cons_succ, Nat.zero_add, Nat.reduceAdd] at hS) )) | ((with_reducible refine g_call (f := 39) ?_); (first | (refine s_call hE rfl rfl rfl (rerr _ _ _ _ _ _ _ _ _ (hS.focus (k := 0) rfl)) ?_; rintro _ w ⟨rfl, hS1⟩; clear hE a; intro a hE; have hS2 := St.unfocus (k := 0) rfl hS1; clear hS hS1; have hS := hS2; clear hS2; simp only [List.set_cons_zero, List.set_cons_succ] at hS) ))
      )
    · rw [List.drop_zero] at hc
      have e0 : decRow xs = ([], 3) := by unfold decRow; rw [if_neg h2, if_pos (by omega)]
      rw [e0]
      exact ret2 hE rfl rfl rfl ⟨none, 0, [], rfl, rfl, fun r hr => (by cases hr), (hS.nil.rcs0.rowNil 0 0).rowRd⟩
    · rw [List.drop_zero] at hE hc
      obtain ⟨n, hn⟩ : ∃ n, n = bnum 0 (xs.take 2) := ⟨_, rfl⟩
      rw [← hn] at hE hc
      have e0 : decRow xs = if (decN n (xs.drop 2) []).2 = 0 then (if (decN n (xs.drop 2) []).1.2 = [] ∧ rowE (decN n (xs.drop 2) []).1.1 = 0 then ((decN n (xs.drop 2) []).1.1, 0) else ([], 150)) else ([], (decN n (xs.drop 2) []).2) := by
        unfold decRow; rw [if_neg h2, if_neg (by omega), hn]
      rw [e0]
      clear e0
      repeat' (first
        | ((with_reducible refine g_call (f := 40) ?_); (first | (refine s_call hE rfl rfl rfl (left _ _ _ _ _ _ _ _ _ (hS.focus (k := 0) rfl) (by first | omega ) (by first | omega )) ?_; rintro _ w ⟨rfl, hS1⟩; clear hE a; intro a hE; have hS2 := St.unfocus (k := 0) rfl hS1; clear hS hS1; have hS := hS2; clear hS2; simp only [List.set_cons_zero, List.set_cons_succ] at hS) ))
        )
      have hraw := raw_ok g _ _ xs 2 (xs.length - 2) [] w0 w hS (by omega) (by omega) (by omega)
      rw [List.take_of_length_le (by rw [List.length_drop]; exact Nat.le_refl _)] at hraw
      refine s_call hE rfl rfl rfl hraw ?_
      rintro _ w ⟨A1, c1, rfl, hS⟩; clear hE a; intro a hE
      have hcap := (hS.lenAt (k := 0) rfl).2.1
      repeat' (first
        | (with_reducible refine wp_seq ?_)
        | (with_reducible refine c_region ?_)
        | (with_reducible refine wpList_nil ?_)
        | (with_reducible refine then_normal ?_)
        | (with_reducible refine wp_block ?_)
        | ((with_reducible refine g_move ?_); refine s_move hE rfl rfl ?_; clear hE a; intro a hE)
        | ((with_reducible refine g_assign ?_); refine s_assign hE rfl rfl ?_; clear hE a; intro a hE)
        )
      generalize hzs : xs.drop 2 = zs at hS hE hcap
      have hxz : Bs zs := by rw [← hzs]; exact hx.drop 2
      have hlz : zs.length ≤ 140737488351232 := by rw [← hzs, List.length_drop]; omega
      replace hS := hS.rowRd.only 0 rfl
      refine wp_loop_ghost (fun q a w => ∃ (k : Nat) (ys : List Nat) (B : Option Addr) (d : Nat) (A' : Option Addr) (c' : Nat) (ls acc : List Rc), k + q = n ∧ decN n zs [] = decN q ys acc ∧ ls.map Rc.core = acc.map Rc.core ∧ ls.length = k ∧ (∀ r ∈ ls, r.wf) ∧ Bs ys ∧ ys.length ≤ d ∧ ys.length ≤ 140737488351232 ∧ St w0 w [hRow 25 9 A' k c' (ls.flatMap Rc.cells), hRcs ls, hRd B (bys ys)] ∧
        Env 57 [(27, .int .i64 (n : Int)), (28, .int .i64 (k : Int)), (6, .slice A' k c'), (7, .slice B ys.length d)] a) n ⟨0, zs, A1, c1, none, 0, [], [], by omega, rfl, rfl, rfl, fun r hr => (by cases hr), hxz, hcap, hlz, hS.rcs0.rowNil _ _, hE.sub ⟨rfl, rfl, rfl, rfl, trivial⟩⟩ ?_
      clear hE a hS
      rintro q a w ⟨k, ys, B, d, A', c', ls, acc, hk, hN, hcp, hlen, hw, hxy, hyd, hyl, hS, hE⟩
      by_cases hk1 : k < n
      · obtain ⟨q, rfl⟩ : ∃ q', q = q' + 1 := ⟨q - 1, by omega⟩
        repeat' (first
          | (with_reducible refine wp_seq ?_)
          | (with_reducible refine c_region ?_)
          | (with_reducible refine wpList_nil ?_)
          | (with_reducible refine then_normal ?_)
          | (with_reducible refine wp_skip ?_)
          | (with_reducible refine wp_block ?_)
          | ((with_reducible refine g_move ?_); refine s_move hE rfl rfl ?_; clear hE a; intro a hE)
          | ((with_reducible refine g_bin .lss ?_); refine s_lss hE rfl rfl rfl ?_; clear hE a; intro a hE)
          | ((with_reducible refine g_cond ?_); refine c_dec hE rfl (fun hc => ?_) (fun hc => ?_) <;> try omega)
          )
        refine s_call hE rfl rfl rfl (decode B d ys w (hS.focus (k := 2) rfl).rd2 hxy (by omega)) ?_
        rintro _ w ⟨A2, c2, B2, d2, rfl, hS1⟩; clear hE a; intro a hE; replace hS := hS.frame hS1; clear hS1; try simp only [List.cons_append, List.nil_append] at hS
        have hwl := decM_wf hxy (A := A2) (B := B2) (hS.lenAt (k := 0) rfl).2.1 (hS.lenAt (k := 1) rfl).2.1
        repeat' (first
          | (with_reducible refine wp_seq ?_)
          | (with_reducible refine c_region ?_)
          | (with_reducible refine wpList_nil ?_)
          | (with_reducible refine then_normal ?_)
          | (with_reducible refine wp_skip ?_)
          | (with_reducible refine wp_ret ?_)
          | (with_reducible refine then_ret ?_)
          | (with_reducible refine block_ret ?_)
          | ((with_reducible refine g_move ?_); refine s_move hE rfl rfl ?_; clear hE a; intro a hE)
          | ((with_reducible refine g_assign ?_); refine s_assign hE rfl rfl ?_; clear hE a; intro a hE)
          | ((with_reducible refine g_bin .neq ?_); refine s_neq hE rfl rfl rfl ?_; clear hE a; intro a hE)
          | ((with_reducible refine g_extract ?_); refine s_extract hE rfl rfl rfl ?_; clear hE a; intro a hE)
          | ((with_reducible refine g_cond ?_); refine c_dec hE rfl (fun hc => ?_) (fun hc => ?_) <;> try omega)
          | ((with_reducible refine g_alloc ?_); refine s_allocS hE hS rfl rfl ?_; clear hE a hS; intro g a w hE hS)
          | ((with_reducible refine g_store ?_); (first | (refine s_storeW (k := 0) hS hE rfl rfl rfl rfl rfl (by simp [Value.oneCell']) ?_) ); clear hS; intro w hS; simp only [List.set_cons_zero, List.set_cons_succ, Nat.add_zero] at hS)
          )
        · rw [hN, decN_no hc, if_neg hc]
          exact ret2 hE rfl rfl rfl ⟨none, 0, [], rfl, rfl, fun r hr => (by cases hr), (hS.nil.rcs0.rowNil 0 0).rowRd⟩
        · have he0 := Decidable.not_not.mp hc
          refine c_ordK hS 0 rfl 8 ((.rd 0 (.rd 1 (.rd 4 (.rd 5 (.rd 6 (.ef 2 (.ef 3 (.rd 7 (.lt 8 .done)))))))))) mixed (by decide +kernel) ?_
          clear hS; intro w hF hS
          have hnn := decM_n (ys := ys)
          generalize hm : (decM ys).2.1 = m at hE hnn
          repeat' (first
            | (with_reducible refine o_rd rfl ?_)
            | ((with_reducible refine q_move ?_); refine d_val hE hS rfl (fun w hS => r_move hE rfl) ?_; clear hE a; intro a hE)
            | ((with_reducible refine q_load ?_); (first | (refine d_val hE hS rfl (fun w hS => r_loadW (k := 0) hS hE rfl rfl rfl) ?_) ); clear hE a; intro a hE)
            | ((with_reducible refine q_sliceL ?_); refine d_val hE hS rfl (fun w hS => r_cutL hE rfl rfl (by omega)) ?_; clear hE a; intro a hE)
            | ((with_reducible refine o_ef rfl ?_))
            )
          refine s_litA hE hF rfl rfl rfl rfl rfl ?_
          clear hE a hF; intro g2 a w hE hF
          refine wpList_nil ?_
          refine o_back (fun w' => St w0 w' [hBlk g 25 ((decM ys).1.at_ A2 c2 B2 d2).cells]) (fun _ h => h) (hF.only 1 rfl) ?_
          clear hS; have hS := hF.only 1 rfl
          repeat' (first
            | ((with_reducible refine o_ef rfl ?_))
            )
          refine s_appendAt (k := 4) hE hF rfl rfl rfl hF.rd rfl (cells_one (rs := [(decM ys).1.at_ A2 c2 B2 d2])) (by omega) rfl rfl rfl rfl ?_
          clear hE a hF; intro A3 c3 a w hE hF
          simp only [List.set_cons_succ, List.set_cons_zero] at hF
          refine wpList_nil ?_
          refine o_back (fun w' => St w0 w' [hBlk g 25 ((decM ys).1.at_ A2 c2 B2 d2).cells]) (fun _ h => h) (hF.only 1 rfl) ?_
          clear hS; have hS := hF.only 1 rfl
          repeat' (first
            | (with_reducible refine o_rd rfl ?_)
            | ((with_reducible refine q_assign ?_); refine d_val hE hS rfl (fun w hS => r_assign hE rfl) ?_; clear hE a; intro a hE)
            | ((with_reducible refine o_lt rfl ?_))
            )
          repeat' (first
            | (with_reducible refine wpList_nil ?_)
            | ((with_reducible refine g_assign ?_); refine s_assign hE rfl rfl ?_; clear hE a; intro a hE)
            )
          refine o_backL ?_
          repeat' (first
            | (with_reducible refine o_done ?_)
            )
          clear hS; have hS := hF; clear hF
          repeat' (first
            | (with_reducible refine c_region ?_)
            | (with_reducible refine wpList_nil ?_)
            | (with_reducible refine then_normal ?_)
            | (with_reducible refine block_normal ?_)
            | ((with_reducible refine g_move ?_); refine s_move hE rfl rfl ?_; clear hE a; intro a hE)
            | ((with_reducible refine g_bin .add ?_); refine s_add hE rfl rfl rfl (by first  | exact wrap64_in (by omega) ) ?_; clear hE a; intro a hE)
            )
          have hS2 := ((hS.focus (k := 5) rfl).focus (k := 4) rfl).focus (k := 4) rfl
          have hS4 := St.rcsSnoc (r := (decM ys).1.at_ A2 c2 B2 d2) hS2.rowRd.p1.rowRd.p1
          have hS5 := (St.rdCut (d := d) (l := m) (hS4.focus (k := 4) rfl) hyd).p1
          have hS6 := (hS5.focus (k := 4) rfl).keep3
          have e2 : ls.flatMap Rc.cells ++ ((decM ys).1.at_ A2 c2 B2 d2).cells = (ls ++ [(decM ys).1.at_ A2 c2 B2 d2]).flatMap Rc.cells := by simp
          rw [e2] at hS6
          have e3 : ys.length - m = (ys.drop m).length := by rw [List.length_drop]
          rw [Int.toNat_natCast, e3] at hE
          refine ⟨q, by omega, k + 1, ys.drop m, _, d - m, A3, c3, ls ++ [(decM ys).1.at_ A2 c2 B2 d2], acc ++ [(decM ys).1], by omega, by rw [hN, decN_yes he0, hm], by rw [List.map_append, List.map_append, hcp]; rfl, by simp [hlen], ?_, hxy.drop m, by rw [← e3]; omega, by rw [← e3]; omega, hS6, hE.sub ⟨rfl, rfl, rfl, rfl, trivial⟩⟩
          intro r hr
          rcases List.mem_append.1 hr with hr | hr
          · exact hw r hr
          · rw [List.mem_singleton] at hr
            subst hr
            exact hwl
      · obtain rfl : k = n := by omega
        obtain rfl : q = 0 := by omega
        have hN0 : decN k zs [] = ((acc, ys), 0) := hN
        rw [hN0]
        dsimp only
        rw [if_pos rfl]
        have hrE := rowE_of_core hcp
        repeat' (first
          | (with_reducible refine wp_seq ?_)
          | (with_reducible refine c_region ?_)
          | (with_reducible refine wpList_nil ?_)
          | (with_reducible refine then_normal ?_)
          | (with_reducible refine wp_ret ?_)
          | (with_reducible refine then_ret ?_)
          | (with_reducible refine wp_exit ?_)
          | (with_reducible refine then_exit ?_)
          | (with_reducible refine block_same ?_)
          | ((with_reducible refine g_move ?_); refine s_move hE rfl rfl ?_; clear hE a; intro a hE)
          | ((with_reducible refine g_assign ?_); refine s_assign hE rfl rfl ?_; clear hE a; intro a hE)
          | ((with_reducible refine g_bin .lss ?_); refine s_lss hE rfl rfl rfl ?_; clear hE a; intro a hE)
          | ((with_reducible refine g_bin .gtr ?_); refine s_gtr hE rfl rfl rfl ?_; clear hE a; intro a hE)
          | ((with_reducible refine g_blt .len ?_); refine s_len hE rfl rfl ?_; clear hE a; intro a hE)
          | ((with_reducible refine g_guard ?_); refine gd_yes hE rfl rfl rfl ?_)
          | ((with_reducible refine g_guard ?_); refine gd_no hE rfl rfl rfl rfl ?_; clear hE a; intro a hE)
          | ((with_reducible refine g_guard ?_); refine gd_dec hE rfl rfl (fun hc hE2 => ?_) (fun hc hE2 => ?_) <;> (try omega) <;> (replace hE := hE2; clear hE2))
          | ((with_reducible refine g_pick ?_); refine s_pickT hE rfl rfl rfl ?_; clear hE a; intro a hE)
          | ((with_reducible refine g_cond ?_); refine c_true hE rfl ?_)
          | ((with_reducible refine g_cond ?_); refine c_dec hE rfl (fun hc => ?_) (fun hc => ?_) <;> try omega)
          )
        · rw [if_neg (fun h => by rw [h.1] at hc; simp at hc)]
          exact ret2 hE rfl rfl rfl ⟨none, 0, [], rfl, rfl, fun r hr => (by cases hr), (hS.nil.rcs0.rowNil 0 0).rowRd⟩
        have hck := checkRow A' c' ls w (hS.rdAt (k := 0) rfl) (by omega) (hS.rcs (k := 1) rfl) hw
        rw [hlen] at hck
        refine s_call hE rfl rfl rfl hck ?_
        rintro _ w ⟨rfl, hS1⟩; clear hE a; intro a hE; replace hS := hS.frame hS1; clear hS1; try simp only [List.cons_append, List.nil_append] at hS
        have hys : ys = [] := List.length_eq_zero_iff.mp (by omega)
        repeat' (first
          | (with_reducible refine wp_seq ?_)
          | (with_reducible refine c_region ?_)
          | (with_reducible refine wpList_nil ?_)
          | (with_reducible refine then_normal ?_)
          | (with_reducible refine wp_skip ?_)
          | (with_reducible refine wp_ret ?_)
          | (with_reducible refine then_ret ?_)
          | ((with_reducible refine g_move ?_); refine s_move hE rfl rfl ?_; clear hE a; intro a hE)
          | ((with_reducible refine g_assign ?_); refine s_assign hE rfl rfl ?_; clear hE a; intro a hE)
          | ((with_reducible refine g_bin .neq ?_); refine s_neq hE rfl rfl rfl ?_; clear hE a; intro a hE)
          | ((with_reducible refine g_guard ?_); refine gd_yes hE rfl rfl rfl ?_)
          | ((with_reducible refine g_pick ?_); refine s_pickF hE rfl rfl rfl ?_; clear hE a; intro a hE)
          | ((with_reducible refine g_cond ?_); refine c_dec hE rfl (fun hc => ?_) (fun hc => ?_) <;> try omega)
          )
        · rw [if_neg (fun h => by rw [← hrE] at h; exact hc h.2)]
          exact ret2 hE rfl rfl rfl ⟨none, 0, [], rfl, rfl, fun r hr => (by cases hr), (hS.nil.rcs0.rowNil 0 0).rowRd⟩
        · refine s_call hE rfl rfl rfl (clip A' k c' (hS.lenAt (k := 0) rfl).2.1 w) ?_
          rintro _ w ⟨rfl, hS1⟩; clear hE a; intro a hE; replace hS := hS.frame hS1; clear hS1; try simp only [List.cons_append, List.nil_append] at hS
          repeat' (first
            | (with_reducible refine wpList_nil ?_)
            | (with_reducible refine then_normal ?_)
            | (with_reducible refine wp_ret ?_)
            | ((with_reducible refine g_assign ?_); refine s_assign hE rfl rfl ?_; clear hE a; intro a hE)
            )
          rw [if_pos ⟨hys, by rw [← hrE]; omega⟩]
          exact ret2 hE rfl rfl rfl ⟨A', k, ls, by rw [hlen], hcp, hw, (hS.only2 1 0 rfl rfl).rowRd⟩
end Go.Proofs.Ytmfcffeoooegcaa
