/-
  Contract of the document's pages: which page bytes are.
-/
import Derived.Test.YtmdfhhmnlplagaaGR
namespace Go.Proofs.Ytmdfhhmnlplagaa
open Go.RowKit
set_option linter.unusedVariables false
set_option linter.unusedSimpArgs false
attribute [local irreducible] Rd hRow hBlk hRd hRdr rowsP Fn hMarks

/-- the slots that were read: the nil ones are nil, the others rows -/
theorem slotAt_long {b : List Nat} (hb : b.length = 256) {i : Nat} (hi : i < 4) (h : 52 < b.getD (10 + 53 * i) 0) (n : Int) : ¬ (parse n b).enc = b := by
  intro he
  have hs : ∀ x ∈ (parse n b).s, x.length ≤ 52 := parse_short
  have h4 : (parse n b).s.length = 4 := by simp [parse]
  have hl := slots_len (s := (parse n b).s.take i) fun x hx => hs x (List.mem_of_mem_take hx)
  rw [List.length_take, h4, Nat.min_eq_left (by omega)] at hl
  have e1 : (parse n b).enc.getD (10 + 53 * i) 0 = ((parse n b).s[i]'(by omega)).length := by
    unfold PM.enc PM.body
    have e2 : (parse n b).s.flatMap slotB = ((parse n b).s.take i).flatMap slotB ++ (slotB ((parse n b).s[i]'(by omega)) ++ ((parse n b).s.drop (i + 1)).flatMap slotB) := by
      rw [← List.flatMap_cons, ← List.flatMap_append]
      congr 1
      rw [← List.drop_eq_getElem_cons, List.take_append_drop]
    rw [e2]
    generalize ((parse n b).s.drop (i + 1)).flatMap slotB = t
    generalize ((parse n b).s.take i).flatMap slotB = u at hl
    generalize beb 4 _ = v
    rw [List.getD_eq_getElem?_getD]
    have e3 : (beb 2 (parse n b).n.toNat ++ beb 8 (parse n b).l ++ (u ++ (slotB ((parse n b).s[i]'(by omega)) ++ t)) ++ List.replicate 30 0 ++ v) = (beb 2 (parse n b).n.toNat ++ beb 8 (parse n b).l ++ u) ++ (slotB ((parse n b).s[i]'(by omega)) ++ t ++ List.replicate 30 0 ++ v) := by simp
    rw [e3, List.getElem?_append_right (by simp only [List.length_append, beb_length, hl]; omega)]
    have e4 : 10 + 53 * i - (beb 2 (parse n b).n.toNat ++ beb 8 (parse n b).l ++ u).length = 0 := by simp only [List.length_append, beb_length, hl]; omega
    rw [e4]
    rfl
  rw [he] at e1
  have := hs _ (List.getElem_mem (by omega : i < (parse n b).s.length))
  omega
theorem pcells_nil {n : Int} {l : Nat} {sl : List Sl} (h : sl.length < 4) : pcells n l (sl ++ [nilS]) = pcells n l sl := by
  unfold pcells
  have e : 4 - sl.length = (4 - (sl ++ [nilS]).length) + 1 := by rw [List.length_append, List.length_singleton]; omega
  rw [e, List.replicate_succ, List.map_append, List.append_assoc]
  rfl
section
variable {H : List HP} {w0 w : World}
set_option maxHeartbeats 8000000
theorem rdecode (n : Int) (hn : -9223372036854775808 ≤ n ∧ n ≤ 9223372036854775807) (A : Option Addr) (c : Nat) (b : List Nat) (m : Nat) (hm : m = b.length) (hr : Rd w0 A (bys b)) (hb : Bs b) (hl : b.length ≤ 100000) (hcap : b.length ≤ c) :
    Fn Try.prog 11 [.int .i64 n, .slice A m c] w0 fun v w' => ∃ p : Pg, v = .tuple #[.agg p.cells.toArray, .int .i64 (decP n b).2] ∧ p.m = (decP n b).1 ∧ p.wf ∧ St w0 w' [rowsP p.s] := by
  subst hm
  refine enter 68 Try.func11 rfl rfl rfl ?_
  intro a hE
  have hS := St.start w0
  have out : ∀ (e : Int) (w' : World), St w0 w' [] → decP n b = (PM.zero, e) → ∃ p : Pg, Value.tuple #[.agg Pg.zero.cells.toArray, .int .i64 e] = .tuple #[.agg p.cells.toArray, .int .i64 (decP n b).2] ∧ p.m = (decP n b).1 ∧ p.wf ∧ St w0 w' [rowsP p.s] := by
    intro e w' h1 h2
    rw [h2]
    exact ⟨Pg.zero, rfl, rfl, Pg.zero_wf, rowsP_nil4 h1⟩
  refine wp_seq ?_
  refine c_region ?_
  refine s_allocS hE hS rfl rfl ?_
  clear hE a hS; intro b4 a w hE hS
  by_cases hnu : numd n
  · have hnu1 : 0 ≤ n := hnu.1
    have hnu2 : n < 32 := hnu.2
    repeat' (first

      | (with_reducible refine wp_seq ?_)
      | (with_reducible refine c_region ?_)
      | (with_reducible refine wpList_nil ?_)
      | (with_reducible refine then_normal ?_)
      | (with_reducible refine wp_skip ?_)
      | ((with_reducible refine g_move ?_); refine s_move hE rfl rfl ?_; clear hE a; intro a hE)
      | ((with_reducible refine g_assign ?_); refine s_assign hE rfl rfl ?_; clear hE a; intro a hE)
      | ((with_reducible refine g_bin .lss ?_); refine s_lss hE rfl rfl rfl ?_; clear hE a; intro a hE)
      | ((with_reducible refine g_bin .geq ?_); refine s_geq hE rfl rfl rfl ?_; clear hE a; intro a hE)
      | ((with_reducible refine g_guard ?_); refine gd_yes hE rfl rfl rfl ?_)
      | ((with_reducible refine g_guard ?_); refine gd_dec hE rfl rfl (fun hc hE2 => ?_) (fun hc hE2 => ?_) <;> (try omega) <;> (replace hE := hE2; clear hE2))
      | ((with_reducible refine g_pick ?_); refine s_pickF hE rfl rfl rfl ?_; clear hE a; intro a hE)
      | ((with_reducible refine g_cond ?_); refine c_dec hE rfl (fun hc => ?_) (fun hc => ?_) <;> try omega)
      | ((with_reducible refine g_alloc ?_); refine s_allocS hE hS rfl rfl ?_; clear hE a hS; intro g a w hE hS)
      | ((with_reducible refine g_build ?_); refine s_build [_, _, _, _, _, _] hE rfl rfl rfl ?_; clear hE a; intro a hE)
      | ((with_reducible refine g_store ?_); (first | (refine s_storeW (k := 0) hS hE rfl rfl rfl rfl rfl (by first | (simp [Value.oneCell']; done)) ?_) ); clear hS; intro w hS; simp only [List.set_cons_zero, List.set_cons_succ, Nat.add_zero] at hS)
      )
    obtain ⟨b6, rfl⟩ : ∃ x, x = g := ⟨g, rfl⟩
    have hS2 : St w0 w [hBlk b6 30 (Pg.cells ⟨n, 0, [nilS, nilS, nilS, nilS]⟩), hBlk b4 30 Pg.zero.cells] := hS
    clear hS; have hS := hS2; clear hS2
    have hone0 := Pg.cells_one ⟨n, 0, [nilS, nilS, nilS, nilS]⟩
    refine s_call hE rfl rfl rfl (rnoughts A c b w (hr.st hS) hb (by omega)) ?_
    rintro _ w ⟨rfl, hS1⟩; clear hE a; intro a hE; replace hS := hS.frame hS1; clear hS1; try simp only [List.cons_append, List.nil_append] at hS
    by_cases hl2 : b.length = 256
    · rw [decide_eq_true hl2, Bool.and_true] at hE
      cases hz : zeroB b
      · rw [hz] at hE
        have hx8 : ((b.drop 2).take 8).length = 8 := by rw [List.length_take, List.length_drop]; omega
        have hr8 : Rd w0 (if c = 2 then A else A.map (·.add 2)) (bys ((b.drop 2).take 8)) := by
          have h1 := (hr.cut (c := c) (l := 2) (by rw [bys_length]; exact hcap) 2 rfl).take 8
          have e : bys ((b.drop 2).take 8) = ((bys b).drop 2).take 8 := by unfold bys; rw [List.map_take, List.map_drop]
          rw [e]
          exact h1
        have hb8 : Bs ((b.drop 2).take 8) := fun x hx => hb x (List.mem_of_mem_drop (List.mem_of_mem_take hx))
        have hL8 := bnum_lt64 hb8 (by omega)
        have hnum := fun w' h => rnumber (if c = 2 then A else A.map (·.add 2)) (c - 2) ((b.drop 2).take 8) 8 (w0 := w') h hb8 (by omega) hx8.symm
        repeat' (first

          | (with_reducible refine wp_seq ?_)
          | (with_reducible refine c_region ?_)
          | (with_reducible refine wpList_nil ?_)
          | (with_reducible refine then_normal ?_)
          | (with_reducible refine wp_skip ?_)
          | ((with_reducible refine g_move ?_); refine s_move hE rfl rfl ?_; clear hE a; intro a hE)
          | ((with_reducible refine g_bin .neq ?_); refine s_neq hE rfl rfl rfl ?_; clear hE a; intro a hE)
          | ((with_reducible refine g_blt .len ?_); refine s_len hE rfl rfl ?_; clear hE a; intro a hE)
          | ((with_reducible refine g_cond ?_); refine c_false hE rfl ?_)
          | ((with_reducible refine g_cond ?_); refine c_dec hE rfl (fun hc => ?_) (fun hc => ?_) <;> try omega)
          | ((with_reducible refine g_sliceLH ?_); refine s_val hE rfl rfl rfl (r_cutLH hE rfl rfl rfl (by omega) (by omega)) ?_; clear hE a; intro a hE)
          )
        refine s_call hE rfl rfl rfl (hnum w (hr8.st hS)) ?_
        clear hnum
        rintro _ w ⟨rfl, hS1⟩; clear hE a; intro a hE; replace hS := hS.frame hS1; clear hS1; try simp only [List.cons_append, List.nil_append] at hS
        generalize hLL : bnum 0 ((b.drop 2).take 8) = L at hE hL8
        repeat' (first

          | (with_reducible refine wp_seq ?_)
          | (with_reducible refine c_region ?_)
          | (with_reducible refine wpList_nil ?_)
          | (with_reducible refine then_normal ?_)
          | (with_reducible refine wp_block ?_)
          | ((with_reducible refine g_move ?_); refine s_move hE rfl rfl ?_; clear hE a; intro a hE)
          | ((with_reducible refine g_fa ?_); refine s_fieldL hE rfl rfl rfl ?_; clear hE a; intro a hE)
          | ((with_reducible refine g_store ?_); (first | (refine s_storeB (k := 0) hS hE rfl rfl rfl rfl rfl rfl ?_) ); clear hS; intro w hS; simp only [List.set_cons_zero, List.set_cons_succ, Nat.add_zero] at hS)
          )
        have hS2 : St w0 w [rowsP [], hBlk b6 30 (pcells n L []), hBlk b4 30 Pg.zero.cells] := rowsP_nil hS
        clear hS; have hS := hS2; clear hS2
        refine wp_loop_ghost (fun q a w => ∃ (k : Nat) (sl : List Sl), k + q = 4 ∧ sl.length = k ∧ sl.map Sl.b = (List.range k).map (slotAt b) ∧ St w0 w [rowsP sl, hBlk b6 30 (pcells n L sl), hBlk b4 30 Pg.zero.cells] ∧ Env 68 [(29, .int .i64 (k : Int)), (0, .int .i64 n), (1, .slice A b.length c), (6, .pointer (some ⟨b6, 0, none⟩)), (4, .pointer (some ⟨b4, 0, none⟩))] a) 4
          ⟨0, [], by omega, rfl, rfl, hS, hE.sub ⟨rfl, rfl, rfl, rfl, rfl, trivial⟩⟩ ?_
        clear hE a hS
        rintro q a w ⟨k, sl, hk, hsl, hsm, hS, hE⟩
        by_cases hk1 : k < 4
        · have hpl2 := pcells_len (n := n) (l := L) (sl := sl) (by omega)
          have hxlt : b.getD (10 + 53 * k) 0 < 256 := by
            rw [List.getD_eq_getElem?_getD, List.getElem?_eq_getElem (by omega)]
            exact hb _ (List.getElem_mem _)
          have hg : (bys b)[((10 : Int) + 53 * (k : Int)).toNat * 1]? = some (.int .u8 ((b.getD (10 + 53 * k) 0 : Nat) : Int)) := by
            rw [show ((10 : Int) + 53 * (k : Int)).toNat * 1 = 10 + 53 * k by omega, bys_get (by omega), List.getD_eq_getElem?_getD, List.getElem?_eq_getElem (by omega)]
            rfl
          have hbl : (bys b).length = b.length := bys_length b
          have hlo := fun h => slotAt_long hl2 hk1 h n
          have hsll : (slotAt b k).length = min (b.getD (10 + 53 * k) 0) 52 := by
            unfold slotAt
            rw [List.length_take, List.length_drop]
            omega
          generalize b.getD (10 + 53 * k) 0 = x at hxlt hg hlo hsll
          by_cases hx52 : 52 < x
          · have ed : decP n b = (PM.zero, 160) := by
              unfold decP
              rw [if_neg (fun h => h hnu), if_neg (fun h => h hl2), hz, if_neg (by decide), if_neg (hlo hx52)]
            repeat' (first

              | (with_reducible refine wp_seq ?_)
              | (with_reducible refine c_region ?_)
              | (with_reducible refine wpList_nil ?_)
              | (with_reducible refine then_normal ?_)
              | (with_reducible refine wp_skip ?_)
              | (with_reducible refine wp_ret ?_)
              | (with_reducible refine then_ret ?_)
              | (with_reducible refine wp_block ?_)
              | (with_reducible refine block_ret ?_)
              | ((with_reducible refine g_move ?_); refine s_move hE rfl rfl ?_; clear hE a; intro a hE)
              | ((with_reducible refine g_assign ?_); refine s_assign hE rfl rfl ?_; clear hE a; intro a hE)
              | ((with_reducible refine g_bin .lss ?_); refine s_lss hE rfl rfl rfl ?_; clear hE a; intro a hE)
              | ((with_reducible refine g_bin .gtr ?_); refine s_gtr hE rfl rfl rfl ?_; clear hE a; intro a hE)
              | ((with_reducible refine g_bin .add ?_); refine s_add hE rfl rfl rfl (by first | exact wrap64_in (by omega) ) ?_; clear hE a; intro a hE)
              | ((with_reducible refine g_bin .mul ?_); refine s_mul hE rfl rfl rfl (by first | exact wrap64_in (by omega) ) ?_; clear hE a; intro a hE)
              | ((with_reducible refine g_conv ?_); refine s_conv hE rfl rfl (by first | exact wrap64_in (by omega) ) ?_; clear hE a; intro a hE)
              | ((with_reducible refine g_cond ?_); refine c_dec hE rfl (fun hc => ?_) (fun hc => ?_) <;> try omega)
              | ((with_reducible refine g_ia ?_); refine s_idxR hE rfl rfl (by omega) (by omega) (by (first | exact Rd.st (by assumption) hS )) (by first | omega ) rfl ?_; clear hE a; intro a hE)
              | ((with_reducible refine g_load ?_); refine s_loadR hE rfl (by (first | exact Rd.st (by assumption) hS )) (by first | exact hg ) rfl ?_; clear hE a; intro a hE)
              | ((with_reducible refine g_build ?_); refine s_build [_, _, _, _, _, _] hE rfl rfl rfl ?_; clear hE a; intro a hE)
              | ((with_reducible refine g_store ?_); (first | (refine s_storeW (k := 2) hS hE rfl rfl rfl rfl rfl (by first | (simp [Value.oneCell']; done)) ?_) ); clear hS; intro w hS; simp only [List.set_cons_zero, List.set_cons_succ, Nat.add_zero] at hS)
              )
            exact retG (vs := [_, _]) hE rfl ⟨⟨_, rfl, res_W (k := 2) hS rfl rfl⟩, rfl, trivial⟩ (out 160 _ hS.nil ed)
          · rw [Nat.min_eq_left (by omega)] at hsll
            have hrk : Rd w0 (if c = ((11 : Int) + 53 * (k : Int)).toNat then A else A.map (·.add (((11 : Int) + 53 * (k : Int)).toNat * 1))) (bys (slotAt b k)) := by
              rw [show ((11 : Int) + 53 * (k : Int)).toNat = 11 + 53 * k by omega, Nat.mul_one]
              have h1 := (hr.cut (c := c) (l := 11 + 53 * k) (by rw [bys_length]; exact hcap) (11 + 53 * k) rfl).take (slotAt b k).length
              have e : bys (slotAt b k) = ((bys b).drop (11 + 53 * k)).take (slotAt b k).length := by
                have e2 : slotAt b k = (b.drop (11 + 53 * k)).take (slotAt b k).length := by
                  conv => lhs; unfold slotAt
                  rw [List.take_eq_take_iff]
                  unfold slotAt
                  rw [List.length_take]
                  omega
                conv => lhs; rw [e2]
                unfold bys
                rw [List.map_take, List.map_drop]
              rw [e]
              exact h1
            have em : ((11 : Int) + 53 * (k : Int) + (x : Int)).toNat - ((11 : Int) + 53 * (k : Int)).toNat = (slotAt b k).length := by omega
            by_cases hx0 : 0 < x
            · repeat' (first
                | ((with_reducible refine g_blt .append ?_); refine s_appendAt0 (k := 0) (size := 1) (bytes := 1) hE hS rfl rfl rfl (hrk.st hS) (by rw [bys_length, Nat.mul_one]; exact em.symm) (bys_one _) (by omega) rfl rfl rfl rfl ?_; clear hE a hS; intro A' c' a w hE hS; simp only [List.set_cons_zero] at hS)
                | (with_reducible refine wp_seq ?_)
                | (with_reducible refine c_region ?_)
                | (with_reducible refine wpList_nil ?_)
                | (with_reducible refine then_normal ?_)
                | (with_reducible refine wp_skip ?_)
                | (with_reducible refine wp_block ?_)
                | ((with_reducible refine g_move ?_); refine s_move hE rfl rfl ?_; clear hE a; intro a hE)
                | ((with_reducible refine g_assign ?_); refine s_assign hE rfl rfl ?_; clear hE a; intro a hE)
                | ((with_reducible refine g_bin .lss ?_); refine s_lss hE rfl rfl rfl ?_; clear hE a; intro a hE)
                | ((with_reducible refine g_bin .gtr ?_); refine s_gtr hE rfl rfl rfl ?_; clear hE a; intro a hE)
                | ((with_reducible refine g_bin .add ?_); refine s_add hE rfl rfl rfl (by first | exact wrap64_in (by omega) ) ?_; clear hE a; intro a hE)
                | ((with_reducible refine g_bin .mul ?_); refine s_mul hE rfl rfl rfl (by first | exact wrap64_in (by omega) ) ?_; clear hE a; intro a hE)
                | ((with_reducible refine g_conv ?_); refine s_conv hE rfl rfl (by first | exact wrap64_in (by omega) ) ?_; clear hE a; intro a hE)
                | ((with_reducible refine g_fa ?_); refine s_fieldL hE rfl rfl rfl ?_; clear hE a; intro a hE)
                | ((with_reducible refine g_cond ?_); refine c_dec hE rfl (fun hc => ?_) (fun hc => ?_) <;> try omega)
                | ((with_reducible refine g_ia ?_); refine s_idxR hE rfl rfl (by omega) (by omega) (by (first | exact Rd.st (by assumption) hS )) (by first | omega ) rfl ?_; clear hE a; intro a hE)
                | ((with_reducible refine g_ia ?_); refine s_val hE rfl rfl rfl (r_idxP hE rfl rfl (by omega) (by omega)) ?_; clear hE a; intro a hE)
                | ((with_reducible refine g_load ?_); refine s_loadR hE rfl (by (first | exact Rd.st (by assumption) hS )) (by first | exact hg ) rfl ?_; clear hE a; intro a hE)
                | ((with_reducible refine g_lit ?_); refine s_lit hE hS rfl rfl rfl rfl rfl (by first | (simp [Value.oneCell']; done)) rfl ?_; clear hE a hS; intro g a w hE hS)
                | ((with_reducible refine g_sliceLH ?_); refine s_val hE rfl rfl rfl (r_cutLH hE rfl rfl rfl (by omega) (by omega)) ?_; clear hE a; intro a hE)
                )
              rw [em] at hE hS
              refine s_storeB (k := 2) hS hE rfl rfl rfl rfl (by rw [hpl2, Nat.blt_eq]; omega) rfl ?_
              clear hS; intro w hS
              simp only [List.set_cons_zero, List.set_cons_succ] at hS
              rw [show 0 + 2 + ((k : Nat) : Int).toNat * 1 = 2 + k by omega] at hS
              rw [show (pcells n L sl).set (2 + k) (Value.slice A' (slotAt b k).length c') = pcells n L (sl ++ [⟨A', c', slotAt b k⟩]) from pcells_set hsl hk1 ⟨A', c', slotAt b k⟩] at hS
              repeat' (first

                | (with_reducible refine c_region ?_)
                | (with_reducible refine wpList_nil ?_)
                | (with_reducible refine then_normal ?_)
                | (with_reducible refine block_normal ?_)
                | ((with_reducible refine g_move ?_); refine s_move hE rfl rfl ?_; clear hE a; intro a hE)
                | ((with_reducible refine g_bin .add ?_); refine s_add hE rfl rfl rfl (by first  | exact wrap64_in (by omega) ) ?_; clear hE a; intro a hE)
                )
              exact ⟨q - 1, by omega, k + 1, sl ++ [⟨A', c', slotAt b k⟩], by omega, by rw [List.length_append, hsl]; rfl, by rw [List.map_append, hsm, List.range_succ, List.map_append]; rfl, rowsP_add (s := ⟨A', c', slotAt b k⟩) hS, hE.sub ⟨rfl, rfl, rfl, rfl, rfl, trivial⟩⟩
            · have hs0 : slotAt b k = [] := List.eq_nil_of_length_eq_zero (by omega)
              repeat' (first

                | (with_reducible refine wp_seq ?_)
                | (with_reducible refine c_region ?_)
                | (with_reducible refine wpList_nil ?_)
                | (with_reducible refine then_normal ?_)
                | (with_reducible refine wp_skip ?_)
                | (with_reducible refine wp_block ?_)
                | (with_reducible refine block_normal ?_)
                | ((with_reducible refine g_move ?_); refine s_move hE rfl rfl ?_; clear hE a; intro a hE)
                | ((with_reducible refine g_assign ?_); refine s_assign hE rfl rfl ?_; clear hE a; intro a hE)
                | ((with_reducible refine g_bin .lss ?_); refine s_lss hE rfl rfl rfl ?_; clear hE a; intro a hE)
                | ((with_reducible refine g_bin .gtr ?_); refine s_gtr hE rfl rfl rfl ?_; clear hE a; intro a hE)
                | ((with_reducible refine g_bin .add ?_); refine s_add hE rfl rfl rfl (by first | exact wrap64_in (by omega) ) ?_; clear hE a; intro a hE)
                | ((with_reducible refine g_bin .mul ?_); refine s_mul hE rfl rfl rfl (by first | exact wrap64_in (by omega) ) ?_; clear hE a; intro a hE)
                | ((with_reducible refine g_conv ?_); refine s_conv hE rfl rfl (by first | exact wrap64_in (by omega) ) ?_; clear hE a; intro a hE)
                | ((with_reducible refine g_cond ?_); refine c_dec hE rfl (fun hc => ?_) (fun hc => ?_) <;> try omega)
                | ((with_reducible refine g_ia ?_); refine s_idxR hE rfl rfl (by omega) (by omega) (by (first | exact Rd.st (by assumption) hS )) (by first | omega ) rfl ?_; clear hE a; intro a hE)
                | ((with_reducible refine g_load ?_); refine s_loadR hE rfl (by (first | exact Rd.st (by assumption) hS )) (by first | exact hg ) rfl ?_; clear hE a; intro a hE)
                )
              exact ⟨q - 1, by omega, k + 1, sl ++ [nilS], by omega, by rw [List.length_append, hsl]; rfl, by rw [List.map_append, hsm, List.range_succ, List.map_append]; show _ ++ [[]] = _ ++ [slotAt b k]; rw [hs0], by rw [pcells_nil (by omega)]; exact rowsP_add (s := nilS) (St.rowNil hS _ _), hE.sub ⟨rfl, rfl, rfl, rfl, rfl, trivial⟩⟩
        · obtain rfl : k = 4 := by omega
          have hsh : ∀ s ∈ sl, s.b.length ≤ 52 ∧ Bs s.b := by
            intro s hs
            have hm : s.b ∈ sl.map Sl.b := List.mem_map_of_mem hs
            rw [hsm] at hm
            obtain ⟨i, _, hi⟩ := List.mem_map.1 hm
            rw [← hi]
            exact ⟨slotAt_le b i, slotAt_bs hb i⟩
          have hlen := rowsP_len hS
          have hrd := rowsP_rd hS
          have hpw : Pg.wf ⟨n, L, sl⟩ := ⟨hsl, hn, hL8, fun s hs => ⟨(hlen s hs).1, by have := (hsh s hs).1; omega, (hsh s hs).2⟩⟩
          have hpm : Pg.m ⟨n, L, sl⟩ = parse n b := by
            unfold Pg.m parse
            dsimp only
            rw [hsm, hLL]
          have hmok := hpw.ok
          have hms : ∀ x ∈ (Pg.m ⟨n, L, sl⟩).s, x.length ≤ 52 := by rw [hpm]; exact parse_short
          have hri : (Pg.m ⟨n, L, sl⟩).right = true := (right_iff _).2 ⟨hnu, hms⟩
          rw [pcells_full hsl] at hS
          have hcl : (Pg.cells ⟨n, L, sl⟩).length = 6 := by simp [hsl]
          have hone := Pg.cells_one ⟨n, L, sl⟩
          repeat' (first

            | (with_reducible refine wp_seq ?_)
            | (with_reducible refine c_region ?_)
            | (with_reducible refine wpList_nil ?_)
            | (with_reducible refine then_normal ?_)
            | (with_reducible refine wp_exit ?_)
            | (with_reducible refine then_exit ?_)
            | (with_reducible refine block_same ?_)
            | ((with_reducible refine g_bin .lss ?_); refine s_lss hE rfl rfl rfl ?_; clear hE a; intro a hE)
            | ((with_reducible refine g_cond ?_); refine c_false hE rfl ?_)
            )
          refine c_ordK hS 1 rfl 6 ((.rd 0 (.rd 3 (.rd 4 (.ef 1 (.rd 2 (.rd 5 .done))))))) mixed (by decide +kernel) ?_
          clear hS; intro w hF hS
          repeat' (first
            | (with_reducible refine o_rd rfl ?_)
            | ((with_reducible refine q_move ?_); refine d_val hE hS rfl (fun w hS => r_move hE rfl) ?_; clear hE a; intro a hE)
            | ((with_reducible refine q_load ?_); (first | (refine d_val hE hS rfl (fun w hS => r_loadW (k := 0) hS hE rfl rfl (by assumption)) ?_) ); clear hE a; intro a hE)
            )
          refine d_val hE hS rfl (fun w hS => r_str hE rfl (hr.st hS) rfl) ?_; clear hE a; intro a hE
          repeat' (first
            | ((with_reducible refine o_ef rfl ?_))
            )
          refine s_call hE rfl rfl rfl (rbytes ⟨n, L, sl⟩ hpw (rowsP_rdAt hF (k := 0) rfl) hri) ?_
          rintro _ w ⟨A5, c5, rfl, hS1⟩; clear hE a; intro a hE; replace hF := hF.frame hS1; clear hS1; simp only [List.cons_append, List.nil_append] at hF
          refine wpList_nil ?_
          refine o_back (fun u => St w0 u _) (fun u h => St.tail h) (hF.only2 2 0 rfl rfl) ?_
          clear hS; have hS := hF.only2 2 0 rfl rfl
          repeat' (first
            | (with_reducible refine o_rd rfl ?_)
            )
          refine d_val hE hS rfl (fun w hS => r_str hE rfl hS.rd (enc_len hmok.s4 hms)) ?_; clear hE a; intro a hE
          repeat' (first
            | (with_reducible refine o_rd rfl ?_)
            )
          refine d_val hE hS rfl (fun w hS => r_sne hE rfl rfl) ?_; clear hE a; intro a hE
          rw [str_beq (enc_bs hmok hms) hb, hpm] at hE
          clear hS; have hS := hF; clear hF
          by_cases he : (parse n b).enc = b
          · rw [decide_eq_true he] at hE
            have ed : decP n b = (parse n b, 0) := by
              unfold decP
              rw [if_neg (fun h => h hnu), if_neg (fun h => h hl2), hz, if_neg (by decide), if_pos he]
            repeat' (first
              | (with_reducible refine o_done ?_)
              )
            repeat' (first

              | (with_reducible refine wp_seq ?_)
              | (with_reducible refine c_region ?_)
              | (with_reducible refine wpList_nil ?_)
              | (with_reducible refine then_normal ?_)
              | (with_reducible refine wp_skip ?_)
              | (with_reducible refine wp_ret ?_)
              | ((with_reducible refine g_assign ?_); refine s_assign hE rfl rfl ?_; clear hE a; intro a hE)
              | ((with_reducible refine g_cond ?_); refine c_false hE rfl ?_)
              | ((with_reducible refine g_load ?_); (first | (refine s_loadW (k := 2) hS hE rfl rfl (by first | assumption ) rfl ?_) ); clear hE a; intro a hE)
              | ((with_reducible refine g_store ?_); (first | (refine s_storeW (k := 3) hS hE rfl rfl rfl (by assumption) (by first | rfl ) (by first | assumption) ?_) ); clear hS; intro w hS; simp only [List.set_cons_zero, List.set_cons_succ, Nat.add_zero] at hS)
              )
            refine retG (vs := [_, _]) hE rfl ⟨⟨_, rfl, res_W (k := 3) hS rfl hcl⟩, rfl, trivial⟩ ⟨⟨n, L, sl⟩, ?_, ?_, hpw, hS.only 1 rfl⟩
            · rw [ed]; rfl
            · rw [ed]; exact hpm
          · rw [decide_eq_false he] at hE
            have ed : decP n b = (PM.zero, 160) := by
              unfold decP
              rw [if_neg (fun h => h hnu), if_neg (fun h => h hl2), hz, if_neg (by decide), if_neg he]
            repeat' (first
              | (with_reducible refine o_done ?_)
              )
            repeat' (first

              | (with_reducible refine wp_seq ?_)
              | (with_reducible refine c_region ?_)
              | (with_reducible refine wpList_nil ?_)
              | (with_reducible refine then_normal ?_)
              | (with_reducible refine wp_ret ?_)
              | (with_reducible refine then_ret ?_)
              | ((with_reducible refine g_assign ?_); refine s_assign hE rfl rfl ?_; clear hE a; intro a hE)
              | ((with_reducible refine g_cond ?_); refine c_true hE rfl ?_)
              | ((with_reducible refine g_build ?_); refine s_build [_, _, _, _, _, _] hE rfl rfl rfl ?_; clear hE a; intro a hE)
              | ((with_reducible refine g_store ?_); (first | (refine s_storeW (k := 3) hS hE rfl rfl rfl rfl rfl (by first | (simp [Value.oneCell']; done)) ?_) ); clear hS; intro w hS; simp only [List.set_cons_zero, List.set_cons_succ, Nat.add_zero] at hS)
              )
            exact retG (vs := [_, _]) hE rfl ⟨⟨_, rfl, res_W (k := 3) hS rfl rfl⟩, rfl, trivial⟩ (out 160 _ hS.nil ed)
      · rw [hz] at hE
        have ed : decP n b = (⟨n, 0, [[], [], [], []]⟩, 0) := by
          unfold decP
          rw [if_neg (fun h => h hnu), if_neg (fun h => h hl2), hz]
          rfl
        repeat' (first

          | (with_reducible refine wp_seq ?_)
          | (with_reducible refine c_region ?_)
          | (with_reducible refine wpList_nil ?_)
          | (with_reducible refine then_normal ?_)
          | (with_reducible refine wp_ret ?_)
          | (with_reducible refine then_ret ?_)
          | ((with_reducible refine g_assign ?_); refine s_assign hE rfl rfl ?_; clear hE a; intro a hE)
          | ((with_reducible refine g_cond ?_); refine c_true hE rfl ?_)
          | ((with_reducible refine g_load ?_); (first | (refine s_loadW (k := 0) hS hE rfl rfl rfl rfl ?_) ); clear hE a; intro a hE)
          | ((with_reducible refine g_store ?_); (first | (refine s_storeW (k := 1) hS hE rfl rfl rfl rfl rfl (by first | assumption ) ?_) ); clear hS; intro w hS; simp only [List.set_cons_zero, List.set_cons_succ, Nat.add_zero] at hS)
          )
        refine retG (vs := [_, _]) hE rfl ⟨⟨_, rfl, res_W (k := 1) hS rfl rfl⟩, rfl, trivial⟩ ⟨⟨n, 0, [nilS, nilS, nilS, nilS]⟩, ?_, ?_, ?_, rowsP_nil4 hS.nil⟩
        · rw [ed]; rfl
        · rw [ed]; rfl
        · exact ⟨rfl, hn, by show 0 < _; decide, Pg.zero_wf.sl⟩
    · rw [decide_eq_false hl2, Bool.and_false] at hE
      have ed : decP n b = (PM.zero, 160) := by
        unfold decP
        rw [if_neg (fun h => h hnu), if_pos hl2]
      repeat' (first

        | (with_reducible refine wp_seq ?_)
        | (with_reducible refine c_region ?_)
        | (with_reducible refine wpList_nil ?_)
        | (with_reducible refine then_normal ?_)
        | (with_reducible refine wp_skip ?_)
        | (with_reducible refine wp_ret ?_)
        | (with_reducible refine then_ret ?_)
        | ((with_reducible refine g_move ?_); refine s_move hE rfl rfl ?_; clear hE a; intro a hE)
        | ((with_reducible refine g_assign ?_); refine s_assign hE rfl rfl ?_; clear hE a; intro a hE)
        | ((with_reducible refine g_bin .neq ?_); refine s_neq hE rfl rfl rfl ?_; clear hE a; intro a hE)
        | ((with_reducible refine g_blt .len ?_); refine s_len hE rfl rfl ?_; clear hE a; intro a hE)
        | ((with_reducible refine g_cond ?_); refine c_false hE rfl ?_)
        | ((with_reducible refine g_cond ?_); refine c_dec hE rfl (fun hc => ?_) (fun hc => ?_) <;> try omega)
        | ((with_reducible refine g_build ?_); refine s_build [_, _, _, _, _, _] hE rfl rfl rfl ?_; clear hE a; intro a hE)
        | ((with_reducible refine g_store ?_); (first | (refine s_storeW (k := 1) hS hE rfl rfl rfl rfl rfl (by first | (simp [Value.oneCell']; done)) ?_) ); clear hS; intro w hS; simp only [List.set_cons_zero, List.set_cons_succ, Nat.add_zero] at hS)
        )
      exact retG (vs := [_, _]) hE rfl ⟨⟨_, rfl, res_W (k := 1) hS rfl rfl⟩, rfl, trivial⟩ (out 160 _ hS.nil ed)
  · have hnu1 : ¬ (0 ≤ n ∧ n < 32) := hnu
    have ed : decP n b = (PM.zero, 2) := by
      unfold decP
      rw [if_pos hnu]
    repeat' (first

      | (with_reducible refine wp_seq ?_)
      | (with_reducible refine c_region ?_)
      | (with_reducible refine wpList_nil ?_)
      | (with_reducible refine then_normal ?_)
      | (with_reducible refine wp_ret ?_)
      | (with_reducible refine then_ret ?_)
      | ((with_reducible refine g_move ?_); refine s_move hE rfl rfl ?_; clear hE a; intro a hE)
      | ((with_reducible refine g_assign ?_); refine s_assign hE rfl rfl ?_; clear hE a; intro a hE)
      | ((with_reducible refine g_bin .lss ?_); refine s_lss hE rfl rfl rfl ?_; clear hE a; intro a hE)
      | ((with_reducible refine g_bin .geq ?_); refine s_geq hE rfl rfl rfl ?_; clear hE a; intro a hE)
      | ((with_reducible refine g_guard ?_); refine gd_yes hE rfl rfl rfl ?_)
      | ((with_reducible refine g_guard ?_); refine gd_no hE rfl rfl rfl rfl ?_; clear hE a; intro a hE)
      | ((with_reducible refine g_guard ?_); refine gd_dec hE rfl rfl (fun hc hE2 => ?_) (fun hc hE2 => ?_) <;> (try omega) <;> (replace hE := hE2; clear hE2))
      | ((with_reducible refine g_pick ?_); refine s_pickT hE rfl rfl rfl ?_; clear hE a; intro a hE)
      | ((with_reducible refine g_pick ?_); refine s_pickF hE rfl rfl rfl ?_; clear hE a; intro a hE)
      | ((with_reducible refine g_cond ?_); refine c_true hE rfl ?_)
      | ((with_reducible refine g_cond ?_); refine c_dec hE rfl (fun hc => ?_) (fun hc => ?_) <;> try omega)
      | ((with_reducible refine g_build ?_); refine s_build [_, _, _, _, _, _] hE rfl rfl rfl ?_; clear hE a; intro a hE)
      | ((with_reducible refine g_store ?_); (first | (refine s_storeW (k := 0) hS hE rfl rfl rfl rfl rfl (by first | (simp [Value.oneCell']; done)) ?_) ); clear hS; intro w hS; simp only [List.set_cons_zero, List.set_cons_succ, Nat.add_zero] at hS)
      )
    all_goals exact retG (vs := [_, _]) hE rfl ⟨⟨_, rfl, res_W (k := 0) hS rfl rfl⟩, rfl, trivial⟩ (out 2 _ hS.nil ed)
end
end Go.Proofs.Ytmdfhhmnlplagaa
