/-
  Contract: decoding a page.
-/
import Derived.Test.YtmdfhhmnlplagaaGF
namespace Go.Proofs.Ytmdfhhmnlplagaa
open Go.RowKit
set_option linter.unusedVariables false
set_option linter.unusedSimpArgs false
attribute [local irreducible] Rd hRow hBlk hRd hRdr rowsP Fn hMarks

theorem zeroP (n : Int) : Pg.cells ⟨n, 0, [nilS, nilS, nilS, nilS]⟩ = pcells n 0 [] := rfl
section
variable {H : List HP} {w0 w : World}
set_option maxHeartbeats 8000000
theorem decode (n : Int) (hn : -9223372036854775808 ≤ n ∧ n ≤ 9223372036854775807) (A : Option Addr) (c : Nat) (b : List Nat) (hr : Rd w0 A (bys b)) (hb : Bs b) (hl : b.length ≤ 100000) (hcap : b.length ≤ c) :
    Fn Try.prog 10 [.int .i64 n, .slice A b.length c] w0 fun v w' => ∃ p : Pg, v = .tuple #[.agg p.cells.toArray, .int .i64 (decP n b).2] ∧ p.m = (decP n b).1 ∧ p.wf ∧ St w0 w' [rowsP p.s] := by
  refine enter 65 Try.func10 rfl rfl rfl ?_
  intro a hE
  have hS := St.start w0
  have out : ∀ (e : Int) (w' : World), St w0 w' [] → decP n b = (PM.zero, e) → ∃ p : Pg, Value.tuple #[.agg Pg.zero.cells.toArray, .int .i64 e] = .tuple #[.agg p.cells.toArray, .int .i64 (decP n b).2] ∧ p.m = (decP n b).1 ∧ p.wf ∧ St w0 w' [rowsP p.s] := by
    intro e w' h1 h2
    rw [h2]
    exact ⟨Pg.zero, rfl, rfl, Pg.zero_wf, rowsP_nil4 h1⟩
  refine wp_seq ?_
  refine c_region ?_
  refine s_allocS hE hS rfl rfl ?_
  clear hE a hS; intro b4 a w hE hS
  repeat' (first

    | (with_reducible refine wp_seq ?_)
    | (with_reducible refine c_region ?_)
    | (with_reducible refine wpList_nil ?_)
    | (with_reducible refine then_normal ?_)
    | (with_reducible refine wp_block ?_)
    | ((with_reducible refine g_move ?_); refine s_move hE rfl rfl ?_; clear hE a; intro a hE)
    | ((with_reducible refine g_assign ?_); refine s_assign hE rfl rfl ?_; clear hE a; intro a hE)
    | ((with_reducible refine g_alloc ?_); refine s_allocS hE hS rfl rfl ?_; clear hE a hS; intro g a w hE hS)
    | ((with_reducible refine g_build ?_); refine s_build [_, _, _, _, _, _] hE rfl rfl rfl ?_; clear hE a; intro a hE)
    | ((with_reducible refine g_store ?_); (first | (refine s_storeW (k := 0) hS hE rfl rfl rfl rfl rfl (by first | (simp [Value.oneCell']; done)) ?_) ); clear hS; intro w hS; simp only [List.set_cons_zero, List.set_cons_succ, Nat.add_zero] at hS)
    )
  obtain ⟨b6, rfl⟩ : ∃ x, x = g := ⟨g, rfl⟩
  have hS2 : St w0 w [hBlk b6 30 (pcells n 0 []), hBlk b4 30 Pg.zero.cells] := hS
  clear hS; have hS := hS2; clear hS2
  have hone0 := pcells_one n 0 []
  refine s_call hE rfl rfl rfl (numbered n w) ?_
  rintro _ w ⟨rfl, hS1⟩; clear hE a; intro a hE; replace hS := hS.frame hS1; clear hS1; try simp only [List.cons_append, List.nil_append] at hS
  by_cases hnu : numd n
  · rw [decide_eq_true hnu] at hE
    by_cases hl2 : b.length = 256
    · repeat' (first

        | (with_reducible refine wp_seq ?_)
        | (with_reducible refine c_region ?_)
        | (with_reducible refine wpList_nil ?_)
        | (with_reducible refine then_normal ?_)
        | ((with_reducible refine g_move ?_); refine s_move hE rfl rfl ?_; clear hE a; intro a hE)
        | ((with_reducible refine g_assign ?_); refine s_assign hE rfl rfl ?_; clear hE a; intro a hE)
        | ((with_reducible refine g_bin .neq ?_); refine s_neq hE rfl rfl rfl ?_; clear hE a; intro a hE)
        | ((with_reducible refine g_un .not ?_); refine s_notb hE rfl rfl ?_; clear hE a; intro a hE)
        | ((with_reducible refine g_blt .len ?_); refine s_len hE rfl rfl ?_; clear hE a; intro a hE)
        | ((with_reducible refine g_cond ?_); refine c_false hE rfl ?_)
        | ((with_reducible refine g_cond ?_); refine c_dec hE rfl (fun hc => ?_) (fun hc => ?_) <;> try omega)
        )
      refine s_call hE rfl rfl rfl (zero A c b w (hr.st hS) hb (by omega)) ?_
      rintro _ w ⟨rfl, hS1⟩; clear hE a; intro a hE; replace hS := hS.frame hS1; clear hS1; try simp only [List.cons_append, List.nil_append] at hS
      cases hz : zeroB b
      · rw [hz] at hE
        have hxl : (b.drop 2).length = 254 := by rw [List.length_drop]; omega
        have hxb : Bs (b.drop 2) := fun x hx => hb x (List.mem_of_mem_drop hx)
        have hrx : Rd w0 (if c = 2 then A else A.map (·.add 2)) (bys (b.drop 2)) := by
          have := hr.cut (c := c) (l := 2) (by rw [bys_length]; exact hcap) 2 rfl
          have e : bys (b.drop 2) = (bys b).drop 2 := List.map_drop ..
          rw [e]
          exact this
        have hre := fun w' (h : Rd w' (if c = 2 then A else A.map (·.add 2)) (bys (b.drop 2))) => read (if c = 2 then A else A.map (·.add 2)) (c - 2) (b.drop 2) w' h (by omega)
        rw [List.length_drop] at hre
        repeat' (first

          | (with_reducible refine wp_seq ?_)
          | (with_reducible refine c_region ?_)
          | (with_reducible refine wpList_nil ?_)
          | (with_reducible refine then_normal ?_)
          | (with_reducible refine wp_skip ?_)
          | (with_reducible refine block_normal ?_)
          | ((with_reducible refine g_move ?_); refine s_move hE rfl rfl ?_; clear hE a; intro a hE)
          | ((with_reducible refine g_assign ?_); refine s_assign hE rfl rfl ?_; clear hE a; intro a hE)
          | ((with_reducible refine g_cond ?_); refine c_false hE rfl ?_)
          | ((with_reducible refine g_sliceL ?_); refine s_val hE rfl rfl rfl (r_cutL hE rfl rfl (by omega)) ?_; clear hE a; intro a hE)
          )
        refine s_call hE rfl rfl rfl (hre w (hrx.st hS)) ?_
        clear hre
        rintro _ w ⟨g, A1, c1, rfl, hS1⟩; clear hE a; intro a hE; replace hS := hS.frame hS1; clear hS1; try simp only [List.cons_append, List.nil_append] at hS
        repeat' (first

          | (with_reducible refine wp_seq ?_)
          | (with_reducible refine c_region ?_)
          | (with_reducible refine wpList_nil ?_)
          | (with_reducible refine then_normal ?_)
          | ((with_reducible refine g_move ?_); refine s_move hE rfl rfl ?_; clear hE a; intro a hE)
          | ((with_reducible refine g_assign ?_); refine s_assign hE rfl rfl ?_; clear hE a; intro a hE)
          )
        have eu : takeM (b.drop 2) 0 0 8 = (((b.drop 2).drop 0).take 8, 0 + 8, 0) := takeM_in (n := 8) (by omega)
        have hu := u64 g A1 c1 (b.drop 2) 0 0 _ w0 w hS hxb (by omega) (by omega)
        rw [eu, List.drop_zero] at hu
        dsimp only at hu
        refine s_call hE rfl rfl rfl hu ?_
        clear hu
        rintro _ w ⟨rfl, hS⟩; clear hE a; intro a hE
        generalize hLL : bnum 0 ((b.drop 2).take 8) = L at hE
        repeat' (first

          | (with_reducible refine wp_seq ?_)
          | (with_reducible refine c_region ?_)
          | (with_reducible refine wpList_nil ?_)
          | (with_reducible refine then_normal ?_)
          | (with_reducible refine wp_block ?_)
          | ((with_reducible refine g_move ?_); refine s_move hE rfl rfl ?_; clear hE a; intro a hE)
          | ((with_reducible refine g_fa ?_); refine s_fieldL hE rfl rfl rfl ?_; clear hE a; intro a hE)
          | ((with_reducible refine g_store ?_); (first | (refine s_storeB (k := 1) hS hE rfl rfl rfl rfl rfl rfl ?_) ); clear hS; intro w hS; simp only [List.set_cons_zero, List.set_cons_succ, Nat.add_zero] at hS)
          )
        have hS2 : St w0 w [hRdr g A1 c1 (b.drop 2) (8 + 53 * 0) 0, rowsP [], hBlk b6 30 (pcells n L []), hBlk b4 30 Pg.zero.cells] := (rowsP_nil hS).p1
        clear hS; have hS := hS2; clear hS2
        refine wp_loop_ghost (fun q a w => ∃ (k : Nat) (sl : List Sl), k + q = 4 ∧ sl.length = k ∧ sl.map Sl.b = (List.range k).map (slotAt b) ∧ St w0 w [hRdr g A1 c1 (b.drop 2) (8 + 53 * k) 0, rowsP sl, hBlk b6 30 (pcells n L sl), hBlk b4 30 Pg.zero.cells] ∧ Env 65 [(39, .int .i64 (k : Int)), (0, .int .i64 n), (1, .slice A b.length c), (6, .pointer (some ⟨b6, 0, none⟩)), (7, .func (.func 29) #[] #[]), (8, .pointer (some ⟨g, 0, none⟩)), (4, .pointer (some ⟨b4, 0, none⟩))] a) 4
          ⟨0, [], by omega, rfl, rfl, hS, hE.sub ⟨rfl, rfl, rfl, rfl, rfl, rfl, rfl, trivial⟩⟩ ?_
        clear hE a hS
        rintro q a w ⟨k, sl, hk, hsl, hsm, hS, hE⟩
        by_cases hk1 : k < 4
        · have hpl2 := pcells_len (n := n) (l := L) (sl := sl) (by omega)
          have e1 : takeM (b.drop 2) (8 + 53 * k) 0 1 = (((b.drop 2).drop (8 + 53 * k)).take 1, 8 + 53 * k + 1, 0) := takeM_in (n := 1) (by omega)
          have hu := u8 g A1 c1 (b.drop 2) (8 + 53 * k) 0 _ w0 w hS hxb (by omega) (by omega)
          rw [e1, List.drop_drop, show 2 + (8 + 53 * k) = 10 + 53 * k by omega, bnum_one (by omega)] at hu
          dsimp only at hu
          have hxlt : b.getD (10 + 53 * k) 0 < 256 := by
            rw [List.getD_eq_getElem?_getD, List.getElem?_eq_getElem (by omega)]
            exact hb _ (List.getElem_mem _)
          have hsll : min (b.getD (10 + 53 * k) 0) 52 = (slotAt b k).length := by
            unfold slotAt
            rw [List.length_take, List.length_drop]
            omega
          have hsd : slotAt b k = ((b.drop (11 + 53 * k)).take 52).take (slotAt b k).length := by
            rw [← hsll, List.take_take, Nat.min_assoc, Nat.min_self]
            rfl
          generalize b.getD (10 + 53 * k) 0 = x at hu hxlt hsll
          have hmin : (if (52 : Int) < (x : Int) then (52 : Int) else (x : Int)) = ((slotAt b k).length : Int) := by
            rw [← hsll]; split <;> omega
          repeat' (first

            | (with_reducible refine wp_seq ?_)
            | (with_reducible refine c_region ?_)
            | (with_reducible refine wpList_nil ?_)
            | (with_reducible refine then_normal ?_)
            | (with_reducible refine wp_skip ?_)
            | (with_reducible refine wp_block ?_)
            | ((with_reducible refine g_move ?_); refine s_move hE rfl rfl ?_; clear hE a; intro a hE)
            | ((with_reducible refine g_assign ?_); refine s_assign hE rfl rfl ?_; clear hE a; intro a hE)
            | ((with_reducible refine g_bin .lss ?_); refine s_lss hE rfl rfl rfl ?_; clear hE a; intro a hE)
            | ((with_reducible refine g_cond ?_); refine c_dec hE rfl (fun hc => ?_) (fun hc => ?_) <;> try omega)
            )
          refine s_call hE rfl rfl rfl hu ?_
          clear hu
          rintro _ w ⟨rfl, hS⟩; clear hE a; intro a hE
          repeat' (first

            | (with_reducible refine c_region ?_)
            | (with_reducible refine wpList_nil ?_)
            | (with_reducible refine then_normal ?_)
            | ((with_reducible refine g_move ?_); refine s_move hE rfl rfl ?_; clear hE a; intro a hE)
            | ((with_reducible refine g_assign ?_); refine s_assign hE rfl rfl ?_; clear hE a; intro a hE)
            | ((with_reducible refine g_conv ?_); refine s_conv hE rfl rfl (by first | exact wrap64_in (by omega) ) ?_; clear hE a; intro a hE)
            | ((with_reducible refine g_blt .min ?_); refine s_min hE rfl rfl rfl (by first | exact hmin ) ?_; clear hE a; intro a hE)
            )
          have e2 : takeM (b.drop 2) (8 + 53 * k + 1) 0 52 = (((b.drop 2).drop (8 + 53 * k + 1)).take 52, 8 + 53 * k + 1 + 52, 0) := takeM_in (n := 52) (by omega)
          have hu := raw g A1 c1 (b.drop 2) (8 + 53 * k + 1) 0 52 _ w0 w hS (by omega) (by omega) (by decide)
          have hrl : ((b.drop (11 + 53 * k)).take 52).length = 52 := by rw [List.length_take, List.length_drop]; omega
          rw [e2, List.drop_drop, show 2 + (8 + 53 * k + 1) = 11 + 53 * k by omega] at hu
          dsimp only at hu
          rw [hrl] at hu
          refine s_call hE rfl rfl rfl hu ?_
          clear hu
          rintro _ w ⟨A2, c2, rfl, hS⟩; clear hE a; intro a hE
          obtain ⟨_, hc52, _⟩ := hS.lenAt (k := 0) rfl
          have hsle := slotAt_le b k
          repeat' (first

            | ((with_reducible refine g_move ?_); refine s_move hE rfl rfl ?_; clear hE a; intro a hE)
            | ((with_reducible refine g_sliceH ?_); refine s_val hE rfl rfl rfl (r_cutH hE rfl rfl (by omega)) ?_; clear hE a; intro a hE)
            )
          refine s_call hE rfl rfl rfl (bcloneN A2 c2 (slotAt b k) (slotAt b k).length w (by rw [hsd]; have := hS.rd.take (slotAt b k).length; unfold bys at this ⊢; rw [List.map_take]; exact this) (by omega) rfl) ?_
          rintro _ w ⟨A3, c3, rfl, hS1⟩; clear hE a; intro a hE; replace hS := hS.frame hS1; clear hS1; try simp only [List.cons_append, List.nil_append] at hS
          repeat' (first

            | ((with_reducible refine g_fa ?_); refine s_fieldL hE rfl rfl rfl ?_; clear hE a; intro a hE)
            | ((with_reducible refine g_ia ?_); refine s_val hE rfl rfl rfl (r_idxP hE rfl rfl (by omega) (by omega)) ?_; clear hE a; intro a hE)
            )
          have eo : 0 + 2 + ((k : Nat) : Int).toNat * 1 = 2 + k := by omega
          refine s_storeB (k := 4) hS hE rfl rfl rfl rfl (by rw [hpl2, Nat.blt_eq]; omega) rfl ?_
          clear hS; intro w hS
          simp only [List.set_cons_zero, List.set_cons_succ] at hS
          rw [eo, pcells_set hsl hk1 ⟨A3, c3, slotAt b k⟩] at hS
          repeat' (first

            | (with_reducible refine c_region ?_)
            | (with_reducible refine wpList_nil ?_)
            | (with_reducible refine then_normal ?_)
            | (with_reducible refine block_normal ?_)
            | ((with_reducible refine g_move ?_); refine s_move hE rfl rfl ?_; clear hE a; intro a hE)
            | ((with_reducible refine g_bin .add ?_); refine s_add hE rfl rfl rfl (by first  | exact wrap64_in (by omega) ) ?_; clear hE a; intro a hE)
            )
          refine ⟨q - 1, by omega, k + 1, sl ++ [⟨A3, c3, slotAt b k⟩], by omega, by rw [List.length_append, hsl]; rfl, ?_, ?_, hE.sub ⟨rfl, rfl, rfl, rfl, rfl, rfl, rfl, trivial⟩⟩
          · rw [List.map_append, hsm, List.range_succ, List.map_append]; rfl
          · have hS2 := hS.drop 1
            simp only [List.eraseIdx_cons_succ, List.eraseIdx_cons_zero] at hS2
            exact St.p1 (rowsP_add (s := ⟨A3, c3, slotAt b k⟩) (St.p1 (St.p2 hS2)))
        · obtain rfl : k = 4 := by omega
          have hsh : ∀ s ∈ sl, s.b.length ≤ 52 ∧ Bs s.b := by
            intro s hs
            have hm : s.b ∈ sl.map Sl.b := List.mem_map_of_mem hs
            rw [hsm] at hm
            obtain ⟨i, _, hi⟩ := List.mem_map.1 hm
            rw [← hi]
            exact ⟨slotAt_le b i, slotAt_bs hb i⟩
          have hlen := rowsP_len hS.tail
          have hrd := rowsP_rd hS.tail
          have hpw : Pg.wf ⟨n, L, sl⟩ := ⟨hsl, hn, by rw [← hLL]; exact bnum_lt64 (fun c hc => hb c (List.mem_of_mem_drop (List.mem_of_mem_take hc))) (by rw [List.length_take]; omega), fun s hs => ⟨(hlen s hs).1, by have := (hsh s hs).1; omega, (hsh s hs).2⟩⟩
          have hpm : Pg.m ⟨n, L, sl⟩ = parse n b := by
            unfold Pg.m parse
            dsimp only
            rw [hsm, hLL]
          rw [pcells_full hsl] at hS
          have hcl : (Pg.cells ⟨n, L, sl⟩).length = 6 := by simp [hsl]
          have hone := Pg.cells_one ⟨n, L, sl⟩
          repeat' (first

            | (with_reducible refine wp_seq ?_)
            | (with_reducible refine c_region ?_)
            | (with_reducible refine wpList_nil ?_)
            | (with_reducible refine then_normal ?_)
            | (with_reducible refine wp_exit ?_)
            | (with_reducible refine then_exit ?_)
            | (with_reducible refine block_same ?_)
            | ((with_reducible refine g_bin .lss ?_); refine s_lss hE rfl rfl rfl ?_; clear hE a; intro a hE)
            | ((with_reducible refine g_cond ?_); refine c_false hE rfl ?_)
            | ((with_reducible refine g_load ?_); (first | (refine s_loadW (k := 2) hS hE rfl rfl (by first | assumption ) rfl ?_) ); clear hE a; intro a hE)
            )
          refine s_call hE rfl rfl rfl (laid ⟨n, L, sl⟩ hpw hnu (fun s hs => (hsh s hs).1) w hrd) ?_
          rintro _ w ⟨A5, c5, rfl, hS1⟩; clear hE a; intro a hE; replace hS := hS.frame hS1; clear hS1; try simp only [List.cons_append, List.nil_append] at hS
          have hmok := hpw.ok
          have hms : ∀ x ∈ (Pg.m ⟨n, L, sl⟩).s, x.length ≤ 52 := by rw [hpm]; exact parse_short
          repeat' (first

            | ((with_reducible refine g_move ?_); refine s_move hE rfl rfl ?_; clear hE a; intro a hE)
            )
          refine s_call hE rfl rfl rfl (bequal A5 A c5 c (Pg.m ⟨n, L, sl⟩).enc b 256 b.length w hS.rd (hr.st hS) (enc_bs hmok hms) hb (enc_len hmok.s4 hms).symm rfl) ?_
          rintro _ w ⟨rfl, hS1⟩; clear hE a; intro a hE; replace hS := hS.frame hS1; clear hS1; try simp only [List.cons_append, List.nil_append] at hS
          rw [hpm] at hE
          by_cases he : (parse n b).enc = b
          · rw [decide_eq_true he] at hE
            have ed : decP n b = (parse n b, 0) := by
              unfold decP
              rw [if_neg (fun h => h hnu), if_neg (fun h => h hl2), hz, if_neg (by decide), if_pos he]
            repeat' (first

              | (with_reducible refine wp_seq ?_)
              | (with_reducible refine c_region ?_)
              | (with_reducible refine wpList_nil ?_)
              | (with_reducible refine then_normal ?_)
              | (with_reducible refine wp_skip ?_)
              | (with_reducible refine wp_ret ?_)
              | ((with_reducible refine g_assign ?_); refine s_assign hE rfl rfl ?_; clear hE a; intro a hE)
              | ((with_reducible refine g_un .not ?_); refine s_notb hE rfl rfl ?_; clear hE a; intro a hE)
              | ((with_reducible refine g_cond ?_); refine c_false hE rfl ?_)
              | ((with_reducible refine g_load ?_); (first | (refine s_loadW (k := 3) hS hE rfl rfl (by first | assumption ) rfl ?_) ); clear hE a; intro a hE)
              | ((with_reducible refine g_store ?_); (first | (refine s_storeW (k := 4) hS hE rfl rfl rfl (by assumption) (by first | rfl ) (by first | assumption) ?_) ); clear hS; intro w hS; simp only [List.set_cons_zero, List.set_cons_succ, Nat.add_zero] at hS)
              )
            refine retG (vs := [_, _]) hE rfl ⟨⟨_, rfl, res_W (k := 4) hS rfl hcl⟩, rfl, trivial⟩ ⟨⟨n, L, sl⟩, ?_, ?_, hpw, hS.only 2 rfl⟩
            · rw [ed]; rfl
            · rw [ed]; exact hpm
          · rw [decide_eq_false he] at hE
            have ed : decP n b = (PM.zero, 160) := by
              unfold decP
              rw [if_neg (fun h => h hnu), if_neg (fun h => h hl2), hz, if_neg (by decide), if_neg he]
            repeat' (first

              | (with_reducible refine wp_seq ?_)
              | (with_reducible refine c_region ?_)
              | (with_reducible refine wpList_nil ?_)
              | (with_reducible refine then_normal ?_)
              | ((with_reducible refine g_move ?_); refine s_move hE rfl rfl ?_; clear hE a; intro a hE)
              | ((with_reducible refine g_un .not ?_); refine s_notb hE rfl rfl ?_; clear hE a; intro a hE)
              | ((with_reducible refine g_cond ?_); refine c_true hE rfl ?_)
              )
            refine s_call (first := #[]) hE rfl rfl rfl (wrong 160 w) ?_
            rintro _ w ⟨rfl, hS1⟩; clear hE a; intro a hE; replace hS := hS.frame hS1; clear hS1; try simp only [List.cons_append, List.nil_append] at hS
            repeat' (first

              | (with_reducible refine wpList_nil ?_)
              | (with_reducible refine then_normal ?_)
              | (with_reducible refine wp_ret ?_)
              | (with_reducible refine then_ret ?_)
              | ((with_reducible refine g_assign ?_); refine s_assign hE rfl rfl ?_; clear hE a; intro a hE)
              | ((with_reducible refine g_extract ?_); refine s_extract hE rfl rfl rfl ?_; clear hE a; intro a hE)
              | ((with_reducible refine g_store ?_); (first | (refine s_storeW (k := 4) hS hE rfl rfl rfl rfl rfl (by first | (simp [Value.oneCell']; done)) ?_) ); clear hS; intro w hS; simp only [List.set_cons_zero, List.set_cons_succ, Nat.add_zero] at hS)
              )
            exact retG (vs := [_, _]) hE rfl ⟨⟨_, rfl, res_W (k := 4) hS rfl rfl⟩, rfl, trivial⟩ (out 160 _ hS.nil ed)
      · rw [hz] at hE
        have ed : decP n b = (⟨n, 0, [[], [], [], []]⟩, 0) := by
          unfold decP
          rw [if_neg (fun h => h hnu), if_neg (fun h => h hl2), hz]
          rfl
        repeat' (first

          | (with_reducible refine wp_seq ?_)
          | (with_reducible refine c_region ?_)
          | (with_reducible refine wpList_nil ?_)
          | (with_reducible refine then_normal ?_)
          | (with_reducible refine wp_ret ?_)
          | (with_reducible refine then_ret ?_)
          | (with_reducible refine block_ret ?_)
          | ((with_reducible refine g_assign ?_); refine s_assign hE rfl rfl ?_; clear hE a; intro a hE)
          | ((with_reducible refine g_cond ?_); refine c_true hE rfl ?_)
          | ((with_reducible refine g_load ?_); (first | (refine s_loadW (k := 0) hS hE rfl rfl rfl rfl ?_) ); clear hE a; intro a hE)
          | ((with_reducible refine g_store ?_); (first | (refine s_storeW (k := 1) hS hE rfl rfl rfl rfl rfl (by first | assumption ) ?_) ); clear hS; intro w hS; simp only [List.set_cons_zero, List.set_cons_succ, Nat.add_zero] at hS)
          )
        refine retG (vs := [_, _]) hE rfl ⟨⟨_, rfl, res_W (k := 1) hS rfl rfl⟩, rfl, trivial⟩ ⟨⟨n, 0, [nilS, nilS, nilS, nilS]⟩, ?_, ?_, ?_, rowsP_nil4 hS.nil⟩
        · rw [ed]; rfl
        · rw [ed]; rfl
        · exact ⟨rfl, hn, by show 0 < _; decide, Pg.zero_wf.sl⟩
    · have ed : decP n b = (PM.zero, 160) := by
        unfold decP
        rw [if_neg (fun h => h hnu), if_pos hl2]
      repeat' (first

        | (with_reducible refine wp_seq ?_)
        | (with_reducible refine c_region ?_)
        | (with_reducible refine wpList_nil ?_)
        | (with_reducible refine then_normal ?_)
        | ((with_reducible refine g_move ?_); refine s_move hE rfl rfl ?_; clear hE a; intro a hE)
        | ((with_reducible refine g_assign ?_); refine s_assign hE rfl rfl ?_; clear hE a; intro a hE)
        | ((with_reducible refine g_bin .neq ?_); refine s_neq hE rfl rfl rfl ?_; clear hE a; intro a hE)
        | ((with_reducible refine g_un .not ?_); refine s_notb hE rfl rfl ?_; clear hE a; intro a hE)
        | ((with_reducible refine g_blt .len ?_); refine s_len hE rfl rfl ?_; clear hE a; intro a hE)
        | ((with_reducible refine g_cond ?_); refine c_false hE rfl ?_)
        | ((with_reducible refine g_cond ?_); refine c_dec hE rfl (fun hc => ?_) (fun hc => ?_) <;> try omega)
        )
      refine s_call (first := #[]) hE rfl rfl rfl (wrong 160 w) ?_
      rintro _ w ⟨rfl, hS1⟩; clear hE a; intro a hE; replace hS := hS.frame hS1; clear hS1; try simp only [List.cons_append, List.nil_append] at hS
      repeat' (first

        | (with_reducible refine wpList_nil ?_)
        | (with_reducible refine then_normal ?_)
        | (with_reducible refine wp_ret ?_)
        | (with_reducible refine then_ret ?_)
        | (with_reducible refine block_ret ?_)
        | ((with_reducible refine g_assign ?_); refine s_assign hE rfl rfl ?_; clear hE a; intro a hE)
        | ((with_reducible refine g_extract ?_); refine s_extract hE rfl rfl rfl ?_; clear hE a; intro a hE)
        | ((with_reducible refine g_store ?_); (first | (refine s_storeW (k := 1) hS hE rfl rfl rfl rfl rfl (by first | (simp [Value.oneCell']; done)) ?_) ); clear hS; intro w hS; simp only [List.set_cons_zero, List.set_cons_succ, Nat.add_zero] at hS)
        )
      exact retG (vs := [_, _]) hE rfl ⟨⟨_, rfl, res_W (k := 1) hS rfl rfl⟩, rfl, trivial⟩ (out 160 _ hS.nil ed)
  · rw [decide_eq_false hnu] at hE
    have ed : decP n b = (PM.zero, 2) := by
      unfold decP
      rw [if_pos hnu]
    repeat' (first

      | (with_reducible refine wp_seq ?_)
      | (with_reducible refine c_region ?_)
      | (with_reducible refine wpList_nil ?_)
      | (with_reducible refine then_normal ?_)
      | ((with_reducible refine g_move ?_); refine s_move hE rfl rfl ?_; clear hE a; intro a hE)
      | ((with_reducible refine g_assign ?_); refine s_assign hE rfl rfl ?_; clear hE a; intro a hE)
      | ((with_reducible refine g_un .not ?_); refine s_notb hE rfl rfl ?_; clear hE a; intro a hE)
      | ((with_reducible refine g_cond ?_); refine c_true hE rfl ?_)
      )
    refine s_call (first := #[]) hE rfl rfl rfl (wrong 2 w) ?_
    rintro _ w ⟨rfl, hS1⟩; clear hE a; intro a hE; replace hS := hS.frame hS1; clear hS1; try simp only [List.cons_append, List.nil_append] at hS
    repeat' (first

      | (with_reducible refine wpList_nil ?_)
      | (with_reducible refine then_normal ?_)
      | (with_reducible refine wp_ret ?_)
      | (with_reducible refine then_ret ?_)
      | (with_reducible refine block_ret ?_)
      | ((with_reducible refine g_assign ?_); refine s_assign hE rfl rfl ?_; clear hE a; intro a hE)
      | ((with_reducible refine g_extract ?_); refine s_extract hE rfl rfl rfl ?_; clear hE a; intro a hE)
      | ((with_reducible refine g_store ?_); (first | (refine s_storeW (k := 1) hS hE rfl rfl rfl rfl rfl (by first | (simp [Value.oneCell']; done)) ?_) ); clear hS; intro w hS; simp only [List.set_cons_zero, List.set_cons_succ, Nat.add_zero] at hS)
      )
    exact retG (vs := [_, _]) hE rfl ⟨⟨_, rfl, res_W (k := 1) hS rfl rfl⟩, rfl, trivial⟩ (out 2 _ hS.nil ed)
end
end Go.Proofs.Ytmdfhhmnlplagaa
