/-
  Contracts: a frame's sectors, one by one.
-/
import Derived.Test.YtfoeelghehjanaaWC
namespace Go.Proofs.Ytfoeelghehjanaa
open Go.RowKit
set_option linter.unusedVariables false
set_option linter.unusedSimpArgs false
attribute [local irreducible] Rd hRow hBlk hRd hRdr rowsP Fn hMarks

abbrev ptBx (g8 g3 g4 g7 : Nat) (A : Option Addr) (c t n : Nat) (b : List Nat) : List HP :=
  [hBlk g8 3 [.int .i64 (secN b.length : Int)], hBlk g3 52 [.int .u32 (t : Int)], hBlk g4 52 [.int .u32 (n : Int)], hBlk g7 34 [.slice A (allB b).length c], hRow 5 1 A (allB b).length c (bys (allB b))]
def fullP (t n : Nat) (b : List Nat) : List (Nat × Blk) := (List.range (secN b.length)).map fun k => (k, partB t n b k)
abbrev encP (x : Nat × Blk) : List Value := [.int .i64 (x.1 : Int), .agg (bys x.2).toArray]
section
variable {H : List HP} {w0 w : World}
set_option maxHeartbeats 8000000
theorem parts (t n : Nat) (b : List Nat) (A : Option Addr) (c m : Nat) (hm : m = b.length) (hb : Bs b) (hl : b.length ≤ 40000) (w0 : World) (hr : Rd w0 A (bys b)) :
    Fn Try.prog 82 [.int .u32 (t : Int), .int .u32 (n : Int), .slice A m c] w0 fun v w' => ∃ g8 g3 g4 g7 A' c', v = .func (.func 95) #[] #[.pointer (some ⟨g8, 0, none⟩), .pointer (some ⟨g3, 0, none⟩), .pointer (some ⟨g4, 0, none⟩), .pointer (some ⟨g7, 0, none⟩)] ∧ St w0 w' (ptBx g8 g3 g4 g7 A' c' t n b) := by
  subst hm
  have hfit := secN_fit hl
  have hsec := secN_le b.length
  have e1 : IntKind.u32.wrap (b.length : Int) = (b.length : Int) := wrap_u32_in (by omega)
  refine enter 26 Try.func82 rfl rfl rfl ?_
  intro a hE
  have hS := St.start w0
  repeat' (first

    | (with_reducible refine wp_seq ?_)
    | (with_reducible refine c_region ?_)
    | (with_reducible refine wpList_nil ?_)
    | (with_reducible refine then_normal ?_)
    | ((with_reducible refine g_move ?_); refine s_move hE rfl rfl ?_; clear hE a; intro a hE)
    | ((with_reducible refine g_assign ?_); refine s_assign hE rfl rfl ?_; clear hE a; intro a hE)
    | ((with_reducible refine g_conv ?_); refine s_conv hE rfl rfl (by first | exact e1 ) ?_; clear hE a; intro a hE)
    | ((with_reducible refine g_blt .len ?_); refine s_len hE rfl rfl ?_; clear hE a; intro a hE)
    | ((with_reducible refine g_box ?_); refine s_box1 hE hS rfl rfl rfl ?_; clear hE a hS; intro g a w hE hS)
    )
  refine s_call hE rfl rfl rfl (put32 none 0 [] b.length (by omega) w Rd.nil (by decide)) ?_
  rintro _ w ⟨A1, c1, rfl, hS1⟩; clear hE a; intro a hE; replace hS := hS.frame hS1; clear hS1; try simp only [List.cons_append, List.nil_append] at hS
  rw [List.nil_append] at hE
  have hl4 : (beb 4 b.length).length = 4 := beb_length _ _
  repeat' (first
    | ((with_reducible refine g_blt .append ?_); refine s_appendB (k := 0) hE hS rfl rfl rfl (hr.st hS) rfl rfl (by omega) rfl rfl rfl ?_; clear hE a hS; intro A2 c2 a w hE hS; simp only [List.set_cons_zero] at hS)
    | (with_reducible refine wp_seq ?_)
    | (with_reducible refine c_region ?_)
    | (with_reducible refine wpList_nil ?_)
    | (with_reducible refine then_normal ?_)
    | ((with_reducible refine g_move ?_); refine s_move hE rfl rfl ?_; clear hE a; intro a hE)
    | ((with_reducible refine g_blt .len ?_); refine s_len hE rfl rfl ?_; clear hE a; intro a hE)
    | ((with_reducible refine g_store ?_); (first | (refine s_storeB (k := 0) hS hE rfl rfl rfl rfl rfl rfl ?_) ); clear hS; intro w hS; simp only [List.set_cons_zero, List.set_cons_succ, Nat.add_zero] at hS)
    | ((with_reducible refine g_alloc ?_); refine s_alloc1 hE hS rfl rfl ?_; clear hE a hS; intro g a w hE hS)
    )
  refine s_call hE rfl rfl rfl (sectors b.length w) ?_
  rintro _ w ⟨rfl, hS1⟩; clear hE a; intro a hE; replace hS := hS.frame hS1; clear hS1; try simp only [List.cons_append, List.nil_append] at hS
  have hl4b : (beb 4 b.length ++ b).length = 4 + b.length := by rw [List.length_append, hl4]
  have hA : allB b = beb 4 b.length ++ b ++ List.replicate (secN b.length * 48 - (4 + b.length)) 0 := rfl
  have hAl := allB_len hl
  rw [hl4b] at hE hS
  generalize beb 4 b.length ++ b = b1 at hE hS hA
  have e2 : IntKind.i64.wrap (((secN b.length * 48 : Nat) : Int) - ((4 + b.length : Nat) : Int)) = ((secN b.length * 48 - (4 + b.length) : Nat) : Int) := by rw [wrap64_in (by omega)]; omega
  generalize hj : secN b.length * 48 - (4 + b.length) = j at e2 hA
  repeat' (first
    | ((with_reducible refine g_appZ ?_); refine s_appendZ (k := 2) (j := j) (bytes := 1) (z := .int .u8 0) hE hS rfl rfl rfl rfl rfl rfl rfl (by omega) rfl ?_; clear hE a hS; intro A3 c3 a w hE hS; simp only [List.set_cons_zero, List.set_cons_succ] at hE hS)
    | (with_reducible refine wp_seq ?_)
    | (with_reducible refine c_region ?_)
    | (with_reducible refine wpList_nil ?_)
    | (with_reducible refine then_normal ?_)
    | ((with_reducible refine g_bin .sub ?_); refine s_sub hE rfl rfl rfl (by first | exact e2 ) ?_; clear hE a; intro a hE)
    | ((with_reducible refine g_bin .mul ?_); refine s_mul hE rfl rfl rfl (by first | exact wrap64_in (by omega) ) ?_; clear hE a; intro a hE)
    | ((with_reducible refine g_blt .len ?_); refine s_len hE rfl rfl ?_; clear hE a; intro a hE)
    | ((with_reducible refine g_load ?_); (first | (refine s_loadB (k := 0) hS hE rfl rfl rfl rfl ?_) | (refine s_loadB (k := 1) hS hE rfl rfl rfl rfl ?_) ); clear hE a; intro a hE)
    | ((with_reducible refine g_store ?_); (first | (refine s_storeB (k := 0) hS hE rfl rfl rfl rfl rfl rfl ?_) | (refine s_storeB (k := 1) hS hE rfl rfl rfl rfl rfl rfl ?_) ); clear hS; intro w hS; simp only [List.set_cons_zero, List.set_cons_succ, Nat.add_zero] at hS)
    | ((with_reducible refine g_alloc ?_); refine s_alloc1 hE hS rfl rfl ?_; clear hE a hS; intro g a w hE hS)
    )
  refine s_val hE rfl rfl rfl (r_func (first := []) hE rfl rfl) ?_
  clear hE a; intro a hE
  have e3 : bys b1 ++ List.replicate j (Value.int .u8 0) = bys (allB b) := by
    rw [hA]
    unfold bys
    rw [List.map_append, List.map_replicate]
    rfl
  rw [e3, show 4 + b.length + j = (allB b).length by omega] at hS
  have hS2 := ((((hS.focus (k := 2) rfl).focus (k := 2) rfl).focus (k := 3) rfl).focus (k := 4) rfl).focus (k := 4) rfl
  simp only [List.eraseIdx_cons_succ, List.eraseIdx_cons_zero] at hS2
  clear hS; have hS := hS2; clear hS2
  repeat' (first

    | (with_reducible refine wpList_nil ?_)
    | (with_reducible refine then_normal ?_)
    | (with_reducible refine wp_ret ?_)
    | ((with_reducible refine g_assign ?_); refine s_assign hE rfl rfl ?_; clear hE a; intro a hE)
    )
  exact ret1 hE rfl rfl ⟨_, _, _, _, _, _, rfl, hS⟩
theorem fullP_drop {t n : Nat} {b : List Nat} {k : Nat} (h : k < secN b.length) : (fullP t n b).drop k = (k, partB t n b k) :: (fullP t n b).drop (k + 1) := by
  rw [List.drop_eq_getElem_cons (by unfold fullP; simpa using h)]
  congr 1
  simp [fullP]
theorem fullP_len {t n : Nat} {b : List Nat} : (fullP t n b).length = secN b.length := by simp [fullP]
theorem parts_iter (t n : Nat) (ht : t < 4294967296) (hn : n < 4294967296) (b : List Nat) (hb : Bs b) (hl : b.length ≤ 40000) (g8 g3 g4 g7 : Nat) (A : Option Addr) (c : Nat) (w0 : World) :
    Iter Try.prog 95 [.pointer (some ⟨g8, 0, none⟩), .pointer (some ⟨g3, 0, none⟩), .pointer (some ⟨g4, 0, none⟩), .pointer (some ⟨g7, 0, none⟩)] (ptBx g8 g3 g4 g7 A c t n b) encP (fullP t n b) w0 := by
  intro w lp own H J Hx hY hS
  have hsec := secN_le b.length
  have hAl := allB_len hl
  have hF : Fn Try.prog 95 [.func (.yield lp) #[] #[], .pointer (some ⟨g8, 0, none⟩), .pointer (some ⟨g3, 0, none⟩), .pointer (some ⟨g4, 0, none⟩), .pointer (some ⟨g7, 0, none⟩)] w fun v w' =>
      St w0 w' (ptBx g8 g3 g4 g7 A c t n b ++ (H (fullP t n b) ++ own)) ∨ ∃ j pre x post, pre ++ x :: post = fullP t n b ∧ St w0 w' (ptBx g8 g3 g4 g7 A c t n b ++ (Hx j (pre ++ [x]) ++ own)) := by
    refine enterI 51 Try.func95 rfl rfl rfl ?_
    intro a hE
    simp only [ptBx, List.cons_append, List.nil_append] at hS
    repeat' (first

      | (with_reducible refine wpList_nil ?_)
      | (with_reducible refine then_normal ?_)
      | (with_reducible refine i_seq ?_)
      | (with_reducible refine i_block ?_)
      | ((with_reducible refine ig_region ?_); refine i_region rfl (fun _ _ h => h) ?_)
      | ((with_reducible refine g_move ?_); refine s_move hE rfl rfl ?_; clear hE a; intro a hE)
      | ((with_reducible refine g_load ?_); (first | (refine s_loadB (k := 0) hS hE rfl rfl rfl rfl ?_) ); clear hE a; intro a hE)
      )
    refine i_loop (fun q ds a w => ds = [] ∧ ∃ (k : Nat) (pre : List (Nat × Blk)), k + q = secN b.length ∧ pre ++ (fullP t n b).drop k = fullP t n b ∧ St w0 w (hBlk g8 3 [.int .i64 (secN b.length : Int)] :: hBlk g3 52 [.int .u32 (t : Int)] :: hBlk g4 52 [.int .u32 (n : Int)] :: hBlk g7 34 [.slice A (allB b).length c] :: hRow 5 1 A (allB b).length c (bys (allB b)) :: (H pre ++ own)) ∧ Env 51 [(0, .func (.yield lp) #[] #[]), (1, .pointer (some ⟨g8, 0, none⟩)), (2, .pointer (some ⟨g3, 0, none⟩)), (3, .pointer (some ⟨g4, 0, none⟩)), (4, .pointer (some ⟨g7, 0, none⟩)), (9, .int .i64 (secN b.length : Int)), (10, .int .i64 (k : Int))] a) (secN b.length) ⟨rfl, 0, [], by omega, rfl, hS, hE.sub ⟨rfl, rfl, rfl, rfl, rfl, rfl, rfl, trivial⟩⟩ ?_
    clear hE a hS
    rintro q ds a w ⟨rfl, k, pre, hk, hpre, hS, hE⟩
    by_cases hk1 : k < secN b.length
    · rw [fullP_drop hk1] at hpre
      repeat' (first

        | (with_reducible refine wpList_nil ?_)
        | (with_reducible refine then_normal ?_)
        | (with_reducible refine i_seq ?_)
        | (with_reducible refine i_skip ?_)
        | (with_reducible refine i_block ?_)
        | ((with_reducible refine ig_region ?_); refine i_region rfl (fun _ _ h => h) ?_)
        | ((with_reducible refine ig_cond ?_); refine i_dec hE rfl (fun hc => ?_) (fun hc => ?_) <;> try omega)
        | ((with_reducible refine g_move ?_); refine s_move hE rfl rfl ?_; clear hE a; intro a hE)
        | ((with_reducible refine g_assign ?_); refine s_assign hE rfl rfl ?_; clear hE a; intro a hE)
        | ((with_reducible refine g_bin .lss ?_); refine s_lss hE rfl rfl rfl ?_; clear hE a; intro a hE)
        )
      have hbl := bodyB_len hl hk1
      have hbb := bodyB_bs hb k
      have hpk := partB_ok (t := t) (n := n) hb hl hk1
      have hbody : ∀ w', Rd w' A (bys (allB b)) → Rd w' (A.map (·.add (k * 48))) (bys (bodyB b k)) := fun w' h => by
        have h1 := (h.drop (k * 48)).take 48
        unfold bodyB
        rw [bys_take, bys_drop]
        exact h1
      have e16 : IntKind.u16.wrap (k : Int) = (k : Int) := wrap_u16_in (by omega)
      have e16m : IntKind.u16.wrap (secN b.length : Int) = (secN b.length : Int) := wrap_u16_in (by omega)
      refine i_ordS hS 4 ((.rd 0 (.rd 2 (.ef 1 (.ef 3 (.lt 4 .done)))))) mixed (by decide +kernel) (by decide +kernel) ?_
      clear hS; intro w hS
      repeat' (first
        | (with_reducible refine o_rd rfl ?_)
        | ((with_reducible refine q_load ?_); (first | (refine d_val hE hS rfl (fun w hS => r_loadB (k := 1) hS hE rfl rfl rfl) ?_) | (refine d_val hE hS rfl (fun w hS => r_loadB (k := 2) hS hE rfl rfl rfl) ?_) ); clear hE a; intro a hE)
        | ((with_reducible refine o_ef rfl ?_))
        )
      refine s_call hE rfl rfl rfl (put32 none 0 [] t ht w Rd.nil (by decide)) ?_
      rintro _ w ⟨A1, c1, rfl, hS1⟩; clear hE a; intro a hE; replace hS := hS.frame hS1; clear hS1; try simp only [List.cons_append, List.nil_append] at hS
      rw [List.nil_append] at hE
      refine wpList_nil ?_
      refine o_back _ (fun _ h => St.tail h) hS ?_
      repeat' (first
        | ((with_reducible refine o_ef rfl ?_))
        )
      refine s_call hE rfl rfl rfl (put32 A1 c1 (beb 4 t) n hn w (hS.rdAt (k := 0) rfl) (by rw [beb_length]; decide)) ?_
      rintro _ w ⟨A2, c2, rfl, hS1⟩; clear hE a; intro a hE; replace hS := hS.frame hS1; clear hS1; try simp only [List.cons_append, List.nil_append] at hS
      refine wpList_nil ?_
      refine o_back _ (fun _ h => St.tail h) hS ?_
      repeat' (first
        | ((with_reducible refine o_lt rfl ?_))
        )
      repeat' (first

        | (with_reducible refine wpList_nil ?_)
        | ((with_reducible refine g_assign ?_); refine s_assign hE rfl rfl ?_; clear hE a; intro a hE)
        )
      refine o_backL ?_
      repeat' (first
        | (with_reducible refine o_done ?_)
        )
      replace hS := hS.drop 1
      simp only [List.eraseIdx_cons_succ, List.eraseIdx_cons_zero] at hS
      repeat' (first

        | (with_reducible refine then_normal ?_)
        | (with_reducible refine i_seq ?_)
        )
      refine i_ordS hS 7 ((.rd 0 (.rd 1 (.rd 2 (.rd 4 (.rd 5 (.ef 3 (.ef 6 (.lt 7 .done))))))))) mixed (by decide +kernel) (by decide +kernel) ?_
      clear hS; intro w hS
      repeat' (first
        | (with_reducible refine o_rd rfl ?_)
        | ((with_reducible refine q_move ?_); refine d_val hE hS rfl (fun w hS => r_move hE rfl) ?_; clear hE a; intro a hE)
        | ((with_reducible refine q_conv ?_); refine d_val hE hS rfl (fun w hS => r_conv hE rfl (by first | exact e16 | exact e16m)) ?_; clear hE a; intro a hE)
        | ((with_reducible refine q_load ?_); (first | (refine d_val hE hS rfl (fun w hS => r_loadB (k := 1) hS hE rfl rfl rfl) ?_) ); clear hE a; intro a hE)
        | ((with_reducible refine o_ef rfl ?_))
        )
      refine s_call hE rfl rfl rfl (put16 A2 c2 (beb 4 t ++ beb 4 n) k (by omega) w (hS.rdAt (k := 0) rfl) (by rw [List.length_append, beb_length, beb_length]; decide)) ?_
      rintro _ w ⟨A3, c3, rfl, hS1⟩; clear hE a; intro a hE; replace hS := hS.frame hS1; clear hS1; try simp only [List.cons_append, List.nil_append] at hS
      refine wpList_nil ?_
      refine o_back _ (fun _ h => St.tail h) hS ?_
      repeat' (first
        | ((with_reducible refine o_ef rfl ?_))
        )
      refine s_call hE rfl rfl rfl (put16 A3 c3 (beb 4 t ++ beb 4 n ++ beb 2 k) (secN b.length) (by omega) w (hS.rdAt (k := 0) rfl) (by rw [List.length_append, List.length_append, beb_length, beb_length, beb_length]; decide)) ?_
      rintro _ w ⟨A4, c4, rfl, hS1⟩; clear hE a; intro a hE; replace hS := hS.frame hS1; clear hS1; try simp only [List.cons_append, List.nil_append] at hS
      refine wpList_nil ?_
      refine o_back _ (fun _ h => St.tail h) hS ?_
      repeat' (first
        | ((with_reducible refine o_lt rfl ?_))
        )
      repeat' (first

        | (with_reducible refine wpList_nil ?_)
        | ((with_reducible refine g_assign ?_); refine s_assign hE rfl rfl ?_; clear hE a; intro a hE)
        )
      refine o_backL ?_
      repeat' (first
        | (with_reducible refine o_done ?_)
        )
      replace hS := (hS.drop 1).drop 1
      simp only [List.eraseIdx_cons_succ, List.eraseIdx_cons_zero] at hS
      rw [show beb 4 t ++ beb 4 n ++ beb 2 k ++ beb 2 (secN b.length) = stampB t n (secN b.length) k from rfl] at hS hE
      have hst := stampB_len t n (secN b.length) k
      have hsb := stampB_bs t n (secN b.length) k
      have hpe : partB t n b k = stampB t n (secN b.length) k ++ beb 4 (crc32 (stampB t n (secN b.length) k ++ bodyB b k)) ++ bodyB b k := rfl
      generalize stampB t n (secN b.length) k = st at hS hE hst hsb hpe
      rw [hst] at hS hE
      repeat' (first

        | (with_reducible refine then_normal ?_)
        | (with_reducible refine i_seq ?_)
        | ((with_reducible refine ig_region ?_); refine i_region rfl (fun _ _ h => h) ?_)
        | ((with_reducible refine g_move ?_); refine s_move hE rfl rfl ?_; clear hE a; intro a hE)
        | ((with_reducible refine g_bin .add ?_); refine s_add hE rfl rfl rfl (by first  | exact wrap64_in (by omega) ) ?_; clear hE a; intro a hE)
        | ((with_reducible refine g_bin .mul ?_); refine s_mul hE rfl rfl rfl (by first  | exact wrap64_in (by omega) ) ?_; clear hE a; intro a hE)
        | ((with_reducible refine g_load ?_); (first | (refine s_loadB (k := 4) hS hE rfl rfl rfl rfl ?_) ); clear hE a; intro a hE)
        )
      obtain ⟨_, hcap, _⟩ := hS.lenAt (k := 5) rfl
      refine s_val hE rfl rfl rfl (r_cut3 hE rfl rfl rfl rfl (by omega) (by omega) (by omega)) ?_
      clear hE a; intro a hE
      rw [show (((k : Int) + 1) * 48).toNat - ((k : Int) * 48).toNat = 48 by omega, if_neg (by omega), show ((k : Int) * 48).toNat * 1 = k * 48 by omega] at hE
      repeat' (first

        | (with_reducible refine wpList_nil ?_)
        | (with_reducible refine then_normal ?_)
        | (with_reducible refine i_seq ?_)
        | ((with_reducible refine ig_region ?_); refine i_region rfl (fun _ _ h => h) ?_)
        | ((with_reducible refine g_move ?_); refine s_move hE rfl rfl ?_; clear hE a; intro a hE)
        | ((with_reducible refine g_assign ?_); refine s_assign hE rfl rfl ?_; clear hE a; intro a hE)
        | ((with_reducible refine g_lit ?_); refine s_lit hE hS rfl rfl rfl rfl rfl (by first | (simp [Value.oneCell']; done)) rfl ?_; clear hE a hS; intro g a w hE hS)
        )
      have hrs : ∀ w' g', Rd w' (some ⟨g', 0, none⟩) [Value.slice A4 12 c4, Value.slice (A.map (·.add (k * 48))) 48 48] → Rd w' (some ⟨g', 0, none⟩) (([⟨A4, c4, st⟩, ⟨A.map (·.add (k * 48)), 48, bodyB b k⟩] : List Sl).map Sl.v) := fun w' g' h => by
        show Rd w' _ [Value.slice A4 st.length c4, Value.slice _ (bodyB b k).length 48]
        rw [hst, hbl]
        exact h
      have hcc := concat [⟨A4, c4, st⟩, ⟨A.map (·.add (k * 48)), 48, bodyB b k⟩] (some ⟨g, 0, none⟩) 2 2 rfl w (by show 2 ≤ 1000; decide) (hrs w g (hS.rdAt (k := 0) rfl)) (fun s hs => by
        rcases List.mem_cons.1 hs with rfl | hs
        · exact hS.rdAt (k := 1) rfl
        · rw [List.mem_singleton] at hs; subst hs; exact hbody w (hS.rdAt (k := 6) rfl)) (fun s hs => by
        rcases List.mem_cons.1 hs with rfl | hs
        · show st.length ≤ 100; omega
        · rw [List.mem_singleton] at hs; subst hs; show (bodyB b k).length ≤ 100; omega)
      rw [show (([⟨A4, c4, st⟩, ⟨A.map (·.add (k * 48)), 48, bodyB b k⟩] : List Sl).map Sl.b).flatten = st ++ bodyB b k by simp] at hcc
      refine s_call hE rfl rfl rfl hcc ?_
      clear hcc
      rintro _ w ⟨A5, c5, rfl, hS1⟩; clear hE a; intro a hE; replace hS := hS.frame hS1; clear hS1; try simp only [List.cons_append, List.nil_append] at hS
      have hcb : Bs (st ++ bodyB b k) := Bs.app hsb hbb
      refine s_call hE rfl rfl rfl (sum32S A5 c5 (st ++ bodyB b k) (st ++ bodyB b k).length w (hS.rdAt (k := 0) rfl) hcb (by rw [List.length_append, hst, hbl]; decide) rfl) ?_
      rintro _ w ⟨rfl, hS1⟩; clear hE a; intro a hE; replace hS := hS.frame hS1; clear hS1; try simp only [List.cons_append, List.nil_append] at hS
      have hp := put32 A4 c4 st (crc32 (st ++ bodyB b k)) (crc32_lt _ hcb) w (hS.rdAt (k := 2) rfl) (by rw [hst]; decide)
      rw [hst] at hp
      refine s_call hE rfl rfl rfl hp ?_
      clear hp
      rintro _ w ⟨A6, c6, rfl, hS1⟩; clear hE a; intro a hE; replace hS := hS.frame hS1; clear hS1; try simp only [List.cons_append, List.nil_append] at hS
      have hS2 := (((hS.drop 1).drop 1).drop 1)
      simp only [List.eraseIdx_cons_succ, List.eraseIdx_cons_zero] at hS2
      clear hS; have hS := hS2; clear hS2
      have hs6 : (st ++ beb 4 (crc32 (st ++ bodyB b k))).length = 16 := by rw [List.length_append, hst, beb_length]
      generalize st ++ beb 4 (crc32 (st ++ bodyB b k)) = s6 at hS hE hs6 hpe
      repeat' (first
        | ((with_reducible refine ig_region ?_); refine i_regionY [_, _, _, _, _, _, _] _ [_] rfl rfl (fun _ _ h => h) ?_)
        | (with_reducible refine wpList_nil ?_)
        | (with_reducible refine then_normal ?_)
        | (with_reducible refine i_seq ?_)
        | ((with_reducible refine g_move ?_); refine s_move hE rfl rfl ?_; clear hE a; intro a hE)
        | ((with_reducible refine g_assign ?_); refine s_assign hE rfl rfl ?_; clear hE a; intro a hE)
        )
      refine s_appendB (k := 0) hE hS rfl rfl rfl (hbody w (hS.rdAt (k := 5) rfl)) rfl hbl.symm (by rw [hs6, hbl]; decide) rfl rfl rfl ?_
      clear hE a hS; intro A7 c7 a w hE hS; simp only [List.set_cons_zero] at hS
      rw [← hpe, hpk.1] at hE hS
      have hbl64 : (bys (partB t n b k)).length = 64 := by rw [bys_length]; exact hpk.1
      obtain ⟨hA7, _⟩ := (hS.rdAt (k := 0) rfl).some (List.getElem?_eq_getElem (show 0 < (bys (partB t n b k)).length by omega))
      obtain ⟨ad, rfl⟩ : ∃ ad, A7 = some ad := ⟨_, hA7⟩
      refine s_val hE rfl rfl rfl (r_toArr hE rfl (by omega)) ?_
      clear hE a; intro a hE
      refine s_loadA (ad := ad) (cs := bys (partB t n b k)) hE rfl hbl64 (rd_all (hS.rdAt (k := 0) rfl)) rfl ?_
      clear hE a; intro a hE
      have hx := hY own pre (k, partB t n b k) w ⟨_, hpre⟩ (hS.drop 0)
      refine wpList_nil ?_
      refine ⟨rfl, ys_call hE rfl rfl rfl rfl hx ?_⟩
      rintro e w' (⟨rfl, h1⟩ | ⟨rfl, j', h1⟩)
      · refine ⟨_, rfl, fun a hE => ?_⟩
        repeat' (first

          | (with_reducible refine wpList_nil ?_)
          | (with_reducible refine then_normal ?_)
          | (with_reducible refine block_normal ?_)
          | (with_reducible refine i_skip ?_)
          | ((with_reducible refine ig_region ?_); refine i_region rfl (fun _ _ h => h) ?_)
          | ((with_reducible refine ig_cond ?_); refine i_false hE rfl ?_)
          | ((with_reducible refine g_move ?_); refine s_move hE rfl rfl ?_; clear hE a; intro a hE)
          | ((with_reducible refine g_bin .add ?_); refine s_add hE rfl rfl rfl (by first  | exact wrap64_in (by omega) ) ?_; clear hE a; intro a hE)
          | ((with_reducible refine g_un .not ?_); refine s_notb hE rfl rfl ?_; clear hE a; intro a hE)
          )
        exact ⟨q - 1, by omega, rfl, k + 1, pre ++ [(k, partB t n b k)], by omega, by rw [List.append_assoc]; exact hpre, h1, hE.sub ⟨rfl, rfl, rfl, rfl, rfl, rfl, rfl, trivial⟩⟩
      · refine ⟨_, rfl, fun a hE => ?_⟩
        repeat' (first

          | (with_reducible refine wpList_nil ?_)
          | (with_reducible refine then_normal ?_)
          | (with_reducible refine then_ret ?_)
          | (with_reducible refine block_ret ?_)
          | (with_reducible refine i_ret ?_)
          | ((with_reducible refine ig_cond ?_); refine i_true hE rfl ?_)
          | ((with_reducible refine g_un .not ?_); refine s_notb hE rfl rfl ?_; clear hE a; intro a hE)
          )
        exact i_ret0 hE rfl (.inr ⟨j', pre, (k, partB t n b k), _, hpre, h1⟩)
    · obtain rfl : k = secN b.length := by omega
      rw [List.drop_eq_nil_of_le (by rw [fullP_len]; exact Nat.le_refl _), List.append_nil] at hpre
      subst hpre
      repeat' (first

        | (with_reducible refine wpList_nil ?_)
        | (with_reducible refine then_normal ?_)
        | (with_reducible refine then_exit ?_)
        | (with_reducible refine block_same ?_)
        | (with_reducible refine i_seq ?_)
        | (with_reducible refine i_exit ?_)
        | ((with_reducible refine ig_region ?_); refine i_region rfl (fun _ _ h => h) ?_)
        | ((with_reducible refine ig_cond ?_); refine i_dec hE rfl (fun hc => ?_) (fun hc => ?_) <;> try omega)
        | ((with_reducible refine g_bin .lss ?_); refine s_lss hE rfl rfl rfl ?_; clear hE a; intro a hE)
        )
      exact i_end0 hE rfl (.inl hS)
  unfold Fn at hF
  exact Calls.mono hF fun e w' ⟨v, e1, h⟩ => ⟨⟨v, e1⟩, h⟩
end
end Go.Proofs.Ytfoeelghehjanaa
