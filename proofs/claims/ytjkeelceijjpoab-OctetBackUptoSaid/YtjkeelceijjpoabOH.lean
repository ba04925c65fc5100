/-
  The law of what is put and read again.
-/
import Derived.Test.YtjkeelceijjpoabOF
import Derived.Test.YtjkeelceijjpoabKr
namespace Go.Proofs.Ytjkeelceijjpoab
open Go.RowKit
set_option linter.unusedVariables false
set_option linter.unusedSimpArgs false
attribute [local irreducible] Rd hRow hBlk hRd hAll Fn

/-- the i-th number's bytes -/
def enc (i x : Nat) : List Nat := if i % 3 = 0 then beb 8 x else if i % 3 = 1 then beb 4 x else beb 2 x
def encAll : Nat → List Nat → List Nat
  | _, [] => []
  | i, x :: l => enc i x ++ encAll (i + 1) l
theorem enc_bs (i x : Nat) : Bs (enc i x) := by unfold enc; split <;> (try split) <;> exact beb_bs _ _
theorem enc_len (i x : Nat) : (enc i x).length ≤ 8 := by unfold enc; split <;> (try split) <;> rw [beb_length] <;> omega
theorem encAll_append : ∀ (l l' : List Nat) (i : Nat), encAll i (l ++ l') = encAll i l ++ encAll (i + l.length) l'
  | [], l', i => by simp [encAll]
  | x :: l, l', i => by
    simp only [List.cons_append, encAll, encAll_append l l' (i + 1), List.append_assoc, List.length_cons]
    rw [show i + 1 + l.length = i + (l.length + 1) from by omega]
theorem encAll_take {l : List Nat} {k : Nat} (h : k < l.length) : encAll 0 (l.take (k + 1)) = encAll 0 (l.take k) ++ enc k l[k] := by
  rw [List.take_succ_eq_append_getElem h, encAll_append, List.length_take, Nat.min_eq_left (by omega)]
  simp [encAll]
theorem encAll_len : ∀ (l : List Nat) (i : Nat), (encAll i l).length ≤ 8 * l.length
  | [], i => by simp [encAll]
  | x :: l, i => by
    have := encAll_len l (i + 1)
    have := enc_len i x
    simp only [encAll, List.length_append, List.length_cons]
    omega
theorem encAll_bs : ∀ (l : List Nat) (i : Nat), Bs (encAll i l)
  | [], i => Bs.nil
  | x :: l, i => (enc_bs i x).append (encAll_bs l (i + 1))
theorem encAll_cut {l : List Nat} {k : Nat} (h : k < l.length) (t : List Nat) : ∃ post, encAll 0 l ++ t = encAll 0 (l.take k) ++ (enc k l[k] ++ post) := by
  have e : l = l.take k ++ (l[k] :: l.drop (k + 1)) := by rw [← List.drop_eq_getElem_cons h, List.take_append_drop]
  refine ⟨encAll (k + 1) (l.drop (k + 1)) ++ t, ?_⟩
  have h2 := encAll_append (l.take k) (l[k] :: l.drop (k + 1)) 0
  rw [← e] at h2
  rw [h2, List.length_take, Nat.min_eq_left (by omega), Nat.zero_add]
  simp [encAll]
theorem take_enc {pre m post : List Nat} {n : Nat} (h : m.length = n) : takeM (pre ++ (m ++ post)) pre.length 0 (n : Int) = (m, pre.length + n, 0) := by
  unfold takeM
  rw [if_neg (by simp), if_neg (by omega), if_neg (by simp only [List.length_append]; omega), List.drop_left, Int.toNat_natCast, ← h, List.take_left]

def u64C (x : Int) : List Value := [.int .u64 x]
theorem u64_flat (l : List Nat) : (l.map fun (x : Nat) => (x : Int)).flatMap u64C = l.map fun (x : Nat) => Value.int .u64 (x : Int) := by
  induction l with
  | nil => rfl
  | cons x l ih => rw [List.map_cons, List.flatMap_cons, ih]; rfl
set_option maxHeartbeats 4000000 in
theorem law_OctetBack (q : Option Addr × Nat × List Int) (B : Option Addr) (d : Nat) (tl : List Nat) (w0 : World)
    (hq : Rd w0 q.1 (q.2.2.flatMap u64C) ∧ q.2.2.length ≤ q.2.1 ∧ q.2.1 ≤ maxLen ∧ q.2.2.length ≤ 1048576 ∧ ∀ y ∈ q.2.2, (Lit.int .u64 y).wf = true ∧ (u64C y).length = 1)
    (hr : Rd w0 B (bys tl)) (hx : Bs tl) (hcp : tl.length ≤ d) (hz : tl.length ≤ 1048576) :
    Fn Try.prog 8 [.slice q.1 q.2.2.length q.2.1, .slice B tl.length d] w0 fun v w' => v = .bool true ∧ St w0 w' [] := by
  obtain ⟨Q, qc, li⟩ := q
  obtain ⟨hQ, _, _, hl16, hok⟩ := hq
  simp only at hQ hl16 hok ⊢
  -- the numbers
  obtain ⟨l, rfl, hlb⟩ : ∃ l : List Nat, li = l.map (fun (x : Nat) => (x : Int)) ∧ ∀ x ∈ l, x < 18446744073709551616 := by
    refine ⟨li.map Int.toNat, ?_, fun x hx => ?_⟩
    · rw [List.map_map]
      conv => lhs; rw [← List.map_id li]
      refine List.map_congr_left fun y hy => ?_
      have := wf_u64 (hok y hy).1
      simp only [id, Function.comp]
      rw [Int.toNat_of_nonneg this.1]
    · obtain ⟨y, hy, rfl⟩ := List.mem_map.1 hx
      have := wf_u64 (hok y hy).1
      omega
  have hQ2 : Rd w0 Q (l.map fun (x : Nat) => Value.int .u64 (x : Int)) := by
    have e : (l.map fun (x : Nat) => (x : Int)).flatMap u64C = l.map fun (x : Nat) => Value.int .u64 (x : Int) := by
      exact u64_flat l
    rwa [e] at hQ
  rw [List.length_map] at hl16 ⊢
  clear hok hQ
  have hel := encAll_len l 0
  refine enter 86 Try.func8 rfl rfl rfl ?_
  intro a hE
  repeat' (first
    | (with_reducible refine wp_seq ?_)
    | (with_reducible refine c_region ?_)
    | (with_reducible refine wpList_nil ?_)
    | (with_reducible refine then_normal ?_)
    | ((with_reducible refine g_assign ?_); refine s_assign hE rfl rfl ?_; clear hE a; intro a hE)
    )
  refine s_call hE rfl rfl rfl (wakes w0) ?_
  rintro _ w ⟨rfl, hS⟩; clear hE a; intro a hE
  repeat' (first
    | (with_reducible refine wp_seq ?_)
    | (with_reducible refine c_region ?_)
    | (with_reducible refine wpList_nil ?_)
    | (with_reducible refine then_normal ?_)
    | (with_reducible refine wp_skip ?_)
    | (with_reducible refine wp_block ?_)
    | ((with_reducible refine g_move ?_); refine s_move hE rfl rfl ?_; clear hE a; intro a hE)
    | ((with_reducible refine g_assign ?_); refine s_assign hE rfl rfl ?_; clear hE a; intro a hE)
    | ((with_reducible refine g_un .not ?_); refine s_notb hE rfl rfl ?_; clear hE a; intro a hE)
    | ((with_reducible refine g_blt .len ?_); refine s_len hE rfl rfl ?_; clear hE a; intro a hE)
    | ((with_reducible refine g_cond ?_); refine c_false hE rfl ?_)
    )
  replace hS := hS.rowNil 5 1
  refine wp_loop_ghost (fun r a w => ∃ (k : Nat) (A : Option Addr) (c : Nat), k + r = l.length ∧ St w0 w [hRow 5 1 A (encAll 0 (l.take k)).length c (bys (encAll 0 (l.take k)))] ∧
    Env 86 [(0, .slice Q l.length qc), (1, .slice B tl.length d), (5, .slice A (encAll 0 (l.take k)).length c), (13, .slice Q l.length qc), (14, .int .i64 (l.length : Int)), (15, .int .i64 (k : Int))] a) l.length ⟨0, none, 0, by omega, hS, hE.sub ⟨rfl, rfl, rfl, rfl, rfl, rfl, trivial⟩⟩ ?_
  clear hE a hS
  rintro r a w ⟨k, A, c, hk, hS, hE⟩
  have hkl := encAll_len (l.take k) 0
  rw [List.length_take] at hkl
  by_cases hk1 : k < l.length
  · have hget : (l.map fun (x : Nat) => Value.int .u64 (x : Int))[((k : Nat) : Int).toNat * 1]? = some (.int .u64 ((l[k] : Nat) : Int)) := by
      rw [Nat.mul_one, Int.toNat_natCast]; simp [hk1]
    have hxb := hlb _ (List.getElem_mem hk1)
    have hstep := encAll_take hk1
    generalize l[k] = x at hget hxb hstep
    have hlen : (l.map fun (x : Nat) => Value.int .u64 (x : Int)).length = l.length := by simp
    obtain ⟨m, hm, hm3⟩ : ∃ m, k % 3 = m ∧ m < 3 := ⟨_, rfl, Nat.mod_lt _ (by omega)⟩
    repeat' (first
      | (with_reducible refine wp_seq ?_)
      | (with_reducible refine c_region ?_)
      | (with_reducible refine wpList_nil ?_)
      | (with_reducible refine then_normal ?_)
      | (with_reducible refine wp_skip ?_)
      | (with_reducible refine wp_block ?_)
      | (with_reducible refine block_normal ?_)
      | ((with_reducible refine g_move ?_); refine s_move hE rfl rfl ?_; clear hE a; intro a hE)
      | ((with_reducible refine g_assign ?_); refine s_assign hE rfl rfl ?_; clear hE a; intro a hE)
      | ((with_reducible refine g_bin .lss ?_); refine s_lss hE rfl rfl rfl ?_; clear hE a; intro a hE)
      | ((with_reducible refine g_bin .eql ?_); refine s_eql hE rfl rfl rfl ?_; clear hE a; intro a hE)
      | ((with_reducible refine g_bin .add ?_); refine s_add hE rfl rfl rfl (by first | exact wrap64_in (by omega) ) ?_; clear hE a; intro a hE)
      | ((with_reducible refine g_bin .rem ?_); refine s_rem hE rfl rfl (by omega) rfl (by first | exact tmod_nat _ _ ) ?_; clear hE a; intro a hE)
      | ((with_reducible refine g_conv ?_); refine s_conv hE rfl rfl (by first | with_reducible exact wrap_u32_nat x | with_reducible exact wrap_u16_nat x ) ?_; clear hE a; intro a hE)
      | ((with_reducible refine g_cond ?_); refine c_dec hE rfl (fun hc => ?_) (fun hc => ?_) <;> try omega)
      | ((with_reducible refine g_ia ?_); refine s_idxR hE rfl rfl (by omega) (by omega) (by (first | exact Rd.st (by assumption) hS )) (by first | omega ) rfl ?_; clear hE a; intro a hE)
      | ((with_reducible refine g_load ?_); refine s_loadR hE rfl (by (first | exact Rd.st (by assumption) hS )) (by first | exact hget ) rfl ?_; clear hE a; intro a hE)
      | ((with_reducible refine g_call (f := 25) ?_); refine s_call hE rfl rfl rfl (put16 _ _ _ _ (by first | omega ) _ (by first | exact hS.rd ) (by first | omega )) ?_; rintro _ w ⟨_, _, rfl, hS1⟩; clear hE a; intro a hE; replace hS := hS.frame hS1; clear hS1; try simp only [List.cons_append, List.nil_append] at hS) | ((with_reducible refine g_call (f := 24) ?_); refine s_call hE rfl rfl rfl (put32 _ _ _ _ (by first | omega ) _ (by first | exact hS.rd ) (by first | omega )) ?_; rintro _ w ⟨_, _, rfl, hS1⟩; clear hE a; intro a hE; replace hS := hS.frame hS1; clear hS1; try simp only [List.cons_append, List.nil_append] at hS) | ((with_reducible refine g_call (f := 23) ?_); refine s_call hE rfl rfl rfl (put64 _ _ _ _ (by first | omega ) _ (by first | exact hS.rd ) (by first | omega )) ?_; rintro _ w ⟨_, _, rfl, hS1⟩; clear hE a; intro a hE; replace hS := hS.frame hS1; clear hS1; try simp only [List.cons_append, List.nil_append] at hS))
    · have hc0 : ((k % 3 : Nat) : Int) = 0 := hc
      have hs : encAll 0 (l.take (k + 1)) = encAll 0 (l.take k) ++ beb 8 x := by rw [hstep]; unfold enc; rw [if_pos (by omega)]
      rw [← hs] at hE hS
      exact ⟨r - 1, by omega, k + 1, _, _, by omega, hS.drop1, hE.sub ⟨rfl, rfl, rfl, rfl, rfl, rfl, trivial⟩⟩
    · have hc0 : ((k % 3 : Nat) : Int) = 1 := hc
      have hs : encAll 0 (l.take (k + 1)) = encAll 0 (l.take k) ++ beb 4 (x % 4294967296) := by rw [hstep]; unfold enc; rw [if_neg (by omega), if_pos (by omega)]; exact congrArg _ (beb_mod 4 x).symm
      rw [← hs] at hE hS
      exact ⟨r - 1, by omega, k + 1, _, _, by omega, hS.drop1, hE.sub ⟨rfl, rfl, rfl, rfl, rfl, rfl, trivial⟩⟩
    · have hc0 : ¬ ((k % 3 : Nat) : Int) = 1 := hc
      have hc1 : ¬ ((k % 3 : Nat) : Int) = 0 := by assumption
      have hs : encAll 0 (l.take (k + 1)) = encAll 0 (l.take k) ++ beb 2 (x % 65536) := by rw [hstep]; unfold enc; rw [if_neg (by omega), if_neg (by omega)]; exact congrArg _ (beb_mod 2 x).symm
      rw [← hs] at hE hS
      exact ⟨r - 1, by omega, k + 1, _, _, by omega, hS.drop1, hE.sub ⟨rfl, rfl, rfl, rfl, rfl, rfl, trivial⟩⟩
  · obtain rfl : k = l.length := by omega
    rw [List.take_length] at hE hS hkl
    repeat' (first
      | (with_reducible refine wp_seq ?_)
      | (with_reducible refine c_region ?_)
      | (with_reducible refine wpList_nil ?_)
      | (with_reducible refine then_normal ?_)
      | (with_reducible refine wp_exit ?_)
      | (with_reducible refine then_exit ?_)
      | (with_reducible refine block_same ?_)
      | ((with_reducible refine g_move ?_); refine s_move hE rfl rfl ?_; clear hE a; intro a hE)
      | ((with_reducible refine g_bin .lss ?_); refine s_lss hE rfl rfl rfl ?_; clear hE a; intro a hE)
      | ((with_reducible refine g_cond ?_); refine c_dec hE rfl (fun hc => ?_) (fun hc => ?_) <;> try omega)
      | ((with_reducible refine g_blt .append ?_); (first | (refine s_appendAt (k := 0) hE hS rfl rfl rfl (by (first | exact Rd.st (by assumption) hS )) (by (first | (rw [bys_length, Nat.mul_one]))) (by (first | exact bys_one _ )) (by omega) rfl rfl rfl rfl ?_) ); clear hE a hS; intro A c a w hE hS; simp only [List.set_cons_zero, List.set_cons_succ, Nat.add_zero] at hS)
      )
    rw [← bys_append, ← List.length_append] at hS
    rw [← List.length_append] at hE
    refine s_call hE rfl rfl rfl (read _ _ _ w hS.rd (by rw [List.length_append]; omega)) ?_
    rintro _ w ⟨g1, A1, c1, rfl, hS1⟩; clear hE a; intro a hE; replace hS := (hS.frame hS1).drop1; clear hS1
    have hbs := (encAll_bs l 0).append hx
    have hlen2 : (encAll 0 l ++ tl).length = (encAll 0 l).length + tl.length := List.length_append
    repeat' (first
      | (with_reducible refine wp_seq ?_)
      | (with_reducible refine c_region ?_)
      | (with_reducible refine wpList_nil ?_)
      | (with_reducible refine then_normal ?_)
      | (with_reducible refine wp_block ?_)
      | ((with_reducible refine g_move ?_); refine s_move hE rfl rfl ?_; clear hE a; intro a hE)
      | ((with_reducible refine g_assign ?_); refine s_assign hE rfl rfl ?_; clear hE a; intro a hE)
      | ((with_reducible refine g_blt .len ?_); refine s_len hE rfl rfl ?_; clear hE a; intro a hE)
      )
    refine wp_loop_ghost (fun r a w => ∃ (k : Nat), k + r = l.length ∧ St w0 w [hRdr g1 A1 c1 (encAll 0 l ++ tl) (encAll 0 (l.take k)).length 0] ∧
      Env 86 [(0, .slice Q l.length qc), (1, .slice B tl.length d), (8, .pointer (some ⟨g1, 0, none⟩)), (42, .slice Q l.length qc), (43, .int .i64 (l.length : Int)), (44, .int .i64 (k : Int))] a) l.length ⟨0, by omega, hS, hE.sub ⟨rfl, rfl, rfl, rfl, rfl, rfl, trivial⟩⟩ ?_
    clear hE a hS
    rintro r a w ⟨k, hk, hS, hE⟩
    by_cases hk1 : k < l.length
    · have hget : (l.map fun (x : Nat) => Value.int .u64 (x : Int))[((k : Nat) : Int).toNat * 1]? = some (.int .u64 ((l[k] : Nat) : Int)) := by
        rw [Nat.mul_one, Int.toNat_natCast]; simp [hk1]
      have hxb := hlb _ (List.getElem_mem hk1)
      have hstep := encAll_take hk1
      obtain ⟨post, hcut⟩ := encAll_cut hk1 tl
      generalize l[k] = x at hget hxb hstep hcut
      have hlen : (l.map fun (x : Nat) => Value.int .u64 (x : Int)).length = l.length := by simp
      obtain ⟨m, hm, hm3⟩ : ∃ m, k % 3 = m ∧ m < 3 := ⟨_, rfl, Nat.mod_lt _ (by omega)⟩
      have hpl : (encAll 0 (l.take k)).length ≤ (encAll 0 l ++ tl).length := by rw [hcut, List.length_append]; omega
      repeat' (first
        | (with_reducible refine wp_seq ?_)
        | (with_reducible refine c_region ?_)
        | (with_reducible refine wpList_nil ?_)
        | (with_reducible refine then_normal ?_)
        | (with_reducible refine wp_skip ?_)
        | (with_reducible refine wp_block ?_)
        | ((with_reducible refine g_move ?_); refine s_move hE rfl rfl ?_; clear hE a; intro a hE)
        | ((with_reducible refine g_assign ?_); refine s_assign hE rfl rfl ?_; clear hE a; intro a hE)
        | ((with_reducible refine g_bin .lss ?_); refine s_lss hE rfl rfl rfl ?_; clear hE a; intro a hE)
        | ((with_reducible refine g_bin .eql ?_); refine s_eql hE rfl rfl rfl ?_; clear hE a; intro a hE)
        | ((with_reducible refine g_bin .rem ?_); refine s_rem hE rfl rfl (by omega) rfl (by first | exact tmod_nat _ _ ) ?_; clear hE a; intro a hE)
        | ((with_reducible refine g_cond ?_); refine c_dec hE rfl (fun hc => ?_) (fun hc => ?_) <;> try omega)
        | ((with_reducible refine g_ia ?_); refine s_idxR hE rfl rfl (by omega) (by omega) (by (first | exact Rd.st (by assumption) hS )) (by first | omega ) rfl ?_; clear hE a; intro a hE)
        | ((with_reducible refine g_load ?_); refine s_loadR hE rfl (by (first | exact Rd.st (by assumption) hS )) (by first | exact hget ) rfl ?_; clear hE a; intro a hE)
        )
      · have hc0 : ((k % 3 : Nat) : Int) = 0 := hc
        have he : enc k x = beb 8 x := by unfold enc; rw [if_pos (by omega)]
        rw [he] at hcut hstep
        have htk : takeM (encAll 0 l ++ tl) (encAll 0 (l.take k)).length 0 8 = (beb 8 x, (encAll 0 (l.take k)).length + 8, 0) := by
          rw [hcut]; exact take_enc (n := 8) (beb_length _ _)
        have hnum : bnum 0 (beb 8 x) = x := by rw [bnum_beb]; omega
        have hl8 : (encAll 0 (l.take (k + 1))).length = (encAll 0 (l.take k)).length + 8 := by rw [hstep, List.length_append, beb_length]
        refine s_call hE rfl rfl rfl (u64 g1 A1 c1 _ _ 0 _ _ _ hS hbs hpl (by omega)) ?_
        rintro _ w ⟨rfl, hS1⟩; clear hE a hS; intro a hE; have hS := hS1; clear hS1
        rw [htk] at hS hE
        simp only [hnum] at hE
        repeat' (first
          | (with_reducible refine c_region ?_)
          | (with_reducible refine wpList_nil ?_)
          | (with_reducible refine then_normal ?_)
          | (with_reducible refine wp_skip ?_)
          | (with_reducible refine block_normal ?_)
          | ((with_reducible refine g_move ?_); refine s_move hE rfl rfl ?_; clear hE a; intro a hE)
          | ((with_reducible refine g_bin .neq ?_); refine s_neq hE rfl rfl rfl ?_; clear hE a; intro a hE)
          | ((with_reducible refine g_bin .add ?_); refine s_add hE rfl rfl rfl (by first | exact wrap64_in (by omega) ) ?_; clear hE a; intro a hE)
          | ((with_reducible refine g_cond ?_); refine c_dec hE rfl (fun hc => ?_) (fun hc => ?_) <;> try omega)
          )
        all_goals exact ⟨r - 1, by omega, k + 1, by omega, by rw [hl8]; exact hS, hE.sub ⟨rfl, rfl, rfl, rfl, rfl, rfl, trivial⟩⟩
      · have hc0 : ((k % 3 : Nat) : Int) = 1 := hc
        have he : enc k x = beb 4 x := by unfold enc; rw [if_neg (by omega), if_pos (by omega)]
        rw [he] at hcut hstep
        have htk : takeM (encAll 0 l ++ tl) (encAll 0 (l.take k)).length 0 4 = (beb 4 x, (encAll 0 (l.take k)).length + 4, 0) := by
          rw [hcut]; exact take_enc (n := 4) (beb_length _ _)
        have hnum : bnum 0 (beb 4 x) = x % 4294967296 := bnum_beb 4 x
        have hl8 : (encAll 0 (l.take (k + 1))).length = (encAll 0 (l.take k)).length + 4 := by rw [hstep, List.length_append, beb_length]
        refine s_call hE rfl rfl rfl (u32 g1 A1 c1 _ _ 0 _ _ _ hS hbs hpl (by omega)) ?_
        rintro _ w ⟨rfl, hS1⟩; clear hE a hS; intro a hE; have hS := hS1; clear hS1
        rw [htk] at hS hE
        simp only [hnum] at hE
        repeat' (first
          | (with_reducible refine c_region ?_)
          | (with_reducible refine wpList_nil ?_)
          | (with_reducible refine then_normal ?_)
          | (with_reducible refine wp_skip ?_)
          | (with_reducible refine block_normal ?_)
          | ((with_reducible refine g_move ?_); refine s_move hE rfl rfl ?_; clear hE a; intro a hE)
          | ((with_reducible refine g_bin .neq ?_); refine s_neq hE rfl rfl rfl ?_; clear hE a; intro a hE)
          | ((with_reducible refine g_bin .add ?_); refine s_add hE rfl rfl rfl (by first | exact wrap64_in (by omega) ) ?_; clear hE a; intro a hE)
          | ((with_reducible refine g_conv ?_); refine s_conv hE rfl rfl (by first | with_reducible exact wrap_u32_nat x ) ?_; clear hE a; intro a hE)
          | ((with_reducible refine g_cond ?_); refine c_dec hE rfl (fun hc => ?_) (fun hc => ?_) <;> try omega)
          )
        all_goals exact ⟨r - 1, by omega, k + 1, by omega, by rw [hl8]; exact hS, hE.sub ⟨rfl, rfl, rfl, rfl, rfl, rfl, trivial⟩⟩
      · have hc0 : ¬ ((k % 3 : Nat) : Int) = 1 := hc
        have hc1 : ¬ ((k % 3 : Nat) : Int) = 0 := by assumption
        have he : enc k x = beb 2 x := by unfold enc; rw [if_neg (by omega), if_neg (by omega)]
        rw [he] at hcut hstep
        have htk : takeM (encAll 0 l ++ tl) (encAll 0 (l.take k)).length 0 2 = (beb 2 x, (encAll 0 (l.take k)).length + 2, 0) := by
          rw [hcut]; exact take_enc (n := 2) (beb_length _ _)
        have hnum : bnum 0 (beb 2 x) = x % 65536 := bnum_beb 2 x
        have hl8 : (encAll 0 (l.take (k + 1))).length = (encAll 0 (l.take k)).length + 2 := by rw [hstep, List.length_append, beb_length]
        refine s_call hE rfl rfl rfl (u16 g1 A1 c1 _ _ 0 _ _ _ hS hbs hpl (by omega)) ?_
        rintro _ w ⟨rfl, hS1⟩; clear hE a hS; intro a hE; have hS := hS1; clear hS1
        rw [htk] at hS hE
        simp only [hnum] at hE
        repeat' (first
          | (with_reducible refine c_region ?_)
          | (with_reducible refine wpList_nil ?_)
          | (with_reducible refine then_normal ?_)
          | (with_reducible refine wp_skip ?_)
          | (with_reducible refine block_normal ?_)
          | ((with_reducible refine g_move ?_); refine s_move hE rfl rfl ?_; clear hE a; intro a hE)
          | ((with_reducible refine g_bin .neq ?_); refine s_neq hE rfl rfl rfl ?_; clear hE a; intro a hE)
          | ((with_reducible refine g_bin .add ?_); refine s_add hE rfl rfl rfl (by first | exact wrap64_in (by omega) ) ?_; clear hE a; intro a hE)
          | ((with_reducible refine g_conv ?_); refine s_conv hE rfl rfl (by first | with_reducible exact wrap_u16_nat x ) ?_; clear hE a; intro a hE)
          | ((with_reducible refine g_cond ?_); refine c_dec hE rfl (fun hc => ?_) (fun hc => ?_) <;> try omega)
          )
        all_goals exact ⟨r - 1, by omega, k + 1, by omega, by rw [hl8]; exact hS, hE.sub ⟨rfl, rfl, rfl, rfl, rfl, rfl, trivial⟩⟩
    · obtain rfl : k = l.length := by omega
      rw [List.take_length] at hS
      have htk : takeM (encAll 0 l ++ tl) (encAll 0 l).length 0 (tl.length : Int) = (tl, (encAll 0 l ++ tl).length, 0) := by
        have := take_enc (pre := encAll 0 l) (m := tl) (post := []) (n := tl.length) rfl
        rw [List.append_nil] at this
        rw [this, List.length_append]
      repeat' (first
        | (with_reducible refine wp_seq ?_)
        | (with_reducible refine c_region ?_)
        | (with_reducible refine wpList_nil ?_)
        | (with_reducible refine then_normal ?_)
        | (with_reducible refine wp_exit ?_)
        | (with_reducible refine then_exit ?_)
        | (with_reducible refine block_same ?_)
        | ((with_reducible refine g_move ?_); refine s_move hE rfl rfl ?_; clear hE a; intro a hE)
        | ((with_reducible refine g_bin .lss ?_); refine s_lss hE rfl rfl rfl ?_; clear hE a; intro a hE)
        | ((with_reducible refine g_blt .len ?_); refine s_len hE rfl rfl ?_; clear hE a; intro a hE)
        | ((with_reducible refine g_cond ?_); refine c_dec hE rfl (fun hc => ?_) (fun hc => ?_) <;> try omega)
        )
      refine s_call hE rfl rfl rfl (raw g1 A1 c1 _ _ 0 (tl.length : Int) _ _ _ hS (by omega) (by omega) (by omega)) ?_
      rintro _ w ⟨A2, c2, rfl, hS1⟩; clear hE a hS; intro a hE; have hS := hS1; clear hS1
      rw [htk] at hS hE
      simp only at hS hE
      repeat' (first
        | (with_reducible refine wpList_nil ?_)
        | (with_reducible refine then_normal ?_)
        | (with_reducible refine wp_ret ?_)
        | ((with_reducible refine g_move ?_); refine s_move hE rfl rfl ?_; clear hE a; intro a hE)
        | ((with_reducible refine g_assign ?_); refine s_assign hE rfl rfl ?_; clear hE a; intro a hE)
        | ((with_reducible refine g_bin .eql ?_); refine s_eql hE rfl rfl rfl ?_; clear hE a; intro a hE)
        | ((with_reducible refine g_guard ?_); refine gd_yes hE rfl rfl rfl ?_)
        | ((with_reducible refine g_guard ?_); refine gd_no hE rfl rfl rfl rfl ?_; clear hE a; intro a hE)
        | ((with_reducible refine g_guard ?_); refine gd_dec hE rfl rfl (fun hc hE2 => ?_) (fun hc hE2 => ?_) <;> (try omega) <;> (replace hE := hE2; clear hE2))
        | ((with_reducible refine g_pick ?_); refine s_pickT hE rfl rfl rfl ?_; clear hE a; intro a hE)
        | ((with_reducible refine g_pick ?_); refine s_pickF hE rfl rfl rfl ?_; clear hE a; intro a hE)
        | ((with_reducible refine g_call (f := 10) ?_); refine s_call hE rfl rfl rfl (oequal _ _ _ _ _ _ _ (by first | exact hS.rd ) (by first | exact Rd.st (by assumption) hS ) (by first | omega ) (by first | omega )) ?_; rintro _ w ⟨rfl, hS1⟩; clear hE a; intro a hE; replace hS := hS.frame hS1; clear hS1; try simp only [List.cons_append, List.nil_append] at hS) | ((with_reducible refine g_call (f := 21) ?_); (first | (refine s_call hE rfl rfl rfl (left _ _ _ _ _ _ _ _ _ (hS.focus (k := 1) rfl) (by first | omega ) (by first | omega )) ?_; rintro _ w ⟨rfl, hS1⟩; clear hE a; intro a hE; have hS2 := St.unfocus (k := 1) rfl hS1; clear hS hS1; have hS := hS2; clear hS2; simp only [List.set_cons_zero, List.set_cons_succ] at hS) )) | ((with_reducible refine g_call (f := 22) ?_); (first | (refine s_call hE rfl rfl rfl (rerr _ _ _ _ _ _ _ _ _ (hS.focus (k := 1) rfl)) ?_; rintro _ w ⟨rfl, hS1⟩; clear hE a; intro a hE; have hS2 := St.unfocus (k := 1) rfl hS1; clear hS hS1; have hS := hS2; clear hS2; simp only [List.set_cons_zero, List.set_cons_succ] at hS) )))
      all_goals first | exact absurd rfl hc | exact ret1 hE rfl rfl ⟨by simp, hS.nil⟩ | (exfalso; omega)
end Go.Proofs.Ytjkeelceijjpoab
