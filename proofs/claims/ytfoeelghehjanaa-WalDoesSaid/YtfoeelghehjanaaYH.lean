/-
  Contract: the document's log is opened.
-/
import Derived.Test.YtfoeelghehjanaaY2
namespace Go.Proofs.Ytfoeelghehjanaa
open Go.RowKit
set_option linter.unusedVariables false
set_option linter.unusedSimpArgs false
attribute [local irreducible] Rd hRow hBlk hRd hRdr wrP hDk hWl hMl Fn FnD hMarks
theorem spliceB_snoc {s bs : List Blk} {f : Nat} {x : Blk} (h : f + bs.length < s.length) : (spliceB s f bs).set (f + bs.length) x = spliceB s f (bs ++ [x]) := by
  unfold spliceB
  have hl : (s.take f ++ bs).length = f + bs.length := by rw [List.length_append, List.length_take]; omega
  rw [List.set_append_right _ _ (by omega), hl, Nat.sub_self, List.drop_eq_getElem_cons h, List.set_cons_zero, List.length_append, List.length_singleton, List.append_assoc, List.append_assoc, List.append_assoc]
  rfl
theorem spliceB_mem {s bs : List Blk} {f : Nat} (hs : ∀ x ∈ s, Blk.ok x) (hb : ∀ x ∈ bs, Blk.ok x) : ∀ x ∈ spliceB s f bs, Blk.ok x := by
  intro x hx
  unfold spliceB at hx
  rcases List.mem_append.1 hx with hx | hx
  · rcases List.mem_append.1 hx with hx | hx
    · exact hs x (List.mem_of_mem_take hx)
    · exact hb x hx
  · exact hs x (List.mem_of_mem_drop hx)
theorem spliceB_cut {s bs : List Blk} {f : Nat} (h : f + bs.length ≤ s.length) : ((spliceB s f bs).drop f).take bs.length = bs := by
  unfold spliceB
  have hl : (s.take f).length = f := by rw [List.length_take]; omega
  rw [List.append_assoc, List.drop_left' hl, List.take_left' rfl]
section
variable {g gd gw : Nat} {D : DM} {H : List HP} {w0 w : World} {m : Nat}
set_option maxHeartbeats 8000000
set_option maxRecDepth 20000
theorem ropn (hD : D.atN m) (hm : m ≤ 70000) (hS : St w0 w (hDk gd D :: H)) :
    Fn Try.prog 49 [.pointer (some ⟨gd, 0, none⟩)] w fun v w' =>
      (∃ W gw, D.opn.2.1 = some W ∧ D.opn.2.2 = 0 ∧ v = .tuple #[.pointer (some ⟨gw, 0, none⟩), .int .i64 0] ∧ St w0 w' (hMl gw gd W :: hDk gd D.opn.1 :: H)) ∨
      (D.opn.2.1 = none ∧ D.opn.2.2 ≠ 0 ∧ v = .tuple #[.pointer none, .int .i64 D.opn.2.2] ∧ St w0 w' (hDk gd D.opn.1 :: H)) := by
  have hlen := hD.ok.len
  obtain ⟨N, hN⟩ : ∃ N, D.safe.length = N := ⟨_, rfl⟩
  refine enter 130 Try.func49 rfl rfl rfl ?_
  intro a hE
  repeat' (first
 | (with_reducible refine wp_seq ?_)
 | (with_reducible refine c_region ?_)
 | (with_reducible refine wpList_nil ?_)
 | (with_reducible refine then_normal ?_)
 | ((with_reducible refine g_move ?_); refine s_move hE rfl rfl ?_; clear hE a; intro a hE)
 | ((with_reducible refine g_assign ?_); refine s_assign hE rfl rfl ?_; clear hE a; intro a hE))
  refine s_call hE rfl rfl rfl (klen hS) ?_
  rintro _ w ⟨rfl, hS⟩; clear hE a; intro a hE
  rw [hN] at hE hlen
  refine s_make hE hS rfl rfl (by omega) (by omega) (by omega) (by omega) rfl ?_
  clear hE a hS; intro gm a w hE hS
  rw [Int.toNat_natCast] at hE hS
  rw [made64] at hS
  repeat' (first
 | (with_reducible refine wp_seq ?_)
 | (with_reducible refine c_region ?_)
 | (with_reducible refine wpList_nil ?_)
 | (with_reducible refine then_normal ?_)
 | (with_reducible refine wp_block ?_)
 | ((with_reducible refine g_move ?_); refine s_move hE rfl rfl ?_; clear hE a; intro a hE)
 | ((with_reducible refine g_assign ?_); refine s_assign hE rfl rfl ?_; clear hE a; intro a hE))
  have hrlen : ∀ {D : DM} {at_ : Int} {n : Nat}, (D.rds at_ n).2.2 = 0 → (D.rds at_ n).2.1.length = n := fun {D at_ n} h => by
    have := rdl_len (l := fromL at_ 0 n) h
    rw [fromL_len] at this
    exact this
  have hnw : ∀ x ∈ List.replicate N noughts, Blk.ok x := fun x hx => by rw [List.eq_of_mem_replicate hx]; exact noughts_ok
  have hrl : (List.replicate N noughts).length = N := List.length_replicate
  have hs0 : spliceB (List.replicate N noughts) 0 [] = List.replicate N noughts := rfl
  rw [← hs0] at hS
  generalize hnts : List.replicate N noughts = nts at hS hnw hrl
  -- the two heads
  refine wp_loop_ghost (fun q a w => ∃ (k : Nat) (Dk : DM) (bs : List Blk), k + q = 2 ∧ bs.length = k ∧ k ≤ N ∧ Dk.atN (m + k) ∧ Dk.safe.length = N ∧ (∀ b ∈ bs, Blk.ok b) ∧ D.rds ((0 : Nat) : Int) 2 = ((Dk.rdl (fromL ((0 : Nat) : Int) k (2 - k))).1, bs ++ (Dk.rdl (fromL ((0 : Nat) : Int) k (2 - k))).2.1, (Dk.rdl (fromL ((0 : Nat) : Int) k (2 - k))).2.2) ∧
      St w0 w (hRow 80 64 (some ⟨gm, 0, none⟩) N N ((spliceB nts 0 bs).flatMap bys) :: hDk gd Dk :: H) ∧ Env 130 [(0, .pointer (some ⟨gd, 0, none⟩)), (4, .slice (some ⟨gm, 0, none⟩) N N), (24, .int .i64 (k : Int))] a) 2 ⟨0, D, [], by omega, rfl, by omega, hD, hN, (fun b hb => by cases hb), rfl, hS, hE.sub ⟨rfl, rfl, rfl, trivial⟩⟩ ?_
  clear hE a hS
  rintro q a w ⟨k, Dk, bs, hk, hbl, hkN, hDa, hDl, hbs, hrd, hS, hE⟩
  have hso := spliceB_mem (f := 0) hnw hbs
  have hsl := spliceB_len (s := nts) (at_ := 0) (l := bs) (by omega)
  have hfs : ((spliceB nts 0 bs).flatMap bys).length = N * 64 := by rw [flat_bys hso, hsl, hrl]
  by_cases hk1 : k < 2
  · rw [show 2 - k = (2 - (k + 1)) + 1 by omega, fromL_cons, show ((0 : Nat) : Int) + (k : Int) = (k : Int) by omega] at hrd
    repeat' (first
 | (with_reducible refine wp_seq ?_)
 | (with_reducible refine c_region ?_)
 | (with_reducible refine wpList_nil ?_)
 | (with_reducible refine then_normal ?_)
 | (with_reducible refine wp_skip ?_)
 | (with_reducible refine wp_block ?_)
 | ((with_reducible refine g_move ?_); refine s_move hE rfl rfl ?_; clear hE a; intro a hE)
 | ((with_reducible refine g_assign ?_); refine s_assign hE rfl rfl ?_; clear hE a; intro a hE)
 | ((with_reducible refine g_bin .lss ?_); refine s_lss hE rfl rfl rfl ?_; clear hE a; intro a hE)
 | ((with_reducible refine g_cond ?_); refine c_dec hE rfl (fun hc => ?_) (fun hc => ?_) <;> try omega))
    refine s_call hE rfl rfl rfl (kread (k : Int) hDa (by omega) hS.p1) ?_
    rintro _ w ⟨rfl, hS⟩; clear hE a; intro a hE
    have hrb := read_blk hDa.ok (k : Int)
    have hra := read_atN hDa (by omega) (k : Int)
    have hrN := read_len Dk (k : Int)
    have hin : (Dk.read (k : Int)).2.2 = 0 → k < N := fun h => by
      have h1 : (Dk.ready (k : Int)).2 = 0 := by
        unfold DM.read at h
        split at h
        · assumption
        · exact h
      have := (ready_in h1).2
      omega
    have hxl : (bys (Dk.read (k : Int)).2.1).length = 64 := by rw [bys_length]; exact hrb.1
    unfold DM.rdl at hrd
    generalize Dk.read (k : Int) = r at hE hS hrb hra hrN hin hxl hrd
    obtain ⟨D2, x, e⟩ := r
    dsimp only at hE hS hrb hra hrN hin hxl hrd
    have hbo := bys_one x
    have hnl : (bys noughts).length = 64 := by rw [bys_length]; exact noughts_ok.1
    by_cases he : e = 0
    · subst he
      rw [if_pos rfl] at hrd
      dsimp only at hrd
      have hkn := hin rfl
      repeat' (first
 | (with_reducible refine wp_seq ?_)
 | (with_reducible refine c_region ?_)
 | (with_reducible refine wpList_nil ?_)
 | (with_reducible refine then_normal ?_)
 | (with_reducible refine wp_skip ?_)
 | ((with_reducible refine g_move ?_); refine s_move hE rfl rfl ?_; clear hE a; intro a hE)
 | ((with_reducible refine g_assign ?_); refine s_assign hE rfl rfl ?_; clear hE a; intro a hE)
 | ((with_reducible refine g_bin .neq ?_); refine s_neq hE rfl rfl rfl ?_; clear hE a; intro a hE)
 | ((with_reducible refine g_extract ?_); refine s_extract hE rfl rfl rfl ?_; clear hE a; intro a hE)
 | ((with_reducible refine g_cond ?_); refine c_false hE rfl ?_)
 | ((with_reducible refine g_ia ?_); refine s_idxR hE rfl rfl (by omega) (by omega) (by (first | exact hS.rdAt (k := 2) rfl )) (by first | omega ) rfl ?_; clear hE a; intro a hE)
 | ((with_reducible refine g_alloc ?_); refine s_allocS hE hS rfl rfl ?_; clear hE a hS; intro g a w hE hS)
 | ((with_reducible refine g_load ?_); (first | (refine s_loadW (k := 0) hS hE rfl rfl (by first | assumption ) rfl ?_) ); clear hE a; intro a hE)
 | ((with_reducible refine g_store ?_); (first | (refine s_storeW (k := 0) hS hE rfl rfl rfl (by assumption) (by first | rfl | assumption) (by first | exact bys_one _ ) ?_) ); clear hS; intro w hS; simp only [List.set_cons_zero, List.set_cons_succ, Nat.add_zero] at hS))
      refine s_storeRs (k := 2) hS hE rfl rfl rfl (by rw [bys_length]; exact hrb.1) rfl (by rw [hfs]; omega) (bys_one _) ?_
      clear hS; intro w hS; simp only [List.set_cons_zero, List.set_cons_succ] at hS
      have hsn := spliceB_snoc (s := nts) (bs := bs) (f := 0) (x := x) (by omega)
      rw [Nat.zero_add, hbl] at hsn
      rw [Int.toNat_natCast, splice_set hso (by omega) hrb.1, hsn] at hS
      repeat' (first
 | (with_reducible refine c_region ?_)
 | (with_reducible refine wpList_nil ?_)
 | (with_reducible refine then_normal ?_)
 | (with_reducible refine block_normal ?_)
 | ((with_reducible refine g_move ?_); refine s_move hE rfl rfl ?_; clear hE a; intro a hE)
 | ((with_reducible refine g_bin .add ?_); refine s_add hE rfl rfl rfl (by first  | exact wrap64_in (by omega) ) ?_; clear hE a; intro a hE))
      refine ⟨q - 1, by omega, k + 1, D2, bs ++ [x], by omega, by rw [List.length_append, hbl]; rfl, by omega, hra.mono (by omega), by omega, ?_, ?_, (St.selD [2, 1] 1 hS), hE.sub ⟨rfl, rfl, rfl, trivial⟩⟩
      · intro b hb
        rcases List.mem_append.1 hb with h | h
        · exact hbs b h
        · rw [List.mem_singleton] at h; subst h; exact hrb
      · rw [hrd, List.append_assoc]; rfl
    · rw [if_neg he] at hrd
      dsimp only at hrd
      unfold DM.opn
      rw [hrd]
      dsimp only
      rw [if_pos he]
      repeat' (first
 | (with_reducible refine wp_seq ?_)
 | (with_reducible refine c_region ?_)
 | (with_reducible refine wpList_nil ?_)
 | (with_reducible refine then_normal ?_)
 | (with_reducible refine wp_ret ?_)
 | (with_reducible refine then_ret ?_)
 | (with_reducible refine block_ret ?_)
 | ((with_reducible refine g_move ?_); refine s_move hE rfl rfl ?_; clear hE a; intro a hE)
 | ((with_reducible refine g_assign ?_); refine s_assign hE rfl rfl ?_; clear hE a; intro a hE)
 | ((with_reducible refine g_bin .neq ?_); refine s_neq hE rfl rfl rfl ?_; clear hE a; intro a hE)
 | ((with_reducible refine g_extract ?_); refine s_extract hE rfl rfl rfl ?_; clear hE a; intro a hE)
 | ((with_reducible refine g_cond ?_); refine c_dec hE rfl (fun hc => ?_) (fun hc => ?_) <;> try omega)
 | ((with_reducible refine g_alloc ?_); refine s_allocS hE hS rfl rfl ?_; clear hE a hS; intro g a w hE hS)
 | ((with_reducible refine g_store ?_); (first | (refine s_storeW (k := 0) hS hE rfl rfl rfl (by assumption) (by first | rfl ) (by first | exact bys_one _ ) ?_) ); clear hS; intro w hS; simp only [List.set_cons_zero, List.set_cons_succ, Nat.add_zero] at hS))
      exact ret2 hE rfl rfl rfl (.inr ⟨rfl, he, rfl, (St.selD [1] 2 hS)⟩)
  obtain rfl : k = 2 := by omega
  have hrd2 : D.rds ((0 : Nat) : Int) 2 = (Dk, bs, 0) := by rw [hrd]; unfold fromL DM.rdl; simp
  unfold DM.opn
  rw [hrd2]
  dsimp only
  rw [if_neg (fun h => h rfl), hDl, hbl]
  clear hrd hrd2
  repeat' (first
 | (with_reducible refine wp_seq ?_)
 | (with_reducible refine c_region ?_)
 | (with_reducible refine wpList_nil ?_)
 | (with_reducible refine then_normal ?_)
 | (with_reducible refine wp_exit ?_)
 | (with_reducible refine then_exit ?_)
 | (with_reducible refine block_same ?_)
 | ((with_reducible refine g_move ?_); refine s_move hE rfl rfl ?_; clear hE a; intro a hE)
 | ((with_reducible refine g_bin .lss ?_); refine s_lss hE rfl rfl rfl ?_; clear hE a; intro a hE)
 | ((with_reducible refine g_cond ?_); refine c_false hE rfl ?_))
  have hls := hsl.trans hrl
  have hcn := rcounts (spliceB nts 0 bs) (some ⟨gm, 0, none⟩) N hso (by omega) (by omega) w hS.rd
  rw [hls] at hcn
  have hfc : findP N (spliceB nts 0 bs) 2 = findP N bs 2 := findP_congr 2 fun i hi => by
    unfold spliceB
    rw [List.getD_eq_getElem?_getD, List.getD_eq_getElem?_getD, List.take_zero, List.nil_append, List.getElem?_append_left (by omega)]
  rw [hfc] at hcn
  refine s_call hE rfl rfl rfl hcn ?_
  clear hcn
  have hflt := findP_lt (sec := N) hbs 2 (by omega)
  have hfok := findP_ok (sec := N) (l := bs) 2
  generalize findP N bs 2 = f at hflt hfok ⊢
  obtain ⟨t, ar, ok⟩ := f
  dsimp only at hflt hfok ⊢
  rintro _ w ⟨rfl, hS1⟩; clear hE a; intro a hE; replace hS := hS.frame hS1; clear hS1; try simp only [List.cons_append, List.nil_append] at hS
  cases ok
  · rw [if_pos rfl]
    repeat' (first
 | (with_reducible refine wp_seq ?_)
 | (with_reducible refine c_region ?_)
 | (with_reducible refine wpList_nil ?_)
 | (with_reducible refine then_normal ?_)
 | (with_reducible refine wp_ret ?_)
 | (with_reducible refine then_ret ?_)
 | ((with_reducible refine g_move ?_); refine s_move hE rfl rfl ?_; clear hE a; intro a hE)
 | ((with_reducible refine g_assign ?_); refine s_assign hE rfl rfl ?_; clear hE a; intro a hE)
 | ((with_reducible refine g_un .not ?_); refine s_notb hE rfl rfl ?_; clear hE a; intro a hE)
 | ((with_reducible refine g_extract ?_); refine s_extract hE rfl rfl rfl ?_; clear hE a; intro a hE)
 | ((with_reducible refine g_cond ?_); refine c_true hE rfl ?_))
    exact ret2 hE rfl rfl rfl (.inr ⟨rfl, (by decide : (140 : Int) ≠ 0), rfl, hS.tail⟩)
  rw [if_neg (by decide)]
  obtain ⟨⟨ha4, ha1⟩, hfit⟩ := hfok rfl
  have h2 : t % 2 < 2 := Nat.mod_lt _ (by decide)
  have e1 : (t : Int).tmod 2 = ((t % 2 : Nat) : Int) := tmod_nat t 2
  have e2 : IntKind.i64.wrap ((t % 2 : Nat) : Int) = ((t % 2 : Nat) : Int) := wrap64_in (by omega)
  have hma : t % 2 * ar ≤ ar := by
    generalize t % 2 = m at h2
    rcases (by omega : m = 0 ∨ m = 1) with rfl | rfl <;> omega
  have e3 : IntKind.i64.wrap (((t % 2 : Nat) : Int) * (ar : Int)) = ((t % 2 * ar : Nat) : Int) := by rw [← Int.natCast_mul, wrap64_in (by omega)]
  have e4 : IntKind.i64.wrap (2 + ((t % 2 * ar : Nat) : Int)) = ((fromN t ar : Nat) : Int) := by
    rw [wrap64_in (by omega)]
    unfold fromN
    omega
  have hfr : fromN t ar + ar ≤ N := by unfold fromN; omega
  have hfr2 : 2 ≤ fromN t ar := by unfold fromN; omega
  obtain ⟨fr, hfre⟩ : ∃ fr, fr = fromN t ar := ⟨_, rfl⟩
  rw [← hfre] at e4 hfr hfr2
  repeat' (first
 | (with_reducible refine wp_seq ?_)
 | (with_reducible refine c_region ?_)
 | (with_reducible refine wpList_nil ?_)
 | (with_reducible refine then_normal ?_)
 | (with_reducible refine wp_skip ?_)
 | (with_reducible refine wp_block ?_)
 | ((with_reducible refine g_move ?_); refine s_move hE rfl rfl ?_; clear hE a; intro a hE)
 | ((with_reducible refine g_assign ?_); refine s_assign hE rfl rfl ?_; clear hE a; intro a hE)
 | ((with_reducible refine g_bin .add ?_); refine s_add hE rfl rfl rfl (by first | exact e4 ) ?_; clear hE a; intro a hE)
 | ((with_reducible refine g_bin .mul ?_); refine s_mul hE rfl rfl rfl (by first | exact e3 ) ?_; clear hE a; intro a hE)
 | ((with_reducible refine g_bin .rem ?_); refine s_rem hE rfl rfl (by omega) rfl (by first | exact e1 ) ?_; clear hE a; intro a hE)
 | ((with_reducible refine g_un .not ?_); refine s_notb hE rfl rfl ?_; clear hE a; intro a hE)
 | ((with_reducible refine g_conv ?_); refine s_conv hE rfl rfl (by first | exact e2 ) ?_; clear hE a; intro a hE)
 | ((with_reducible refine g_extract ?_); refine s_extract hE rfl rfl rfl ?_; clear hE a; intro a hE)
 | ((with_reducible refine g_cond ?_); refine c_false hE rfl ?_))
  generalize hst0 : spliceB nts 0 bs = st at hS hso hls
  unfold DM.opn2
  dsimp only
  rw [← hfre]
  have hs0 : spliceB st fr [] = st := by unfold spliceB; simp
  rw [← hs0] at hS
  clear hs0 hst0 hfs hsl
  have hDk2 : Dk.atN (m + 2) := hDa
  clear hbl hbs hfc hk hk1 hfok
  refine wp_loop_ghost (fun q a w => ∃ (k : Nat) (D2 : DM) (bs : List Blk), k + q = ar ∧ bs.length = k ∧ D2.atN (m + 2 + k) ∧ D2.safe.length = N ∧ (∀ b ∈ bs, Blk.ok b) ∧ Dk.rds ((fr : Nat) : Int) ar = ((D2.rdl (fromL ((fr : Nat) : Int) k (ar - k))).1, bs ++ (D2.rdl (fromL ((fr : Nat) : Int) k (ar - k))).2.1, (D2.rdl (fromL ((fr : Nat) : Int) k (ar - k))).2.2) ∧
      St w0 w (hRow 80 64 (some ⟨gm, 0, none⟩) N N ((spliceB st fr bs).flatMap bys) :: hDk gd D2 :: H) ∧ Env 130 [(0, .pointer (some ⟨gd, 0, none⟩)), (4, .slice (some ⟨gm, 0, none⟩) N N), (8, .int .u32 (t : Int)), (9, .int .i64 (ar : Int)), (11, .int .i64 (fr : Int)), (55, .int .i64 (ar : Int)), (56, .int .i64 (k : Int))] a) ar ⟨0, Dk, [], by omega, rfl, hDa, hDl, (fun b hb => by cases hb), rfl, hS, hE.sub ⟨rfl, rfl, rfl, rfl, rfl, rfl, rfl, trivial⟩⟩ ?_
  clear hE a hS
  rintro q a w ⟨k, D2, bs, hk, hbl, hDa, hDl2, hbs, hrd, hS, hE⟩
  have hso2 := spliceB_mem (f := fr) hso hbs
  have hsl := spliceB_len (s := st) (at_ := fr) (l := bs) (by omega)
  have hfs : ((spliceB st fr bs).flatMap bys).length = N * 64 := by rw [flat_bys hso2, hsl, hls]
  by_cases hk1 : k < ar
  · have e1 : IntKind.i64.wrap ((fr : Int) + (k : Int)) = ((fr + k : Nat) : Int) := by rw [wrap64_in (by omega)]; omega
    rw [show ar - k = (ar - (k + 1)) + 1 by omega, fromL_cons, show (fr : Int) + (k : Int) = ((fr + k : Nat) : Int) by omega] at hrd
    repeat' (first
 | (with_reducible refine wp_seq ?_)
 | (with_reducible refine c_region ?_)
 | (with_reducible refine wpList_nil ?_)
 | (with_reducible refine then_normal ?_)
 | (with_reducible refine wp_skip ?_)
 | (with_reducible refine wp_block ?_)
 | ((with_reducible refine g_move ?_); refine s_move hE rfl rfl ?_; clear hE a; intro a hE)
 | ((with_reducible refine g_assign ?_); refine s_assign hE rfl rfl ?_; clear hE a; intro a hE)
 | ((with_reducible refine g_bin .lss ?_); refine s_lss hE rfl rfl rfl ?_; clear hE a; intro a hE)
 | ((with_reducible refine g_bin .add ?_); refine s_add hE rfl rfl rfl (by first | exact e1 ) ?_; clear hE a; intro a hE)
 | ((with_reducible refine g_cond ?_); refine c_dec hE rfl (fun hc => ?_) (fun hc => ?_) <;> try omega))
    refine s_call hE rfl rfl rfl (kread ((fr + k : Nat) : Int) hDa (by omega) hS.p1) ?_
    rintro _ w ⟨rfl, hS⟩; clear hE a; intro a hE
    have hrb := read_blk hDa.ok ((fr + k : Nat) : Int)
    have hra := read_atN hDa (by omega) ((fr + k : Nat) : Int)
    have hrN := read_len D2 ((fr + k : Nat) : Int)
    have hxl : (bys (D2.read ((fr + k : Nat) : Int)).2.1).length = 64 := by rw [bys_length]; exact hrb.1
    unfold DM.rdl at hrd
    generalize D2.read ((fr + k : Nat) : Int) = r at hE hS hrb hra hrN hxl hrd
    obtain ⟨D3, x, e⟩ := r
    dsimp only at hE hS hrb hra hrN hxl hrd
    have hbo := bys_one x
    have hnl : (bys noughts).length = 64 := by rw [bys_length]; exact noughts_ok.1
    by_cases he : e = 0
    · subst he
      rw [if_pos rfl] at hrd
      dsimp only at hrd
      repeat' (first
 | (with_reducible refine wp_seq ?_)
 | (with_reducible refine c_region ?_)
 | (with_reducible refine wpList_nil ?_)
 | (with_reducible refine then_normal ?_)
 | (with_reducible refine wp_skip ?_)
 | ((with_reducible refine g_move ?_); refine s_move hE rfl rfl ?_; clear hE a; intro a hE)
 | ((with_reducible refine g_assign ?_); refine s_assign hE rfl rfl ?_; clear hE a; intro a hE)
 | ((with_reducible refine g_bin .neq ?_); refine s_neq hE rfl rfl rfl ?_; clear hE a; intro a hE)
 | ((with_reducible refine g_bin .add ?_); refine s_add hE rfl rfl rfl (by first | exact e1 ) ?_; clear hE a; intro a hE)
 | ((with_reducible refine g_extract ?_); refine s_extract hE rfl rfl rfl ?_; clear hE a; intro a hE)
 | ((with_reducible refine g_cond ?_); refine c_false hE rfl ?_)
 | ((with_reducible refine g_ia ?_); refine s_idxR hE rfl rfl (by omega) (by omega) (by (first | exact hS.rdAt (k := 2) rfl )) (by first | omega ) rfl ?_; clear hE a; intro a hE)
 | ((with_reducible refine g_alloc ?_); refine s_allocS hE hS rfl rfl ?_; clear hE a hS; intro g a w hE hS)
 | ((with_reducible refine g_load ?_); (first | (refine s_loadW (k := 0) hS hE rfl rfl (by first | assumption ) rfl ?_) ); clear hE a; intro a hE)
 | ((with_reducible refine g_store ?_); (first | (refine s_storeW (k := 0) hS hE rfl rfl rfl (by assumption) (by first | rfl | assumption) (by first | exact bys_one _ ) ?_) ); clear hS; intro w hS; simp only [List.set_cons_zero, List.set_cons_succ, Nat.add_zero] at hS))
      refine s_storeRs (k := 2) hS hE rfl rfl rfl (by rw [bys_length]; exact hrb.1) rfl (by rw [hfs]; omega) (bys_one _) ?_
      clear hS; intro w hS; simp only [List.set_cons_zero, List.set_cons_succ] at hS
      have hsn := spliceB_snoc (s := st) (bs := bs) (f := fr) (x := x) (by omega)
      rw [hbl] at hsn
      rw [Int.toNat_natCast, splice_set hso2 (by omega) hrb.1, hsn] at hS
      repeat' (first
 | (with_reducible refine c_region ?_)
 | (with_reducible refine wpList_nil ?_)
 | (with_reducible refine then_normal ?_)
 | (with_reducible refine block_normal ?_)
 | ((with_reducible refine g_move ?_); refine s_move hE rfl rfl ?_; clear hE a; intro a hE)
 | ((with_reducible refine g_bin .add ?_); refine s_add hE rfl rfl rfl (by first  | exact wrap64_in (by omega) ) ?_; clear hE a; intro a hE))
      refine ⟨q - 1, by omega, k + 1, D3, bs ++ [x], by omega, by rw [List.length_append, hbl]; rfl, hra.mono (by omega), by omega, ?_, ?_, (St.selD [2, 1] 1 hS), hE.sub ⟨rfl, rfl, rfl, rfl, rfl, rfl, rfl, trivial⟩⟩
      · intro b hb
        rcases List.mem_append.1 hb with h | h
        · exact hbs b h
        · rw [List.mem_singleton] at h; subst h; exact hrb
      · rw [hrd, List.append_assoc]; rfl
    · rw [if_neg he] at hrd
      dsimp only at hrd
      rw [hrd]
      dsimp only
      rw [if_pos he]
      repeat' (first
 | (with_reducible refine wp_seq ?_)
 | (with_reducible refine c_region ?_)
 | (with_reducible refine wpList_nil ?_)
 | (with_reducible refine then_normal ?_)
 | (with_reducible refine wp_ret ?_)
 | (with_reducible refine then_ret ?_)
 | (with_reducible refine block_ret ?_)
 | ((with_reducible refine g_move ?_); refine s_move hE rfl rfl ?_; clear hE a; intro a hE)
 | ((with_reducible refine g_assign ?_); refine s_assign hE rfl rfl ?_; clear hE a; intro a hE)
 | ((with_reducible refine g_bin .neq ?_); refine s_neq hE rfl rfl rfl ?_; clear hE a; intro a hE)
 | ((with_reducible refine g_extract ?_); refine s_extract hE rfl rfl rfl ?_; clear hE a; intro a hE)
 | ((with_reducible refine g_cond ?_); refine c_dec hE rfl (fun hc => ?_) (fun hc => ?_) <;> try omega)
 | ((with_reducible refine g_alloc ?_); refine s_allocS hE hS rfl rfl ?_; clear hE a hS; intro g a w hE hS)
 | ((with_reducible refine g_store ?_); (first | (refine s_storeW (k := 0) hS hE rfl rfl rfl (by assumption) (by first | rfl ) (by first | exact bys_one _ ) ?_) ); clear hS; intro w hS; simp only [List.set_cons_zero, List.set_cons_succ, Nat.add_zero] at hS))
      exact ret2 hE rfl rfl rfl (.inr ⟨rfl, he, rfl, (St.selD [1] 2 hS)⟩)
  obtain rfl : k = ar := by omega
  have hrd2 : Dk.rds ((fr : Nat) : Int) k = (D2, bs, 0) := by rw [hrd, Nat.sub_self]; unfold fromL DM.rdl; simp
  rw [hrd2]
  dsimp only
  rw [if_neg (fun h => h rfl)]
  clear hrd hrd2 hDk2
  repeat' (first
 | (with_reducible refine wp_seq ?_)
 | (with_reducible refine c_region ?_)
 | (with_reducible refine wpList_nil ?_)
 | (with_reducible refine then_normal ?_)
 | (with_reducible refine wp_exit ?_)
 | (with_reducible refine then_exit ?_)
 | (with_reducible refine block_same ?_)
 | ((with_reducible refine g_move ?_); refine s_move hE rfl rfl ?_; clear hE a; intro a hE)
 | ((with_reducible refine g_bin .lss ?_); refine s_lss hE rfl rfl rfl ?_; clear hE a; intro a hE)
 | ((with_reducible refine g_cond ?_); refine c_dec hE rfl (fun hc => ?_) (fun hc => ?_) <;> try omega))
  refine s_call hE rfl rfl rfl (rof t k N N (some ⟨gm, 0, none⟩) hflt.1 ha1 (by omega) (by rw [← hfre]; exact hfr) (Nat.le_refl _) w) ?_
  rintro _ w ⟨rfl, hS1⟩; clear hE a; intro a hE; replace hS := hS.frame hS1; clear hS1; try simp only [List.cons_append, List.nil_append] at hS
  rw [← hfre] at hE
  have hbsr : ∀ w', Rd w' (some ⟨gm, 0, none⟩) ((spliceB st fr bs).flatMap bys) → Rd w' ((some (⟨gm, 0, none⟩ : Addr)).map (·.add (fr * 64))) (bs.flatMap bys) := fun w' h => by
    have h1 := (h.drop (fr * 64)).take (k * 64)
    rw [flat_drop _ hso2] at h1
    have hcut := spliceB_cut (s := st) (bs := bs) (f := fr) (by omega)
    have h2 : (((spliceB st fr bs).drop fr).flatMap bys).take (k * 64) = bs.flatMap bys := by
      have h3 : (spliceB st fr bs).drop fr = bs ++ ((spliceB st fr bs).drop fr).drop k := by
        conv => lhs; rw [← List.take_append_drop k ((spliceB st fr bs).drop fr)]
        rw [← hbl, hcut]
      rw [h3, List.flatMap_append]
      exact List.take_left' (by rw [flat_bys hbs, hbl])
    rw [h2] at h1
    exact h1
  generalize hAo : (some (⟨gm, 0, none⟩ : Addr)).map (·.add (fr * 64)) = Ao at hE hbsr
  generalize hco : N - fr = co at hE
  have hcok : bs.length ≤ co := by omega
  repeat' (first
 | (with_reducible refine wp_seq ?_)
 | (with_reducible refine c_region ?_)
 | (with_reducible refine wpList_nil ?_)
 | (with_reducible refine then_normal ?_)
 | ((with_reducible refine g_move ?_); refine s_move hE rfl rfl ?_; clear hE a; intro a hE)
 | ((with_reducible refine g_assign ?_); refine s_assign hE rfl rfl ?_; clear hE a; intro a hE))
  refine s_call hE rfl rfl rfl (rchain bs Ao co t k hbl.symm hflt.1 hbs (by omega) hcok w (hbsr w hS.rd)) ?_
  rintro _ w ⟨A5, c5, sls, hsl5, hsb, rfl, hS1⟩; clear hE a; intro a hE; replace hS := hS.frame hS1; clear hS1; try simp only [List.cons_append, List.nil_append] at hS
  have hcc : (chain bs t).2 ≤ bs.length := (chainP_ok hbs (t := t) (q := bs.length + 1) (bs := []) (fin := 0) (Nat.zero_le _) (Nat.le_refl _) (fun b hb => by cases hb)).1
  unfold DM.opn3
  rw [← hsl5]
  generalize (chain bs t).2 = fin at hE hcc ⊢
  rcases sls with _ | ⟨s0, sls⟩
  · have hf : (if List.map Sl.b ([] : List Sl) = [] then (D2, (none : Option WM), (140 : Int)) else
        let tn := torn bs (fromN t k : Nat) fin (k - fin)
        let r := if tn ≠ [] ∨ D2.pend ≠ [] then D2.wipe tn else (D2, 0)
        if r.2 ≠ 0 then (r.1, none, r.2) else (r.1, some ⟨k, t, List.map Sl.b ([] : List Sl), fin, false⟩, 0)) = (D2, none, 140) := if_pos rfl
    rw [hf]
    repeat' (first
 | (with_reducible refine wp_seq ?_)
 | (with_reducible refine c_region ?_)
 | (with_reducible refine wpList_nil ?_)
 | (with_reducible refine then_normal ?_)
 | (with_reducible refine wp_ret ?_)
 | (with_reducible refine then_ret ?_)
 | ((with_reducible refine g_move ?_); refine s_move hE rfl rfl ?_; clear hE a; intro a hE)
 | ((with_reducible refine g_assign ?_); refine s_assign hE rfl rfl ?_; clear hE a; intro a hE)
 | ((with_reducible refine g_bin .eql ?_); refine s_eql hE rfl rfl rfl ?_; clear hE a; intro a hE)
 | ((with_reducible refine g_blt .len ?_); refine s_len hE rfl rfl ?_; clear hE a; intro a hE)
 | ((with_reducible refine g_extract ?_); refine s_extract hE rfl rfl rfl ?_; clear hE a; intro a hE)
 | ((with_reducible refine g_cond ?_); refine c_true hE rfl ?_))
    exact ret2 hE rfl rfl rfl (.inr ⟨rfl, (by decide : (140 : Int) ≠ 0), rfl, (St.selD [3] 3 hS)⟩)
  rw [if_neg (show ¬ List.map Sl.b (s0 :: sls) = [] by simp)]
  dsimp only
  have hle : (s0 :: sls).length = sls.length + 1 := rfl
  generalize s0 :: sls = sl at hS hE hsl5 hsb hle ⊢
  repeat' (first
 | (with_reducible refine wp_seq ?_)
 | (with_reducible refine c_region ?_)
 | (with_reducible refine wpList_nil ?_)
 | (with_reducible refine then_normal ?_)
 | (with_reducible refine wp_skip ?_)
 | (with_reducible refine wp_block ?_)
 | ((with_reducible refine g_move ?_); refine s_move hE rfl rfl ?_; clear hE a; intro a hE)
 | ((with_reducible refine g_assign ?_); refine s_assign hE rfl rfl ?_; clear hE a; intro a hE)
 | ((with_reducible refine g_bin .eql ?_); refine s_eql hE rfl rfl rfl ?_; clear hE a; intro a hE)
 | ((with_reducible refine g_blt .len ?_); refine s_len hE rfl rfl ?_; clear hE a; intro a hE)
 | ((with_reducible refine g_extract ?_); refine s_extract hE rfl rfl rfl ?_; clear hE a; intro a hE)
 | ((with_reducible refine g_cond ?_); refine c_dec hE rfl (fun hc => ?_) (fun hc => ?_) <;> try omega))
  replace hS := St.rowNil hS 3 1
  rw [← hfre]
  refine wp_loop_ghost (fun q a w => ∃ (A7 : Option Addr) (c7 k2 : Nat), k2 + q = k - fin ∧ St w0 w (hRow 3 1 A7 (torn bs (fr : Nat) fin k2).length c7 (izs (torn bs (fr : Nat) fin k2)) :: hRow 34 1 A5 sl.length c5 (sl.map Sl.v) :: wrP sl :: hRow 80 64 (some ⟨gm, 0, none⟩) N N ((spliceB st fr bs).flatMap bys) :: hDk gd D2 :: H) ∧
    Env 130 [(0, .pointer (some ⟨gd, 0, none⟩)), (8, .int .u32 (t : Int)), (9, .int .i64 (k : Int)), (11, .int .i64 (fr : Int)), (15, .slice Ao k co), (16, .slice A5 sl.length c5), (17, .int .i64 (fin : Int)), (18, .slice A7 (torn bs (fr : Nat) fin k2).length c7), (19, .int .i64 ((fin + k2 : Nat) : Int))] a) (k - fin) ⟨none, 0, 0, by omega, hS, hE.sub ⟨rfl, rfl, rfl, rfl, rfl, rfl, rfl, rfl, rfl, trivial⟩⟩ ?_
  clear hE a hS
  rintro q a w ⟨A7, c7, k2, hk2, hS, hE⟩
  by_cases hk1 : fin + k2 < k
  · have hkb : fin + k2 < bs.length := by omega
    have hseg := flat_seg (c := bys) (size := 64) (l := bs) (blk_len hbs) hkb
    have hyo := hbs _ (List.getElem_mem hkb)
    have htn := torn_succ bs (fr : Nat) fin k2
    rw [List.getD_eq_getElem?_getD, List.getElem?_eq_getElem hkb, Option.getD_some] at htn
    generalize bs[fin + k2] = y at hseg hyo htn
    have hyl : (bys y).length = 64 := by rw [bys_length]; exact hyo.1
    have hone := bys_one y
    have htl := torn_len bs (fr : Nat) fin k2
    have hrb := hbsr w (hS.rdAt (k := 3) rfl)
    have hfb : (bs.flatMap bys).length = bs.length * 64 := flat_bys hbs
    repeat' (first
 | (with_reducible refine wp_seq ?_)
 | (with_reducible refine c_region ?_)
 | (with_reducible refine wpList_nil ?_)
 | (with_reducible refine then_normal ?_)
 | (with_reducible refine wp_skip ?_)
 | (with_reducible refine wp_block ?_)
 | ((with_reducible refine g_move ?_); refine s_move hE rfl rfl ?_; clear hE a; intro a hE)
 | ((with_reducible refine g_bin .lss ?_); refine s_lss hE rfl rfl rfl ?_; clear hE a; intro a hE)
 | ((with_reducible refine g_cond ?_); refine c_dec hE rfl (fun hc => ?_) (fun hc => ?_) <;> try omega)
 | ((with_reducible refine g_ia ?_); refine s_idxR hE rfl rfl (by omega) (by omega) (by (first | assumption)) (by first | omega ) rfl ?_; clear hE a; intro a hE)
 | ((with_reducible refine g_load ?_); refine s_elemR hE rfl (by (first | assumption )) (by first | exact hseg ) (by first | assumption) (by rfl) rfl ?_; clear hE a; intro a hE))
    refine s_build (bys noughts) hE rfl rfl rfl ?_
    clear hE a; intro a hE
    refine s_val hE rfl rfl rfl (r_neA hE rfl rfl hyo.1 noughts_ok.1) ?_
    clear hE a; intro a hE
    have e7 : IntKind.i64.wrap ((fr : Int) + ((fin + k2 : Nat) : Int)) = (fr : Int) + ((fin + k2 : Nat) : Int) := wrap64_in (by omega)
    have ez : ∀ (xs : List Int) (x : Int), izs (xs ++ [x]) = izs xs ++ [Value.int .i64 x] := fun xs x => by unfold izs; rw [List.map_append]; rfl
    have el : ∀ (xs : List Int) (x : Int), (xs ++ [x]).length = xs.length + 1 := fun xs x => by simp
    by_cases hy : y = noughts
    · rw [decide_eq_false (show ¬ (y ≠ noughts) from fun h => h hy)] at hE
      rw [if_neg (fun h => h hy), List.append_nil] at htn
      repeat' (first
 | (with_reducible refine c_region ?_)
 | (with_reducible refine wpList_nil ?_)
 | (with_reducible refine then_normal ?_)
 | (with_reducible refine wp_skip ?_)
 | (with_reducible refine block_normal ?_)
 | ((with_reducible refine g_move ?_); refine s_move hE rfl rfl ?_; clear hE a; intro a hE)
 | ((with_reducible refine g_assign ?_); refine s_assign hE rfl rfl ?_; clear hE a; intro a hE)
 | ((with_reducible refine g_bin .add ?_); refine s_add hE rfl rfl rfl (by first  | exact wrap64_in (by omega) ) ?_; clear hE a; intro a hE)
 | ((with_reducible refine g_cond ?_); refine c_false hE rfl ?_))
      exact ⟨q - 1, by omega, A7, c7, k2 + 1, by omega, by rw [htn]; exact hS, by rw [htn]; exact hE.sub ⟨rfl, rfl, rfl, rfl, rfl, rfl, rfl, rfl, rfl, trivial⟩⟩
    · rw [decide_eq_true (show y ≠ noughts from hy)] at hE
      rw [if_pos hy] at htn
      repeat' (first
 | (with_reducible refine c_region ?_)
 | (with_reducible refine wpList_nil ?_)
 | (with_reducible refine then_normal ?_)
 | (with_reducible refine block_normal ?_)
 | ((with_reducible refine g_move ?_); refine s_move hE rfl rfl ?_; clear hE a; intro a hE)
 | ((with_reducible refine g_assign ?_); refine s_assign hE rfl rfl ?_; clear hE a; intro a hE)
 | ((with_reducible refine g_bin .add ?_); refine s_add hE rfl rfl rfl (by first | exact e7 | exact wrap64_in (by omega) ) ?_; clear hE a; intro a hE)
 | ((with_reducible refine g_cond ?_); refine c_true hE rfl ?_)
 | ((with_reducible refine g_lit ?_); refine s_lit hE hS rfl rfl rfl rfl rfl (by first | (simp [Value.oneCell']; done)) rfl ?_; clear hE a hS; intro g a w hE hS)
 | ((with_reducible refine g_blt .append ?_); (first | (refine s_appendAt (k := 1) hE hS rfl rfl rfl (by (first | exact hS.rd )) (by (first | rfl )) (by (first | (simp [Value.oneCell']; done))) (by omega) rfl rfl rfl rfl ?_) ); clear hE a hS; intro A c a w hE hS; simp only [List.set_cons_zero, List.set_cons_succ, Nat.add_zero] at hS))
      refine ⟨q - 1, by omega, A, c, k2 + 1, by omega, ?_, ?_⟩
      · rw [htn, el, ez]
        exact (St.selD [1, 1, 1, 1, 1] 1 hS)
      · rw [htn, el]
        exact hE.sub ⟨rfl, rfl, rfl, rfl, rfl, rfl, rfl, rfl, rfl, trivial⟩
  obtain rfl : k2 = k - fin := by omega
  have htl := torn_len bs (fr : Nat) fin (k - fin)
  generalize torn bs (fr : Nat) fin (k - fin) = tn at hS hE htl ⊢
  by_cases htn : tn = []
  · have hl0 : tn.length = 0 := by rw [htn]; rfl
    repeat' (first
 | (with_reducible refine wp_seq ?_)
 | (with_reducible refine c_region ?_)
 | (with_reducible refine wpList_nil ?_)
 | (with_reducible refine then_normal ?_)
 | (with_reducible refine wp_exit ?_)
 | (with_reducible refine then_exit ?_)
 | (with_reducible refine block_same ?_)
 | ((with_reducible refine g_move ?_); refine s_move hE rfl rfl ?_; clear hE a; intro a hE)
 | ((with_reducible refine g_bin .lss ?_); refine s_lss hE rfl rfl rfl ?_; clear hE a; intro a hE)
 | ((with_reducible refine g_bin .gtr ?_); refine s_gtr hE rfl rfl rfl ?_; clear hE a; intro a hE)
 | ((with_reducible refine g_blt .len ?_); refine s_len hE rfl rfl ?_; clear hE a; intro a hE)
 | ((with_reducible refine g_guard ?_); refine gd_yes hE rfl rfl rfl ?_)
 | ((with_reducible refine g_guard ?_); refine gd_dec hE rfl rfl (fun hc hE2 => ?_) (fun hc hE2 => ?_) <;> (try omega) <;> (replace hE := hE2; clear hE2))
 | ((with_reducible refine g_cond ?_); refine c_dec hE rfl (fun hc => ?_) (fun hc => ?_) <;> try omega))
    refine s_call hE rfl rfl rfl (kpending hDa (hS.focus (k := 4) rfl)) ?_
    rintro _ w ⟨A8, c8, rfl, hS⟩; clear hE a; intro a hE
    simp only [List.eraseIdx_cons_succ, List.eraseIdx_cons_zero] at hS
    by_cases hp : D2.pend = []
    · have hp0 : D2.pend.length = 0 := by rw [hp]; rfl
      rw [if_neg (show ¬ (tn ≠ [] ∨ D2.pend ≠ []) from fun h => h.elim (fun h => h htn) (fun h => h hp))]
      rw [if_neg (show ¬ ((D2, (0 : Int)).2 ≠ 0) from fun h => h rfl)]
      repeat' (first
 | (with_reducible refine wp_seq ?_)
 | (with_reducible refine c_region ?_)
 | (with_reducible refine wpList_nil ?_)
 | (with_reducible refine then_normal ?_)
 | (with_reducible refine wp_skip ?_)
 | (with_reducible refine wp_ret ?_)
 | ((with_reducible refine g_move ?_); refine s_move hE rfl rfl ?_; clear hE a; intro a hE)
 | ((with_reducible refine g_assign ?_); refine s_assign hE rfl rfl ?_; clear hE a; intro a hE)
 | ((with_reducible refine g_bin .gtr ?_); refine s_gtr hE rfl rfl rfl ?_; clear hE a; intro a hE)
 | ((with_reducible refine g_blt .len ?_); refine s_len hE rfl rfl ?_; clear hE a; intro a hE)
 | ((with_reducible refine g_guard ?_); refine gd_yes hE rfl rfl rfl ?_)
 | ((with_reducible refine g_pick ?_); refine s_pickF hE rfl rfl rfl ?_; clear hE a; intro a hE)
 | ((with_reducible refine g_cond ?_); refine c_dec hE rfl (fun hc => ?_) (fun hc => ?_) <;> try omega)
 | ((with_reducible refine g_box ?_); refine s_boxS hE hS rfl rfl ?_; clear hE a hS; intro g a w hE hS)
 | ((with_reducible refine g_build ?_); refine s_build [_, _, _, _, _, _] hE rfl rfl rfl ?_; clear hE a; intro a hE))
      exact ret2 hE rfl rfl rfl (.inl ⟨_, g, rfl, rfl, rfl, hMl_close (g := g) (W := ⟨k, t, sl.map Sl.b, fin, false⟩) rfl (St.selD [0, 3, 3, 1] 3 hS)⟩)
    · have hp0 : 0 < D2.pend.length := List.length_pos_iff.2 hp
      rw [if_pos (show tn ≠ [] ∨ D2.pend ≠ [] from .inr hp)]
      repeat' (first
 | (with_reducible refine wp_seq ?_)
 | (with_reducible refine c_region ?_)
 | (with_reducible refine wpList_nil ?_)
 | (with_reducible refine then_normal ?_)
 | ((with_reducible refine g_move ?_); refine s_move hE rfl rfl ?_; clear hE a; intro a hE)
 | ((with_reducible refine g_bin .gtr ?_); refine s_gtr hE rfl rfl rfl ?_; clear hE a; intro a hE)
 | ((with_reducible refine g_blt .len ?_); refine s_len hE rfl rfl ?_; clear hE a; intro a hE)
 | ((with_reducible refine g_guard ?_); refine gd_yes hE rfl rfl rfl ?_)
 | ((with_reducible refine g_pick ?_); refine s_pickF hE rfl rfl rfl ?_; clear hE a; intro a hE)
 | ((with_reducible refine g_cond ?_); refine c_dec hE rfl (fun hc => ?_) (fun hc => ?_) <;> try omega))
      refine s_call hE rfl rfl rfl (rnoughts tn A7 c7 (by omega) hDa (by omega) (H := [hRow 34 1 A5 sl.length c5 (sl.map Sl.v), wrP sl, hRow 80 64 (some ⟨gm, 0, none⟩) N N ((spliceB st fr bs).flatMap bys)] ++ H) (St.selD [1, 1, 1, 1, 1] 1 hS)) ?_
      rintro _ w ⟨rfl, hS⟩; clear hE a; intro a hE
      simp only [List.cons_append, List.nil_append] at hS
      generalize D2.wipe tn = r3 at hE hS ⊢
      obtain ⟨D3, e3⟩ := r3
      dsimp only at hE hS ⊢
      by_cases he : e3 ≠ 0
      · rw [if_pos he]
        repeat' (first
 | (with_reducible refine wp_seq ?_)
 | (with_reducible refine c_region ?_)
 | (with_reducible refine wpList_nil ?_)
 | (with_reducible refine then_normal ?_)
 | (with_reducible refine wp_ret ?_)
 | (with_reducible refine then_ret ?_)
 | ((with_reducible refine g_move ?_); refine s_move hE rfl rfl ?_; clear hE a; intro a hE)
 | ((with_reducible refine g_assign ?_); refine s_assign hE rfl rfl ?_; clear hE a; intro a hE)
 | ((with_reducible refine g_bin .neq ?_); refine s_neq hE rfl rfl rfl ?_; clear hE a; intro a hE)
 | ((with_reducible refine g_cond ?_); refine c_dec hE rfl (fun hc => ?_) (fun hc => ?_) <;> try omega))
        exact ret2 hE rfl rfl rfl (.inr ⟨rfl, he, rfl, (St.selD [0] 4 hS)⟩)
      · obtain rfl : e3 = 0 := by omega
        rw [if_neg he]
        repeat' (first
 | (with_reducible refine wp_seq ?_)
 | (with_reducible refine c_region ?_)
 | (with_reducible refine wpList_nil ?_)
 | (with_reducible refine then_normal ?_)
 | (with_reducible refine wp_skip ?_)
 | (with_reducible refine wp_ret ?_)
 | ((with_reducible refine g_move ?_); refine s_move hE rfl rfl ?_; clear hE a; intro a hE)
 | ((with_reducible refine g_assign ?_); refine s_assign hE rfl rfl ?_; clear hE a; intro a hE)
 | ((with_reducible refine g_bin .neq ?_); refine s_neq hE rfl rfl rfl ?_; clear hE a; intro a hE)
 | ((with_reducible refine g_cond ?_); refine c_false hE rfl ?_)
 | ((with_reducible refine g_box ?_); refine s_boxS hE hS rfl rfl ?_; clear hE a hS; intro g a w hE hS)
 | ((with_reducible refine g_build ?_); refine s_build [_, _, _, _, _, _] hE rfl rfl rfl ?_; clear hE a; intro a hE))
        exact ret2 hE rfl rfl rfl (.inl ⟨_, g, rfl, rfl, rfl, hMl_close (g := g) (W := ⟨k, t, sl.map Sl.b, fin, false⟩) rfl (St.selD [0, 2, 2, 0] 2 hS)⟩)
  · have hl0 : 0 < tn.length := List.length_pos_iff.2 htn
    rw [if_pos (show tn ≠ [] ∨ D2.pend ≠ [] from .inl htn)]
    repeat' (first
 | (with_reducible refine wp_seq ?_)
 | (with_reducible refine c_region ?_)
 | (with_reducible refine wpList_nil ?_)
 | (with_reducible refine then_normal ?_)
 | (with_reducible refine wp_exit ?_)
 | (with_reducible refine then_exit ?_)
 | (with_reducible refine block_same ?_)
 | ((with_reducible refine g_move ?_); refine s_move hE rfl rfl ?_; clear hE a; intro a hE)
 | ((with_reducible refine g_bin .lss ?_); refine s_lss hE rfl rfl rfl ?_; clear hE a; intro a hE)
 | ((with_reducible refine g_bin .gtr ?_); refine s_gtr hE rfl rfl rfl ?_; clear hE a; intro a hE)
 | ((with_reducible refine g_blt .len ?_); refine s_len hE rfl rfl ?_; clear hE a; intro a hE)
 | ((with_reducible refine g_guard ?_); refine gd_no hE rfl rfl rfl rfl ?_; clear hE a; intro a hE)
 | ((with_reducible refine g_guard ?_); refine gd_dec hE rfl rfl (fun hc hE2 => ?_) (fun hc hE2 => ?_) <;> (try omega) <;> (replace hE := hE2; clear hE2))
 | ((with_reducible refine g_pick ?_); refine s_pickT hE rfl rfl rfl ?_; clear hE a; intro a hE)
 | ((with_reducible refine g_cond ?_); refine c_true hE rfl ?_)
 | ((with_reducible refine g_cond ?_); refine c_dec hE rfl (fun hc => ?_) (fun hc => ?_) <;> try omega))
    refine s_call hE rfl rfl rfl (rnoughts tn A7 c7 (by omega) hDa (by omega) (H := [hRow 34 1 A5 sl.length c5 (sl.map Sl.v), wrP sl, hRow 80 64 (some ⟨gm, 0, none⟩) N N ((spliceB st fr bs).flatMap bys)] ++ H) (St.selD [4, 0, 0, 0, 0] 0 hS)) ?_
    rintro _ w ⟨rfl, hS⟩; clear hE a; intro a hE
    simp only [List.cons_append, List.nil_append] at hS
    generalize D2.wipe tn = r3 at hE hS ⊢
    obtain ⟨D3, e3⟩ := r3
    dsimp only at hE hS ⊢
    by_cases he : e3 ≠ 0
    · rw [if_pos he]
      repeat' (first
 | (with_reducible refine wp_seq ?_)
 | (with_reducible refine c_region ?_)
 | (with_reducible refine wpList_nil ?_)
 | (with_reducible refine then_normal ?_)
 | (with_reducible refine wp_ret ?_)
 | (with_reducible refine then_ret ?_)
 | ((with_reducible refine g_move ?_); refine s_move hE rfl rfl ?_; clear hE a; intro a hE)
 | ((with_reducible refine g_assign ?_); refine s_assign hE rfl rfl ?_; clear hE a; intro a hE)
 | ((with_reducible refine g_bin .neq ?_); refine s_neq hE rfl rfl rfl ?_; clear hE a; intro a hE)
 | ((with_reducible refine g_cond ?_); refine c_dec hE rfl (fun hc => ?_) (fun hc => ?_) <;> try omega))
      exact ret2 hE rfl rfl rfl (.inr ⟨rfl, he, rfl, (St.selD [0] 4 hS)⟩)
    · obtain rfl : e3 = 0 := by omega
      rw [if_neg he]
      repeat' (first
 | (with_reducible refine wp_seq ?_)
 | (with_reducible refine c_region ?_)
 | (with_reducible refine wpList_nil ?_)
 | (with_reducible refine then_normal ?_)
 | (with_reducible refine wp_skip ?_)
 | (with_reducible refine wp_ret ?_)
 | ((with_reducible refine g_move ?_); refine s_move hE rfl rfl ?_; clear hE a; intro a hE)
 | ((with_reducible refine g_assign ?_); refine s_assign hE rfl rfl ?_; clear hE a; intro a hE)
 | ((with_reducible refine g_bin .neq ?_); refine s_neq hE rfl rfl rfl ?_; clear hE a; intro a hE)
 | ((with_reducible refine g_cond ?_); refine c_false hE rfl ?_)
 | ((with_reducible refine g_box ?_); refine s_boxS hE hS rfl rfl ?_; clear hE a hS; intro g a w hE hS)
 | ((with_reducible refine g_build ?_); refine s_build [_, _, _, _, _, _] hE rfl rfl rfl ?_; clear hE a; intro a hE))
      exact ret2 hE rfl rfl rfl (.inl ⟨_, g, rfl, rfl, rfl, hMl_close (g := g) (W := ⟨k, t, sl.map Sl.b, fin, false⟩) rfl (St.selD [0, 2, 2, 0] 2 hS)⟩)
end
end Go.Proofs.Ytfoeelghehjanaa
