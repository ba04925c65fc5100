/-
  Contracts of wal: how many sectors, where an area begins, the head of a turn.
-/
import Derived.Test.YtfoeelghehjanaaWA
import Derived.Test.YtfoeelghehjanaaGB
import Derived.Test.YtfoeelghehjanaaOC
import Derived.Test.YtfoeelghehjanaaDH
namespace Go.Proofs.Ytfoeelghehjanaa
open Go.RowKit
set_option linter.unusedVariables false
set_option linter.unusedSimpArgs false
theorem rd_all {w : World} {ad : Addr} {cs : List Value} (h : Rd w (some ad) cs) : ∀ j u, cs[j]? = some u → w.cell? (ad.add j) = some u := by
  intro j u hu
  obtain ⟨ad', e, hc⟩ := h (by rintro rfl; simp at hu)
  cases e
  exact hc j u hu
attribute [local irreducible] Rd hRow hBlk hRd hRdr Fn hMarks

section
variable {H : List HP} {w0 w : World}
set_option maxHeartbeats 8000000
theorem sectors (n : Nat) (w0 : World) : Fn Try.prog 15 [.int .i64 (n : Int)] w0 fun v w' => v = .int .i64 (secN n : Int) ∧ St w0 w' [] := by
  refine enter 14 Try.func15 rfl rfl rfl ?_
  intro a hE
  have hS := St.start w0
  by_cases h : 40000 < n
  · have e : secN n = 0 := if_pos h
    rw [e]
    repeat' (first

      | (with_reducible refine wp_seq ?_)
      | (with_reducible refine c_region ?_)
      | (with_reducible refine wpList_nil ?_)
      | (with_reducible refine then_normal ?_)
      | (with_reducible refine wp_ret ?_)
      | (with_reducible refine then_ret ?_)
      | ((with_reducible refine g_move ?_); refine s_move hE rfl rfl ?_; clear hE a; intro a hE)
      | ((with_reducible refine g_assign ?_); refine s_assign hE rfl rfl ?_; clear hE a; intro a hE)
      | ((with_reducible refine g_bin .lss ?_); refine s_lss hE rfl rfl rfl ?_; clear hE a; intro a hE)
      | ((with_reducible refine g_bin .gtr ?_); refine s_gtr hE rfl rfl rfl ?_; clear hE a; intro a hE)
      | ((with_reducible refine g_guard ?_); refine gd_yes hE rfl rfl rfl ?_)
      | ((with_reducible refine g_pick ?_); refine s_pickF hE rfl rfl rfl ?_; clear hE a; intro a hE)
      | ((with_reducible refine g_cond ?_); refine c_dec hE rfl (fun hc => ?_) (fun hc => ?_) <;> try omega)
      )
    all_goals exact ret1 hE rfl rfl ⟨rfl, hS⟩
  · have e : secN n = (n + 51) / 48 := if_neg h
    rw [e]
    have e1 : IntKind.i64.wrap (4 + (n : Int)) = ((4 + n : Nat) : Int) := by rw [wrap64_in (by omega)]; rfl
    have e2 : IntKind.i64.wrap (((4 + n : Nat) : Int) + 48) = ((4 + n + 48 : Nat) : Int) := by rw [wrap64_in (by omega)]; rfl
    have e3 : IntKind.i64.wrap (((4 + n + 48 : Nat) : Int) - 1) = ((n + 51 : Nat) : Int) := by rw [wrap64_in (by omega)]; omega
    have e4 : IntKind.i64.wrap (((n + 51 : Nat) : Int).tdiv ((48 : Nat) : Int)) = (((n + 51) / 48 : Nat) : Int) := quoN (by omega)
    repeat' (first

      | (with_reducible refine wp_seq ?_)
      | (with_reducible refine c_region ?_)
      | (with_reducible refine wpList_nil ?_)
      | (with_reducible refine then_normal ?_)
      | (with_reducible refine wp_skip ?_)
      | (with_reducible refine wp_ret ?_)
      | ((with_reducible refine g_move ?_); refine s_move hE rfl rfl ?_; clear hE a; intro a hE)
      | ((with_reducible refine g_assign ?_); refine s_assign hE rfl rfl ?_; clear hE a; intro a hE)
      | ((with_reducible refine g_bin .lss ?_); refine s_lss hE rfl rfl rfl ?_; clear hE a; intro a hE)
      | ((with_reducible refine g_bin .gtr ?_); refine s_gtr hE rfl rfl rfl ?_; clear hE a; intro a hE)
      | ((with_reducible refine g_bin .add ?_); refine s_add hE rfl rfl rfl (by first | exact e1 | exact e2 ) ?_; clear hE a; intro a hE)
      | ((with_reducible refine g_bin .sub ?_); refine s_sub hE rfl rfl rfl (by first | exact e3 ) ?_; clear hE a; intro a hE)
      | ((with_reducible refine g_bin .quo ?_); refine s_quo hE rfl rfl (by omega) rfl (by first | exact e4 ) ?_; clear hE a; intro a hE)
      | ((with_reducible refine g_guard ?_); refine gd_yes hE rfl rfl rfl ?_)
      | ((with_reducible refine g_pick ?_); refine s_pickF hE rfl rfl rfl ?_; clear hE a; intro a hE)
      | ((with_reducible refine g_cond ?_); refine c_dec hE rfl (fun hc => ?_) (fun hc => ?_) <;> try omega)
      )
    exact ret1 hE rfl rfl ⟨rfl, hS⟩
theorem sized (n : Int) (w0 : World) : Fn Try.prog 57 [.int .i64 n] w0 fun v w' => v = .bool (decide (4 ≤ n ∧ n ≤ 1000)) ∧ St w0 w' [] := by
  refine enter 9 Try.func57 rfl rfl rfl ?_
  intro a hE
  have hS := St.start w0
  repeat' (first

    | (with_reducible refine wp_seq ?_)
    | (with_reducible refine c_region ?_)
    | (with_reducible refine wpList_nil ?_)
    | (with_reducible refine then_normal ?_)
    | (with_reducible refine wp_ret ?_)
    | ((with_reducible refine g_move ?_); refine s_move hE rfl rfl ?_; clear hE a; intro a hE)
    | ((with_reducible refine g_assign ?_); refine s_assign hE rfl rfl ?_; clear hE a; intro a hE)
    | ((with_reducible refine g_bin .leq ?_); refine s_leq hE rfl rfl rfl ?_; clear hE a; intro a hE)
    | ((with_reducible refine g_bin .geq ?_); refine s_geq hE rfl rfl rfl ?_; clear hE a; intro a hE)
    | ((with_reducible refine g_guard ?_); refine gd_yes hE rfl rfl rfl ?_)
    | ((with_reducible refine g_guard ?_); refine gd_no hE rfl rfl rfl rfl ?_; clear hE a; intro a hE)
    | ((with_reducible refine g_guard ?_); refine gd_dec hE rfl rfl (fun hc hE2 => ?_) (fun hc hE2 => ?_) <;> (try omega) <;> (replace hE := hE2; clear hE2))
    | ((with_reducible refine g_pick ?_); refine s_pickT hE rfl rfl rfl ?_; clear hE a; intro a hE)
    | ((with_reducible refine g_pick ?_); refine s_pickF hE rfl rfl rfl ?_; clear hE a; intro a hE)
    )
  · exact ret1 hE rfl rfl ⟨congrArg Value.bool (decide_eq_decide.2 (by omega)), hS⟩
  · exact ret1 hE rfl rfl ⟨by rw [decide_eq_false (by omega)], hS⟩
theorem from_ (t ar : Nat) (ht : t < 4294967296) (ha : ar ≤ 1000) (w0 : World) : Fn Try.prog 53 [.int .u32 (t : Int), .int .i64 (ar : Int)] w0 fun v w' => v = .int .i64 (fromN t ar : Int) ∧ St w0 w' [] := by
  refine enter 11 Try.func53 rfl rfl rfl ?_
  intro a hE
  have hS := St.start w0
  have h2 : t % 2 < 2 := Nat.mod_lt _ (by decide)
  have e1 : (t : Int).tmod 2 = ((t % 2 : Nat) : Int) := tmod_nat t 2
  have e2 : IntKind.i64.wrap ((t % 2 : Nat) : Int) = ((t % 2 : Nat) : Int) := wrap64_in (by omega)
  generalize hm : t % 2 = m at h2 e1 e2
  have hma : m * ar ≤ 1000 := by rcases (by omega : m = 0 ∨ m = 1) with rfl | rfl <;> omega
  have e3 : IntKind.i64.wrap ((m : Int) * (ar : Int)) = ((m * ar : Nat) : Int) := by rw [← Int.natCast_mul, wrap64_in (by omega)]
  have e4 : IntKind.i64.wrap (2 + ((m * ar : Nat) : Int)) = ((2 + m * ar : Nat) : Int) := by rw [wrap64_in (by omega)]; rfl
  have e : fromN t ar = 2 + m * ar := by unfold fromN; rw [hm]
  rw [e]
  repeat' (first

    | (with_reducible refine wp_seq ?_)
    | (with_reducible refine c_region ?_)
    | (with_reducible refine wpList_nil ?_)
    | (with_reducible refine then_normal ?_)
    | (with_reducible refine wp_ret ?_)
    | ((with_reducible refine g_move ?_); refine s_move hE rfl rfl ?_; clear hE a; intro a hE)
    | ((with_reducible refine g_assign ?_); refine s_assign hE rfl rfl ?_; clear hE a; intro a hE)
    | ((with_reducible refine g_bin .add ?_); refine s_add hE rfl rfl rfl (by first | exact e4 ) ?_; clear hE a; intro a hE)
    | ((with_reducible refine g_bin .mul ?_); refine s_mul hE rfl rfl rfl (by first | exact e3 ) ?_; clear hE a; intro a hE)
    | ((with_reducible refine g_bin .rem ?_); refine s_rem hE rfl rfl (by omega) rfl (by first | exact e1 ) ?_; clear hE a; intro a hE)
    | ((with_reducible refine g_conv ?_); refine s_conv hE rfl rfl (by first | exact e2 ) ?_; clear hE a; intro a hE)
    )
  exact ret1 hE rfl rfl ⟨rfl, hS⟩
theorem head (t ar : Nat) (ht : t < 4294967296) (ha : ar < 4294967296) (w0 : World) : Fn Try.prog 84 [.int .u32 (t : Int), .int .i64 (ar : Int)] w0 fun v w' => v = .agg (bys (headB t ar)).toArray ∧ St w0 w' [] := by
  refine enter 24 Try.func84 rfl rfl rfl ?_
  intro a hE
  have hS := St.start w0
  have e1 : IntKind.u32.wrap (ar : Int) = (ar : Int) := wrap_u32_in (by omega)
  refine wp_seq ?_
  refine c_region ?_
  refine s_allocL (bys noughts) hE hS rfl rfl ?_
  clear hE a hS; intro g4 a w hE hS
  repeat' (first

    | (with_reducible refine wp_seq ?_)
    | (with_reducible refine c_region ?_)
    | (with_reducible refine wpList_nil ?_)
    | (with_reducible refine then_normal ?_)
    | ((with_reducible refine g_lit ?_); refine s_lit hE hS rfl rfl rfl rfl rfl (by first | (simp [Value.oneCell']; done)) rfl ?_; clear hE a hS; intro g a w hE hS)
    )
  have hS2 : St w0 w [hRow 5 1 (some ⟨g, 0, none⟩) 8 8 (bys magicB), hBlk g4 80 (bys noughts)] := hS
  clear hS; have hS := hS2; clear hS2
  refine s_convB hE hS rfl rfl ?_
  clear hE a hS; intro a w hE hS
  repeat' (first

    | ((with_reducible refine g_move ?_); refine s_move hE rfl rfl ?_; clear hE a; intro a hE)
    )
  refine s_call hE rfl rfl rfl (put32 (some ⟨g, 0, none⟩) 8 magicB t ht w hS.rd2 (by decide)) ?_
  rintro _ w ⟨A1, c1, rfl, hS1⟩; clear hE a; intro a hE; replace hS := hS.frame hS1; clear hS1; try simp only [List.cons_append, List.nil_append] at hS
  repeat' (first

    | ((with_reducible refine g_move ?_); refine s_move hE rfl rfl ?_; clear hE a; intro a hE)
    | ((with_reducible refine g_conv ?_); refine s_conv hE rfl rfl (by first | exact e1 ) ?_; clear hE a; intro a hE)
    )
  refine s_call hE rfl rfl rfl (put32 A1 c1 (magicB ++ beb 4 t) ar ha w (hS.rdAt (k := 0) rfl) (by rw [List.length_append, beb_length]; decide)) ?_
  rintro _ w ⟨A2, c2, rfl, hS1⟩; clear hE a; intro a hE; replace hS := hS.frame hS1; clear hS1; try simp only [List.cons_append, List.nil_append] at hS
  have hl16 : (magicB ++ beb 4 t ++ beb 4 ar).length = 16 := by simp [magicB, beb_length]
  have hA : headA t ar = magicB ++ beb 4 t ++ beb 4 ar ++ List.replicate 44 0 := rfl
  rw [hl16] at hE hS
  generalize magicB ++ beb 4 t ++ beb 4 ar = b16 at hS hA
  repeat' (first
    | ((with_reducible refine g_appZ ?_); refine s_appendZ (k := 0) (j := 44) (bytes := 1) (z := .int .u8 0) hE hS rfl rfl rfl rfl rfl rfl rfl (by decide) rfl ?_; clear hE a hS; intro A3 c3 a w hE hS; simp only [List.set_cons_zero, Nat.reduceAdd] at hE hS)
    | (with_reducible refine wp_seq ?_)
    | (with_reducible refine c_region ?_)
    | (with_reducible refine wpList_nil ?_)
    | (with_reducible refine then_normal ?_)
    | ((with_reducible refine g_move ?_); refine s_move hE rfl rfl ?_; clear hE a; intro a hE)
    | ((with_reducible refine g_assign ?_); refine s_assign hE rfl rfl ?_; clear hE a; intro a hE)
    | ((with_reducible refine g_bin .sub ?_); refine s_sub hE rfl rfl rfl (by first  | exact wrap64_in (by omega) ) ?_; clear hE a; intro a hE)
    | ((with_reducible refine g_blt .len ?_); refine s_len hE rfl rfl ?_; clear hE a; intro a hE)
    )
  rename_i A3 c3 _ _
  have e3 : bys b16 ++ List.replicate 44 (Value.int .u8 0) = bys (headA t ar) := by
    rw [hA]
    unfold bys
    rw [List.map_append, List.map_replicate]
    rfl
  rw [e3] at hS
  refine s_call hE rfl rfl rfl (sum32S A3 c3 (headA t ar) 60 w (hS.rdAt (k := 0) rfl) (headA_bs t ar) (by rw [headA_len]; decide) (headA_len t ar).symm) ?_
  rintro _ w ⟨rfl, hS1⟩; clear hE a; intro a hE; replace hS := hS.frame hS1; clear hS1; try simp only [List.cons_append, List.nil_append] at hS
  have hp := put32 A3 c3 (headA t ar) (crc32 (headA t ar)) (crc32_lt _ (headA_bs t ar)) w (hS.rdAt (k := 0) rfl) (by rw [headA_len]; decide)
  rw [headA_len] at hp
  refine s_call hE rfl rfl rfl hp ?_
  clear hp
  rintro _ w ⟨A4, c4, rfl, hS1⟩; clear hE a; intro a hE; replace hS := hS.frame hS1; clear hS1; try simp only [List.cons_append, List.nil_append] at hS
  rw [show headA t ar ++ beb 4 (crc32 (headA t ar)) = headB t ar from rfl, headB_len] at hE hS
  have hbl : (bys (headB t ar)).length = 64 := by rw [bys_length]; exact headB_len t ar
  skip
  obtain ⟨hA4, _⟩ := (hS.rdAt (k := 0) rfl).some (List.getElem?_eq_getElem (show 0 < (bys (headB t ar)).length by omega))
  obtain ⟨ad, rfl⟩ : ∃ ad, A4 = some ad := ⟨_, hA4⟩
  refine s_val hE rfl rfl rfl (r_toArr hE rfl (by omega)) ?_
  clear hE a; intro a hE
  refine s_loadA (ad := ad) (cs := bys (headB t ar)) hE rfl hbl (rd_all (hS.rdAt (k := 0) rfl)) rfl ?_
  clear hE a; intro a hE
  have hnl : (bys noughts).length = 64 := by rw [bys_length]; exact noughts_ok.1
  have hone := bys_one (headB t ar)
  repeat' (first

    | (with_reducible refine wpList_nil ?_)
    | (with_reducible refine then_normal ?_)
    | (with_reducible refine wp_ret ?_)
    | ((with_reducible refine g_store ?_); (first | (refine s_storeW (k := 4) hS hE rfl rfl rfl (by assumption) (by first | rfl ) (by first | exact bys_one _ ) ?_) ); clear hS; intro w hS; simp only [List.set_cons_zero, List.set_cons_succ, Nat.add_zero] at hS)
    )
  exact retG (vs := [_]) hE rfl ⟨⟨_, rfl, res_W (k := 4) hS rfl hbl⟩, trivial⟩ ⟨rfl, hS.nil⟩
end
end Go.Proofs.Ytfoeelghehjanaa
