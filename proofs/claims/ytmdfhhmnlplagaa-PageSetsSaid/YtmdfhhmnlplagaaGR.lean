/-
  Contracts of the document's pages: a page's bytes.
-/
import Derived.Test.YtmdfhhmnlplagaaGQ
namespace Go.Proofs.Ytmdfhhmnlplagaa
open Go.RowKit
set_option linter.unusedVariables false
set_option linter.unusedSimpArgs false
attribute [local irreducible] Rd hRow hBlk hRd hRdr rowsP Fn hMarks

def bytesN (p : PM) (k : Nat) : List Nat := beb 2 p.n.toNat ++ beb 8 p.l ++ (p.s.take k).flatMap slotB
theorem bytesN_len {p : PM} (h4 : p.s.length = 4) (h : ∀ x ∈ p.s, x.length ≤ 52) {k : Nat} (hk : k ≤ 4) : (bytesN p k).length = 10 + 53 * k := by
  have e := slots_len (s := p.s.take k) fun x hx => h x (List.mem_of_mem_take hx)
  rw [List.length_take, h4, Nat.min_eq_left hk] at e
  simp only [bytesN, List.length_append, beb_length, e]
theorem bytesN_step {p : PM} {k : Nat} (hk : k < p.s.length) : bytesN p (k + 1) = bytesN p k ++ [(p.s[k]'hk).length] ++ (p.s[k]'hk) ++ List.replicate (52 - (p.s[k]'hk).length) 0 := by
  unfold bytesN
  rw [List.take_succ_eq_append_getElem hk, List.flatMap_append, List.flatMap_singleton]
  simp [slotB]
theorem bys_zeros (l : List Nat) (m : Nat) : bys l ++ List.replicate m (Value.int .u8 0) = bys (l ++ List.replicate m 0) := by
  unfold bys
  rw [List.map_append, List.map_replicate]
  rfl
theorem bys_app (l m : List Nat) : bys l ++ bys m = bys (l ++ m) := by unfold bys; rw [List.map_append]
section
variable {H : List HP} {w0 w : World}
set_option maxHeartbeats 8000000
theorem rbytes (p : Pg) (hp : p.wf) (hr : p.rd w0) (hri : p.m.right = true) :
    Fn Try.prog 22 [.agg p.cells.toArray] w0 fun v w' => ∃ A c, v = .slice A 256 c ∧ St w0 w' [hRow 5 1 A 256 c (bys p.m.enc)] := by
  obtain ⟨⟨hn0, hn1⟩, hsm⟩ := (right_iff p.m).1 hri
  have hsl := Pg.slots hp
  have hok := hp.ok
  obtain ⟨h1, h2, h3, h4⟩ := hp
  have hcl : p.cells.length = 6 := by simp [h1]
  obtain ⟨n, hnn⟩ := Int.eq_ofNat_of_zero_le hn0
  have hnn2 : p.n = (n : Int) := hnn
  have hn1' : p.n < 32 := hn1
  have hnb : n < 32 := by omega
  have en : p.m.n.toNat = n := by show p.n.toNat = n; rw [hnn2]; rfl
  have e64 : IntKind.u64.wrap p.n = (n : Int) := by rw [hnn2]; exact wrap_u64_in (by omega)
  refine enter 40 Try.func22 rfl rfl rfl ?_
  intro a hE
  have hS := St.start w0
  repeat' (first

    | (with_reducible refine wp_seq ?_)
    | (with_reducible refine c_region ?_)
    | (with_reducible refine wpList_nil ?_)
    | (with_reducible refine then_normal ?_)
    | ((with_reducible refine g_assign ?_); refine s_assign hE rfl rfl ?_; clear hE a; intro a hE)
    | ((with_reducible refine g_box ?_); refine s_boxS hE hS rfl rfl ?_; clear hE a hS; intro g a w hE hS)
    )
  refine c_ordK hS 0 rfl 8 ((.rd 0 (.rd 1 (.rd 2 (.rd 4 (.rd 5 (.ef 3 (.ef 6 (.ef 7 (.lt 8 .done)))))))))) mixed (by decide +kernel) ?_
  clear hS; intro w hF hS
  repeat' (first
    | (with_reducible refine o_rd rfl ?_)
    | ((with_reducible refine q_conv ?_); refine d_val hE hS rfl (fun w hS => r_conv hE rfl (by first | exact e64)) ?_; clear hE a; intro a hE)
    | ((with_reducible refine q_fa ?_); refine d_val hE hS rfl (fun w hS => r_fieldL hE rfl rfl) ?_; clear hE a; intro a hE)
    | ((with_reducible refine q_load ?_); (first | (refine d_val hE hS rfl (fun w hS => r_loadB (k := 0) hS hE rfl rfl rfl) ?_) ); clear hE a; intro a hE)
    | ((with_reducible refine o_ef rfl ?_))
    )
  refine s_call hE rfl rfl rfl (rhigh n 2 (by omega) (by omega) w) ?_
  rintro _ w ⟨A1, c1, rfl, hS1⟩; clear hE a; intro a hE; replace hF := hF.frame hS1; clear hS1; simp only [List.cons_append, List.nil_append] at hF
  refine wpList_nil ?_
  refine o_back _ (fun _ h => h) (hF.only 1 rfl) ?_
  clear hS; have hS := hF.only 1 rfl
  repeat' (first
    | ((with_reducible refine o_ef rfl ?_))
    )
  refine s_call hE rfl rfl rfl (rhigh p.l 8 h3 (by omega) w) ?_
  rintro _ w ⟨A2, c2, rfl, hS1⟩; clear hE a; intro a hE; replace hF := hF.frame hS1; clear hS1; simp only [List.cons_append, List.nil_append] at hF
  refine wpList_nil ?_
  refine o_back _ (fun _ h => h) (hF.only 2 rfl) ?_
  clear hS; have hS := hF.only 2 rfl
  rw [beb_length, beb_length] at hE hF
  repeat' (first
    | ((with_reducible refine o_ef rfl ?_))
    )
  refine s_appendAt (k := 1) (size := 1) (bytes := 1) hE hF rfl rfl rfl (hF.rdAt (k := 0) rfl) (by rw [bys_length, beb_length]) (bys_one _) (by decide) rfl rfl rfl rfl ?_
  clear hE a hF; intro A3 c3 a w hE hF
  simp only [List.set_cons_succ, List.set_cons_zero] at hF
  refine wpList_nil ?_
  refine o_back _ (fun _ h => h) (hF.only 2 rfl) ?_
  clear hS; have hS := hF.tail; clear hF
  have e0 : bys (beb 2 n) ++ bys (beb 8 p.l) = bys (bytesN p.m 0) := by
    rw [bys_app]
    unfold bytesN
    rw [en]
    show _ = bys (beb 2 n ++ beb 8 p.l ++ [])
    rw [List.append_nil]
  rw [e0] at hS
  repeat' (first
    | ((with_reducible refine o_lt rfl ?_))
    )
  repeat' (first

    | (with_reducible refine wpList_nil ?_)
    | ((with_reducible refine g_assign ?_); refine s_assign hE rfl rfl ?_; clear hE a; intro a hE)
    )
  refine o_backL ?_
  repeat' (first
    | (with_reducible refine o_done ?_)
    )
  repeat' (first

    | (with_reducible refine wp_seq ?_)
    | (with_reducible refine c_region ?_)
    | (with_reducible refine wpList_nil ?_)
    | (with_reducible refine then_normal ?_)
    | (with_reducible refine wp_block ?_)
    | ((with_reducible refine g_move ?_); refine s_move hE rfl rfl ?_; clear hE a; intro a hE)
    | ((with_reducible refine g_fa ?_); refine s_fieldL hE rfl rfl rfl ?_; clear hE a; intro a hE)
    | ((with_reducible refine g_load ?_); (first | (refine s_loadBs (k := 1) hS hE rfl rfl (by first | exact hsl ) (by omega) rfl ?_) ); clear hE a; intro a hE)
    )
  refine wp_loop_ghost (fun q a w => ∃ (k : Nat) (A' : Option Addr) (c' : Nat), k + q = 4 ∧ St w0 w [hRow 5 1 A' (10 + 53 * k) c' (bys (bytesN p.m k))] ∧ Env 40 [(15, .agg (p.s.map Sl.v).toArray), (16, .int .i64 (k : Int)), (3, .slice A' (10 + 53 * k) c')] a) 4 ⟨0, A3, c3, by omega, hS.only 0 rfl, hE.sub ⟨rfl, rfl, rfl, trivial⟩⟩ ?_
  clear hE a hS
  rintro q a w ⟨k, A', c', hk, hS, hE⟩
  have hll := bytesN_len hok.s4 hsm (k := k) (by omega)
  by_cases hk1 : k < 4
  · have hks : k < p.s.length := by omega
    have hv := Pg.slot hks
    have hrk := hr _ (List.getElem_mem hks)
    have h4k := h4 _ (List.getElem_mem hks)
    have hsk := hsm _ (List.getElem_mem (by rw [hok.s4]; exact hk1 : k < p.m.s.length))
    have hst := bytesN_step (p := p.m) (k := k) (by rw [hok.s4]; exact hk1)
    have hmk : (p.m.s[k]'(by rw [hok.s4]; omega)) = (p.s[k]'hks).b := List.getElem_map ..
    rw [hmk] at hst hsk
    generalize (p.s[k]'hks) = s at hv hrk h4k hst hsk
    have e8 : IntKind.u8.wrap ((s.b.length : Nat) : Int) = ((s.b.length : Nat) : Int) := wrap_u8_in (by omega)
    repeat' (first

      | (with_reducible refine wp_seq ?_)
      | (with_reducible refine c_region ?_)
      | (with_reducible refine wpList_nil ?_)
      | (with_reducible refine then_normal ?_)
      | (with_reducible refine wp_skip ?_)
      | (with_reducible refine wp_block ?_)
      | ((with_reducible refine g_move ?_); refine s_move hE rfl rfl ?_; clear hE a; intro a hE)
      | ((with_reducible refine g_assign ?_); refine s_assign hE rfl rfl ?_; clear hE a; intro a hE)
      | ((with_reducible refine g_bin .lss ?_); refine s_lss hE rfl rfl rfl ?_; clear hE a; intro a hE)
      | ((with_reducible refine g_conv ?_); refine s_conv hE rfl rfl (by first | exact e8 ) ?_; clear hE a; intro a hE)
      | ((with_reducible refine g_blt .len ?_); refine s_len hE rfl rfl ?_; clear hE a; intro a hE)
      | ((with_reducible refine g_cond ?_); refine c_dec hE rfl (fun hc => ?_) (fun hc => ?_) <;> try omega)
      | ((with_reducible refine g_index ?_); refine s_val hE rfl rfl rfl (r_index1 hE rfl rfl (by omega) (by omega) (by assumption)) ?_; clear hE a; intro a hE) | ((with_reducible refine g_lit ?_); (first | (refine s_litB [_] hE hS rfl rfl rfl rfl rfl rfl rfl ?_) ); clear hE a hS; intro g a w hE hS)
      )
    refine s_appendAt (k := 1) (size := 1) (bytes := 1) hE hS rfl rfl rfl (hS.rdAt (k := 0) rfl) (by rw [bys_length, Nat.mul_one]) (bys_one _) (by show (10 + 53 * k + 1) * 1 ≤ _; omega) rfl rfl rfl rfl ?_
    clear hE a hS; intro A4 c4 a w hE hS
    simp only [List.set_cons_succ, List.set_cons_zero, List.length_singleton] at hE hS
    repeat' (first
      | ((with_reducible refine g_appZ ?_); refine s_appendZ (k := 1) (j := 52 - s.b.length) (bytes := 1) (z := .int .u8 0) hE hS rfl rfl (by omega) rfl rfl rfl rfl (by omega) rfl ?_; clear hE a hS; intro A6 c6 a w hE hS; simp only [List.set_cons_succ, List.set_cons_zero] at hS) | ((with_reducible refine g_blt .append ?_); refine s_appendAt (k := 1) (size := 1) (bytes := 1) hE hS rfl rfl rfl (hrk.st hS) (by rw [bys_length, Nat.mul_one]) (bys_one _) (by omega) rfl rfl rfl rfl ?_; clear hE a hS; intro A5 c5 a w hE hS; simp only [List.set_cons_succ, List.set_cons_zero] at hS)
      | (with_reducible refine c_region ?_)
      | (with_reducible refine wpList_nil ?_)
      | (with_reducible refine then_normal ?_)
      | (with_reducible refine block_normal ?_)
      | ((with_reducible refine g_move ?_); refine s_move hE rfl rfl ?_; clear hE a; intro a hE)
      | ((with_reducible refine g_assign ?_); refine s_assign hE rfl rfl ?_; clear hE a; intro a hE)
      | ((with_reducible refine g_bin .add ?_); refine s_add hE rfl rfl rfl (by first  | exact wrap64_in (by omega) ) ?_; clear hE a; intro a hE)
      | ((with_reducible refine g_bin .sub ?_); refine s_sub hE rfl rfl rfl (by first  | exact wrap64_in (by omega) ) ?_; clear hE a; intro a hE)
      | ((with_reducible refine g_blt .len ?_); refine s_len hE rfl rfl ?_; clear hE a; intro a hE)
      )
    rw [bys_app, bys_app, bys_zeros, ← hst] at hS
    rw [show 10 + 53 * k + 1 + s.b.length + (52 - s.b.length) = 10 + 53 * (k + 1) by omega] at hS hE
    exact ⟨q - 1, by omega, k + 1, _, _, by omega, hS.tail, hE.sub ⟨rfl, rfl, rfl, trivial⟩⟩
  · obtain rfl : k = 4 := by omega
    have e4 : bytesN p.m 4 ++ List.replicate 30 0 = p.m.body := by
      unfold bytesN PM.body
      rw [List.take_of_length_le (by rw [hok.s4]; exact Nat.le_refl _)]
    repeat' (first
      | ((with_reducible refine g_appZ ?_); refine s_appendZ (k := 0) (j := 30) (bytes := 1) (z := .int .u8 0) hE hS rfl rfl rfl rfl rfl rfl rfl (by decide) rfl ?_; clear hE a hS; intro A6 c6 a w hE hS; simp only [List.set_cons_zero, Nat.reduceAdd, Nat.reduceMul] at hE hS)
      | (with_reducible refine wp_seq ?_)
      | (with_reducible refine c_region ?_)
      | (with_reducible refine wpList_nil ?_)
      | (with_reducible refine then_normal ?_)
      | (with_reducible refine wp_exit ?_)
      | (with_reducible refine then_exit ?_)
      | (with_reducible refine block_same ?_)
      | ((with_reducible refine g_move ?_); refine s_move hE rfl rfl ?_; clear hE a; intro a hE)
      | ((with_reducible refine g_assign ?_); refine s_assign hE rfl rfl ?_; clear hE a; intro a hE)
      | ((with_reducible refine g_bin .lss ?_); refine s_lss hE rfl rfl rfl ?_; clear hE a; intro a hE)
      | ((with_reducible refine g_cond ?_); refine c_false hE rfl ?_)
      )
    rw [bys_zeros, e4] at hS
    have hbl := body_len hok.s4 hsm
    have hbb := body_bs hok hsm
    have hcl2 := crc32_lt _ hbb
    have hel : p.m.enc.length = 256 := enc_len hok.s4 hsm
    refine s_call hE rfl rfl rfl (rsum32S A6 c6 p.m.body 252 w hS.rd hbb (by omega) hbl.symm) ?_
    rintro _ w ⟨rfl, hS1⟩; clear hE a; intro a hE; replace hS := hS.frame hS1; clear hS1; try simp only [List.cons_append, List.nil_append] at hS
    skip
    refine s_call hE rfl rfl rfl (rhigh (crc32 p.m.body) 4 (by omega) (by omega) w) ?_
    rintro _ w ⟨A7, c7, rfl, hS1⟩; clear hE a; intro a hE; replace hS := hS.frame hS1; clear hS1; try simp only [List.cons_append, List.nil_append] at hS
    rw [beb_length] at hE hS
    refine s_appendAt (k := 1) (size := 1) (bytes := 1) hE hS rfl rfl rfl (hS.rdAt (k := 0) rfl) (by rw [bys_length, beb_length]) (bys_one _) (by decide) rfl rfl rfl rfl ?_
    clear hE a hS; intro A8 c8 a w hE hS
    simp only [List.set_cons_succ, List.set_cons_zero, Nat.reduceAdd] at hE hS
    rw [bys_app, show p.m.body ++ beb 4 (crc32 p.m.body) = p.m.enc from rfl] at hS
    repeat' (first

      | (with_reducible refine wpList_nil ?_)
      | (with_reducible refine then_normal ?_)
      | (with_reducible refine wp_ret ?_)
      | ((with_reducible refine g_assign ?_); refine s_assign hE rfl rfl ?_; clear hE a; intro a hE)
      )
    exact ret1 hE rfl rfl ⟨A8, c8, rfl, hS.only 1 rfl⟩
end
end Go.Proofs.Ytmdfhhmnlplagaa
