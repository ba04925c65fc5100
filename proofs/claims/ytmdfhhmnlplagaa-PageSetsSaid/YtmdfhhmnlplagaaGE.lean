/-
  Contracts: a page's bytes.
-/
import Derived.Test.YtmdfhhmnlplagaaGD
namespace Go.Proofs.Ytmdfhhmnlplagaa
open Go.RowKit
set_option linter.unusedVariables false
set_option linter.unusedSimpArgs false
attribute [local irreducible] Rd hRow hBlk hRd hAll Fn hMarks

def spliceN (l : List Nat) (o : Nat) (x : List Nat) : List Nat := l.take o ++ x ++ l.drop (o + x.length)
theorem splice_bys (l : List Nat) (o : Nat) (x : List Nat) : splice (bys l) o (bys x) = bys (spliceN l o x) := by
  unfold splice spliceN bys
  simp
def laidN (p : PM) (k : Nat) : List Nat := beb 2 p.n.toNat ++ beb 8 p.l ++ (p.s.take k).flatMap slotB ++ List.replicate (242 - 53 * k) 0
theorem laidN_len {p : PM} (h4 : p.s.length = 4) (h : ∀ x ∈ p.s, x.length ≤ 52) {k : Nat} (hk : k ≤ 4) : (laidN p k).length = 252 := by
  have e := slots_len (s := p.s.take k) fun x hx => h x (List.mem_of_mem_take hx)
  rw [List.length_take, h4, Nat.min_eq_left hk] at e
  simp only [laidN, List.length_append, beb_length, e, List.length_replicate]
  omega
theorem laidN_step {p : PM} (h4 : p.s.length = 4) (h : ∀ x ∈ p.s, x.length ≤ 52) {k : Nat} (hk : k < 4) :
    spliceN ((laidN p k).set (10 + 53 * k) (p.s[k]'(by omega)).length) (10 + 53 * k + 1) (p.s[k]'(by omega)) = laidN p (k + 1) := by
  have e := slots_len (s := p.s.take k) fun x hx => h x (List.mem_of_mem_take hx)
  rw [List.length_take, h4, Nat.min_eq_left (by omega)] at e
  have hx := h (p.s[k]'(by omega)) (List.getElem_mem _)
  have et : p.s.take (k + 1) = p.s.take k ++ [p.s[k]'(by omega)] := List.take_succ_eq_append_getElem (by omega)
  unfold laidN
  rw [et, List.flatMap_append, List.flatMap_singleton, ← List.append_assoc (beb 2 p.n.toNat ++ beb 8 p.l)]
  generalize p.s[k]'(by omega) = x at hx
  have hpre : (beb 2 p.n.toNat ++ beb 8 p.l ++ (p.s.take k).flatMap slotB).length = 10 + 53 * k := by
    simp only [List.length_append, beb_length, e]
  generalize beb 2 p.n.toNat ++ beb 8 p.l ++ (p.s.take k).flatMap slotB = pre at hpre
  have hm : 242 - 53 * k = (242 - 53 * (k + 1) + (52 - x.length)) + x.length + 1 := by omega
  rw [hm, List.replicate_succ, List.set_append_right _ _ (by omega), hpre, Nat.sub_self, List.set_cons_zero]
  unfold spliceN slotB
  have e1 : (pre ++ x.length :: List.replicate (242 - 53 * (k + 1) + (52 - x.length) + x.length) 0).take (10 + 53 * k + 1) = pre ++ [x.length] := by
    rw [← hpre, List.take_length_add_append]
    rfl
  have e2 : (pre ++ x.length :: List.replicate (242 - 53 * (k + 1) + (52 - x.length) + x.length) 0).drop (10 + 53 * k + 1 + x.length) = List.replicate (242 - 53 * (k + 1) + (52 - x.length)) 0 := by
    rw [← hpre, Nat.add_assoc, List.drop_length_add_append, Nat.add_comm 1, List.drop_succ_cons, List.drop_replicate]
    congr 1
    omega
  rw [e1, e2, Nat.add_comm (242 - 53 * (k + 1)), ← List.replicate_append_replicate]
  simp
section
variable {H : List HP} {w0 w : World}
set_option maxHeartbeats 8000000
theorem laid (p : Pg) (hp : p.wf) (hn : numd p.n) (hs : ∀ s ∈ p.s, s.b.length ≤ 52) (w0 : World) (hr : p.rd w0) :
    Fn Try.prog 37 [.agg p.cells.toArray] w0 fun v w' => ∃ A c, v = .slice A 256 c ∧ St w0 w' [hRow 5 1 A 256 c (bys p.m.enc)] := by
  have hok := hp.ok
  have hsl := Pg.slots hp
  obtain ⟨h1, h2, h3, h4⟩ := hp
  obtain ⟨hn0, hn1⟩ := hn
  have hsm : ∀ x ∈ p.m.s, x.length ≤ 52 := fun x hx => by
    obtain ⟨s, hs', rfl⟩ := List.mem_map.1 hx
    exact hs s hs'
  have hcl : p.cells.length = 6 := by simp [h1]
  have e4 : laidN p.m 4 = p.m.body := by
    unfold laidN PM.body
    rw [List.take_of_length_le (by rw [hok.s4]; exact Nat.le_refl _)]
  obtain ⟨n, hnn⟩ := Int.eq_ofNat_of_zero_le hn0
  have hnn2 : p.n = (n : Int) := hnn
  have hnb : n < 32 := by omega
  have e16 : IntKind.u16.wrap p.n = (n : Int) := by rw [hnn2]; exact wrap_u16_in (by omega)
  refine enter 42 Try.func37 rfl rfl rfl ?_
  intro a hE
  have hS := St.start w0
  repeat' (first

    | (with_reducible refine wp_seq ?_)
    | (with_reducible refine c_region ?_)
    | (with_reducible refine wpList_nil ?_)
    | (with_reducible refine then_normal ?_)
    | ((with_reducible refine g_assign ?_); refine s_assign hE rfl rfl ?_; clear hE a; intro a hE)
    | ((with_reducible refine g_box ?_); refine s_boxS hE hS rfl rfl ?_; clear hE a hS; intro g a w hE hS)
    )
  refine c_ordK hS 0 rfl 7 ((.rd 0 (.rd 1 (.rd 2 (.rd 4 (.rd 5 (.ef 3 (.ef 6 (.lt 7 .done))))))))) mixed (by decide +kernel) ?_
  clear hS; intro w hF hS
  repeat' (first
    | (with_reducible refine o_rd rfl ?_)
    | ((with_reducible refine q_conv ?_); refine d_val hE hS rfl (fun w hS => r_conv hE rfl (by first | exact e16)) ?_; clear hE a; intro a hE)
    | ((with_reducible refine q_fa ?_); refine d_val hE hS rfl (fun w hS => r_fieldL hE rfl rfl) ?_; clear hE a; intro a hE)
    | ((with_reducible refine q_load ?_); (first | (refine d_val hE hS rfl (fun w hS => r_loadB (k := 0) hS hE rfl rfl rfl) ?_) ); clear hE a; intro a hE)
    | ((with_reducible refine o_ef rfl ?_))
    )
  refine s_call hE rfl rfl rfl (put16 none 0 [] n (by omega) w Rd.nil (by decide)) ?_
  rintro _ w ⟨A1, c1, rfl, hS1⟩; clear hE a; intro a hE; replace hF := hF.frame hS1; clear hS1; simp only [List.cons_append, List.nil_append] at hF
  refine wpList_nil ?_
  refine o_back _ (fun _ h => h) (hF.only 1 rfl) ?_
  clear hS; have hS := hF.only 1 rfl
  repeat' (first
    | ((with_reducible refine o_ef rfl ?_))
    )
  refine s_call hE rfl rfl rfl (put64 A1 c1 (beb 2 n) p.l h3 w hF.rd (by simp [beb_length])) ?_
  rintro _ w ⟨A2, c2, rfl, hS1⟩; clear hE a; intro a hE; replace hF := hF.frame hS1; clear hS1; simp only [List.cons_append, List.nil_append] at hF
  refine wpList_nil ?_
  refine o_back _ (fun _ h => h) (hF.only 2 rfl) ?_
  clear hS; have hS := hF; clear hF
  have hl10 : (beb 2 n ++ beb 8 p.l).length = 10 := by simp [beb_length]
  rw [hl10] at hE hS
  repeat' (first
    | ((with_reducible refine o_lt rfl ?_))
    )
  repeat' (first

    | (with_reducible refine wpList_nil ?_)
    | ((with_reducible refine g_assign ?_); refine s_assign hE rfl rfl ?_; clear hE a; intro a hE)
    )
  refine o_backL ?_
  repeat' (first
    | (with_reducible refine o_done ?_)
    )
  repeat' (first
    | ((with_reducible refine g_appZ ?_); refine s_appendZ (k := 0) (j := 242) (bytes := 1) (z := .int .u8 0) hE hS rfl rfl rfl rfl rfl rfl rfl (by decide) rfl ?_; clear hE a hS; intro A' c' a w hE hS; simp only [List.set_cons_zero, Nat.reduceAdd] at hE hS)
    | (with_reducible refine wp_seq ?_)
    | (with_reducible refine c_region ?_)
    | (with_reducible refine wpList_nil ?_)
    | (with_reducible refine then_normal ?_)
    | ((with_reducible refine g_move ?_); refine s_move hE rfl rfl ?_; clear hE a; intro a hE)
    | ((with_reducible refine g_assign ?_); refine s_assign hE rfl rfl ?_; clear hE a; intro a hE)
    | ((with_reducible refine g_fa ?_); refine s_fieldL hE rfl rfl rfl ?_; clear hE a; intro a hE)
    )
  have e0 : bys (beb 2 n ++ beb 8 p.l) ++ List.replicate 242 (Value.int .u8 0) = bys (laidN p.m 0) := by
    have en : p.m.n.toNat = n := by show p.n.toNat = n; rw [hnn2]; rfl
    unfold laidN
    rw [en]
    show _ = bys (beb 2 n ++ beb 8 p.l ++ [] ++ List.replicate 242 0)
    rw [List.append_nil]
    unfold bys
    rw [List.map_append (l₂ := List.replicate 242 0), List.map_replicate]
    rfl
  rw [e0] at hS
  replace hS := hS.drop 1
  simp only [List.eraseIdx_cons_succ, List.eraseIdx_cons_zero] at hS
  repeat' (first

    | (with_reducible refine wpList_nil ?_)
    | (with_reducible refine then_normal ?_)
    | (with_reducible refine wp_block ?_)
    | ((with_reducible refine g_move ?_); refine s_move hE rfl rfl ?_; clear hE a; intro a hE)
    | ((with_reducible refine g_load ?_); (first | (refine s_loadBs (k := 1) hS hE rfl rfl (by first | exact hsl ) (by omega) rfl ?_) ); clear hE a; intro a hE)
    )
  refine wp_loop_ghost (fun q a w => ∃ (k : Nat) (A' : Option Addr) (c' : Nat), k + q = 4 ∧ St w0 w [hRow 5 1 A' 252 c' (bys (laidN p.m k)), hBlk g 30 p.cells] ∧ Env 42 [(17, .agg (p.s.map Sl.v).toArray), (18, .int .i64 (k : Int)), (3, .slice A' 252 c')] a) 4 ⟨0, A', c', by omega, hS, hE.sub ⟨rfl, rfl, rfl, trivial⟩⟩ ?_
  clear hE a hS
  rintro q a w ⟨k, A', c', hk, hS, hE⟩
  by_cases hk1 : k < 4
  · have hks : k < p.s.length := by omega
    have hv := Pg.slot hks
    have hsk := hs _ (List.getElem_mem hks)
    have hrk := hr _ (List.getElem_mem hks)
    have h4k := h4 _ (List.getElem_mem hks)
    have hst := laidN_step (p := p.m) hok.s4 hsm hk1
    have hll := laidN_len (p := p.m) hok.s4 hsm (k := k) (by omega)
    have hmk : (p.m.s[k]'(by rw [hok.s4]; omega)) = (p.s[k]'hks).b := List.getElem_map ..
    rw [hmk] at hst
    generalize (p.s[k]'hks) = s at hv hsk hrk h4k hst
    generalize laidN p.m k = L at hS hst hll
    have hbl : (bys L).length = 252 := by rw [bys_length]; exact hll
    have e8 : IntKind.u8.wrap ((s.b.length : Nat) : Int) = ((s.b.length : Nat) : Int) := wrap_u8_in (by omega)
    repeat' (first

      | (with_reducible refine wp_seq ?_)
      | (with_reducible refine c_region ?_)
      | (with_reducible refine wpList_nil ?_)
      | (with_reducible refine then_normal ?_)
      | (with_reducible refine wp_skip ?_)
      | (with_reducible refine wp_block ?_)
      | ((with_reducible refine g_move ?_); refine s_move hE rfl rfl ?_; clear hE a; intro a hE)
      | ((with_reducible refine g_assign ?_); refine s_assign hE rfl rfl ?_; clear hE a; intro a hE)
      | ((with_reducible refine g_bin .lss ?_); refine s_lss hE rfl rfl rfl ?_; clear hE a; intro a hE)
      | ((with_reducible refine g_bin .add ?_); refine s_add hE rfl rfl rfl (by first | exact wrap64_in (by omega) ) ?_; clear hE a; intro a hE)
      | ((with_reducible refine g_bin .mul ?_); refine s_mul hE rfl rfl rfl (by first | exact wrap64_in (by omega) ) ?_; clear hE a; intro a hE)
      | ((with_reducible refine g_conv ?_); refine s_conv hE rfl rfl (by first | exact e8 ) ?_; clear hE a; intro a hE)
      | ((with_reducible refine g_blt .len ?_); refine s_len hE rfl rfl ?_; clear hE a; intro a hE)
      | ((with_reducible refine g_cond ?_); refine c_dec hE rfl (fun hc => ?_) (fun hc => ?_) <;> try omega)
      | ((with_reducible refine g_index ?_); refine s_val hE rfl rfl rfl (r_index1 hE rfl rfl (by omega) (by omega) (by assumption)) ?_; clear hE a; intro a hE)
      | ((with_reducible refine g_ia ?_); refine s_idxR hE rfl rfl (by omega) (by omega) (by (first | exact hS.rd )) (by first | omega ) rfl ?_; clear hE a; intro a hE)
      | ((with_reducible refine g_store ?_); (first | (refine s_storeR1 (k := 0) hS hE rfl rfl rfl rfl (by first | omega ) rfl ?_) ); clear hS; intro w hS; simp only [List.set_cons_zero, List.set_cons_succ, Nat.add_zero] at hS)
      | ((with_reducible refine g_sliceL ?_); refine s_val hE rfl rfl rfl (r_cutL hE rfl rfl (by omega)) ?_; clear hE a; intro a hE)
      )
    have e1 : ((10 : Int) + 53 * (k : Int)).toNat * 1 = 10 + 53 * k := by omega
    have e2 : ((10 : Int) + 53 * (k : Int) + 1).toNat = 10 + 53 * k + 1 := by omega
    obtain ⟨hlen, hcap, _⟩ := hS.lenAt (k := 0) rfl
    rw [e1, bys_set] at hS
    have hll2 : (bys (L.set (10 + 53 * k) s.b.length)).length = 252 := by rw [bys_length, List.length_set]; exact hll
    obtain ⟨hA, _⟩ := hS.rd.some (List.getElem?_eq_getElem (show 0 < (bys (L.set (10 + 53 * k) s.b.length)).length by omega))
    obtain ⟨ad, rfl⟩ : ∃ ad, A' = some ad := ⟨_, hA⟩
    rw [e2, if_neg (by omega), Nat.mul_one] at hE
    refine s_copy (k := 0) (o := 10 + 53 * k + 1) (news := bys s.b) hE hS rfl rfl rfl rfl (fun _ => rfl) (hrk.st hS) (by rw [bys_length, Nat.mul_one]; exact (Nat.min_eq_left (by omega)).symm) rfl (by rw [hll2, bys_length]; omega) (bys_one _) rfl ?_
    clear hE a hS; intro a w hE hS
    simp only [List.set_cons_zero] at hS
    rw [splice_bys, hst] at hS
    repeat' (first

      | (with_reducible refine c_region ?_)
      | (with_reducible refine wpList_nil ?_)
      | (with_reducible refine then_normal ?_)
      | (with_reducible refine block_normal ?_)
      | ((with_reducible refine g_move ?_); refine s_move hE rfl rfl ?_; clear hE a; intro a hE)
      | ((with_reducible refine g_bin .add ?_); refine s_add hE rfl rfl rfl (by first  | exact wrap64_in (by omega) ) ?_; clear hE a; intro a hE)
      )
    exact ⟨q - 1, by omega, k + 1, _, _, by omega, hS, hE.sub ⟨rfl, rfl, rfl, trivial⟩⟩
  · obtain rfl : k = 4 := by omega
    repeat' (first

      | (with_reducible refine wp_seq ?_)
      | (with_reducible refine c_region ?_)
      | (with_reducible refine wpList_nil ?_)
      | (with_reducible refine then_normal ?_)
      | (with_reducible refine wp_exit ?_)
      | (with_reducible refine then_exit ?_)
      | (with_reducible refine block_same ?_)
      | ((with_reducible refine g_move ?_); refine s_move hE rfl rfl ?_; clear hE a; intro a hE)
      | ((with_reducible refine g_bin .lss ?_); refine s_lss hE rfl rfl rfl ?_; clear hE a; intro a hE)
      | ((with_reducible refine g_cond ?_); refine c_false hE rfl ?_)
      )
    have hl4 := laidN_len (p := p.m) hok.s4 hsm (k := 4) (Nat.le_refl _)
    have hb4 : Bs (laidN p.m 4) := by rw [e4]; exact body_bs hok hsm
    have hcl2 := crc32_lt _ hb4
    refine s_call hE rfl rfl rfl (sum32S A' c' (laidN p.m 4) 252 w hS.rd hb4 (by omega) hl4.symm) ?_
    rintro _ w ⟨rfl, hS1⟩; clear hE a; intro a hE; replace hS := hS.frame hS1; clear hS1; try simp only [List.cons_append, List.nil_append] at hS
    have hpu := put32 A' c' (laidN p.m 4) (crc32 (laidN p.m 4)) hcl2 w hS.rd (by omega)
    rw [hl4] at hpu
    skip
    refine s_call hE rfl rfl rfl hpu ?_
    clear hpu
    rintro _ w ⟨A5, c5, rfl, hS1⟩; clear hE a; intro a hE; replace hS := hS.frame hS1; clear hS1; try simp only [List.cons_append, List.nil_append] at hS
    repeat' (first

      | (with_reducible refine wpList_nil ?_)
      | (with_reducible refine then_normal ?_)
      | (with_reducible refine wp_ret ?_)
      | ((with_reducible refine g_assign ?_); refine s_assign hE rfl rfl ?_; clear hE a; intro a hE)
      )
    have e5 : laidN p.m 4 ++ beb 4 (crc32 (laidN p.m 4)) = p.m.enc := by rw [e4]; rfl
    rw [e5, enc_len hok.s4 hsm] at hS hE
    exact ret1 hE rfl rfl ⟨A5, c5, rfl, hS.only 0 rfl⟩
end
end Go.Proofs.Ytmdfhhmnlplagaa
