/-
  Contracts: rows of bytes put together; a frame's sectors, one by one.
-/
import Derived.Test.YtfoeelghehjanaaWB
import Derived.Test.YtfoeelghehjanaaGF
namespace Go.Proofs.Ytfoeelghehjanaa
open Go.RowKit
set_option linter.unusedVariables false
set_option linter.unusedSimpArgs false
theorem St.rowPre {w0 w : World} {L : List HP} {e size n c : Nat} {A : Option Addr} {cs : List Value} (k : Nat) (hk : k ≤ n) (hS : St w0 w (hRow e size A n c cs :: L)) : St w0 w (hRow e size A k c (cs.take (k * size)) :: L) :=
  hS.conv fun S ⟨h1, h2, h3⟩ => by
    refine ⟨h1, ?_, ?_⟩
    · rw [List.length_take, h2]
      exact Nat.min_eq_left (Nat.mul_le_mul_right size hk)
    · rcases h3 with ⟨h0, hn⟩ | ⟨g, cap, cur, he, hb, hh, hnc, hcm, hsz, htk⟩
      · injection h0 with a1 a2 a3
        subst a1 a3
        have : k = 0 := by omega
        subst this
        exact .inl ⟨rfl, rfl⟩
      · injection he with a1 a2 a3
        subst a1 a3
        refine .inr ⟨g, c, cur, rfl, hb, hh, by omega, hcm, hsz, ?_⟩
        rw [← htk, List.take_take, Nat.min_eq_left (Nat.mul_le_mul_right size hk)]
attribute [local irreducible] Rd hRow hBlk hRd hRdr rowsP Fn hMarks

section
variable {P : Program} {n d : Nat} {L : List (Nat × Value)} {a : Act} {w : World} {gd : Option (Nat × Bool)} {ty : TypeId} {ps : String} {af : Array Edge} {x y z m3 : Operand}
/-- a cut in three bounds -/
theorem r_cut3 {t e : TypeId} {size b : Nat} {zz : Value} {A : Option Addr} {m c : Nat} {k k2 k3 : IntKind} {l h mx : Int} [TyU P t (.slice e)] [TyI P e size zz b] (hE : Env n L a) (hx : ev L x = some (.slice A m c)) (hy : ev L y = some (.int k l)) (hz : ev L z = some (.int k2 h)) (hm : ev L m3 = some (.int k3 mx)) (h1 : 0 ≤ l ∧ l ≤ h) (h2 : 0 ≤ h ∧ h ≤ mx) (h3 : 0 ≤ mx ∧ mx ≤ c) :
    (execOp a.eval ⟨some d, .slice t x (some y) (some z) (some m3), ty, ps, af, gd⟩).run P w = .ok (.value (.slice (if mx.toNat = l.toNat then A else A.map (·.add (l.toNat * size))) (h.toNat - l.toNat) (mx.toNat - l.toNat))) w := by
  have hb2 : 0 ≤ h ∧ h ≤ (mx.toNat : Int) := by omega
  have hb3 : 0 ≤ l ∧ l ≤ (h.toNat : Int) := by omega
  simp [execOp, Instr.sliceAt, Instr.slice, Instr.sliceBounds, hE.eval hx, hE.eval hy, hE.eval hz, hE.eval hm, run_under (d := .slice e), run_bound mx k3 c _ h3, run_bound h k2 mx.toNat _ hb2, run_bound l k h.toNat _ hb3, run_size (size := size) (zero := zz) (bytes := b)]
theorem r_cap {e t : TypeId} {A : Option Addr} {m c : Nat} [TyU P t (.slice e)] (hE : Env n L a) (hx : ev L x = some (.slice A m c)) : (execOp a.eval ⟨some d,   .call ⟨.builtin .cap, #[x], #[t]⟩, ty, ps, af, gd⟩).run P w = .ok (.value (.int .i64 (c : Int))) w := by simp [execOp, resolve, invoke, builtin, Builtin.cap_, hE.eval hx, run_under (d := .slice e), goInt]
end
section
variable {H : List HP} {w0 w : World}
set_option maxHeartbeats 8000000
theorem grow (n : Nat) (hn : n ≤ 100000) (w0 : World) : Fn Try.prog 107 [.slice none 0 0, .int .i64 (n : Int)] w0 fun v w' => ∃ A c, v = .slice A 0 c ∧ St w0 w' [hRow 5 1 A 0 c []] := by
  refine enter 27 Try.func107 rfl rfl rfl ?_
  intro a hE
  have hS := St.rowNil (St.start w0) 5 1
  by_cases h0 : n = 0
  · subst h0
    repeat' (first

      | (with_reducible refine wp_seq ?_)
      | (with_reducible refine c_region ?_)
      | (with_reducible refine wpList_nil ?_)
      | (with_reducible refine then_normal ?_)
      | (with_reducible refine wp_skip ?_)
      | ((with_reducible refine g_move ?_); refine s_move hE rfl rfl ?_; clear hE a; intro a hE)
      | ((with_reducible refine g_assign ?_); refine s_assign hE rfl rfl ?_; clear hE a; intro a hE)
      | ((with_reducible refine g_bin .lss ?_); refine s_lss hE rfl rfl rfl ?_; clear hE a; intro a hE)
      | ((with_reducible refine g_cond ?_); refine c_false hE rfl ?_)
      )
    refine s_val hE rfl rfl rfl (r_cap hE rfl) ?_
    clear hE a; intro a hE
    repeat' (first

      | (with_reducible refine wp_seq ?_)
      | (with_reducible refine c_region ?_)
      | (with_reducible refine wpList_nil ?_)
      | (with_reducible refine then_normal ?_)
      | (with_reducible refine wp_skip ?_)
      | (with_reducible refine wp_ret ?_)
      | ((with_reducible refine g_move ?_); refine s_move hE rfl rfl ?_; clear hE a; intro a hE)
      | ((with_reducible refine g_assign ?_); refine s_assign hE rfl rfl ?_; clear hE a; intro a hE)
      | ((with_reducible refine g_bin .gtr ?_); refine s_gtr hE rfl rfl rfl ?_; clear hE a; intro a hE)
      | ((with_reducible refine g_bin .sub ?_); refine s_sub hE rfl rfl rfl (by first  | exact subN (by omega) (by omega) ) ?_; clear hE a; intro a hE)
      | ((with_reducible refine g_blt .len ?_); refine s_len hE rfl rfl ?_; clear hE a; intro a hE)
      | ((with_reducible refine g_cond ?_); refine c_false hE rfl ?_)
      )
    exact ret1 hE rfl rfl ⟨none, 0, rfl, hS⟩
  · repeat' (first

      | (with_reducible refine wp_seq ?_)
      | (with_reducible refine c_region ?_)
      | (with_reducible refine wpList_nil ?_)
      | (with_reducible refine then_normal ?_)
      | (with_reducible refine wp_skip ?_)
      | ((with_reducible refine g_move ?_); refine s_move hE rfl rfl ?_; clear hE a; intro a hE)
      | ((with_reducible refine g_assign ?_); refine s_assign hE rfl rfl ?_; clear hE a; intro a hE)
      | ((with_reducible refine g_bin .lss ?_); refine s_lss hE rfl rfl rfl ?_; clear hE a; intro a hE)
      | ((with_reducible refine g_cond ?_); refine c_false hE rfl ?_)
      )
    refine s_val hE rfl rfl rfl (r_cap hE rfl) ?_
    clear hE a; intro a hE
    have e0 : IntKind.i64.wrap ((n : Int) - 0) = (n : Int) := by rw [wrap64_in (by omega)]; omega
    repeat' (first

      | (with_reducible refine wp_seq ?_)
      | (with_reducible refine c_region ?_)
      | (with_reducible refine wpList_nil ?_)
      | (with_reducible refine then_normal ?_)
      | ((with_reducible refine g_move ?_); refine s_move hE rfl rfl ?_; clear hE a; intro a hE)
      | ((with_reducible refine g_assign ?_); refine s_assign hE rfl rfl ?_; clear hE a; intro a hE)
      | ((with_reducible refine g_bin .gtr ?_); refine s_gtr hE rfl rfl rfl ?_; clear hE a; intro a hE)
      | ((with_reducible refine g_bin .sub ?_); refine s_sub hE rfl rfl rfl (by first | exact e0 | exact subN (by omega) (by omega) ) ?_; clear hE a; intro a hE)
      | ((with_reducible refine g_blt .len ?_); refine s_len hE rfl rfl ?_; clear hE a; intro a hE)
      | ((with_reducible refine g_cond ?_); refine c_dec hE rfl (fun hc => ?_) (fun hc => ?_) <;> try omega)
      )
    refine s_val hE rfl rfl rfl (r_cap hE rfl) ?_
    clear hE a; intro a hE
    repeat' (first
      | ((with_reducible refine g_appZ ?_); refine s_appendZ (k := 0) (j := n) (bytes := 1) (z := .int .u8 0) hE hS rfl rfl rfl rfl rfl rfl rfl (by omega) rfl ?_; clear hE a hS; intro A3 c3 a w hE hS; simp only [List.set_cons_zero] at hE hS)
      | (with_reducible refine wp_seq ?_)
      | (with_reducible refine c_region ?_)
      | (with_reducible refine wpList_nil ?_)
      | (with_reducible refine then_normal ?_)
      | (with_reducible refine wp_ret ?_)
      | ((with_reducible refine g_move ?_); refine s_move hE rfl rfl ?_; clear hE a; intro a hE)
      | ((with_reducible refine g_assign ?_); refine s_assign hE rfl rfl ?_; clear hE a; intro a hE)
      | ((with_reducible refine g_blt .len ?_); refine s_len hE rfl rfl ?_; clear hE a; intro a hE)
      | ((with_reducible refine g_sliceH ?_); refine s_val hE rfl rfl rfl (r_cutH hE rfl rfl (by omega)) ?_; clear hE a; intro a hE)
      )
    have hS2 := St.rowPre 0 (Nat.zero_le _) hS
    rw [Nat.zero_mul, List.take_zero] at hS2
    exact ret1 hE rfl rfl ⟨A3, c3, rfl, hS2⟩
theorem concat (l : List Sl) (R : Option Addr) (rc n : Nat) (hn : n = l.length) (w0 : World) (hl : l.length ≤ 1000) (hr : Rd w0 R (l.map Sl.v)) (hrd : ∀ s ∈ l, Rd w0 s.A (bys s.b)) (hb : ∀ s ∈ l, s.b.length ≤ 100) :
    Fn Try.prog 98 [.slice R n rc] w0 fun v w' => ∃ A c, v = .slice A (l.map Sl.b).flatten.length c ∧ St w0 w' [hRow 5 1 A (l.map Sl.b).flatten.length c (bys (l.map Sl.b).flatten)] := by
  subst hn
  have hml : (l.map Sl.v).length = l.length := List.length_map ..
  have hstep : ∀ k (hk : k < l.length), ((l.take (k + 1)).map Sl.b).flatten = ((l.take k).map Sl.b).flatten ++ (l[k]'hk).b := by
    intro k hk
    rw [List.take_succ_eq_append_getElem hk, List.map_append, List.flatten_append]
    simp
  have hbig : ∀ k, k ≤ l.length → ((l.take k).map Sl.b).flatten.length ≤ 100 * k := by
    intro k
    induction k with
    | zero => intro _; simp
    | succ k ih =>
      intro hk
      rw [hstep k (by omega), List.length_append]
      have := ih (by omega)
      have := hb _ (List.getElem_mem (show k < l.length by omega))
      omega
  refine enter 36 Try.func98 rfl rfl rfl ?_
  intro a hE
  have hS := St.start w0
  repeat' (first

    | (with_reducible refine wp_seq ?_)
    | (with_reducible refine c_region ?_)
    | (with_reducible refine wpList_nil ?_)
    | (with_reducible refine then_normal ?_)
    | (with_reducible refine wp_block ?_)
    | ((with_reducible refine g_move ?_); refine s_move hE rfl rfl ?_; clear hE a; intro a hE)
    | ((with_reducible refine g_assign ?_); refine s_assign hE rfl rfl ?_; clear hE a; intro a hE)
    | ((with_reducible refine g_blt .len ?_); refine s_len hE rfl rfl ?_; clear hE a; intro a hE)
    )
  refine wp_mono (?_ : Code.wp _ _ (fun e a w => e = .exit 0 ∧ St w0 w [] ∧ Env 36 [(0, .slice R l.length rc), (3, .int .i64 ((l.map Sl.b).flatten.length : Int))] a) _ _) ?_
  · refine wp_loop_ghost (fun q a w => ∃ (k : Nat), k + q = l.length ∧ St w0 w [] ∧ Env 36 [(0, .slice R l.length rc), (3, .int .i64 (((l.take k).map Sl.b).flatten.length : Int)), (9, .slice R l.length rc), (10, .int .i64 (l.length : Int)), (11, .int .i64 (k : Int))] a) l.length ⟨0, by omega, hS, hE.sub ⟨rfl, rfl, rfl, rfl, rfl, trivial⟩⟩ ?_
    clear hE a hS
    rintro q a w ⟨k, hk, hS, hE⟩
    by_cases hk1 : k < l.length
    · have hg : (l.map Sl.v)[((k : Nat) : Int).toNat * 1]? = some (.slice (l[k]'hk1).A (l[k]'hk1).b.length (l[k]'hk1).c) := by
        rw [Int.toNat_natCast, Nat.mul_one, List.getElem?_map, List.getElem?_eq_getElem hk1]; rfl
      have hst := hstep k hk1
      have hbk := hbig k (by omega)
      have hbs := hb _ (List.getElem_mem hk1)
      generalize (l[k]'hk1) = s at hg hst hbs
      have hsl : ((l.take (k + 1)).map Sl.b).flatten.length = ((l.take k).map Sl.b).flatten.length + s.b.length := by rw [hst, List.length_append]
      generalize ((l.take k).map Sl.b).flatten.length = m at hE hbk hsl
      repeat' (first

        | (with_reducible refine wp_seq ?_)
        | (with_reducible refine c_region ?_)
        | (with_reducible refine wpList_nil ?_)
        | (with_reducible refine then_normal ?_)
        | (with_reducible refine wp_skip ?_)
        | (with_reducible refine wp_block ?_)
        | (with_reducible refine block_normal ?_)
        | ((with_reducible refine g_move ?_); refine s_move hE rfl rfl ?_; clear hE a; intro a hE)
        | ((with_reducible refine g_assign ?_); refine s_assign hE rfl rfl ?_; clear hE a; intro a hE)
        | ((with_reducible refine g_bin .lss ?_); refine s_lss hE rfl rfl rfl ?_; clear hE a; intro a hE)
        | ((with_reducible refine g_bin .add ?_); refine s_add hE rfl rfl rfl (by first | exact addN (by omega) | exact wrap64_in (by omega) ) ?_; clear hE a; intro a hE)
        | ((with_reducible refine g_blt .len ?_); refine s_len hE rfl rfl ?_; clear hE a; intro a hE)
        | ((with_reducible refine g_cond ?_); refine c_false hE rfl ?_)
        | ((with_reducible refine g_cond ?_); refine c_dec hE rfl (fun hc => ?_) (fun hc => ?_) <;> try omega)
        | ((with_reducible refine g_ia ?_); refine s_idxR hE rfl rfl (by omega) (by omega) (by (first | exact Rd.st (by assumption) hS )) (by first | omega ) rfl ?_; clear hE a; intro a hE)
        | ((with_reducible refine g_load ?_); refine s_loadR hE rfl (by (first | exact Rd.st (by assumption) hS )) (by first | exact hg ) rfl ?_; clear hE a; intro a hE)
        )
      exact ⟨q - 1, by omega, k + 1, by omega, hS, hE.sub ⟨rfl, by rw [hsl]; rfl, rfl, rfl, rfl, trivial⟩⟩
    · obtain rfl : k = l.length := by omega
      rw [List.take_of_length_le (Nat.le_refl _)] at hE
      repeat' (first

        | (with_reducible refine wp_seq ?_)
        | (with_reducible refine c_region ?_)
        | (with_reducible refine wpList_nil ?_)
        | (with_reducible refine then_normal ?_)
        | (with_reducible refine wp_exit ?_)
        | (with_reducible refine then_exit ?_)
        | ((with_reducible refine g_bin .lss ?_); refine s_lss hE rfl rfl rfl ?_; clear hE a; intro a hE)
        | ((with_reducible refine g_cond ?_); refine c_dec hE rfl (fun hc => ?_) (fun hc => ?_) <;> try omega)
        )
      exact ⟨rfl, hS, hE.sub ⟨rfl, rfl, trivial⟩⟩
  clear hE a hS
  rintro _ a w ⟨rfl, hS, hE⟩
  have hb1 := hbig l.length (Nat.le_refl _)
  rw [List.take_of_length_le (Nat.le_refl _)] at hb1
  repeat' (first

    | (with_reducible refine wp_seq ?_)
    | (with_reducible refine c_region ?_)
    | (with_reducible refine then_normal ?_)
    | (with_reducible refine block_same ?_)
    | ((with_reducible refine g_move ?_); refine s_move hE rfl rfl ?_; clear hE a; intro a hE)
    )
  refine s_call hE rfl rfl rfl (grow (l.map Sl.b).flatten.length (by omega) w) ?_
  rintro _ w ⟨A, c, rfl, hS1⟩; clear hE a; intro a hE; replace hS := hS.frame hS1; clear hS1; try simp only [List.cons_append, List.nil_append] at hS
  repeat' (first

    | (with_reducible refine wp_seq ?_)
    | (with_reducible refine c_region ?_)
    | (with_reducible refine wpList_nil ?_)
    | (with_reducible refine then_normal ?_)
    | (with_reducible refine wp_block ?_)
    | ((with_reducible refine g_move ?_); refine s_move hE rfl rfl ?_; clear hE a; intro a hE)
    | ((with_reducible refine g_assign ?_); refine s_assign hE rfl rfl ?_; clear hE a; intro a hE)
    | ((with_reducible refine g_blt .len ?_); refine s_len hE rfl rfl ?_; clear hE a; intro a hE)
    )
  refine wp_loop_ghost (fun q a w => ∃ (k : Nat) (A1 : Option Addr) (c1 : Nat), k + q = l.length ∧ St w0 w [hRow 5 1 A1 ((l.take k).map Sl.b).flatten.length c1 (bys ((l.take k).map Sl.b).flatten)] ∧ Env 36 [(6, .slice A1 ((l.take k).map Sl.b).flatten.length c1), (25, .slice R l.length rc), (26, .int .i64 (l.length : Int)), (27, .int .i64 (k : Int))] a) l.length ⟨0, A, c, by omega, hS, hE.sub ⟨rfl, rfl, rfl, rfl, trivial⟩⟩ ?_
  clear hE a hS
  rintro q a w ⟨k, A1, c1, hk, hS, hE⟩
  by_cases hk1 : k < l.length
  · have hg : (l.map Sl.v)[((k : Nat) : Int).toNat * 1]? = some (.slice (l[k]'hk1).A (l[k]'hk1).b.length (l[k]'hk1).c) := by
      rw [Int.toNat_natCast, Nat.mul_one, List.getElem?_map, List.getElem?_eq_getElem hk1]; rfl
    have hst := hstep k hk1
    have hbk := hbig k (by omega)
    have hbs := hb _ (List.getElem_mem hk1)
    have hrk := hrd _ (List.getElem_mem hk1)
    generalize (l[k]'hk1) = s at hg hst hbs hrk
    generalize ((l.take k).map Sl.b).flatten = m at hE hS hbk hst
    repeat' (first
      | ((with_reducible refine g_blt .append ?_); refine s_appendB (k := 0) hE hS rfl rfl rfl (hrk.st hS) rfl rfl (by omega) rfl rfl rfl ?_; clear hE a hS; intro A5 c5 a w hE hS; simp only [List.set_cons_zero] at hS)
      | (with_reducible refine wp_seq ?_)
      | (with_reducible refine c_region ?_)
      | (with_reducible refine wpList_nil ?_)
      | (with_reducible refine then_normal ?_)
      | (with_reducible refine wp_skip ?_)
      | (with_reducible refine wp_block ?_)
      | (with_reducible refine block_normal ?_)
      | ((with_reducible refine g_move ?_); refine s_move hE rfl rfl ?_; clear hE a; intro a hE)
      | ((with_reducible refine g_assign ?_); refine s_assign hE rfl rfl ?_; clear hE a; intro a hE)
      | ((with_reducible refine g_bin .lss ?_); refine s_lss hE rfl rfl rfl ?_; clear hE a; intro a hE)
      | ((with_reducible refine g_bin .add ?_); refine s_add hE rfl rfl rfl (by first | exact wrap64_in (by omega) ) ?_; clear hE a; intro a hE)
      | ((with_reducible refine g_cond ?_); refine c_dec hE rfl (fun hc => ?_) (fun hc => ?_) <;> try omega)
      | ((with_reducible refine g_ia ?_); refine s_idxR hE rfl rfl (by omega) (by omega) (by (first | exact Rd.st (by assumption) hS )) (by first | omega ) rfl ?_; clear hE a; intro a hE)
      | ((with_reducible refine g_load ?_); refine s_loadR hE rfl (by (first | exact Rd.st (by assumption) hS )) (by first | exact hg ) rfl ?_; clear hE a; intro a hE)
      )
    rw [← hst] at hE hS
    exact ⟨q - 1, by omega, k + 1, A5, c5, by omega, hS, hE.sub ⟨rfl, rfl, rfl, rfl, trivial⟩⟩
  · obtain rfl : k = l.length := by omega
    rw [List.take_of_length_le (Nat.le_refl _)] at hE hS
    repeat' (first

      | (with_reducible refine wp_seq ?_)
      | (with_reducible refine c_region ?_)
      | (with_reducible refine wpList_nil ?_)
      | (with_reducible refine then_normal ?_)
      | (with_reducible refine wp_ret ?_)
      | (with_reducible refine wp_exit ?_)
      | (with_reducible refine then_exit ?_)
      | (with_reducible refine block_same ?_)
      | ((with_reducible refine g_move ?_); refine s_move hE rfl rfl ?_; clear hE a; intro a hE)
      | ((with_reducible refine g_assign ?_); refine s_assign hE rfl rfl ?_; clear hE a; intro a hE)
      | ((with_reducible refine g_bin .lss ?_); refine s_lss hE rfl rfl rfl ?_; clear hE a; intro a hE)
      | ((with_reducible refine g_cond ?_); refine c_dec hE rfl (fun hc => ?_) (fun hc => ?_) <;> try omega)
      )
    exact ret1 hE rfl rfl ⟨A1, c1, rfl, hS⟩
end
end Go.Proofs.Ytfoeelghehjanaa
