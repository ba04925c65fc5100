/-
  Pages in memory; contracts: may a page be, its first free slot.
-/
import Derived.Test.YtaiahigeejodaaaGA
import Derived.Test.YtaiahigeejodaaaGB
namespace Go.Proofs.Ytaiahigeejodaaa
open Go.RowKit
set_option linter.unusedVariables false
set_option linter.unusedSimpArgs false
attribute [local irreducible] Rd hRow hBlk hRd hAll Fn hMarks

/-- a slot in memory; a page in memory -/
structure Sl where
  (A : Option Addr) (c : Nat) (b : List Nat)
abbrev Sl.v (s : Sl) : Value := .slice s.A s.b.length s.c
structure Pg where
  (n : Int) (l : Nat) (s : List Sl)
abbrev Pg.cells (p : Pg) : List Value := .int .i64 p.n :: .int .u64 (p.l : Int) :: p.s.map Sl.v
def Pg.m (p : Pg) : PM := ⟨p.n, p.l, p.s.map Sl.b⟩
def Pg.rd (w : World) (p : Pg) : Prop := ∀ s ∈ p.s, Rd w s.A (bys s.b)
structure Pg.wf (p : Pg) : Prop where
  s4 : p.s.length = 4
  n64 : -9223372036854775808 ≤ p.n ∧ p.n ≤ 9223372036854775807
  l64 : p.l < 18446744073709551616
  sl : ∀ s ∈ p.s, s.b.length ≤ s.c ∧ s.b.length ≤ 140737488351232 ∧ Bs s.b
theorem Pg.slots {p : Pg} (h : p.wf) : (p.cells.drop (0 + 2)).take 4 = p.s.map Sl.v := by
  show (p.s.map Sl.v).take 4 = _
  exact List.take_of_length_le (by rw [List.length_map, h.s4]; exact Nat.le_refl _)
theorem Pg.slot {p : Pg} {k : Nat} (hk : k < p.s.length) : (p.s.map Sl.v)[((k : Nat) : Int).toNat * 1]? = some (p.s[k]'hk).v := by
  rw [Int.toNat_natCast, Nat.mul_one, List.getElem?_map, List.getElem?_eq_getElem hk]; rfl
theorem Pg.wf.ok {p : Pg} (h : p.wf) : p.m.ok where
  s4 := by show (p.s.map Sl.b).length = 4; rw [List.length_map, h.s4]
  l64 := h.l64
  bs := fun x hx => by
    obtain ⟨s, hs, rfl⟩ := List.mem_map.1 hx
    exact (h.sl s hs).2.2
theorem Pg.rd.st {p : Pg} {w0 w : World} {L : List HP} (h : p.rd w0) (hS : St w0 w L) : p.rd w := fun s hs => (h s hs).st hS
def firstIx (pf : List Nat → Bool) : List (List Nat) → Nat → Int
  | [], _ => -1
  | x :: l, k => if pf x then (k : Int) else firstIx pf l (k + 1)
theorem firstIx_any (pf : List Nat → Bool) : ∀ (l : List (List Nat)) (k : Nat), decide (firstIx pf l k ≥ 0) = l.any pf
  | [], k => rfl
  | x :: l, k => by
    unfold firstIx
    rw [List.any_cons]
    cases h : pf x
    · rw [if_neg (by decide), firstIx_any pf l (k + 1), Bool.false_or]
    · rw [if_pos rfl, Bool.true_or]
      exact decide_eq_true (by omega)
theorem firstIx_range (pf : List Nat → Bool) : ∀ (l : List (List Nat)) (k : Nat), -1 ≤ firstIx pf l k ∧ firstIx pf l k < k + l.length
  | [], k => by unfold firstIx; rw [List.length_nil]; omega
  | x :: l, k => by
    unfold firstIx
    have := firstIx_range pf l (k + 1)
    rw [List.length_cons]
    split <;> omega
theorem any_long (s : List (List Nat)) : (s.any fun x => decide (52 < x.length)) = !short52 s := by
  unfold short52
  rw [List.not_all_eq_any_not]
  congr 1
  funext x
  by_cases h : x.length ≤ 52
  · simp [h]
  · simp [h]; omega
theorem firstIx_cons (pf : List Nat → Bool) (x : List Nat) (l : List (List Nat)) (k : Nat) : firstIx pf (x :: l) k = if pf x then (k : Int) else firstIx pf l (k + 1) := rfl
section
variable {H : List HP} {w0 w : World}
set_option maxHeartbeats 8000000
theorem numbered (n : Int) (w0 : World) : Fn Try.prog 58 [.int .i64 n] w0 fun v w' => v = .bool (decide (numd n)) ∧ St w0 w' [] := by
  refine enter 9 Try.func58 rfl rfl rfl ?_
  intro a hE
  have hS := St.start w0
  by_cases h : numd n
  · rw [decide_eq_true h]
    have h1 : 0 ≤ n := h.1
    have h2 : n < 32 := h.2
    repeat' (first

      | (with_reducible refine wp_seq ?_)
      | (with_reducible refine c_region ?_)
      | (with_reducible refine wpList_nil ?_)
      | (with_reducible refine then_normal ?_)
      | (with_reducible refine wp_ret ?_)
      | ((with_reducible refine g_move ?_); refine s_move hE rfl rfl ?_; clear hE a; intro a hE)
      | ((with_reducible refine g_assign ?_); refine s_assign hE rfl rfl ?_; clear hE a; intro a hE)
      | ((with_reducible refine g_bin .lss ?_); refine s_lss hE rfl rfl rfl ?_; clear hE a; intro a hE)
      | ((with_reducible refine g_bin .geq ?_); refine s_geq hE rfl rfl rfl ?_; clear hE a; intro a hE)
      | ((with_reducible refine g_guard ?_); refine gd_yes hE rfl rfl rfl ?_)
      | ((with_reducible refine g_guard ?_); refine gd_dec hE rfl rfl (fun hc hE2 => ?_) (fun hc hE2 => ?_) <;> (try omega) <;> (replace hE := hE2; clear hE2))
      | ((with_reducible refine g_pick ?_); refine s_pickT hE rfl rfl rfl ?_; clear hE a; intro a hE)
      )
    exact ret1 hE rfl rfl ⟨by rw [decide_eq_true h2], hS⟩
  · rw [decide_eq_false h]
    have h1 : ¬ (0 ≤ n ∧ n < 32) := h
    repeat' (first

      | (with_reducible refine wp_seq ?_)
      | (with_reducible refine c_region ?_)
      | (with_reducible refine wpList_nil ?_)
      | (with_reducible refine then_normal ?_)
      | (with_reducible refine wp_ret ?_)
      | ((with_reducible refine g_move ?_); refine s_move hE rfl rfl ?_; clear hE a; intro a hE)
      | ((with_reducible refine g_assign ?_); refine s_assign hE rfl rfl ?_; clear hE a; intro a hE)
      | ((with_reducible refine g_bin .lss ?_); refine s_lss hE rfl rfl rfl ?_; clear hE a; intro a hE)
      | ((with_reducible refine g_bin .geq ?_); refine s_geq hE rfl rfl rfl ?_; clear hE a; intro a hE)
      | ((with_reducible refine g_guard ?_); refine gd_yes hE rfl rfl rfl ?_)
      | ((with_reducible refine g_guard ?_); refine gd_no hE rfl rfl rfl rfl ?_; clear hE a; intro a hE)
      | ((with_reducible refine g_guard ?_); refine gd_dec hE rfl rfl (fun hc hE2 => ?_) (fun hc hE2 => ?_) <;> (try omega) <;> (replace hE := hE2; clear hE2))
      | ((with_reducible refine g_pick ?_); refine s_pickT hE rfl rfl rfl ?_; clear hE a; intro a hE)
      | ((with_reducible refine g_pick ?_); refine s_pickF hE rfl rfl rfl ?_; clear hE a; intro a hE)
      )
    · exact ret1 hE rfl rfl ⟨by rw [decide_eq_false (by omega)], hS⟩
    · exact ret1 hE rfl rfl ⟨rfl, hS⟩
theorem long (s : Sl) (w0 : World) : Fn Try.prog 57 [s.v] w0 fun v w' => v = .bool (decide (52 < s.b.length)) ∧ St w0 w' [] := by
  refine enter 6 Try.func57 rfl rfl rfl ?_
  intro a hE
  have hS := St.start w0
  repeat' (first

    | (with_reducible refine wp_seq ?_)
    | (with_reducible refine c_region ?_)
    | (with_reducible refine wpList_nil ?_)
    | (with_reducible refine then_normal ?_)
    | (with_reducible refine wp_ret ?_)
    | ((with_reducible refine g_move ?_); refine s_move hE rfl rfl ?_; clear hE a; intro a hE)
    | ((with_reducible refine g_assign ?_); refine s_assign hE rfl rfl ?_; clear hE a; intro a hE)
    | ((with_reducible refine g_bin .gtr ?_); refine s_gtr hE rfl rfl rfl ?_; clear hE a; intro a hE)
    | ((with_reducible refine g_blt .len ?_); refine s_len hE rfl rfl ?_; clear hE a; intro a hE)
    )
  refine ret1 hE rfl rfl ⟨congrArg Value.bool (decide_eq_decide.2 (by omega)), hS⟩
theorem indexF {fid : FuncId} [TyFn Try.prog fid] (pf : List Nat → Bool) (A : Option Addr) (c : Nat) (sl : List Sl) (hlen : sl.length ≤ 1000) (hr : Rd w0 A (sl.map Sl.v)) (hL : ∀ s ∈ sl, ∀ w, St w0 w [] → Fn Try.prog fid [s.v] w fun v w' => v = .bool (pf s.b) ∧ St w w' []) :
    Fn Try.prog 61 [.slice A sl.length c, .func (.func fid) #[] #[]] w0 fun v w' => v = .int .i64 (firstIx pf (sl.map Sl.b) 0) ∧ St w0 w' [] := by
  refine enter 19 Try.func61 rfl rfl rfl ?_
  intro a hE
  have hS := St.start w0
  have hml : (sl.map Sl.v).length = sl.length := List.length_map ..
  repeat' (first

    | (with_reducible refine wp_seq ?_)
    | (with_reducible refine c_region ?_)
    | (with_reducible refine wpList_nil ?_)
    | (with_reducible refine then_normal ?_)
    | (with_reducible refine wp_block ?_)
    | ((with_reducible refine g_move ?_); refine s_move hE rfl rfl ?_; clear hE a; intro a hE)
    | ((with_reducible refine g_assign ?_); refine s_assign hE rfl rfl ?_; clear hE a; intro a hE)
    | ((with_reducible refine g_blt .len ?_); refine s_len hE rfl rfl ?_; clear hE a; intro a hE)
    )
  refine wp_loop_ghost (fun q a w => ∃ (k : Nat), k + q = sl.length ∧ firstIx pf (sl.map Sl.b) 0 = firstIx pf ((sl.map Sl.b).drop k) k ∧ St w0 w [] ∧ Env 19 [(0, .slice A sl.length c), (1, .func (.func fid) #[] #[]), (7, .int .i64 (sl.length : Int)), (8, .int .i64 (k : Int))] a) sl.length ⟨0, by omega, rfl, hS, hE.sub ⟨rfl, rfl, rfl, rfl, trivial⟩⟩ ?_
  clear hE a hS
  rintro q a w ⟨k, hk, hix, hS, hE⟩
  by_cases hk1 : k < sl.length
  · have hv : (sl.map Sl.v)[((k : Nat) : Int).toNat * 1]? = some (sl[k]'hk1).v := by
      rw [Int.toNat_natCast, Nat.mul_one, List.getElem?_map, List.getElem?_eq_getElem hk1]; rfl
    have hd : (sl.map Sl.b).drop k = (sl[k]'hk1).b :: (sl.map Sl.b).drop (k + 1) := by
      rw [List.drop_eq_getElem_cons (by rw [List.length_map]; exact hk1), List.getElem_map]
    rw [hd, firstIx_cons] at hix
    repeat' (first

      | (with_reducible refine wp_seq ?_)
      | (with_reducible refine c_region ?_)
      | (with_reducible refine wpList_nil ?_)
      | (with_reducible refine then_normal ?_)
      | (with_reducible refine wp_skip ?_)
      | (with_reducible refine wp_block ?_)
      | ((with_reducible refine g_move ?_); refine s_move hE rfl rfl ?_; clear hE a; intro a hE)
      | ((with_reducible refine g_assign ?_); refine s_assign hE rfl rfl ?_; clear hE a; intro a hE)
      | ((with_reducible refine g_bin .lss ?_); refine s_lss hE rfl rfl rfl ?_; clear hE a; intro a hE)
      | ((with_reducible refine g_cond ?_); refine c_dec hE rfl (fun hc => ?_) (fun hc => ?_) <;> try omega)
      | ((with_reducible refine g_ia ?_); refine s_idxR hE rfl rfl (by omega) (by omega) (by (first | exact Rd.st (by assumption) hS )) (by first | omega ) rfl ?_; clear hE a; intro a hE)
      | ((with_reducible refine g_load ?_); refine s_loadR hE rfl (by (first | exact Rd.st (by assumption) hS )) (by first | exact hv ) rfl ?_; clear hE a; intro a hE)
      )
    refine s_call (first := #[]) hE rfl rfl rfl (by simpa using hL _ (List.getElem_mem hk1) w hS) ?_
    rintro _ w ⟨rfl, hS1⟩; clear hE a; intro a hE; replace hS := hS.frame hS1; clear hS1; try simp only [List.cons_append, List.nil_append] at hS
    cases hp : pf (sl[k]'hk1).b
    · rw [hp] at hE hix
      rw [if_neg (by decide)] at hix
      repeat' (first

        | (with_reducible refine c_region ?_)
        | (with_reducible refine wpList_nil ?_)
        | (with_reducible refine then_normal ?_)
        | (with_reducible refine wp_skip ?_)
        | (with_reducible refine block_normal ?_)
        | ((with_reducible refine g_move ?_); refine s_move hE rfl rfl ?_; clear hE a; intro a hE)
        | ((with_reducible refine g_bin .add ?_); refine s_add hE rfl rfl rfl (by first  | exact wrap64_in (by omega) ) ?_; clear hE a; intro a hE)
        | ((with_reducible refine g_cond ?_); refine c_false hE rfl ?_)
        )
      exact ⟨q - 1, by omega, k + 1, by omega, hix, hS, hE.sub ⟨rfl, rfl, rfl, rfl, trivial⟩⟩
    · rw [hp] at hE hix
      rw [if_pos rfl] at hix
      repeat' (first

        | (with_reducible refine wp_seq ?_)
        | (with_reducible refine c_region ?_)
        | (with_reducible refine wpList_nil ?_)
        | (with_reducible refine then_normal ?_)
        | (with_reducible refine wp_ret ?_)
        | (with_reducible refine then_ret ?_)
        | (with_reducible refine block_ret ?_)
        | ((with_reducible refine g_move ?_); refine s_move hE rfl rfl ?_; clear hE a; intro a hE)
        | ((with_reducible refine g_assign ?_); refine s_assign hE rfl rfl ?_; clear hE a; intro a hE)
        | ((with_reducible refine g_cond ?_); refine c_true hE rfl ?_)
        )
      exact ret1 hE rfl rfl ⟨by rw [hix], hS⟩
  · obtain rfl : k = sl.length := by omega
    rw [List.drop_eq_nil_of_le (by rw [List.length_map]; exact Nat.le_refl _)] at hix
    repeat' (first

      | (with_reducible refine wp_seq ?_)
      | (with_reducible refine c_region ?_)
      | (with_reducible refine wpList_nil ?_)
      | (with_reducible refine then_normal ?_)
      | (with_reducible refine wp_ret ?_)
      | (with_reducible refine wp_exit ?_)
      | (with_reducible refine then_exit ?_)
      | (with_reducible refine block_same ?_)
      | ((with_reducible refine g_assign ?_); refine s_assign hE rfl rfl ?_; clear hE a; intro a hE)
      | ((with_reducible refine g_bin .lss ?_); refine s_lss hE rfl rfl rfl ?_; clear hE a; intro a hE)
      | ((with_reducible refine g_cond ?_); refine c_dec hE rfl (fun hc => ?_) (fun hc => ?_) <;> try omega)
      )
    exact ret1 hE rfl rfl ⟨by rw [hix]; rfl, hS⟩
theorem containsF {fid : FuncId} [TyFn Try.prog fid] (pf : List Nat → Bool) (A : Option Addr) (c : Nat) (sl : List Sl) (hlen : sl.length ≤ 1000) (hr : Rd w0 A (sl.map Sl.v)) (hL : ∀ s ∈ sl, ∀ w, St w0 w [] → Fn Try.prog fid [s.v] w fun v w' => v = .bool (pf s.b) ∧ St w w' []) :
    Fn Try.prog 59 [.slice A sl.length c, .func (.func fid) #[] #[]] w0 fun v w' => v = .bool ((sl.map Sl.b).any pf) ∧ St w0 w' [] := by
  refine enter 9 Try.func59 rfl rfl rfl ?_
  intro a hE
  repeat' (first

    | (with_reducible refine wp_seq ?_)
    | (with_reducible refine c_region ?_)
    | (with_reducible refine wpList_nil ?_)
    | (with_reducible refine then_normal ?_)
    | ((with_reducible refine g_move ?_); refine s_move hE rfl rfl ?_; clear hE a; intro a hE)
    | ((with_reducible refine g_assign ?_); refine s_assign hE rfl rfl ?_; clear hE a; intro a hE)
    )
  refine s_call hE rfl rfl rfl (indexF pf A c sl hlen hr hL) ?_
  rintro _ w ⟨rfl, hS⟩; clear hE a; intro a hE
  repeat' (first

    | (with_reducible refine wpList_nil ?_)
    | (with_reducible refine then_normal ?_)
    | (with_reducible refine wp_ret ?_)
    | ((with_reducible refine g_assign ?_); refine s_assign hE rfl rfl ?_; clear hE a; intro a hE)
    | ((with_reducible refine g_bin .geq ?_); refine s_geq hE rfl rfl rfl ?_; clear hE a; intro a hE)
    )
  exact ret1 hE rfl rfl ⟨by rw [← firstIx_any pf _ 0], hS⟩
end
end Go.Proofs.Ytaiahigeejodaaa
