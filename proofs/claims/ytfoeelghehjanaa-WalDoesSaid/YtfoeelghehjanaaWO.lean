/-
  Contract: a log is opened.
-/
import Derived.Test.YtfoeelghehjanaaWN
import Derived.Scope
namespace Go.Proofs.Ytfoeelghehjanaa
open Go.RowKit
set_option linter.unusedVariables false
set_option linter.unusedSimpArgs false
attribute [local irreducible] Rd hRow hBlk hRd hRdr wrP hDk hWl Fn FnD hMarks

/-- the frames that stand one behind the other -/
def chainP (l : List Blk) (t : Nat) : Nat → List (List Nat) → Nat → List (List Nat) × Nat
  | 0, bs, fin => (bs, fin)
  | q + 1, bs, fin => match stM (l.drop fin) t bs.length with
    | none => (bs, fin)
    | some b => chainP l t q (bs ++ [b]) (fin + secN b.length)
def chain (l : List Blk) (t : Nat) : List (List Nat) × Nat := chainP l t (l.length + 1) [] 0
/-- sectors behind the frames that are no noughts -/
def torn (l : List Blk) (at_ : Int) (fin n : Nat) : List Int := ((List.range' fin n).filter fun i => decide (l.getD i noughts ≠ noughts)).map fun i : Nat => at_ + (i : Int)
def DM.opn3 (D : DM) (t a : Nat) (l : List Blk) : DM × Option WM × Int :=
  if (chain l t).1 = [] then (D, none, 140)
  else
    let tn := torn l (fromN t a : Nat) (chain l t).2 (a - (chain l t).2)
    let r := if tn ≠ [] ∨ D.pend ≠ [] then D.wipe tn else (D, 0)
    if r.2 ≠ 0 then (r.1, none, r.2) else (r.1, some ⟨a, t, (chain l t).1, (chain l t).2, false⟩, 0)
def DM.opn2 (D : DM) (t a : Nat) : DM × Option WM × Int :=
  let r := D.rds ((fromN t a : Nat) : Int) a
  if r.2.2 ≠ 0 then (r.1, none, r.2.2) else r.1.opn3 t a r.2.1
/-- the log that a disk has -/
def DM.opn (D : DM) : DM × Option WM × Int :=
  let r := D.rds ((0 : Nat) : Int) 2
  if r.2.2 ≠ 0 then (r.1, none, r.2.2)
  else
    let f := findP r.1.safe.length r.2.1 r.2.1.length
    if f.2.2 = false then (r.1, none, 140) else r.1.opn2 f.1 f.2.1
theorem torn_succ (l : List Blk) (at_ : Int) (fin n : Nat) : torn l at_ fin (n + 1) = torn l at_ fin n ++ (if l.getD (fin + n) noughts ≠ noughts then [at_ + ((fin + n : Nat) : Int)] else []) := by
  unfold torn
  rw [List.range'_1_concat, List.filter_append, List.map_append]
  congr 1
  by_cases h : l.getD (fin + n) noughts ≠ noughts
  · rw [if_pos h, List.filter_cons_of_pos (by simpa using h)]; simp
  · rw [if_neg h, List.filter_cons_of_neg (by simpa using h)]; simp
theorem torn_len (l : List Blk) (at_ : Int) (fin n : Nat) : (torn l at_ fin n).length ≤ n := by
  unfold torn
  rw [List.length_map]
  exact Nat.le_trans (List.length_filter_le _ _) (by rw [List.length_range']; exact Nat.le_refl _)
theorem stM_some {l : List Blk} {t n : Nat} {b : List Nat} (hl : ∀ x ∈ l, Blk.ok x) (h : stM l t n = some b) : secN b.length ≤ l.length ∧ 1 ≤ secN b.length ∧ b.length ≤ 40000 ∧ partsB t n b = l.take (secN b.length) := by
  cases l with
  | nil => cases h
  | cons x l' =>
    unfold stM at h
    dsimp only at h
    split at h
    · cases h
    · rename_i h1
      split at h
      · rename_i h2
        obtain rfl := Option.some.inj h
        have h3 := bodies_len (l := (x :: l').take (stN x)) fun b hb => hl b (List.mem_of_mem_take hb)
        have h4 := secN_fit (n := stL x) (by omega)
        have h5 : secN (stL x) = stN x := by omega
        rw [h5] at h4
        have h6 : (stB (x :: l') (stN x) (stL x)).length = stL x := by
          unfold stB
          rw [List.length_take, List.length_drop, h3, List.length_take]
          omega
        rw [h6, h5]
        exact ⟨by omega, by omega, by omega, h2⟩
      · cases h
theorem flat_drop (l : List Blk) (hl : ∀ b ∈ l, Blk.ok b) : ∀ k, (l.flatMap bys).drop (k * 64) = (l.drop k).flatMap bys := by
  induction l with
  | nil => intro k; simp
  | cons x l ih =>
    intro k
    cases k with
    | zero => simp
    | succ k =>
      rw [List.flatMap_cons, List.drop_succ_cons, ← ih (fun b hb => hl b (List.mem_cons_of_mem _ hb)) k]
      have hx : (bys x).length = 64 := by rw [bys_length]; exact (hl x (List.mem_cons_self ..)).1
      rw [show (k + 1) * 64 = (bys x).length + k * 64 by omega, List.drop_length_add_append]
section
variable {D : DM} {H : List HP} {w0 w : World} {gd m : Nat}
set_option maxHeartbeats 8000000
set_option maxRecDepth 20000
theorem kopn (hD : D.atN m) (hm : m ≤ 70000) (hS : St w0 w (hDk gd D :: H)) :
    Fn Try.prog 24 [.pointer (some ⟨gd, 0, none⟩)] w fun v w' =>
      (∃ W gw, D.opn.2.1 = some W ∧ D.opn.2.2 = 0 ∧ v = .tuple #[.pointer (some ⟨gw, 0, none⟩), .int .i64 0] ∧ St w0 w' (hWl gw gd W :: hDk gd D.opn.1 :: H)) ∨
      (D.opn.2.1 = none ∧ D.opn.2.2 ≠ 0 ∧ v = .tuple #[.pointer none, .int .i64 D.opn.2.2] ∧ St w0 w' (hDk gd D.opn.1 :: H)) := by
  refine enter 135 Try.func24 rfl rfl rfl ?_
  intro a hE
  refine wp_seq ?_
  repeat' (first

    | (with_reducible refine c_region ?_)
    | (with_reducible refine wpList_nil ?_)
    | (with_reducible refine then_normal ?_)
    | ((with_reducible refine g_assign ?_); refine s_assign hE rfl rfl ?_; clear hE a; intro a hE)
    )
  refine wp_scope_straight ?_
  repeat' (first

    | (with_reducible refine wp_seq ?_)
    | (with_reducible refine c_region ?_)
    | (with_reducible refine wpList_nil ?_)
    | (with_reducible refine then_normal ?_)
    | (with_reducible refine wp_skip ?_)
    | ((with_reducible refine g_move ?_); refine s_move hE rfl rfl ?_; clear hE a; intro a hE)
    | ((with_reducible refine g_cond ?_); refine c_false hE rfl ?_)
    | ((with_reducible refine g_bin .eql ?_); refine s_val hE rfl rfl rfl (r_eqp hE rfl rfl) ?_; clear hE a; intro a hE)
    )
  have hrl : ∀ {D : DM} {at_ : Int} {n m : Nat}, D.atN m → m + n ≤ 80000 → (D.rds at_ n).1.atN (m + n) ∧ (∀ b ∈ (D.rds at_ n).2.1, Blk.ok b) := fun {D at_ n m} h hm => by
    have h1 := rdl_atN (l := fromL at_ 0 n) h (by rw [fromL_len]; omega)
    have h2 := rdl_ok (l := fromL at_ 0 n) h (by rw [fromL_len]; omega)
    rw [fromL_len] at h1
    exact ⟨h1, h2⟩
  have hrlen : ∀ {D : DM} {at_ : Int} {n : Nat}, (D.rds at_ n).2.2 = 0 → (D.rds at_ n).2.1.length = n := fun {D at_ n} h => by
    have := rdl_len (l := fromL at_ 0 n) h
    rw [fromL_len] at this
    exact this
  obtain ⟨h1, h2⟩ := hrl (at_ := ((0 : Nat) : Int)) (n := 2) hD (by omega)
  refine s_call hE rfl rfl rfl (krd D 0 2 (by decide) (by decide) hD (by omega) hS) ?_
  have hlen1 := hrlen (D := D) (at_ := ((0 : Nat) : Int)) (n := 2)
  unfold DM.opn
  generalize D.rds ((0 : Nat) : Int) 2 = r1 at h1 h2 hlen1 ⊢
  obtain ⟨D1, l1, e1⟩ := r1
  dsimp only at h1 h2 hlen1 ⊢
  rintro _ w (⟨rfl, A1, c1, rfl, hS⟩ | ⟨he1, rfl, hS⟩) <;> clear hE a <;> intro a hE
  rotate_left
  · rw [if_pos he1]
    dsimp only
    repeat' (first

      | (with_reducible refine wp_seq ?_)
      | (with_reducible refine c_region ?_)
      | (with_reducible refine wpList_nil ?_)
      | (with_reducible refine then_normal ?_)
      | (with_reducible refine wp_ret ?_)
      | (with_reducible refine then_ret ?_)
      | ((with_reducible refine g_move ?_); refine s_move hE rfl rfl ?_; clear hE a; intro a hE)
      | ((with_reducible refine g_assign ?_); refine s_assign hE rfl rfl ?_; clear hE a; intro a hE)
      | ((with_reducible refine g_bin .neq ?_); refine s_neq hE rfl rfl rfl ?_; clear hE a; intro a hE)
      | ((with_reducible refine g_extract ?_); refine s_extract hE rfl rfl rfl ?_; clear hE a; intro a hE)
      | ((with_reducible refine g_cond ?_); refine c_dec hE rfl (fun hc => ?_) (fun hc => ?_) <;> try omega)
      )
    exact ret2 hE rfl rfl rfl (.inr ⟨rfl, he1, rfl, hS⟩)
  rw [if_neg (fun h => h rfl)]
  replace hlen1 := hlen1 rfl
  have hsl1 := h1.ok.len
  repeat' (first

    | (with_reducible refine wp_seq ?_)
    | (with_reducible refine c_region ?_)
    | (with_reducible refine wpList_nil ?_)
    | (with_reducible refine then_normal ?_)
    | (with_reducible refine wp_skip ?_)
    | ((with_reducible refine g_move ?_); refine s_move hE rfl rfl ?_; clear hE a; intro a hE)
    | ((with_reducible refine g_assign ?_); refine s_assign hE rfl rfl ?_; clear hE a; intro a hE)
    | ((with_reducible refine g_bin .neq ?_); refine s_neq hE rfl rfl rfl ?_; clear hE a; intro a hE)
    | ((with_reducible refine g_extract ?_); refine s_extract hE rfl rfl rfl ?_; clear hE a; intro a hE)
    | ((with_reducible refine g_cond ?_); refine c_false hE rfl ?_)
    )
  refine s_call hE rfl rfl rfl (klen hS.p1) ?_
  rintro _ w ⟨rfl, hS⟩; clear hE a; intro a hE
  skip
  refine s_call hE rfl rfl rfl (find_ D1.safe.length (by omega) l1 A1 c1 h2 (by omega) w hS.p1.rd) ?_
  have hflt := findP_lt (sec := D1.safe.length) h2 l1.length (Nat.le_refl _)
  generalize findP D1.safe.length l1 l1.length = f at hflt ⊢
  obtain ⟨t, ar, ok⟩ := f
  dsimp only at hflt ⊢
  rintro _ w ⟨rfl, hS1⟩; clear hE a; intro a hE; replace hS := hS.frame hS1; clear hS1; try simp only [List.cons_append, List.nil_append] at hS
  replace hS := hS.drop 1
  simp only [List.eraseIdx_cons_zero, List.eraseIdx_cons_succ] at hS
  cases ok
  · rw [if_pos rfl]
    repeat' (first

      | (with_reducible refine wp_seq ?_)
      | (with_reducible refine c_region ?_)
      | (with_reducible refine wpList_nil ?_)
      | (with_reducible refine then_normal ?_)
      | (with_reducible refine wp_ret ?_)
      | (with_reducible refine then_ret ?_)
      | ((with_reducible refine g_move ?_); refine s_move hE rfl rfl ?_; clear hE a; intro a hE)
      | ((with_reducible refine g_assign ?_); refine s_assign hE rfl rfl ?_; clear hE a; intro a hE)
      | ((with_reducible refine g_un .not ?_); refine s_notb hE rfl rfl ?_; clear hE a; intro a hE)
      | ((with_reducible refine g_extract ?_); refine s_extract hE rfl rfl rfl ?_; clear hE a; intro a hE)
      | ((with_reducible refine g_cond ?_); refine c_true hE rfl ?_)
      )
    exact ret2 hE rfl rfl rfl (.inr ⟨rfl, (by decide : (140 : Int) ≠ 0), rfl, hS⟩)
  rw [if_neg (by decide)]
  have hfrN := fromN_le t ar hflt.2
  repeat' (first

    | (with_reducible refine wp_seq ?_)
    | (with_reducible refine c_region ?_)
    | (with_reducible refine wpList_nil ?_)
    | (with_reducible refine then_normal ?_)
    | (with_reducible refine wp_skip ?_)
    | ((with_reducible refine g_move ?_); refine s_move hE rfl rfl ?_; clear hE a; intro a hE)
    | ((with_reducible refine g_assign ?_); refine s_assign hE rfl rfl ?_; clear hE a; intro a hE)
    | ((with_reducible refine g_un .not ?_); refine s_notb hE rfl rfl ?_; clear hE a; intro a hE)
    | ((with_reducible refine g_extract ?_); refine s_extract hE rfl rfl rfl ?_; clear hE a; intro a hE)
    | ((with_reducible refine g_cond ?_); refine c_false hE rfl ?_)
    | ((with_reducible refine g_box ?_); refine s_boxS hE hS rfl rfl ?_; clear hE a hS; intro g a w hE hS)
    | ((with_reducible refine g_build ?_); refine s_build [_, _, _, _, _, _] hE rfl rfl rfl ?_; clear hE a; intro a hE)
    )
  obtain ⟨gw, rfl⟩ : ∃ x, x = g := ⟨_, rfl⟩
  refine s_call hE rfl rfl rfl (from_ t ar hflt.1 hflt.2 w) ?_
  rintro _ w ⟨rfl, hS1⟩; clear hE a; intro a hE; replace hS := hS.frame hS1; clear hS1; try simp only [List.cons_append, List.nil_append] at hS
  repeat' (first

    | ((with_reducible refine g_move ?_); refine s_move hE rfl rfl ?_; clear hE a; intro a hE)
    )
  unfold DM.opn2
  dsimp only
  obtain ⟨h3, h4⟩ := hrl (at_ := ((fromN t ar : Nat) : Int)) (n := ar) h1 (by omega)
  refine s_call hE rfl rfl rfl (krd D1 (fromN t ar) ar (by omega) hflt.2 h1 (by omega) hS.p1) ?_
  have hlen2 := hrlen (D := D1) (at_ := ((fromN t ar : Nat) : Int)) (n := ar)
  generalize D1.rds ((fromN t ar : Nat) : Int) ar = r2 at h3 h4 hlen2 ⊢
  obtain ⟨D2, l, e2⟩ := r2
  dsimp only at h3 h4 hlen2 ⊢
  rintro _ w (⟨rfl, A4, c4, rfl, hS⟩ | ⟨he1, rfl, hS⟩) <;> clear hE a <;> intro a hE
  rotate_left
  · rw [if_pos he1]
    dsimp only
    repeat' (first

      | (with_reducible refine wp_seq ?_)
      | (with_reducible refine c_region ?_)
      | (with_reducible refine wpList_nil ?_)
      | (with_reducible refine then_normal ?_)
      | (with_reducible refine wp_ret ?_)
      | (with_reducible refine then_ret ?_)
      | ((with_reducible refine g_move ?_); refine s_move hE rfl rfl ?_; clear hE a; intro a hE)
      | ((with_reducible refine g_assign ?_); refine s_assign hE rfl rfl ?_; clear hE a; intro a hE)
      | ((with_reducible refine g_bin .neq ?_); refine s_neq hE rfl rfl rfl ?_; clear hE a; intro a hE)
      | ((with_reducible refine g_extract ?_); refine s_extract hE rfl rfl rfl ?_; clear hE a; intro a hE)
      | ((with_reducible refine g_cond ?_); refine c_dec hE rfl (fun hc => ?_) (fun hc => ?_) <;> try omega)
      )
    exact ret2 hE rfl rfl rfl (.inr ⟨rfl, he1, rfl, (St.selD [0] 1 hS)⟩)
  rw [if_neg (fun h => h rfl)]
  replace hlen2 := hlen2 rfl
  subst hlen2
  repeat' (first

    | (with_reducible refine wp_seq ?_)
    | (with_reducible refine c_region ?_)
    | (with_reducible refine wpList_nil ?_)
    | (with_reducible refine then_normal ?_)
    | (with_reducible refine wp_skip ?_)
    | ((with_reducible refine g_move ?_); refine s_move hE rfl rfl ?_; clear hE a; intro a hE)
    | ((with_reducible refine g_assign ?_); refine s_assign hE rfl rfl ?_; clear hE a; intro a hE)
    | ((with_reducible refine g_bin .neq ?_); refine s_neq hE rfl rfl rfl ?_; clear hE a; intro a hE)
    | ((with_reducible refine g_extract ?_); refine s_extract hE rfl rfl rfl ?_; clear hE a; intro a hE)
    | ((with_reducible refine g_cond ?_); refine c_false hE rfl ?_)
    )
  refine wp_label ?_
  repeat' (first

    | (with_reducible refine wp_seq ?_)
    | (with_reducible refine then_normal ?_)
    | (with_reducible refine wp_block ?_)
    )
  replace hS := wrP_nil (St.rowNil hS 34 1)
  have hfl : (l.flatMap bys).length = l.length * 64 := flat_len (blk_len h4)
  refine wp_mono (?_ : Code.wp _ _ (fun e a w => e = .exit 0 ∧ ∃ (A5 : Option Addr) (c5 fin : Nat) (sls : List Sl), sls.length ≤ fin ∧ fin ≤ l.length ∧ (∀ s ∈ sls, Bs s.b ∧ s.b.length ≤ 40000) ∧ chain l t = (sls.map Sl.b, fin) ∧ St w0 w (hBlk gw 89 [.pointer (some ⟨gd, 0, none⟩), .int .i64 (l.length : Int), .int .u32 (t : Int), .slice A5 sls.length c5, .int .i64 (fin : Int), .bool false] :: hRow 34 1 A5 sls.length c5 (sls.map Sl.v) :: wrP sls :: hRow 80 64 A4 l.length c4 (l.flatMap bys) :: hDk gd D2 :: H) ∧ Env 135 [(0, .pointer (some ⟨gd, 0, none⟩)), (4, .slice A4 l.length c4), (5, .int .i64 0), (6, .int .u32 (t : Int)), (7, .int .i64 (l.length : Int)), (9, .pointer (some ⟨gw, 0, none⟩))] a) _ _) ?_
  · refine wp_loop_ghost (fun q a w => ∃ (A5 : Option Addr) (c5 fin : Nat) (sls : List Sl), l.length + 1 ≤ fin + q ∧ sls.length ≤ fin ∧ fin ≤ l.length ∧ (∀ s ∈ sls, Bs s.b ∧ s.b.length ≤ 40000) ∧ chain l t = chainP l t q (sls.map Sl.b) fin ∧ St w0 w (hBlk gw 89 [.pointer (some ⟨gd, 0, none⟩), .int .i64 (l.length : Int), .int .u32 (t : Int), .slice A5 sls.length c5, .int .i64 (fin : Int), .bool false] :: hRow 34 1 A5 sls.length c5 (sls.map Sl.v) :: wrP sls :: hRow 80 64 A4 l.length c4 (l.flatMap bys) :: hDk gd D2 :: H) ∧ Env 135 [(0, .pointer (some ⟨gd, 0, none⟩)), (4, .slice A4 l.length c4), (5, .int .i64 0), (6, .int .u32 (t : Int)), (7, .int .i64 (l.length : Int)), (9, .pointer (some ⟨gw, 0, none⟩))] a) (l.length + 1) ⟨none, 0, 0, [], by omega, by decide, by omega, (fun s hs => by cases hs), rfl, (St.selD [4, 1, 0, 0, 0] 0 hS), hE.sub ⟨rfl, rfl, rfl, rfl, rfl, rfl, trivial⟩⟩ ?_
    clear hE a hS
    rintro q a w ⟨A5, c5, fin, sls, hq, hsf, hfin, hsb, hch, hS, hE⟩
    obtain ⟨q', rfl⟩ : ∃ q', q = q' + 1 := ⟨q - 1, by omega⟩
    obtain ⟨_, hcap, _⟩ := hS.lenAt (k := 3) rfl
    have e1 : IntKind.u32.wrap ((sls.length : Nat) : Int) = (sls.length : Int) := wrap_u32_in (by omega)
    repeat' (first

      | (with_reducible refine wp_seq ?_)
      | (with_reducible refine wp_block ?_)
      )
    refine c_ordK hS 0 rfl 18 ((.rd 0 (.rd 1 (.rd 2 (.rd 3 (.rd 4 (.rd 5 (.rd 6 (.rd 7 (.rd 8 (.rd 9 (.rd 10 (.rd 11 (.rd 12 (.ef 13 (.rd 14 (.rd 15 (.rd 16 (.rd 17 (.lt 18 .done)))))))))))))))))))) mixed (by decide +kernel) ?_
    clear hS; intro w hF hS
    repeat' (first
      | (with_reducible refine o_rd rfl ?_)
      | ((with_reducible refine q_move ?_); refine d_val hE hS rfl (fun w hS => r_move hE rfl) ?_; clear hE a; intro a hE)
      | ((with_reducible refine q_conv ?_); refine d_val hE hS rfl (fun w hS => r_conv hE rfl (by first | exact e1)) ?_; clear hE a; intro a hE)
      | ((with_reducible refine q_blt .len ?_); refine d_val hE hS rfl (fun w hS => r_len hE rfl) ?_; clear hE a; intro a hE)
      | ((with_reducible refine q_fa ?_); refine d_val hE hS rfl (fun w hS => r_fieldL hE rfl rfl) ?_; clear hE a; intro a hE)
      | ((with_reducible refine q_nc ?_); refine d_val hE hS rfl (fun w hS => r_nilCheck hE rfl) ?_; clear hE a; intro a hE)
      | ((with_reducible refine q_load ?_); (first | (refine d_val hE hS rfl (fun w hS => r_loadB (k := 0) hS hE rfl rfl rfl) ?_) ); clear hE a; intro a hE)
      | ((with_reducible refine q_sliceL ?_); refine d_val hE hS rfl (fun w hS => r_cutL hE rfl rfl (by omega)) ?_; clear hE a; intro a hE)
      | ((with_reducible refine o_ef rfl ?_))
      )
    rw [Int.toNat_natCast] at hE
    clear hS; have hS := hF; clear hF
    have hdl : (l.drop fin).length = l.length - fin := List.length_drop ..
    have hdo : ∀ b ∈ l.drop fin, Blk.ok b := fun b hb => h4 b (List.mem_of_mem_drop hb)
    have hdr : Rd w (if c4 = fin then A4 else A4.map (fun x : Addr => x.add (fin * 64))) ((l.drop fin).flatMap bys) := by
      by_cases hc : c4 = fin
      · rw [List.drop_eq_nil_of_le (by omega)]
        exact Rd.nil
      · rw [if_neg hc, ← flat_drop l h4]
        exact (hS.rdAt (k := 3) rfl).drop (fin * 64)
    have hst := stands (l.drop fin) _ (c4 - fin) t sls.length hflt.1 (by omega) hdo (by omega) (by omega) w hdr
    rw [hdl] at hst
    refine s_call hE rfl rfl rfl hst ?_
    clear hst hdr
    unfold chainP at hch
    rw [List.length_map] at hch
    rintro _ w (⟨hno, rfl, hS1⟩ | ⟨b, A', c', hso, hb4, hbs, rfl, hS1⟩)
    · clear hE a; intro a hE; replace hS := hS.frame hS1; clear hS1; try simp only [List.cons_append, List.nil_append] at hS
      rw [hno] at hch
      dsimp only at hch
      refine wpList_nil ?_
      have hF := hS; clear hS
      have hS := hF.only 0 rfl
      refine o_back _ (fun _ h => h) hS ?_
      repeat' (first
        | (with_reducible refine o_rd rfl ?_)
        | ((with_reducible refine q_move ?_); refine d_val hE hS rfl (fun w hS => r_move hE rfl) ?_; clear hE a; intro a hE)
        | ((with_reducible refine q_assign ?_); refine d_val hE hS rfl (fun w hS => r_assign hE rfl) ?_; clear hE a; intro a hE)
        | ((with_reducible refine q_extract ?_); refine d_val hE hS rfl (fun w hS => r_extract hE rfl rfl) ?_; clear hE a; intro a hE)
        | ((with_reducible refine o_lt rfl ?_))
        )
      clear hS; have hS := hF; clear hF
      repeat' (first

        | (with_reducible refine wpList_nil ?_)
        | ((with_reducible refine g_assign ?_); refine s_assign hE rfl rfl ?_; clear hE a; intro a hE)
        )
      refine o_backL ?_
      repeat' (first
        | (with_reducible refine o_done ?_)
        )
      repeat' (first

        | (with_reducible refine wp_seq ?_)
        | (with_reducible refine c_region ?_)
        | (with_reducible refine wpList_nil ?_)
        | (with_reducible refine then_normal ?_)
        | (with_reducible refine wp_exit ?_)
        | (with_reducible refine then_exit ?_)
        | ((with_reducible refine block_other ?_ ?_); rfl)
        | ((with_reducible refine g_move ?_); refine s_move hE rfl rfl ?_; clear hE a; intro a hE)
        | ((with_reducible refine g_un .not ?_); refine s_notb hE rfl rfl ?_; clear hE a; intro a hE)
        | ((with_reducible refine g_cond ?_); refine c_true hE rfl ?_)
        )
      exact ⟨rfl, A5, c5, fin, sls, hsf, hfin, hsb, hch, hS, hE.sub ⟨rfl, rfl, rfl, rfl, rfl, rfl, trivial⟩⟩
    · clear hE a; intro a hE; replace hS := hS.frame hS1; clear hS1; try simp only [List.cons_append, List.nil_append] at hS
      rw [hso] at hch
      dsimp only at hch
      obtain ⟨hs1, hs2, _, _⟩ := stM_some hdo hso
      refine wpList_nil ?_
      have hF := hS; clear hS
      have hS := hF.only 1 rfl
      refine o_back _ (fun _ h => h) hS ?_
      repeat' (first
        | (with_reducible refine o_rd rfl ?_)
        | ((with_reducible refine q_move ?_); refine d_val hE hS rfl (fun w hS => r_move hE rfl) ?_; clear hE a; intro a hE)
        | ((with_reducible refine q_assign ?_); refine d_val hE hS rfl (fun w hS => r_assign hE rfl) ?_; clear hE a; intro a hE)
        | ((with_reducible refine q_extract ?_); refine d_val hE hS rfl (fun w hS => r_extract hE rfl rfl) ?_; clear hE a; intro a hE)
        | ((with_reducible refine o_lt rfl ?_))
        )
      clear hS; have hS := hF; clear hF
      repeat' (first

        | (with_reducible refine wpList_nil ?_)
        | ((with_reducible refine g_assign ?_); refine s_assign hE rfl rfl ?_; clear hE a; intro a hE)
        )
      refine o_backL ?_
      repeat' (first
        | (with_reducible refine o_done ?_)
        )
      repeat' (first

        | (with_reducible refine wp_seq ?_)
        | (with_reducible refine c_region ?_)
        | (with_reducible refine wpList_nil ?_)
        | (with_reducible refine then_normal ?_)
        | (with_reducible refine wp_skip ?_)
        | ((with_reducible refine g_move ?_); refine s_move hE rfl rfl ?_; clear hE a; intro a hE)
        | ((with_reducible refine g_un .not ?_); refine s_notb hE rfl rfl ?_; clear hE a; intro a hE)
        | ((with_reducible refine g_fa ?_); refine s_fieldL hE rfl rfl rfl ?_; clear hE a; intro a hE)
        | ((with_reducible refine g_nc ?_); refine s_nilCheck hE rfl rfl ?_; clear hE a; intro a hE)
        | ((with_reducible refine g_cond ?_); refine c_false hE rfl ?_)
        | ((with_reducible refine g_load ?_); (first | (refine s_loadB (k := 1) hS hE rfl rfl rfl rfl ?_) ); clear hE a; intro a hE)
        | ((with_reducible refine g_store ?_); (first | (refine s_storeB (k := 2) hS hE rfl rfl rfl rfl rfl rfl ?_) ); clear hS; intro w hS; simp only [List.set_cons_zero, List.set_cons_succ, Nat.add_zero] at hS)
        | ((with_reducible refine g_lit ?_); refine s_lit hE hS rfl rfl rfl rfl rfl (by first | (simp [Value.oneCell']; done)) rfl ?_; clear hE a hS; intro g a w hE hS)
        | ((with_reducible refine g_blt .append ?_); (first | (refine s_appendAt (k := 3) hE hS rfl rfl rfl (by (first | exact hS.rd )) (by (first | rfl )) (by (first | (simp [Value.oneCell']; done))) (by omega) rfl rfl rfl rfl ?_) ); clear hE a hS; intro A c a w hE hS; simp only [List.set_cons_zero, List.set_cons_succ, Nat.add_zero] at hS)
        )
      refine c_ordK hS 2 rfl 8 ((.rd 0 (.rd 1 (.rd 2 (.rd 3 (.rd 4 (.rd 5 (.ef 6 (.rd 7 (.lt 8 (.lt 9 (.lt 10 .done)))))))))))) mixed (by decide +kernel) ?_
      clear hS; intro w hF hS
      repeat' (first
        | (with_reducible refine o_rd rfl ?_)
        | ((with_reducible refine q_move ?_); refine d_val hE hS rfl (fun w hS => r_move hE rfl) ?_; clear hE a; intro a hE)
        | ((with_reducible refine q_blt .len ?_); refine d_val hE hS rfl (fun w hS => r_len hE rfl) ?_; clear hE a; intro a hE)
        | ((with_reducible refine q_fa ?_); refine d_val hE hS rfl (fun w hS => r_fieldL hE rfl rfl) ?_; clear hE a; intro a hE)
        | ((with_reducible refine q_nc ?_); refine d_val hE hS rfl (fun w hS => r_nilCheck hE rfl) ?_; clear hE a; intro a hE)
        | ((with_reducible refine q_load ?_); (first | (refine d_val hE hS rfl (fun w hS => r_loadB (k := 0) hS hE rfl rfl rfl) ?_) ); clear hE a; intro a hE)
        | ((with_reducible refine o_ef rfl ?_))
        )
      clear hS; have hS := hF; clear hF
      refine s_call hE rfl rfl rfl (sectors b.length w) ?_
      rintro _ w ⟨rfl, hS1⟩; clear hE a; intro a hE; replace hS := hS.frame hS1; clear hS1; try simp only [List.cons_append, List.nil_append] at hS
      refine wpList_nil ?_
      have hF := hS; clear hS
      have hS := hF.only 2 rfl
      refine o_back _ (fun _ h => h) hS ?_
      repeat' (first
        | (with_reducible refine o_rd rfl ?_)
        | ((with_reducible refine q_bin .add ?_); refine d_val hE hS rfl (fun w hS => r_add hE rfl rfl (by first  | exact addN (by omega) )) ?_; clear hE a; intro a hE)
        | ((with_reducible refine o_lt rfl ?_))
        )
      clear hS; have hS := hF; clear hF
      repeat' (first

        | (with_reducible refine wpList_nil ?_)
        | ((with_reducible refine g_nc ?_); refine s_nilCheck hE rfl rfl ?_; clear hE a; intro a hE)
        )
      refine o_backL ?_
      repeat' (first
        | ((with_reducible refine o_lt rfl ?_))
        )
      repeat' (first

        | (with_reducible refine wpList_nil ?_)
        | ((with_reducible refine g_fa ?_); refine s_fieldL hE rfl rfl rfl ?_; clear hE a; intro a hE)
        )
      refine o_backL ?_
      repeat' (first
        | ((with_reducible refine o_lt rfl ?_))
        )
      repeat' (first

        | (with_reducible refine wpList_nil ?_)
        | ((with_reducible refine g_store ?_); (first | (refine s_storeB (k := 2) hS hE rfl rfl rfl rfl rfl rfl ?_) ); clear hS; intro w hS; simp only [List.set_cons_zero, List.set_cons_succ, Nat.add_zero] at hS)
        )
      refine o_backL ?_
      repeat' (first
        | (with_reducible refine o_done ?_)
        )
      repeat' (first

        | (with_reducible refine then_normal ?_)
        | (with_reducible refine block_normal ?_)
        )
      have el : (sls ++ [(⟨A', c', b⟩ : Sl)]).length = sls.length + 1 := by simp
      have h5 := wrP_addR (s := ⟨A', c', b⟩) (St.selD [1, 3, 1, 1, 1, 1] 1 hS)
      refine ⟨q', by omega, A, c, fin + secN b.length, sls ++ [⟨A', c', b⟩], by omega, by omega, by omega, ?_, ?_, ?_, hE.sub ⟨rfl, rfl, rfl, rfl, rfl, rfl, trivial⟩⟩
      · intro s hs
        rcases List.mem_append.1 hs with h | h
        · exact hsb s h
        · rw [List.mem_singleton] at h; subst h; exact ⟨hbs, hb4⟩
      · rw [List.map_append]; exact hch
      · rw [el, List.map_append]
        exact (St.selD [1, 1, 0, 0, 0] 0 h5)
  · clear hE a hS
    rintro _ a w ⟨rfl, A5, c5, fin, sls, hsf, hfin, hsb, hch, hS, hE⟩
    unfold DM.opn3
    rw [hch]
    dsimp only
    rcases sls with _ | ⟨s0, sls⟩
    · have hf : (if List.map Sl.b ([] : List Sl) = [] then (D2, (none : Option WM), (140 : Int)) else
          let tn := torn l (fromN t l.length : Nat) fin (l.length - fin)
          let r := if tn ≠ [] ∨ D2.pend ≠ [] then D2.wipe tn else (D2, 0)
          if r.2 ≠ 0 then (r.1, none, r.2) else (r.1, some ⟨l.length, t, List.map Sl.b ([] : List Sl), fin, false⟩, 0)) = (D2, none, 140) := if_pos rfl
      rw [hf]
      repeat' (first

        | (with_reducible refine wp_seq ?_)
        | (with_reducible refine c_region ?_)
        | (with_reducible refine wpList_nil ?_)
        | (with_reducible refine then_normal ?_)
        | (with_reducible refine wp_ret ?_)
        | (with_reducible refine then_ret ?_)
        | (with_reducible refine block_same ?_)
        | ((with_reducible refine g_move ?_); refine s_move hE rfl rfl ?_; clear hE a; intro a hE)
        | ((with_reducible refine g_assign ?_); refine s_assign hE rfl rfl ?_; clear hE a; intro a hE)
        | ((with_reducible refine g_bin .eql ?_); refine s_eql hE rfl rfl rfl ?_; clear hE a; intro a hE)
        | ((with_reducible refine g_blt .len ?_); refine s_len hE rfl rfl ?_; clear hE a; intro a hE)
        | ((with_reducible refine g_fa ?_); refine s_fieldL hE rfl rfl rfl ?_; clear hE a; intro a hE)
        | ((with_reducible refine g_nc ?_); refine s_nilCheck hE rfl rfl ?_; clear hE a; intro a hE)
        | ((with_reducible refine g_cond ?_); refine c_true hE rfl ?_)
        | ((with_reducible refine g_load ?_); (first | (refine s_loadB (k := 0) hS hE rfl rfl rfl rfl ?_) ); clear hE a; intro a hE)
        )
      exact ret2 hE rfl rfl rfl (.inr ⟨rfl, (by decide : (140 : Int) ≠ 0), rfl, (St.selD [4] 4 hS)⟩)
    rw [if_neg (show ¬ List.map Sl.b (s0 :: sls) = [] by simp)]
    have hle : (s0 :: sls).length = sls.length + 1 := rfl
    generalize s0 :: sls = sl at hS hE hsf hsb hle ⊢
    repeat' (first

      | (with_reducible refine wp_seq ?_)
      | (with_reducible refine c_region ?_)
      | (with_reducible refine wpList_nil ?_)
      | (with_reducible refine then_normal ?_)
      | (with_reducible refine wp_skip ?_)
      | (with_reducible refine wp_block ?_)
      | (with_reducible refine block_same ?_)
      | ((with_reducible refine g_move ?_); refine s_move hE rfl rfl ?_; clear hE a; intro a hE)
      | ((with_reducible refine g_assign ?_); refine s_assign hE rfl rfl ?_; clear hE a; intro a hE)
      | ((with_reducible refine g_bin .eql ?_); refine s_eql hE rfl rfl rfl ?_; clear hE a; intro a hE)
      | ((with_reducible refine g_blt .len ?_); refine s_len hE rfl rfl ?_; clear hE a; intro a hE)
      | ((with_reducible refine g_fa ?_); refine s_fieldL hE rfl rfl rfl ?_; clear hE a; intro a hE)
      | ((with_reducible refine g_nc ?_); refine s_nilCheck hE rfl rfl ?_; clear hE a; intro a hE)
      | ((with_reducible refine g_cond ?_); refine c_dec hE rfl (fun hc => ?_) (fun hc => ?_) <;> try omega)
      | ((with_reducible refine g_load ?_); (first | (refine s_loadB (k := 0) hS hE rfl rfl rfl rfl ?_) ); clear hE a; intro a hE)
      )
    replace hS := St.rowNil hS 3 1
    refine wp_mono (?_ : Code.wp _ _ (fun e a w => e = .exit 2 ∧ ∃ (A7 : Option Addr) (c7 k : Nat), k = l.length - fin ∧ St w0 w (hRow 3 1 A7 (torn l (fromN t l.length : Nat) fin k).length c7 (izs (torn l (fromN t l.length : Nat) fin k)) :: hBlk gw 89 [.pointer (some ⟨gd, 0, none⟩), .int .i64 (l.length : Int), .int .u32 (t : Int), .slice A5 sl.length c5, .int .i64 (fin : Int), .bool false] :: hRow 34 1 A5 sl.length c5 (sl.map Sl.v) :: wrP sl :: hRow 80 64 A4 l.length c4 (l.flatMap bys) :: hDk gd D2 :: H) ∧ Env 135 [(0, .pointer (some ⟨gd, 0, none⟩)), (4, .slice A4 l.length c4), (5, .int .i64 0), (6, .int .u32 (t : Int)), (7, .int .i64 (l.length : Int)), (9, .pointer (some ⟨gw, 0, none⟩)), (12, .slice A7 (torn l (fromN t l.length : Nat) fin k).length c7)] a) _ _) ?_
    · refine wp_loop_ghost (fun q a w => ∃ (A7 : Option Addr) (c7 k : Nat), k + q = l.length - fin ∧ St w0 w (hRow 3 1 A7 (torn l (fromN t l.length : Nat) fin k).length c7 (izs (torn l (fromN t l.length : Nat) fin k)) :: hBlk gw 89 [.pointer (some ⟨gd, 0, none⟩), .int .i64 (l.length : Int), .int .u32 (t : Int), .slice A5 sl.length c5, .int .i64 (fin : Int), .bool false] :: hRow 34 1 A5 sl.length c5 (sl.map Sl.v) :: wrP sl :: hRow 80 64 A4 l.length c4 (l.flatMap bys) :: hDk gd D2 :: H) ∧ Env 135 [(0, .pointer (some ⟨gd, 0, none⟩)), (4, .slice A4 l.length c4), (5, .int .i64 0), (6, .int .u32 (t : Int)), (7, .int .i64 (l.length : Int)), (9, .pointer (some ⟨gw, 0, none⟩)), (12, .slice A7 (torn l (fromN t l.length : Nat) fin k).length c7), (13, .int .i64 ((fin + k : Nat) : Int))] a) (l.length - fin) ⟨none, 0, 0, by omega, hS, hE.sub ⟨rfl, rfl, rfl, rfl, rfl, rfl, rfl, rfl, trivial⟩⟩ ?_
      clear hE a hS
      rintro q a w ⟨A7, c7, k, hk, hS, hE⟩
      by_cases hk1 : fin + k < l.length
      · have hseg := flat_seg (c := bys) (size := 64) (l := l) (blk_len h4) hk1
        have hyo := h4 _ (List.getElem_mem hk1)
        have htn := torn_succ l (fromN t l.length : Nat) fin k
        rw [List.getD_eq_getElem?_getD, List.getElem?_eq_getElem hk1, Option.getD_some] at htn
        generalize l[fin + k] = y at hseg hyo htn
        have hyl : (bys y).length = 64 := by rw [bys_length]; exact hyo.1
        have hone := bys_one y
        have htl := torn_len l (fromN t l.length : Nat) fin k
        repeat' (first

          | (with_reducible refine wp_seq ?_)
          | (with_reducible refine c_region ?_)
          | (with_reducible refine wpList_nil ?_)
          | (with_reducible refine then_normal ?_)
          | (with_reducible refine wp_skip ?_)
          | (with_reducible refine wp_block ?_)
          | ((with_reducible refine g_move ?_); refine s_move hE rfl rfl ?_; clear hE a; intro a hE)
          | ((with_reducible refine g_bin .lss ?_); refine s_lss hE rfl rfl rfl ?_; clear hE a; intro a hE)
          | ((with_reducible refine g_cond ?_); refine c_dec hE rfl (fun hc => ?_) (fun hc => ?_) <;> try omega)
          | ((with_reducible refine g_ia ?_); refine s_idxR hE rfl rfl (by omega) (by omega) (by (first | exact hS.rdAt (k := 4) rfl )) (by first | omega ) rfl ?_; clear hE a; intro a hE)
          | ((with_reducible refine g_load ?_); refine s_elemR hE rfl (by (first | exact hS.rdAt (k := 4) rfl )) (by first | exact hseg ) (by first | assumption) (by rfl) rfl ?_; clear hE a; intro a hE))
        refine s_build (bys noughts) hE rfl rfl rfl ?_
        clear hE a; intro a hE
        refine s_val hE rfl rfl rfl (r_neA hE rfl rfl hyo.1 noughts_ok.1) ?_
        clear hE a; intro a hE
        by_cases hy : y = noughts
        · rw [decide_eq_false (show ¬ (y ≠ noughts) from fun h => h hy)] at hE
          rw [if_neg (fun h => h hy), List.append_nil] at htn
          repeat' (first

            | (with_reducible refine c_region ?_)
            | (with_reducible refine wpList_nil ?_)
            | (with_reducible refine then_normal ?_)
            | (with_reducible refine wp_skip ?_)
            | (with_reducible refine block_normal ?_)
            | ((with_reducible refine g_move ?_); refine s_move hE rfl rfl ?_; clear hE a; intro a hE)
            | ((with_reducible refine g_assign ?_); refine s_assign hE rfl rfl ?_; clear hE a; intro a hE)
            | ((with_reducible refine g_bin .add ?_); refine s_add hE rfl rfl rfl (by first  | exact wrap64_in (by omega) ) ?_; clear hE a; intro a hE)
            | ((with_reducible refine g_cond ?_); refine c_false hE rfl ?_)
            )
          exact ⟨q - 1, by omega, A7, c7, k + 1, by omega, by rw [htn]; exact hS, by rw [htn]; exact hE.sub ⟨rfl, rfl, rfl, rfl, rfl, rfl, rfl, rfl, trivial⟩⟩
        · rw [decide_eq_true (show y ≠ noughts from hy)] at hE
          rw [if_pos hy] at htn
          repeat' (first

            | (with_reducible refine c_region ?_)
            | (with_reducible refine wpList_nil ?_)
            | (with_reducible refine then_normal ?_)
            | ((with_reducible refine g_move ?_); refine s_move hE rfl rfl ?_; clear hE a; intro a hE)
            | ((with_reducible refine g_cond ?_); refine c_true hE rfl ?_)
            )
          refine s_call hE rfl rfl rfl (from_ t l.length hflt.1 hflt.2 w) ?_
          rintro _ w ⟨rfl, hS1⟩; clear hE a; intro a hE; replace hS := hS.frame hS1; clear hS1; try simp only [List.cons_append, List.nil_append] at hS
          repeat' (first

            | (with_reducible refine c_region ?_)
            | (with_reducible refine wpList_nil ?_)
            | (with_reducible refine then_normal ?_)
            | (with_reducible refine block_normal ?_)
            | ((with_reducible refine g_move ?_); refine s_move hE rfl rfl ?_; clear hE a; intro a hE)
            | ((with_reducible refine g_assign ?_); refine s_assign hE rfl rfl ?_; clear hE a; intro a hE)
            | ((with_reducible refine g_bin .add ?_); refine s_add hE rfl rfl rfl (by first  | exact addN (by omega) | exact wrap64_in (by omega) ) ?_; clear hE a; intro a hE)
            | ((with_reducible refine g_lit ?_); refine s_lit hE hS rfl rfl rfl rfl rfl (by first | (simp [Value.oneCell']; done)) rfl ?_; clear hE a hS; intro g a w hE hS)
            | ((with_reducible refine g_blt .append ?_); (first | (refine s_appendAt (k := 1) hE hS rfl rfl rfl (by (first | exact hS.rd )) (by (first | rfl )) (by (first | (simp [Value.oneCell']; done))) (by omega) rfl rfl rfl rfl ?_) ); clear hE a hS; intro A c a w hE hS; simp only [List.set_cons_zero, List.set_cons_succ, Nat.add_zero] at hS)
            )
          have ez : ∀ (xs : List Int) (x : Int), izs (xs ++ [x]) = izs xs ++ [Value.int .i64 x] := fun xs x => by unfold izs; rw [List.map_append]; rfl
          have ex : ((fromN t l.length + (fin + k) : Nat) : Int) = ((fromN t l.length : Nat) : Int) + ((fin + k : Nat) : Int) := by omega
          have el : ∀ (xs : List Int) (x : Int), (xs ++ [x]).length = xs.length + 1 := fun xs x => by simp
          rw [ex] at hS
          refine ⟨q - 1, by omega, A, c, k + 1, by omega, ?_, ?_⟩
          · rw [htn, el, ez]
            exact (St.selD [1, 1, 1, 1, 1, 1] 1 hS)
          · rw [htn, el]
            exact hE.sub ⟨rfl, rfl, rfl, rfl, rfl, rfl, rfl, rfl, trivial⟩
      · obtain rfl : q = 0 := by omega
        repeat' (first

          | (with_reducible refine wp_seq ?_)
          | (with_reducible refine c_region ?_)
          | (with_reducible refine wpList_nil ?_)
          | (with_reducible refine then_normal ?_)
          | (with_reducible refine wp_exit ?_)
          | (with_reducible refine then_exit ?_)
          | ((with_reducible refine g_move ?_); refine s_move hE rfl rfl ?_; clear hE a; intro a hE)
          | ((with_reducible refine g_bin .lss ?_); refine s_lss hE rfl rfl rfl ?_; clear hE a; intro a hE)
          | ((with_reducible refine g_cond ?_); refine c_dec hE rfl (fun hc => ?_) (fun hc => ?_) <;> try omega)
          )
        exact ⟨rfl, A7, c7, k, by omega, hS, hE.sub ⟨rfl, rfl, rfl, rfl, rfl, rfl, rfl, trivial⟩⟩
    · clear hE a hS
      rintro _ a w ⟨rfl, A7, c7, k, rfl, hS, hE⟩
      have htl := torn_len l (fromN t l.length : Nat) fin (l.length - fin)
      generalize torn l (fromN t l.length : Nat) fin (l.length - fin) = tn at hS hE htl ⊢
      by_cases htn : tn = []
      · have hl0 : tn.length = 0 := by rw [htn]; rfl
        repeat' (first

          | (with_reducible refine wp_seq ?_)
          | (with_reducible refine c_region ?_)
          | (with_reducible refine then_normal ?_)
          | (with_reducible refine block_same ?_)
          | ((with_reducible refine g_move ?_); refine s_move hE rfl rfl ?_; clear hE a; intro a hE)
          | ((with_reducible refine g_bin .gtr ?_); refine s_gtr hE rfl rfl rfl ?_; clear hE a; intro a hE)
          | ((with_reducible refine g_blt .len ?_); refine s_len hE rfl rfl ?_; clear hE a; intro a hE)
          | ((with_reducible refine g_guard ?_); refine gd_yes hE rfl rfl rfl ?_)
          | ((with_reducible refine g_guard ?_); refine gd_dec hE rfl rfl (fun hc hE2 => ?_) (fun hc hE2 => ?_) <;> (try omega) <;> (replace hE := hE2; clear hE2))
          )
        refine s_call hE rfl rfl rfl (kpending h3 (hS.focus (k := 5) rfl)) ?_
        rintro _ w ⟨A8, c8, rfl, hS⟩; clear hE a; intro a hE
        simp only [List.eraseIdx_cons_succ, List.eraseIdx_cons_zero] at hS
        by_cases hp : D2.pend = []
        · have hp0 : D2.pend.length = 0 := by rw [hp]; rfl
          rw [if_neg (show ¬ (tn ≠ [] ∨ D2.pend ≠ []) from fun h => h.elim (fun h => h htn) (fun h => h hp))]
          rw [if_neg (show ¬ ((D2, (0 : Int)).2 ≠ 0) from fun h => h rfl)]
          repeat' (first

            | (with_reducible refine wp_seq ?_)
            | (with_reducible refine c_region ?_)
            | (with_reducible refine wpList_nil ?_)
            | (with_reducible refine then_normal ?_)
            | (with_reducible refine wp_skip ?_)
            | (with_reducible refine wp_ret ?_)
            | ((with_reducible refine g_move ?_); refine s_move hE rfl rfl ?_; clear hE a; intro a hE)
            | ((with_reducible refine g_assign ?_); refine s_assign hE rfl rfl ?_; clear hE a; intro a hE)
            | ((with_reducible refine g_bin .gtr ?_); refine s_gtr hE rfl rfl rfl ?_; clear hE a; intro a hE)
            | ((with_reducible refine g_bin .neq ?_); refine s_neq hE rfl rfl rfl ?_; clear hE a; intro a hE)
            | ((with_reducible refine g_blt .len ?_); refine s_len hE rfl rfl ?_; clear hE a; intro a hE)
            | ((with_reducible refine g_guard ?_); refine gd_yes hE rfl rfl rfl ?_)
            | ((with_reducible refine g_pick ?_); refine s_pickF hE rfl rfl rfl ?_; clear hE a; intro a hE)
            | ((with_reducible refine g_cond ?_); refine c_false hE rfl ?_)
            | ((with_reducible refine g_cond ?_); refine c_dec hE rfl (fun hc => ?_) (fun hc => ?_) <;> try omega)
            )
          exact ret2 hE rfl rfl rfl (.inl ⟨_, gw, rfl, rfl, rfl, hWl_close (W := ⟨l.length, t, sl.map Sl.b, fin, false⟩) rfl (St.selD [3, 3, 3, 1] 3 hS)⟩)
        · have hp0 : 0 < D2.pend.length := List.length_pos_iff.2 hp
          rw [if_pos (show tn ≠ [] ∨ D2.pend ≠ [] from .inr hp)]
          repeat' (first

            | (with_reducible refine c_region ?_)
            | (with_reducible refine wpList_nil ?_)
            | (with_reducible refine then_normal ?_)
            | ((with_reducible refine g_move ?_); refine s_move hE rfl rfl ?_; clear hE a; intro a hE)
            | ((with_reducible refine g_bin .gtr ?_); refine s_gtr hE rfl rfl rfl ?_; clear hE a; intro a hE)
            | ((with_reducible refine g_blt .len ?_); refine s_len hE rfl rfl ?_; clear hE a; intro a hE)
            | ((with_reducible refine g_guard ?_); refine gd_yes hE rfl rfl rfl ?_)
            | ((with_reducible refine g_pick ?_); refine s_pickF hE rfl rfl rfl ?_; clear hE a; intro a hE)
            | ((with_reducible refine g_cond ?_); refine c_dec hE rfl (fun hc => ?_) (fun hc => ?_) <;> try omega)
            )
          refine s_call hE rfl rfl rfl (kwipe tn A7 c7 (by omega) h3 (by omega) (H := [hBlk gw 89 [.pointer (some ⟨gd, 0, none⟩), .int .i64 (l.length : Int), .int .u32 (t : Int), .slice A5 sl.length c5, .int .i64 (fin : Int), .bool false], hRow 34 1 A5 sl.length c5 (sl.map Sl.v), wrP sl, hRow 80 64 A4 l.length c4 (l.flatMap bys)] ++ H) (St.selD [1, 1, 1, 1, 1, 1] 1 hS)) ?_
          rintro _ w ⟨rfl, hS⟩; clear hE a; intro a hE
          simp only [List.cons_append, List.nil_append] at hS
          generalize D2.wipe tn = r3 at hE hS ⊢
          obtain ⟨D3, e3⟩ := r3
          dsimp only at hE hS ⊢
          by_cases he : e3 ≠ 0
          · rw [if_pos he]
            repeat' (first

              | (with_reducible refine wp_seq ?_)
              | (with_reducible refine c_region ?_)
              | (with_reducible refine wpList_nil ?_)
              | (with_reducible refine then_normal ?_)
              | (with_reducible refine wp_ret ?_)
              | (with_reducible refine then_ret ?_)
              | ((with_reducible refine g_move ?_); refine s_move hE rfl rfl ?_; clear hE a; intro a hE)
              | ((with_reducible refine g_assign ?_); refine s_assign hE rfl rfl ?_; clear hE a; intro a hE)
              | ((with_reducible refine g_bin .neq ?_); refine s_neq hE rfl rfl rfl ?_; clear hE a; intro a hE)
              | ((with_reducible refine g_cond ?_); refine c_dec hE rfl (fun hc => ?_) (fun hc => ?_) <;> try omega)
              )
            exact ret2 hE rfl rfl rfl (.inr ⟨rfl, he, rfl, (St.selD [0] 5 hS)⟩)
          · obtain rfl : e3 = 0 := by omega
            rw [if_neg he]
            repeat' (first

              | (with_reducible refine wp_seq ?_)
              | (with_reducible refine c_region ?_)
              | (with_reducible refine wpList_nil ?_)
              | (with_reducible refine then_normal ?_)
              | (with_reducible refine wp_skip ?_)
              | (with_reducible refine wp_ret ?_)
              | ((with_reducible refine g_move ?_); refine s_move hE rfl rfl ?_; clear hE a; intro a hE)
              | ((with_reducible refine g_assign ?_); refine s_assign hE rfl rfl ?_; clear hE a; intro a hE)
              | ((with_reducible refine g_bin .neq ?_); refine s_neq hE rfl rfl rfl ?_; clear hE a; intro a hE)
              | ((with_reducible refine g_cond ?_); refine c_false hE rfl ?_)
              )
            exact ret2 hE rfl rfl rfl (.inl ⟨_, gw, rfl, rfl, rfl, hWl_close (W := ⟨l.length, t, sl.map Sl.b, fin, false⟩) rfl (St.selD [2, 2, 2, 0] 2 hS)⟩)
      · have hl0 : 0 < tn.length := List.length_pos_iff.2 htn
        rw [if_pos (show tn ≠ [] ∨ D2.pend ≠ [] from .inl htn)]
        repeat' (first

          | (with_reducible refine wp_seq ?_)
          | (with_reducible refine c_region ?_)
          | (with_reducible refine wpList_nil ?_)
          | (with_reducible refine then_normal ?_)
          | (with_reducible refine block_same ?_)
          | ((with_reducible refine g_move ?_); refine s_move hE rfl rfl ?_; clear hE a; intro a hE)
          | ((with_reducible refine g_bin .gtr ?_); refine s_gtr hE rfl rfl rfl ?_; clear hE a; intro a hE)
          | ((with_reducible refine g_blt .len ?_); refine s_len hE rfl rfl ?_; clear hE a; intro a hE)
          | ((with_reducible refine g_guard ?_); refine gd_no hE rfl rfl rfl rfl ?_; clear hE a; intro a hE)
          | ((with_reducible refine g_guard ?_); refine gd_dec hE rfl rfl (fun hc hE2 => ?_) (fun hc hE2 => ?_) <;> (try omega) <;> (replace hE := hE2; clear hE2))
          | ((with_reducible refine g_pick ?_); refine s_pickT hE rfl rfl rfl ?_; clear hE a; intro a hE)
          | ((with_reducible refine g_cond ?_); refine c_true hE rfl ?_)
          )
        refine s_call hE rfl rfl rfl (kwipe tn A7 c7 (by omega) h3 (by omega) (H := [hBlk gw 89 [.pointer (some ⟨gd, 0, none⟩), .int .i64 (l.length : Int), .int .u32 (t : Int), .slice A5 sl.length c5, .int .i64 (fin : Int), .bool false], hRow 34 1 A5 sl.length c5 (sl.map Sl.v), wrP sl, hRow 80 64 A4 l.length c4 (l.flatMap bys)] ++ H) (St.selD [5, 0, 0, 0, 0, 0] 0 hS)) ?_
        rintro _ w ⟨rfl, hS⟩; clear hE a; intro a hE
        simp only [List.cons_append, List.nil_append] at hS
        generalize D2.wipe tn = r3 at hE hS ⊢
        obtain ⟨D3, e3⟩ := r3
        dsimp only at hE hS ⊢
        by_cases he : e3 ≠ 0
        · rw [if_pos he]
          repeat' (first

            | (with_reducible refine wp_seq ?_)
            | (with_reducible refine c_region ?_)
            | (with_reducible refine wpList_nil ?_)
            | (with_reducible refine then_normal ?_)
            | (with_reducible refine wp_ret ?_)
            | (with_reducible refine then_ret ?_)
            | ((with_reducible refine g_move ?_); refine s_move hE rfl rfl ?_; clear hE a; intro a hE)
            | ((with_reducible refine g_assign ?_); refine s_assign hE rfl rfl ?_; clear hE a; intro a hE)
            | ((with_reducible refine g_bin .neq ?_); refine s_neq hE rfl rfl rfl ?_; clear hE a; intro a hE)
            | ((with_reducible refine g_cond ?_); refine c_dec hE rfl (fun hc => ?_) (fun hc => ?_) <;> try omega)
            )
          exact ret2 hE rfl rfl rfl (.inr ⟨rfl, he, rfl, (St.selD [0] 5 hS)⟩)
        · obtain rfl : e3 = 0 := by omega
          rw [if_neg he]
          repeat' (first

            | (with_reducible refine wp_seq ?_)
            | (with_reducible refine c_region ?_)
            | (with_reducible refine wpList_nil ?_)
            | (with_reducible refine then_normal ?_)
            | (with_reducible refine wp_skip ?_)
            | (with_reducible refine wp_ret ?_)
            | ((with_reducible refine g_move ?_); refine s_move hE rfl rfl ?_; clear hE a; intro a hE)
            | ((with_reducible refine g_assign ?_); refine s_assign hE rfl rfl ?_; clear hE a; intro a hE)
            | ((with_reducible refine g_bin .neq ?_); refine s_neq hE rfl rfl rfl ?_; clear hE a; intro a hE)
            | ((with_reducible refine g_cond ?_); refine c_false hE rfl ?_)
            )
          exact ret2 hE rfl rfl rfl (.inl ⟨_, gw, rfl, rfl, rfl, hWl_close (W := ⟨l.length, t, sl.map Sl.b, fin, false⟩) rfl (St.selD [2, 2, 2, 0] 2 hS)⟩)
end
end Go.Proofs.Ytfoeelghehjanaa
