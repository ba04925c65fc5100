/-
  Contract: the head that counts is found.
-/
import Derived.Test.YtfoeelghehjanaaWK
import Derived.Test.YtfoeelghehjanaaGF
namespace Go.Proofs.Ytfoeelghehjanaa
open Go.RowKit
set_option linter.unusedVariables false
set_option linter.unusedSimpArgs false
section
variable {P : Program} {n d : Nat} {L : List (Nat × Value)} {a : Act} {w : World} {gd : Option (Nat × Bool)} {ty : TypeId} {ps : String} {af : Array Edge} {x y : Operand}
/-- an array cut from a place on -/
theorem r_sliceAL {t e len size b : Nat} {zz : Value} {ad : Addr} {k : IntKind} {l : Int} [TyU P t (.array len e)] [TyI P e size zz b] (hE : Env n L a) (hx : ev L x = some (.pointer (some ad))) (hy : ev L y = some (.int k l)) (hb : 0 ≤ l ∧ l < len) :
    (execOp a.eval ⟨some d, .slice t x (some y) none none, ty, ps, af, gd⟩).run P w = .ok (.value (.slice (some (ad.add (l.toNat * size))) (len - l.toNat) (len - l.toNat))) w := by
  have h3 : ¬ len = l.toNat := by omega
  simp [execOp, Instr.sliceAt, Instr.sureAddr, Instr.sliceBounds, hE.eval hx, hE.eval hy, run_under (d := .array len e), run_size (size := size) (zero := zz) (bytes := b), run_bound l k len _ ⟨hb.1, Int.le_of_lt hb.2⟩, h3]
end
instance tyG_blk : TyG Try.prog 80 := ⟨by kernel_rfl⟩
attribute [local irreducible] Rd hRow hBlk hRd hRdr wrP hDk hWl Fn FnD hMarks
/-- what stands in a head -/
def hT (b : Blk) : Nat := bnum 0 ((b.drop 8).take 4)
def hN (b : Blk) : Nat := bnum 0 ((b.drop 12).take 4)
def headR (sec i : Nat) (b : Blk) : Prop := (4 ≤ hN b ∧ hN b ≤ 1000) ∧ hT b % 2 = i ∧ 2 + 2 * hN b ≤ sec ∧ b = headB (hT b) (hN b)
instance (sec i : Nat) (b : Blk) : Decidable (headR sec i b) := by unfold headR; exact inferInstance
def findStep (sec : Nat) (acc : Nat × Nat × Bool) (i : Nat) (b : Blk) : Nat × Nat × Bool :=
  if headR sec i b ∧ ¬ (acc.2.2 = true ∧ hT b < acc.1) then (hT b, hN b, true) else acc
def findP (sec : Nat) (l : List Blk) : Nat → Nat × Nat × Bool
  | 0 => (0, 0, false)
  | k + 1 => findStep sec (findP sec l k) k (l.getD k noughts)
theorem hT_lt {b : Blk} (hb : Blk.ok b) : hT b < 4294967296 := by
  have := bnum_lt ((b.drop 8).take 4) (fun c hc => hb.2 c (List.mem_of_mem_drop (List.mem_of_mem_take hc)))
  have h2 : 256 ^ ((b.drop 8).take 4).length ≤ 256 ^ 4 := Nat.pow_le_pow_right (by decide) (List.length_take_le _ _)
  have h3 : (256 : Nat) ^ 4 = 4294967296 := rfl
  unfold hT
  omega
theorem hN_lt {b : Blk} (hb : Blk.ok b) : hN b < 4294967296 := by
  have := bnum_lt ((b.drop 12).take 4) (fun c hc => hb.2 c (List.mem_of_mem_drop (List.mem_of_mem_take hc)))
  have h2 : 256 ^ ((b.drop 12).take 4).length ≤ 256 ^ 4 := Nat.pow_le_pow_right (by decide) (List.length_take_le _ _)
  have h3 : (256 : Nat) ^ 4 = 4294967296 := rfl
  unfold hN
  omega
theorem findP_lt {sec : Nat} {l : List Blk} (hl : ∀ b ∈ l, Blk.ok b) : ∀ k, k ≤ l.length → (findP sec l k).1 < 4294967296 ∧ (findP sec l k).2.1 ≤ 1000
  | 0, _ => ⟨by show (0 : Nat) < _; decide, by show (0 : Nat) ≤ _; decide⟩
  | k + 1, hk => by
    have ih := findP_lt hl (sec := sec) k (by omega)
    have hb : Blk.ok (l.getD k noughts) := by
      rw [List.getD_eq_getElem?_getD, List.getElem?_eq_getElem (by omega)]
      exact hl _ (List.getElem_mem _)
    unfold findP findStep
    split
    · rename_i h
      exact ⟨hT_lt hb, h.1.1.2⟩
    · exact ih
section
variable {H : List HP} {w0 w : World} {g m : Nat}
set_option maxHeartbeats 8000000
theorem find_ (sec : Nat) (hsec : sec ≤ 100000) (l : List Blk) (A : Option Addr) (c : Nat) (hl : ∀ b ∈ l, Blk.ok b) (hll : l.length ≤ 2) (w0 : World) (hr : Rd w0 A (l.flatMap bys)) :
    Fn Try.prog 60 [.slice A l.length c, .int .i64 (sec : Int)] w0 fun v w' => v = .tuple #[.int .u32 ((findP sec l l.length).1 : Int), .int .i64 ((findP sec l l.length).2.1 : Int), .bool (findP sec l l.length).2.2] ∧ St w0 w' [] := by
  have hfl : (l.flatMap bys).length = l.length * 64 := flat_len (blk_len hl)
  refine enter 64 Try.func60 rfl rfl rfl ?_
  intro a hE
  have hS := St.start w0
  repeat' (first

    | (with_reducible refine wp_seq ?_)
    | (with_reducible refine c_region ?_)
    | (with_reducible refine wpList_nil ?_)
    | (with_reducible refine then_normal ?_)
    | (with_reducible refine wp_block ?_)
    | ((with_reducible refine g_move ?_); refine s_move hE rfl rfl ?_; clear hE a; intro a hE)
    | ((with_reducible refine g_assign ?_); refine s_assign hE rfl rfl ?_; clear hE a; intro a hE)
    | ((with_reducible refine g_blt .len ?_); refine s_len hE rfl rfl ?_; clear hE a; intro a hE)
    )
  refine wp_loop_ghost (fun q a w => ∃ (k : Nat), k + q = l.length ∧ St w0 w [] ∧ Env 64 [(1, .int .i64 (sec : Int)), (4, .int .u32 ((findP sec l k).1 : Int)), (5, .int .i64 ((findP sec l k).2.1 : Int)), (6, .bool (findP sec l k).2.2), (12, .slice A l.length c), (13, .int .i64 (l.length : Int)), (14, .int .i64 (k : Int))] a) l.length ⟨0, by omega, hS, hE.sub ⟨rfl, rfl, rfl, rfl, rfl, rfl, rfl, trivial⟩⟩ ?_
  clear hE a hS
  rintro q a w ⟨k, hk, hS, hE⟩
  by_cases hk1 : k < l.length
  · have hseg := flat_seg (c := bys) (size := 64) (l := l) (blk_len hl) hk1
    have hbo := hl _ (List.getElem_mem hk1)
    have hst : findP sec l (k + 1) = findStep sec (findP sec l k) k l[k] := by
      show findStep sec (findP sec l k) k (l.getD k noughts) = _
      rw [List.getD_eq_getElem?_getD, List.getElem?_eq_getElem hk1]; rfl
    generalize l[k] = b at hseg hbo hst
    have hbl : (bys b).length = 64 := by rw [bys_length]; exact hbo.1
    have hone := bys_one b
    have hrw := hr.st hS
    repeat' (first

      | (with_reducible refine wp_seq ?_)
      | (with_reducible refine c_region ?_)
      | (with_reducible refine wpList_nil ?_)
      | (with_reducible refine then_normal ?_)
      | (with_reducible refine wp_skip ?_)
      | (with_reducible refine wp_block ?_)
      | ((with_reducible refine g_move ?_); refine s_move hE rfl rfl ?_; clear hE a; intro a hE)
      | ((with_reducible refine g_assign ?_); refine s_assign hE rfl rfl ?_; clear hE a; intro a hE)
      | ((with_reducible refine g_bin .lss ?_); refine s_lss hE rfl rfl rfl ?_; clear hE a; intro a hE)
      | ((with_reducible refine g_cond ?_); refine c_dec hE rfl (fun hc => ?_) (fun hc => ?_) <;> try omega)
      | ((with_reducible refine g_ia ?_); refine s_idxR hE rfl rfl (by omega) (by omega) (by (first | exact Rd.st (by assumption) hS )) (by first | omega ) rfl ?_; clear hE a; intro a hE)
      | ((with_reducible refine g_alloc ?_); refine s_allocS hE hS rfl rfl ?_; clear hE a hS; intro g a w hE hS)
      | ((with_reducible refine g_store ?_); (first | (refine s_storeW (k := 0) hS hE rfl rfl rfl (by assumption) (by first | rfl ) (by first | exact bys_one _ ) ?_) ); clear hS; intro w hS; simp only [List.set_cons_zero, List.set_cons_succ, Nat.add_zero] at hS)
      | ((with_reducible refine g_load ?_); refine s_elemR hE rfl (by (first | exact Rd.st (by assumption) hS )) (by first | exact hseg ) (by first | assumption) (by rfl) rfl ?_; clear hE a; intro a hE))
    refine s_val hE rfl rfl rfl (r_sliceAL hE rfl rfl (by decide)) ?_
    clear hE a; intro a hE
    have hb8 : (b.drop 8).length = 56 := by rw [List.length_drop, hbo.1]
    have hbs8 : Bs (b.drop 8) := fun c hc => hbo.2 c (List.mem_of_mem_drop hc)
    have hrd8 : Rd w (some ((⟨g, 0, none⟩ : Addr).add (8 * 1))) (bys (b.drop 8)) := by
      rw [bys_drop, add_lit]
      exact (hS.blkRdAt (k := 0) (o := 8) rfl)
    have hrc := read (some ((⟨g, 0, none⟩ : Addr).add (8 * 1))) 56 (b.drop 8) w hrd8 (by omega)
    rw [hb8] at hrc
    refine s_call hE rfl rfl rfl hrc ?_
    clear hrc hrd8
    rintro _ w ⟨gr, A1, c1, rfl, hS1⟩; clear hE a; intro a hE; replace hS := hS.frame hS1; clear hS1; try simp only [List.cons_append, List.nil_append] at hS
    repeat' (first

      | (with_reducible refine wp_seq ?_)
      | (with_reducible refine c_region ?_)
      | (with_reducible refine wpList_nil ?_)
      | (with_reducible refine then_normal ?_)
      | ((with_reducible refine g_move ?_); refine s_move hE rfl rfl ?_; clear hE a; intro a hE)
      | ((with_reducible refine g_assign ?_); refine s_assign hE rfl rfl ?_; clear hE a; intro a hE)
      )
    have t1 : takeM (b.drop 8) 0 0 4 = ((b.drop 8).take 4, 4, 0) := takeM_in (p := 0) (n := 4) (by rw [hb8]; decide)
    have t2 : takeM (b.drop 8) 4 0 4 = ((b.drop 12).take 4, 8, 0) := by
      have := takeM_in (xs := b.drop 8) (p := 4) (n := 4) (by rw [hb8]; decide)
      rw [List.drop_drop] at this
      exact this
    refine s_call hE rfl rfl rfl (u32 gr A1 c1 (b.drop 8) 0 0 _ w0 w hS hbs8 (by omega) (by omega)) ?_
    rintro _ w ⟨rfl, hS⟩; clear hE a; intro a hE
    rw [t1] at hE hS
    repeat' (first

      | ((with_reducible refine g_move ?_); refine s_move hE rfl rfl ?_; clear hE a; intro a hE)
      )
    refine s_call hE rfl rfl rfl (u32 gr A1 c1 (b.drop 8) 4 0 _ w0 w hS hbs8 (by omega) (by omega)) ?_
    rintro _ w ⟨rfl, hS⟩; clear hE a; intro a hE
    rw [t2] at hE hS
    have htl := hT_lt hbo
    have hnl := hN_lt hbo
    rw [show bnum 0 ((b.drop 8).take 4) = hT b from rfl, show bnum 0 ((b.drop 12).take 4) = hN b from rfl] at hE
    have e1 : IntKind.i64.wrap ((hN b : Nat) : Int) = (hN b : Int) := wrap64_in (by omega)
    repeat' (first

      | (with_reducible refine wp_seq ?_)
      | (with_reducible refine wpList_nil ?_)
      | (with_reducible refine then_normal ?_)
      | ((with_reducible refine g_assign ?_); refine s_assign hE rfl rfl ?_; clear hE a; intro a hE)
      | ((with_reducible refine g_conv ?_); refine s_conv hE rfl rfl (by first | exact e1 ) ?_; clear hE a; intro a hE)
      )
    clear t1 t2 hbs8 hb8
    replace hS := hS.drop 0
    simp only [List.eraseIdx_cons_zero] at hS
    skip
    generalize findP sec l k = acc at hE hst
    obtain ⟨at_, aa, aok⟩ := acc
    dsimp only at hE
    have hlt2 : hT b % 2 < 2 := Nat.mod_lt _ (by decide)
    have em : (hT b : Int).tmod 2 = ((hT b % 2 : Nat) : Int) := tmod_nat _ 2
    have em2 : IntKind.i64.wrap ((hT b % 2 : Nat) : Int) = ((hT b % 2 : Nat) : Int) := wrap64_in (by omega)
    have e2 : IntKind.i64.wrap (2 * (hN b : Int)) = 2 * (hN b : Int) := wrap64_in (by omega)
    have e3 : IntKind.i64.wrap (2 + 2 * (hN b : Int)) = 2 + 2 * (hN b : Int) := wrap64_in (by omega)
    refine c_ordS hS 32 ((.rd 0 (.ef 1 (.rd 2 (.rd 3 (.rd 4 (.rd 5 (.rd 6 (.rd 7 (.rd 8 (.rd 9 (.rd 10 (.rd 11 (.rd 12 (.rd 13 (.rd 14 (.rd 15 (.rd 16 (.rd 17 (.rd 18 (.rd 19 (.rd 20 (.ef 21 (.rd 22 (.rd 23 (.rd 24 (.rd 25 (.rd 26 (.rd 27 (.rd 28 (.rd 29 (.rd 30 (.rd 31 .done))))))))))))))))))))))))))))))))) mixed (by decide +kernel) ?_
    clear hS; intro w hS
    repeat' (first
      | (with_reducible refine o_rd rfl ?_)
      | ((with_reducible refine q_move ?_); refine d_val hE hS rfl (fun w hS => r_move hE rfl) ?_; clear hE a; intro a hE)
      | ((with_reducible refine o_ef rfl ?_))
      )
    refine s_call hE rfl rfl rfl (sized (hN b : Int) w) ?_
    rintro _ w ⟨rfl, hS1⟩; clear hE a; intro a hE; replace hS := hS.frame hS1; clear hS1; try simp only [List.cons_append, List.nil_append] at hS
    refine wpList_nil ?_
    refine o_same hS ?_
    by_cases hsz : 4 ≤ hN b ∧ hN b ≤ 1000
    · rw [decide_eq_true (show 4 ≤ (hN b : Int) ∧ (hN b : Int) ≤ 1000 by omega)] at hE
      repeat' (first
        | (with_reducible refine o_rd rfl ?_)
        | ((with_reducible refine q_move ?_); refine d_val hE hS rfl (fun w hS => r_move hE rfl) ?_; clear hE a; intro a hE)
        | ((with_reducible refine q_bin .lss ?_); refine d_val hE hS rfl (fun w hS => r_lss hE rfl rfl) ?_; clear hE a; intro a hE)
        | ((with_reducible refine q_bin .neq ?_); refine d_val hE hS rfl (fun w hS => r_neq hE rfl rfl) ?_; clear hE a; intro a hE)
        | ((with_reducible refine q_bin .add ?_); refine d_val hE hS rfl (fun w hS => r_add hE rfl rfl (by first | exact e3)) ?_; clear hE a; intro a hE)
        | ((with_reducible refine q_bin .mul ?_); refine d_val hE hS rfl (fun w hS => r_mul hE rfl rfl (by first | exact e2 )) ?_; clear hE a; intro a hE)
        | ((with_reducible refine q_bin .rem ?_); refine d_val hE hS rfl (fun w hS => r_rem hE rfl rfl (by omega) (by first | exact em )) ?_; clear hE a; intro a hE)
        | ((with_reducible refine q_un .not ?_); refine d_val hE hS rfl (fun w hS => r_notb hE rfl) ?_; clear hE a; intro a hE)
        | ((with_reducible refine q_conv ?_); refine d_val hE hS rfl (fun w hS => r_conv hE rfl (by first | exact em2 )) ?_; clear hE a; intro a hE)
        | ((with_reducible refine q_guard ?_); refine d_yes hE rfl rfl rfl ?_)
        | ((with_reducible refine q_guard ?_); refine d_no hE hS rfl rfl rfl rfl ?_; clear hE a; intro a hE)
        | ((with_reducible refine q_guard ?_); refine d_dec hE rfl rfl (fun hc hE2 => ?_) (fun hc hE2 => ?_) <;> (try omega) <;> (replace hE := hE2; clear hE2))
        | ((with_reducible refine q_pick ?_); refine d_val hE hS rfl (fun w hS => r_pickT hE rfl rfl) ?_; clear hE a; intro a hE)
        | ((with_reducible refine q_pick ?_); refine d_val hE hS rfl (fun w hS => r_pickF hE rfl rfl) ?_; clear hE a; intro a hE)
        | ((with_reducible refine o_ef rfl ?_))
        | ((with_reducible refine q_load ?_); (first | (refine d_val hE hS rfl (fun w hS => r_loadW (k := 0) hS hE rfl rfl (by assumption)) ?_) ); clear hE a; intro a hE)
        )
      · have hno : findStep sec (at_, aa, aok) k b = (at_, aa, aok) := if_neg fun h => absurd h.1.2.1 (by omega)
        repeat' (first

          | (with_reducible refine wpList_nil ?_)
          | ((with_reducible refine g_guard ?_); refine gd_no hE rfl rfl rfl rfl ?_; clear hE a; intro a hE)
          )
        refine o_same hS ?_
        repeat' (first
          | (with_reducible refine o_rd rfl ?_)
          | (with_reducible refine o_done ?_)
          | ((with_reducible refine q_move ?_); refine d_val hE hS rfl (fun w hS => r_move hE rfl) ?_; clear hE a; intro a hE)
          | ((with_reducible refine q_guard ?_); refine d_no hE hS rfl rfl rfl rfl ?_; clear hE a; intro a hE)
          | ((with_reducible refine q_guard ?_); refine d_un hE hS rfl rfl rfl ?_; clear hE a; intro a hE)
          | ((with_reducible refine q_pick ?_); refine d_val hE hS rfl (fun w hS => r_pickT hE rfl rfl) ?_; clear hE a; intro a hE)
          )
        repeat' (first

          | (with_reducible refine c_region ?_)
          | (with_reducible refine wpList_nil ?_)
          | (with_reducible refine then_normal ?_)
          | (with_reducible refine wp_exit ?_)
          | (with_reducible refine then_exit ?_)
          | (with_reducible refine block_same ?_)
          | ((with_reducible refine g_move ?_); refine s_move hE rfl rfl ?_; clear hE a; intro a hE)
          | ((with_reducible refine g_bin .add ?_); refine s_add hE rfl rfl rfl (by first  | exact wrap64_in (by omega) ) ?_; clear hE a; intro a hE)
          | ((with_reducible refine g_cond ?_); refine c_true hE rfl ?_)
          )
        rw [hno] at hst
        exact ⟨q - 1, by omega, k + 1, by omega, hS.nil, by rw [hst]; exact hE.sub ⟨rfl, rfl, rfl, rfl, rfl, rfl, rfl, trivial⟩⟩
      · have hno : findStep sec (at_, aa, aok) k b = (at_, aa, aok) := if_neg fun h => absurd h.1.2.2.1 (by omega)
        repeat' (first

          | (with_reducible refine wpList_nil ?_)
          | ((with_reducible refine g_guard ?_); refine gd_no hE rfl rfl rfl rfl ?_; clear hE a; intro a hE)
          )
        refine o_same hS ?_
        repeat' (first
          | (with_reducible refine o_rd rfl ?_)
          | (with_reducible refine o_done ?_)
          | ((with_reducible refine q_move ?_); refine d_val hE hS rfl (fun w hS => r_move hE rfl) ?_; clear hE a; intro a hE)
          | ((with_reducible refine q_guard ?_); refine d_no hE hS rfl rfl rfl rfl ?_; clear hE a; intro a hE)
          | ((with_reducible refine q_guard ?_); refine d_un hE hS rfl rfl rfl ?_; clear hE a; intro a hE)
          | ((with_reducible refine q_pick ?_); refine d_val hE hS rfl (fun w hS => r_pickT hE rfl rfl) ?_; clear hE a; intro a hE)
          )
        repeat' (first

          | (with_reducible refine c_region ?_)
          | (with_reducible refine wpList_nil ?_)
          | (with_reducible refine then_normal ?_)
          | (with_reducible refine wp_exit ?_)
          | (with_reducible refine then_exit ?_)
          | (with_reducible refine block_same ?_)
          | ((with_reducible refine g_move ?_); refine s_move hE rfl rfl ?_; clear hE a; intro a hE)
          | ((with_reducible refine g_bin .add ?_); refine s_add hE rfl rfl rfl (by first  | exact wrap64_in (by omega) ) ?_; clear hE a; intro a hE)
          | ((with_reducible refine g_cond ?_); refine c_true hE rfl ?_)
          )
        rw [hno] at hst
        exact ⟨q - 1, by omega, k + 1, by omega, hS.nil, by rw [hst]; exact hE.sub ⟨rfl, rfl, rfl, rfl, rfl, rfl, rfl, trivial⟩⟩
      · repeat' (first

          | ((with_reducible refine g_guard ?_); refine gd_yes hE rfl rfl rfl ?_)
          )
        refine s_call hE rfl rfl rfl (head (hT b) (hN b) htl hnl w) ?_
        rintro _ w ⟨rfl, hS1⟩; clear hE a; intro a hE; replace hS := hS.frame hS1; clear hS1; try simp only [List.cons_append, List.nil_append] at hS
        refine wpList_nil ?_
        refine o_same hS ?_
        repeat' (first
          | (with_reducible refine o_rd rfl ?_)
          | ((with_reducible refine q_guard ?_); refine d_yes hE rfl rfl rfl ?_)
          )
        refine d_val hE hS rfl (fun w hS => r_neA hE rfl rfl hbo.1 (headB_len _ _)) ?_; clear hE a; intro a hE
        by_cases hh : b = headB (hT b) (hN b)
        · rw [decide_eq_false (show ¬ (b ≠ headB (hT b) (hN b)) from fun h => h hh)] at hE
          have hR : headR sec k b := ⟨hsz, by omega, by omega, hh⟩
          cases aok
          · have hyes : findStep sec (at_, aa, false) k b = (hT b, hN b, true) := if_pos ⟨hR, fun h => by cases h.1⟩
            repeat' (first
              | (with_reducible refine o_rd rfl ?_)
              | (with_reducible refine o_done ?_)
              | ((with_reducible refine q_move ?_); refine d_val hE hS rfl (fun w hS => r_move hE rfl) ?_; clear hE a; intro a hE)
              | ((with_reducible refine q_guard ?_); refine d_yes hE rfl rfl rfl ?_)
              | ((with_reducible refine q_guard ?_); refine d_no hE hS rfl rfl rfl rfl ?_; clear hE a; intro a hE)
              | ((with_reducible refine q_pick ?_); refine d_val hE hS rfl (fun w hS => r_pickF hE rfl rfl) ?_; clear hE a; intro a hE)
              )
            repeat' (first

              | (with_reducible refine c_region ?_)
              | (with_reducible refine wpList_nil ?_)
              | (with_reducible refine then_normal ?_)
              | (with_reducible refine wp_skip ?_)
              | (with_reducible refine block_normal ?_)
              | ((with_reducible refine g_move ?_); refine s_move hE rfl rfl ?_; clear hE a; intro a hE)
              | ((with_reducible refine g_assign ?_); refine s_assign hE rfl rfl ?_; clear hE a; intro a hE)
              | ((with_reducible refine g_bin .add ?_); refine s_add hE rfl rfl rfl (by first  | exact wrap64_in (by omega) ) ?_; clear hE a; intro a hE)
              | ((with_reducible refine g_cond ?_); refine c_false hE rfl ?_)
              )
            rw [hyes] at hst
            exact ⟨q - 1, by omega, k + 1, by omega, hS.nil, by rw [hst]; exact hE.sub ⟨rfl, rfl, rfl, rfl, rfl, rfl, rfl, trivial⟩⟩
          · by_cases ht : hT b < at_
            · have hno : findStep sec (at_, aa, true) k b = (at_, aa, true) := if_neg fun h => h.2 ⟨rfl, ht⟩
              repeat' (first
                | (with_reducible refine o_rd rfl ?_)
                | (with_reducible refine o_done ?_)
                | ((with_reducible refine q_move ?_); refine d_val hE hS rfl (fun w hS => r_move hE rfl) ?_; clear hE a; intro a hE)
                | ((with_reducible refine q_bin .lss ?_); refine d_val hE hS rfl (fun w hS => r_lss hE rfl rfl) ?_; clear hE a; intro a hE)
                | ((with_reducible refine q_guard ?_); refine d_yes hE rfl rfl rfl ?_)
                | ((with_reducible refine q_pick ?_); refine d_val hE hS rfl (fun w hS => r_pickT hE rfl rfl) ?_; clear hE a; intro a hE)
                | ((with_reducible refine q_pick ?_); refine d_val hE hS rfl (fun w hS => r_pickF hE rfl rfl) ?_; clear hE a; intro a hE)
                )
              repeat' (first

                | (with_reducible refine c_region ?_)
                | (with_reducible refine wpList_nil ?_)
                | (with_reducible refine then_normal ?_)
                | (with_reducible refine wp_exit ?_)
                | (with_reducible refine then_exit ?_)
                | (with_reducible refine block_same ?_)
                | ((with_reducible refine g_move ?_); refine s_move hE rfl rfl ?_; clear hE a; intro a hE)
                | ((with_reducible refine g_bin .add ?_); refine s_add hE rfl rfl rfl (by first  | exact wrap64_in (by omega) ) ?_; clear hE a; intro a hE)
                | ((with_reducible refine g_cond ?_); refine c_dec hE rfl (fun hc => ?_) (fun hc => ?_) <;> try omega)
                )
              rw [hno] at hst
              exact ⟨q - 1, by omega, k + 1, by omega, hS.nil, by rw [hst]; exact hE.sub ⟨rfl, rfl, rfl, rfl, rfl, rfl, rfl, trivial⟩⟩
            · have hyes : findStep sec (at_, aa, true) k b = (hT b, hN b, true) := if_pos ⟨hR, fun h => ht h.2⟩
              repeat' (first
                | (with_reducible refine o_rd rfl ?_)
                | (with_reducible refine o_done ?_)
                | ((with_reducible refine q_move ?_); refine d_val hE hS rfl (fun w hS => r_move hE rfl) ?_; clear hE a; intro a hE)
                | ((with_reducible refine q_bin .lss ?_); refine d_val hE hS rfl (fun w hS => r_lss hE rfl rfl) ?_; clear hE a; intro a hE)
                | ((with_reducible refine q_guard ?_); refine d_yes hE rfl rfl rfl ?_)
                | ((with_reducible refine q_pick ?_); refine d_val hE hS rfl (fun w hS => r_pickT hE rfl rfl) ?_; clear hE a; intro a hE)
                | ((with_reducible refine q_pick ?_); refine d_val hE hS rfl (fun w hS => r_pickF hE rfl rfl) ?_; clear hE a; intro a hE)
                )
              repeat' (first

                | (with_reducible refine c_region ?_)
                | (with_reducible refine wpList_nil ?_)
                | (with_reducible refine then_normal ?_)
                | (with_reducible refine wp_skip ?_)
                | (with_reducible refine block_normal ?_)
                | ((with_reducible refine g_move ?_); refine s_move hE rfl rfl ?_; clear hE a; intro a hE)
                | ((with_reducible refine g_assign ?_); refine s_assign hE rfl rfl ?_; clear hE a; intro a hE)
                | ((with_reducible refine g_bin .add ?_); refine s_add hE rfl rfl rfl (by first  | exact wrap64_in (by omega) ) ?_; clear hE a; intro a hE)
                | ((with_reducible refine g_cond ?_); refine c_dec hE rfl (fun hc => ?_) (fun hc => ?_) <;> try omega)
                )
              rw [hyes] at hst
              exact ⟨q - 1, by omega, k + 1, by omega, hS.nil, by rw [hst]; exact hE.sub ⟨rfl, rfl, rfl, rfl, rfl, rfl, rfl, trivial⟩⟩
        · rw [decide_eq_true hh] at hE
          have hno : findStep sec (at_, aa, aok) k b = (at_, aa, aok) := if_neg fun h => hh h.1.2.2.2
          repeat' (first
            | (with_reducible refine o_rd rfl ?_)
            | (with_reducible refine o_done ?_)
            | ((with_reducible refine q_move ?_); refine d_val hE hS rfl (fun w hS => r_move hE rfl) ?_; clear hE a; intro a hE)
            | ((with_reducible refine q_guard ?_); refine d_no hE hS rfl rfl rfl rfl ?_; clear hE a; intro a hE)
            | ((with_reducible refine q_guard ?_); refine d_un hE hS rfl rfl rfl ?_; clear hE a; intro a hE)
            | ((with_reducible refine q_pick ?_); refine d_val hE hS rfl (fun w hS => r_pickT hE rfl rfl) ?_; clear hE a; intro a hE)
            | ((with_reducible refine q_pick ?_); refine d_val hE hS rfl (fun w hS => r_pickF hE rfl rfl) ?_; clear hE a; intro a hE)
            )
          repeat' (first

            | (with_reducible refine c_region ?_)
            | (with_reducible refine wpList_nil ?_)
            | (with_reducible refine then_normal ?_)
            | (with_reducible refine wp_exit ?_)
            | (with_reducible refine then_exit ?_)
            | (with_reducible refine block_same ?_)
            | ((with_reducible refine g_move ?_); refine s_move hE rfl rfl ?_; clear hE a; intro a hE)
            | ((with_reducible refine g_bin .add ?_); refine s_add hE rfl rfl rfl (by first  | exact wrap64_in (by omega) ) ?_; clear hE a; intro a hE)
            | ((with_reducible refine g_cond ?_); refine c_true hE rfl ?_)
            )
          rw [hno] at hst
          exact ⟨q - 1, by omega, k + 1, by omega, hS.nil, by rw [hst]; exact hE.sub ⟨rfl, rfl, rfl, rfl, rfl, rfl, rfl, trivial⟩⟩
    · rw [decide_eq_false (show ¬(4 ≤ (hN b : Int) ∧ (hN b : Int) ≤ 1000) by omega)] at hE
      have hno : findStep sec (at_, aa, aok) k b = (at_, aa, aok) := if_neg fun h => hsz h.1.1
      repeat' (first
        | (with_reducible refine o_rd rfl ?_)
        | ((with_reducible refine q_move ?_); refine d_val hE hS rfl (fun w hS => r_move hE rfl) ?_; clear hE a; intro a hE)
        | ((with_reducible refine q_un .not ?_); refine d_val hE hS rfl (fun w hS => r_notb hE rfl) ?_; clear hE a; intro a hE)
        | ((with_reducible refine q_guard ?_); refine d_no hE hS rfl rfl rfl rfl ?_; clear hE a; intro a hE)
        | ((with_reducible refine q_pick ?_); refine d_val hE hS rfl (fun w hS => r_pickT hE rfl rfl) ?_; clear hE a; intro a hE)
        | ((with_reducible refine o_ef rfl ?_))
        )
      repeat' (first

        | (with_reducible refine wpList_nil ?_)
        | ((with_reducible refine g_guard ?_); refine gd_no hE rfl rfl rfl rfl ?_; clear hE a; intro a hE)
        )
      refine o_same hS ?_
      repeat' (first
        | (with_reducible refine o_rd rfl ?_)
        | (with_reducible refine o_done ?_)
        | ((with_reducible refine q_move ?_); refine d_val hE hS rfl (fun w hS => r_move hE rfl) ?_; clear hE a; intro a hE)
        | ((with_reducible refine q_guard ?_); refine d_no hE hS rfl rfl rfl rfl ?_; clear hE a; intro a hE)
        | ((with_reducible refine q_guard ?_); refine d_un hE hS rfl rfl rfl ?_; clear hE a; intro a hE)
        | ((with_reducible refine q_pick ?_); refine d_val hE hS rfl (fun w hS => r_pickT hE rfl rfl) ?_; clear hE a; intro a hE)
        )
      repeat' (first

        | (with_reducible refine c_region ?_)
        | (with_reducible refine wpList_nil ?_)
        | (with_reducible refine then_normal ?_)
        | (with_reducible refine wp_exit ?_)
        | (with_reducible refine then_exit ?_)
        | (with_reducible refine block_same ?_)
        | ((with_reducible refine g_move ?_); refine s_move hE rfl rfl ?_; clear hE a; intro a hE)
        | ((with_reducible refine g_bin .add ?_); refine s_add hE rfl rfl rfl (by first  | exact wrap64_in (by omega) ) ?_; clear hE a; intro a hE)
        | ((with_reducible refine g_cond ?_); refine c_true hE rfl ?_)
        )
      rw [hno] at hst
      exact ⟨q - 1, by omega, k + 1, by omega, hS.nil, by rw [hst]; exact hE.sub ⟨rfl, rfl, rfl, rfl, rfl, rfl, rfl, trivial⟩⟩
  · obtain rfl : k = l.length := by omega
    repeat' (first

      | (with_reducible refine wp_seq ?_)
      | (with_reducible refine c_region ?_)
      | (with_reducible refine wpList_nil ?_)
      | (with_reducible refine then_normal ?_)
      | (with_reducible refine wp_ret ?_)
      | (with_reducible refine wp_exit ?_)
      | (with_reducible refine then_exit ?_)
      | (with_reducible refine block_same ?_)
      | ((with_reducible refine g_move ?_); refine s_move hE rfl rfl ?_; clear hE a; intro a hE)
      | ((with_reducible refine g_assign ?_); refine s_assign hE rfl rfl ?_; clear hE a; intro a hE)
      | ((with_reducible refine g_bin .lss ?_); refine s_lss hE rfl rfl rfl ?_; clear hE a; intro a hE)
      | ((with_reducible refine g_cond ?_); refine c_dec hE rfl (fun hc => ?_) (fun hc => ?_) <;> try omega)
      )
    refine retG (vs := [_, _, _]) hE rfl ⟨rfl, rfl, rfl, trivial⟩ ⟨rfl, hS⟩
end
end Go.Proofs.Ytfoeelghehjanaa
