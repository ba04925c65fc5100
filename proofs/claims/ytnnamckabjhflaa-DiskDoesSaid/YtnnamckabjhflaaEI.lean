/-
  A new disk by the document; many operations, one by one.
-/
import Derived.Test.YtnnamckabjhflaaEH
import Derived.Test.YtnnamckabjhflaaDU
namespace Go.Proofs.Ytnnamckabjhflaa
open Go.RowKit
set_option linter.unusedVariables false
set_option linter.unusedSimpArgs false
attribute [local irreducible] Rd hRow hBlk hRd hRs hAll Fn hMarks
attribute [local simp] Wr.cells Opn.cells

theorem does_len (D : DM) (o : Opn) : (D.does o).1.safe.length = D.safe.length := by
  unfold DM.does
  split
  · unfold DM.read
    split <;> rw [show (D.ready o.at_).1.safe = D.safe from (ready_same D _).2.2]
  · split
    · unfold DM.write
      split
      · split
        · show (D.ready o.at_).1.do_.1.safe.length = _; rw [(do_same _).2, (ready_same D _).2.2]
        · rw [(do_same _).2, (ready_same D _).2.2]
      · rw [(ready_same D _).2.2]
    · split
      · unfold DM.sync
        split
        · split
          · rw [settle_len, (do_same _).2, (ready_same D _).2.2]
          · rw [(do_same _).2, (ready_same D _).2.2]
        · rw [(ready_same D _).2.2]
      · split
        · unfold DM.arm; split <;> rfl
        · split
          · unfold DM.fail; split <;> rfl
          · exact lay_length _ _ _ _
theorem rread_same (R : RM) (i : Int) : (R.read i).1.safe = R.safe ∧ (R.read i).1.pend = R.pend := by
  obtain ⟨_, h2, h3⟩ := asked_same R i
  unfold RM.read
  split <;> exact ⟨h3, h2⟩
section
variable {g : Nat} {S : Option Addr} {c : Nat} {Q : Option Addr} {d : Nat} {D : DM} {R : RM} {H : List HP} {w0 w : World} {l l' : List (Option Addr × List Value)}
set_option maxHeartbeats 8000000
theorem St.rsAt {k : Nat} (hS : St w0 w H) (hk : H[k]? = some (hRs l)) : Kn w l := (hS.focus hk).rsRd
theorem joinD (hS : St w0 w (dk g S c Q d D (hRs l :: hRs l' :: H))) : St w0 w (dk g S c Q d D (hRs (l ++ l') :: H)) :=
  front1 (St.rsJoin (backL [_, _] hS))
theorem rnew_no (n : Int) (hn : -9223372036854775808 ≤ n ∧ n ≤ 9223372036854775807) (h : n < 1 ∨ 2048 < n) (w0 : World) : Fn Try.prog 17 [.int .i64 n] w0 fun v w' => v = .tuple #[.agg #[.slice none 0 0, .slice none 0 0, .bool false, .int .i64 0, .int .i64 0, .int .i64 0], .int .i64 2] ∧ St w0 w' [] := by
  refine enter 14 Try.func17 rfl rfl rfl ?_
  intro a hE
  have hS := St.start w0
  repeat' (first

    | (with_reducible refine wp_seq ?_)
    | (with_reducible refine c_region ?_)
    | (with_reducible refine wpList_nil ?_)
    | (with_reducible refine then_normal ?_)
    | (with_reducible refine wp_ret ?_)
    | (with_reducible refine then_ret ?_)
    | ((with_reducible refine g_move ?_); refine s_move hE rfl rfl ?_; clear hE a; intro a hE)
    | ((with_reducible refine g_assign ?_); refine s_assign hE rfl rfl ?_; clear hE a; intro a hE)
    | ((with_reducible refine g_bin .lss ?_); refine s_lss hE rfl rfl rfl ?_; clear hE a; intro a hE)
    | ((with_reducible refine g_bin .gtr ?_); refine s_gtr hE rfl rfl rfl ?_; clear hE a; intro a hE)
    | ((with_reducible refine g_guard ?_); refine gd_yes hE rfl rfl rfl ?_)
    | ((with_reducible refine g_guard ?_); refine gd_no hE rfl rfl rfl rfl ?_; clear hE a; intro a hE)
    | ((with_reducible refine g_guard ?_); refine gd_dec hE rfl rfl (fun hc hE2 => ?_) (fun hc hE2 => ?_) <;> (try omega) <;> (replace hE := hE2; clear hE2))
    | ((with_reducible refine g_pick ?_); refine s_pickT hE rfl rfl rfl ?_; clear hE a; intro a hE)
    | ((with_reducible refine g_pick ?_); refine s_pickF hE rfl rfl rfl ?_; clear hE a; intro a hE)
    | ((with_reducible refine g_cond ?_); refine c_true hE rfl ?_)
    | ((with_reducible refine g_cond ?_); refine c_dec hE rfl (fun hc => ?_) (fun hc => ?_) <;> try omega)
    | ((with_reducible refine g_alloc ?_); refine s_allocS hE hS rfl rfl ?_; clear hE a hS; intro g a w hE hS)
    | ((with_reducible refine g_build ?_); refine s_build [_, _, _, _, _, _] hE rfl rfl rfl ?_; clear hE a; intro a hE)
    | ((with_reducible refine g_store ?_); (first | (refine s_storeW (k := 0) hS hE rfl rfl rfl rfl rfl (by first | (simp [Value.oneCell']; done)) ?_) ); clear hS; intro w hS; simp only [List.set_cons_zero, List.set_cons_succ, Nat.add_zero] at hS)
    )
  all_goals exact retG (vs := [_, _]) hE rfl ⟨⟨_, rfl, res_W (k := 0) hS rfl rfl⟩, rfl, trivial⟩ ⟨rfl, hS.nil⟩
theorem rnew (n : Nat) (h1 : 1 ≤ n) (h2 : n ≤ 2048) (w0 : World) : Fn Try.prog 17 [.int .i64 (n : Int)] w0 fun v w' => ∃ S c, v = .tuple #[.agg ((RM.fresh n).cells S c none 0).toArray, .int .i64 0] ∧ St w0 w' [hRow 27 64 S n c ((List.replicate n noughts).flatMap bys)] := by
  refine enter 14 Try.func17 rfl rfl rfl ?_
  intro a hE
  have hS := St.start w0
  repeat' (first

    | (with_reducible refine wp_seq ?_)
    | (with_reducible refine c_region ?_)
    | (with_reducible refine wpList_nil ?_)
    | (with_reducible refine then_normal ?_)
    | (with_reducible refine wp_skip ?_)
    | ((with_reducible refine g_move ?_); refine s_move hE rfl rfl ?_; clear hE a; intro a hE)
    | ((with_reducible refine g_assign ?_); refine s_assign hE rfl rfl ?_; clear hE a; intro a hE)
    | ((with_reducible refine g_bin .lss ?_); refine s_lss hE rfl rfl rfl ?_; clear hE a; intro a hE)
    | ((with_reducible refine g_bin .gtr ?_); refine s_gtr hE rfl rfl rfl ?_; clear hE a; intro a hE)
    | ((with_reducible refine g_guard ?_); refine gd_yes hE rfl rfl rfl ?_)
    | ((with_reducible refine g_guard ?_); refine gd_dec hE rfl rfl (fun hc hE2 => ?_) (fun hc hE2 => ?_) <;> (try omega) <;> (replace hE := hE2; clear hE2))
    | ((with_reducible refine g_pick ?_); refine s_pickF hE rfl rfl rfl ?_; clear hE a; intro a hE)
    | ((with_reducible refine g_cond ?_); refine c_dec hE rfl (fun hc => ?_) (fun hc => ?_) <;> try omega)
    | ((with_reducible refine g_alloc ?_); refine s_allocS hE hS rfl rfl ?_; clear hE a hS; intro g a w hE hS)
    )
  refine s_make hE hS rfl rfl (by omega) (by omega) (by omega) (by omega) rfl ?_
  clear hE a hS; intro gs a w hE hS
  rw [Int.toNat_natCast, made64] at hS
  rw [Int.toNat_natCast] at hE
  repeat' (first

    | (with_reducible refine wpList_nil ?_)
    | (with_reducible refine then_normal ?_)
    | (with_reducible refine wp_ret ?_)
    | ((with_reducible refine g_assign ?_); refine s_assign hE rfl rfl ?_; clear hE a; intro a hE)
    | ((with_reducible refine g_build ?_); refine s_build [_, _, _, _, _, _] hE rfl rfl rfl ?_; clear hE a; intro a hE)
    | ((with_reducible refine g_store ?_); (first | (refine s_storeW (k := 1) hS hE rfl rfl rfl rfl rfl (by first | (simp [Value.oneCell']; done)) ?_) ); clear hS; intro w hS; simp only [List.set_cons_zero, List.set_cons_succ, Nat.add_zero] at hS)
    )
  refine retG (vs := [_, _]) hE rfl ⟨⟨_, rfl, res_W (k := 1) hS rfl rfl⟩, rfl, trivial⟩ ⟨some ⟨gs, 0, none⟩, n, ?_, hS.only 0 rfl⟩
  have e : (RM.fresh n).safe.length = n := List.length_replicate
  dsimp only [RM.cells]
  rw [e]
  rfl
end
end Go.Proofs.Ytnnamckabjhflaa
