/-
  What a log tells of itself.
-/
import Derived.Test.YtfoeelghehjanaaWI
import Derived.Test.YtfoeelghehjanaaK2
namespace Go.Proofs.Ytfoeelghehjanaa
open Go.RowKit
set_option linter.unusedVariables false
set_option linter.unusedSimpArgs false
attribute [local irreducible] Rd hRow hBlk hRd hRdr wrP hDk hWl Fn FnD hMarks
section
variable {H : List HP} {w0 w : World} {gw gd : Nat} {W : WM}
set_option maxHeartbeats 8000000
theorem kllen (hW : W.ok) (hS : St w0 w (hWl gw gd W :: H)) : Fn Try.prog 27 [.pointer (some ⟨gw, 0, none⟩)] w fun v w' => v = .int .i64 ((W.list.length - 1 : Nat) : Int) ∧ St w0 w' (hWl gw gd W :: H) := by
  have hlw := hW.len
  have h2 := hW.fin
  have h3 := hW.area
  have h4 := hW.ne
  obtain ⟨A, c, sls, hsl, hS⟩ := hWl_open hS
  have hsll : sls.length = W.list.length := by rw [← hsl, List.length_map]
  rw [← hsll, show ((sls.length - 1 : Nat) : Int) = (sls.length : Int) - 1 by omega]
  refine enter 11 Try.func27 rfl rfl rfl ?_
  intro a hE
  repeat' (first

    | (with_reducible refine wp_seq ?_)
    | (with_reducible refine c_region ?_)
    | (with_reducible refine wpList_nil ?_)
    | (with_reducible refine then_normal ?_)
    | (with_reducible refine wp_skip ?_)
    | (with_reducible refine wp_ret ?_)
    | ((with_reducible refine g_move ?_); refine s_move hE rfl rfl ?_; clear hE a; intro a hE)
    | ((with_reducible refine g_assign ?_); refine s_assign hE rfl rfl ?_; clear hE a; intro a hE)
    | ((with_reducible refine g_bin .sub ?_); refine s_sub hE rfl rfl rfl (by first  | exact wrap64_in (by omega) ) ?_; clear hE a; intro a hE)
    | ((with_reducible refine g_blt .len ?_); refine s_len hE rfl rfl ?_; clear hE a; intro a hE)
    | ((with_reducible refine g_fa ?_); refine s_fieldL hE rfl rfl rfl ?_; clear hE a; intro a hE)
    | ((with_reducible refine g_nc ?_); refine s_nilCheck hE rfl rfl ?_; clear hE a; intro a hE)
    | ((with_reducible refine g_cond ?_); refine c_false hE rfl ?_)
    | ((with_reducible refine g_load ?_); (first | (refine s_loadB (k := 0) hS hE rfl rfl rfl rfl ?_) ); clear hE a; intro a hE)
    | ((with_reducible refine g_bin .eql ?_); refine s_val hE rfl rfl rfl (r_eqp hE rfl rfl) ?_; clear hE a; intro a hE)
    )
  exact ret1 hE rfl rfl ⟨rfl, hWl_close hsl hS⟩
theorem kleft (hW : W.ok) (hS : St w0 w (hWl gw gd W :: H)) : Fn Try.prog 12 [.pointer (some ⟨gw, 0, none⟩)] w fun v w' => v = .int .i64 ((W.area - W.fin : Nat) : Int) ∧ St w0 w' (hWl gw gd W :: H) := by
  have hlw := hW.len
  have h2 := hW.fin
  have h3 := hW.area
  obtain ⟨A, c, sls, hsl, hS⟩ := hWl_open hS
  refine enter 14 Try.func12 rfl rfl rfl ?_
  intro a hE
  repeat' (first

    | (with_reducible refine wp_seq ?_)
    | (with_reducible refine c_region ?_)
    | (with_reducible refine wpList_nil ?_)
    | (with_reducible refine then_normal ?_)
    | (with_reducible refine wp_skip ?_)
    | ((with_reducible refine g_move ?_); refine s_move hE rfl rfl ?_; clear hE a; intro a hE)
    | ((with_reducible refine g_assign ?_); refine s_assign hE rfl rfl ?_; clear hE a; intro a hE)
    | ((with_reducible refine g_cond ?_); refine c_false hE rfl ?_)
    | ((with_reducible refine g_bin .eql ?_); refine s_val hE rfl rfl rfl (r_eqp hE rfl rfl) ?_; clear hE a; intro a hE)
    )
  refine c_ordS hS 9 ((.rd 0 (.rd 1 (.rd 2 (.rd 3 (.rd 4 (.rd 5 (.rd 6 (.rd 7 (.rd 8 (.lt 9 .done))))))))))) mixed (by decide +kernel) ?_
  clear hS; intro w hS
  repeat' (first
    | (with_reducible refine o_rd rfl ?_)
    | ((with_reducible refine q_move ?_); refine d_val hE hS rfl (fun w hS => r_move hE rfl) ?_; clear hE a; intro a hE)
    | ((with_reducible refine q_bin .sub ?_); refine d_val hE hS rfl (fun w hS => r_sub hE rfl rfl (by first  | exact subN (by omega) (by omega) )) ?_; clear hE a; intro a hE)
    | ((with_reducible refine q_fa ?_); refine d_val hE hS rfl (fun w hS => r_fieldL hE rfl rfl) ?_; clear hE a; intro a hE)
    | ((with_reducible refine q_nc ?_); refine d_val hE hS rfl (fun w hS => r_nilCheck hE rfl) ?_; clear hE a; intro a hE)
    | ((with_reducible refine q_load ?_); (first | (refine d_val hE hS rfl (fun w hS => r_loadB (k := 0) hS hE rfl rfl rfl) ?_) ); clear hE a; intro a hE)
    | ((with_reducible refine o_lt rfl ?_))
    )
  repeat' (first

    | (with_reducible refine wpList_nil ?_)
    | ((with_reducible refine g_assign ?_); refine s_assign hE rfl rfl ?_; clear hE a; intro a hE)
    )
  refine o_backL ?_
  repeat' (first
    | (with_reducible refine o_done ?_)
    )
  repeat' (first

    | (with_reducible refine then_normal ?_)
    | (with_reducible refine wp_ret ?_)
    )
  exact ret1 hE rfl rfl ⟨rfl, hWl_close hsl hS⟩
theorem kturn (hS : St w0 w (hWl gw gd W :: H)) : Fn Try.prog 28 [.pointer (some ⟨gw, 0, none⟩)] w fun v w' => v = .int .u32 (W.turn : Int) ∧ St w0 w' (hWl gw gd W :: H) := by
  obtain ⟨A, c, sls, hsl, hS⟩ := hWl_open hS
  refine enter 9 Try.func28 rfl rfl rfl ?_
  intro a hE
  repeat' (first

    | (with_reducible refine wp_seq ?_)
    | (with_reducible refine c_region ?_)
    | (with_reducible refine wpList_nil ?_)
    | (with_reducible refine then_normal ?_)
    | (with_reducible refine wp_skip ?_)
    | (with_reducible refine wp_ret ?_)
    | ((with_reducible refine g_move ?_); refine s_move hE rfl rfl ?_; clear hE a; intro a hE)
    | ((with_reducible refine g_assign ?_); refine s_assign hE rfl rfl ?_; clear hE a; intro a hE)
    | ((with_reducible refine g_fa ?_); refine s_fieldL hE rfl rfl rfl ?_; clear hE a; intro a hE)
    | ((with_reducible refine g_nc ?_); refine s_nilCheck hE rfl rfl ?_; clear hE a; intro a hE)
    | ((with_reducible refine g_cond ?_); refine c_false hE rfl ?_)
    | ((with_reducible refine g_load ?_); (first | (refine s_loadB (k := 0) hS hE rfl rfl rfl rfl ?_) ); clear hE a; intro a hE)
    | ((with_reducible refine g_bin .eql ?_); refine s_val hE rfl rfl rfl (r_eqp hE rfl rfl) ?_; clear hE a; intro a hE)
    )
  exact ret1 hE rfl rfl ⟨rfl, hWl_close hsl hS⟩
theorem kdisk (hS : St w0 w (hWl gw gd W :: H)) : Fn Try.prog 29 [.pointer (some ⟨gw, 0, none⟩)] w fun v w' => v = .pointer (some ⟨gd, 0, none⟩) ∧ St w0 w' (hWl gw gd W :: H) := by
  obtain ⟨A, c, sls, hsl, hS⟩ := hWl_open hS
  refine enter 9 Try.func29 rfl rfl rfl ?_
  intro a hE
  repeat' (first

    | (with_reducible refine wp_seq ?_)
    | (with_reducible refine c_region ?_)
    | (with_reducible refine wpList_nil ?_)
    | (with_reducible refine then_normal ?_)
    | (with_reducible refine wp_skip ?_)
    | (with_reducible refine wp_ret ?_)
    | ((with_reducible refine g_move ?_); refine s_move hE rfl rfl ?_; clear hE a; intro a hE)
    | ((with_reducible refine g_assign ?_); refine s_assign hE rfl rfl ?_; clear hE a; intro a hE)
    | ((with_reducible refine g_fa ?_); refine s_fieldL hE rfl rfl rfl ?_; clear hE a; intro a hE)
    | ((with_reducible refine g_nc ?_); refine s_nilCheck hE rfl rfl ?_; clear hE a; intro a hE)
    | ((with_reducible refine g_cond ?_); refine c_false hE rfl ?_)
    | ((with_reducible refine g_load ?_); (first | (refine s_loadB (k := 0) hS hE rfl rfl rfl rfl ?_) ); clear hE a; intro a hE)
    | ((with_reducible refine g_bin .eql ?_); refine s_val hE rfl rfl rfl (r_eqp hE rfl rfl) ?_; clear hE a; intro a hE)
    )
  exact ret1 hE rfl rfl ⟨rfl, hWl_close hsl hS⟩
theorem kbroken (hS : St w0 w (hWl gw gd W :: H)) : Fn Try.prog 22 [.pointer (some ⟨gw, 0, none⟩)] w fun v w' => v = .bool W.broken ∧ St w0 w' (hWl gw gd W :: H) := by
  obtain ⟨A, c, sls, hsl, hS⟩ := hWl_open hS
  refine enter 11 Try.func22 rfl rfl rfl ?_
  intro a hE
  repeat' (first

    | (with_reducible refine wp_seq ?_)
    | (with_reducible refine c_region ?_)
    | (with_reducible refine wpList_nil ?_)
    | (with_reducible refine then_normal ?_)
    | (with_reducible refine wp_ret ?_)
    | ((with_reducible refine g_move ?_); refine s_move hE rfl rfl ?_; clear hE a; intro a hE)
    | ((with_reducible refine g_assign ?_); refine s_assign hE rfl rfl ?_; clear hE a; intro a hE)
    | ((with_reducible refine g_fa ?_); refine s_fieldL hE rfl rfl rfl ?_; clear hE a; intro a hE)
    | ((with_reducible refine g_nc ?_); refine s_nilCheck hE rfl rfl ?_; clear hE a; intro a hE)
    | ((with_reducible refine g_guard ?_); refine gd_yes hE rfl rfl rfl ?_)
    | ((with_reducible refine g_pick ?_); refine s_pickT hE rfl rfl rfl ?_; clear hE a; intro a hE)
    | ((with_reducible refine g_load ?_); (first | (refine s_loadB (k := 0) hS hE rfl rfl rfl rfl ?_) ); clear hE a; intro a hE)
    | ((with_reducible refine g_bin .neq ?_); refine s_val hE rfl rfl rfl (r_nep hE rfl rfl) ?_; clear hE a; intro a hE)
    )
  exact ret1 hE rfl rfl ⟨rfl, hWl_close hsl hS⟩
set_option maxRecDepth 4000 in
theorem ksnap (hW : W.ok) (hS : St w0 w (hWl gw gd W :: H)) : Fn Try.prog 26 [.pointer (some ⟨gw, 0, none⟩)] w fun v w' => ∃ A c, v = .slice A (W.list.headD []).length c ∧ St w0 w' (hRow 5 1 A (W.list.headD []).length c (bys (W.list.headD [])) :: hWl gw gd W :: H) := by
  have h4 := hW.ne
  obtain ⟨A, c, sls, hsl, hS⟩ := hWl_open hS
  have hrd := wrP_rd (hS.focus (k := 2) rfl)
  have hb0 := hW.bs (W.list.headD [])
  rcases sls with _ | ⟨s, sls⟩
  · rw [← hsl] at h4
    exact absurd h4 (by decide)
  have hs0 : W.list.headD [] = s.b := by rw [← hsl]; rfl
  replace hb0 := hb0 (by rw [← hsl]; exact List.mem_cons_self ..)
  rw [hs0] at hb0 ⊢
  have hrs := hrd s (List.mem_cons_self ..)
  refine enter 12 Try.func26 rfl rfl rfl ?_
  intro a hE
  have hlen : (s :: sls).length = sls.length + 1 := rfl
  have hcl : ((s :: sls).map Sl.v).length = sls.length + 1 := by rw [List.length_map]; rfl
  have hidx : ((s :: sls).map Sl.v)[0]? = some (Value.slice s.A s.b.length s.c) := rfl
  repeat' (first

    | (with_reducible refine wp_seq ?_)
    | (with_reducible refine c_region ?_)
    | (with_reducible refine wpList_nil ?_)
    | (with_reducible refine then_normal ?_)
    | (with_reducible refine wp_skip ?_)
    | ((with_reducible refine g_move ?_); refine s_move hE rfl rfl ?_; clear hE a; intro a hE)
    | ((with_reducible refine g_assign ?_); refine s_assign hE rfl rfl ?_; clear hE a; intro a hE)
    | ((with_reducible refine g_fa ?_); refine s_fieldL hE rfl rfl rfl ?_; clear hE a; intro a hE)
    | ((with_reducible refine g_nc ?_); refine s_nilCheck hE rfl rfl ?_; clear hE a; intro a hE)
    | ((with_reducible refine g_cond ?_); refine c_false hE rfl ?_)
    | ((with_reducible refine g_ia ?_); refine s_idxR hE rfl rfl (by omega) (by omega) (by (first | exact hS.rdAt (k := 1) rfl )) (by first | omega ) rfl ?_; clear hE a; intro a hE)
    | ((with_reducible refine g_load ?_); refine s_loadR hE rfl (by (first | exact hS.rdAt (k := 1) rfl )) (by first | exact hidx ) rfl ?_; clear hE a; intro a hE)
    | ((with_reducible refine g_load ?_); (first | (refine s_loadB (k := 0) hS hE rfl rfl rfl rfl ?_) ); clear hE a; intro a hE)
    | ((with_reducible refine g_bin .eql ?_); refine s_val hE rfl rfl rfl (r_eqp hE rfl rfl) ?_; clear hE a; intro a hE)
    )
  refine s_call hE rfl rfl rfl (bclone s.A s.c s.b w hrs (by omega)) ?_
  rintro _ w ⟨A2, c2, rfl, hS1⟩; clear hE a; intro a hE; replace hS := hS.frame hS1; clear hS1; try simp only [List.cons_append, List.nil_append] at hS
  repeat' (first

    | (with_reducible refine wpList_nil ?_)
    | (with_reducible refine then_normal ?_)
    | (with_reducible refine wp_ret ?_)
    | ((with_reducible refine g_assign ?_); refine s_assign hE rfl rfl ?_; clear hE a; intro a hE)
    )
  exact ret1 hE rfl rfl ⟨A2, c2, rfl, (hWl_close hsl (St.selD [1, 1, 1, 0] 0 hS)).p1⟩
theorem clonel (A : Option Addr) (c : Nat) (cs : List Value) (n : Nat) (h1 : ∀ v ∈ cs, v.oneCell' = true) (w0 : World) (hr : Rd w0 A cs) (hn : n = cs.length) (hl : cs.length ≤ 100000) :
    Fn Try.prog 62 [.slice A n c] w0 fun v w' => ∃ A' c', v = .slice A' n c' ∧ St w0 w' [hRow 34 1 A' n c' cs] := by
  subst hn
  refine enter 8 Try.func62 rfl rfl rfl ?_
  intro a hE
  have hS := St.start w0
  cases A with
  | none =>
    repeat' (first
      | (with_reducible refine wp_seq ?_)
      | (with_reducible refine c_region ?_)
      | (with_reducible refine wpList_nil ?_)
      | (with_reducible refine then_normal ?_)
      | (with_reducible refine wp_ret ?_)
      | (with_reducible refine then_ret ?_)
      | ((with_reducible refine g_move ?_); refine s_move hE rfl rfl ?_; clear hE a; intro a hE)
      | ((with_reducible refine g_assign ?_); refine s_assign hE rfl rfl ?_; clear hE a; intro a hE)
      | ((with_reducible refine g_bin .eql ?_); refine s_eqnil hE rfl rfl rfl ?_; clear hE a; intro a hE)
      | ((with_reducible refine g_cond ?_); refine c_true hE rfl ?_)
      )
    have hx : cs = [] := by
      cases cs with
      | nil => rfl
      | cons v vs => exact absurd (hr.some (List.getElem?_eq_getElem (show 0 < (v :: vs).length by simp))).1 (by simp)
    subst hx
    exact ret1 hE rfl rfl ⟨none, 0, rfl, hS.rowNil _ _⟩
  | some ad =>
    repeat' (first
      | (with_reducible refine wp_seq ?_)
      | (with_reducible refine c_region ?_)
      | (with_reducible refine wpList_nil ?_)
      | (with_reducible refine then_normal ?_)
      | (with_reducible refine wp_skip ?_)
      | ((with_reducible refine g_move ?_); refine s_move hE rfl rfl ?_; clear hE a; intro a hE)
      | ((with_reducible refine g_assign ?_); refine s_assign hE rfl rfl ?_; clear hE a; intro a hE)
      | ((with_reducible refine g_bin .eql ?_); refine s_eqnil hE rfl rfl rfl ?_; clear hE a; intro a hE)
      | ((with_reducible refine g_cond ?_); refine c_false hE rfl ?_)
      )
    refine s_lit (parts := []) (cs := []) hE hS rfl rfl rfl rfl rfl (by simp) rfl ?_
    clear hE a hS; intro g a w hE hS
    repeat' (first
      | ((with_reducible refine g_move ?_); refine s_move hE rfl rfl ?_; clear hE a; intro a hE)
      )
    refine s_append hE hS rfl rfl (hr.st hS) (by rw [Nat.mul_one]) h1 (by omega) rfl rfl rfl rfl ?_
    clear hE a hS; intro A' c' a w hE hS
    repeat' (first
      | (with_reducible refine wpList_nil ?_)
      | (with_reducible refine then_normal ?_)
      | (with_reducible refine wp_ret ?_)
      | ((with_reducible refine g_assign ?_); refine s_assign hE rfl rfl ?_; clear hE a; intro a hE)
      )
    refine ret1 hE rfl rfl ⟨A', c', by rw [Nat.zero_add], ?_⟩
    rw [Nat.zero_add, List.nil_append] at hS
    exact hS
/-- what a log's transactions stand in while they are gone over -/
abbrev alBx (g3 : Nat) (A : Option Addr) (c : Nat) (l R : List Sl) : List HP :=
  [hBlk g3 35 [.slice A l.length c], hRow 34 1 A l.length c (l.map Sl.v), wrP R]
def alFull (bs : List (List Nat)) : List (Nat × List Nat) := (List.range bs.length).map fun k => (k, bs.getD k [])
def alEnc (x : Nat × List Nat) (z : Option Addr × Nat) : List Value := [.int .i64 ((x.1 : Int) + 1), .slice z.1 x.2.length z.2]
abbrev alNew (x : Nat × List Nat) (z : Option Addr × Nat) : List HP := [hRow 5 1 z.1 x.2.length z.2 (bys x.2)]
theorem alFull_len (bs : List (List Nat)) : (alFull bs).length = bs.length := by simp [alFull]
theorem alFull_drop {bs : List (List Nat)} {k : Nat} (hk : k < bs.length) : (alFull bs).drop k = (k, bs[k]) :: (alFull bs).drop (k + 1) := by
  rw [List.drop_eq_getElem_cons (by rw [alFull_len]; exact hk)]
  congr 1
  simp [alFull, List.getD_eq_getElem?_getD, List.getElem?_eq_getElem hk]
theorem kall (hW : W.ok) (hS : St w0 w (hWl gw gd W :: H)) : Fn Try.prog 25 [.pointer (some ⟨gw, 0, none⟩)] w fun v w' =>
    ∃ g3 A3 c3 A c s sls, (s :: sls).map Sl.b = W.list ∧ v = .func (.func 63) #[] #[.pointer (some ⟨g3, 0, none⟩)] ∧ St w0 w' (alBx g3 A3 c3 sls (s :: sls) ++ (hBlk gw 89 [.pointer (some ⟨gd, 0, none⟩), .int .i64 (W.area : Int), .int .u32 (W.turn : Int), .slice A (s :: sls).length c, .int .i64 (W.fin : Int), .bool W.broken] :: hRow 34 1 A (s :: sls).length c ((s :: sls).map Sl.v) :: H)) := by
  have h4 := hW.ne
  have h2 := hW.fin
  have h3 := hW.area
  have hlw := hW.len
  obtain ⟨A, c, sls, hsl, hS⟩ := hWl_open hS
  have hsll : sls.length = W.list.length := by rw [← hsl, List.length_map]
  rcases sls with _ | ⟨s, sls⟩
  · rw [← hsl] at h4
    exact absurd h4 (by decide)
  refine enter 13 Try.func25 rfl rfl rfl ?_
  intro a hE
  repeat' (first

    | (with_reducible refine wp_seq ?_)
    | (with_reducible refine c_region ?_)
    | (with_reducible refine wpList_nil ?_)
    | (with_reducible refine then_normal ?_)
    | ((with_reducible refine g_move ?_); refine s_move hE rfl rfl ?_; clear hE a; intro a hE)
    | ((with_reducible refine g_assign ?_); refine s_assign hE rfl rfl ?_; clear hE a; intro a hE)
    | ((with_reducible refine g_fa ?_); refine s_fieldL hE rfl rfl rfl ?_; clear hE a; intro a hE)
    | ((with_reducible refine g_nc ?_); refine s_nilCheck hE rfl rfl ?_; clear hE a; intro a hE)
    | ((with_reducible refine g_cond ?_); refine c_true hE rfl ?_)
    | ((with_reducible refine g_load ?_); (first | (refine s_loadB (k := 1) hS hE rfl rfl rfl rfl ?_) ); clear hE a; intro a hE)
    | ((with_reducible refine g_bin .neq ?_); refine s_val hE rfl rfl rfl (r_nep hE rfl rfl) ?_; clear hE a; intro a hE)
    | ((with_reducible refine g_alloc ?_); refine s_alloc1 hE hS rfl rfl ?_; clear hE a hS; intro g a w hE hS)
    | ((with_reducible refine g_sliceL ?_); refine s_val hE rfl rfl rfl (r_cutL hE rfl rfl (by omega)) ?_; clear hE a; intro a hE)
    )
  obtain ⟨_, hcap, _⟩ := hS.lenAt (k := 2) rfl
  have hr2 : Rd w (if c = Int.toNat 1 then A else Option.map (fun x => x.add (Int.toNat 1 * 1)) A) (sls.map Sl.v) := by
    have e1 : Int.toNat 1 = 1 := rfl
    by_cases hc1 : c = Int.toNat 1
    · rw [if_pos hc1]
      obtain rfl : sls = [] := by
        cases sls with
        | nil => rfl
        | cons _ _ => simp only [List.length_cons] at hcap; omega
      exact Rd.nil
    · rw [if_neg hc1]
      exact (hS.rdAt (k := 2) rfl).drop 1
  have hl1 : (s :: sls).length - Int.toNat 1 = sls.length := rfl
  rw [hl1] at hE
  refine s_call hE rfl rfl rfl (clonel _ _ (sls.map Sl.v) _ (fun v hv => by obtain ⟨s, _, rfl⟩ := List.mem_map.1 hv; rfl) w hr2 (by rw [List.length_map]) (by rw [List.length_map]; simp only [List.length_cons] at hsll; omega)) ?_
  rintro _ w ⟨A3, c3, rfl, hS1⟩; clear hE a; intro a hE; replace hS := hS.frame hS1; clear hS1; try simp only [List.cons_append, List.nil_append] at hS
  repeat' (first

    | (with_reducible refine wp_seq ?_)
    | (with_reducible refine c_region ?_)
    | (with_reducible refine wpList_nil ?_)
    | (with_reducible refine then_normal ?_)
    | ((with_reducible refine g_store ?_); (first | (refine s_storeB (k := 1) hS hE rfl rfl rfl rfl rfl rfl ?_) ); clear hS; intro w hS; simp only [List.set_cons_zero, List.set_cons_succ, Nat.add_zero] at hS)
    )
  refine s_val hE rfl rfl rfl (r_func (first := []) hE rfl rfl) ?_
  clear hE a; intro a hE
  repeat' (first

    | (with_reducible refine wpList_nil ?_)
    | (with_reducible refine then_normal ?_)
    | (with_reducible refine wp_ret ?_)
    | ((with_reducible refine g_assign ?_); refine s_assign hE rfl rfl ?_; clear hE a; intro a hE)
    )
  exact ret1 hE rfl rfl ⟨g, A3, c3, A, c, s, sls, hsl, rfl, (St.selD [1, 0, 2, 0, 0] 0 hS)⟩
theorem alEnc_len (x : Nat × List Nat) (z : Option Addr × Nat) : 2 = (alEnc x z).length := rfl
theorem all_iter (g3 : Nat) (A : Option Addr) (c : Nat) (l R : List Sl) (hl : l.length ≤ 1000) (hR : ∀ s ∈ l, s ∈ R) (hb : ∀ s ∈ l, s.b.length ≤ 40000) (w0 : World) :
    IterF Try.prog 63 [.pointer (some ⟨g3, 0, none⟩)] (alBx g3 A c l R) alEnc alNew (alFull (l.map Sl.b)) w0 := by
  intro w lp own H J Hx hY hS
  have hcl : (l.map Sl.v).length = l.length := List.length_map _
  have hF : Fn Try.prog 63 [.func (.yield lp) #[] #[], .pointer (some ⟨g3, 0, none⟩)] w fun v w' =>
      St w0 w' (alBx g3 A c l R ++ (H (alFull (l.map Sl.b)) ++ own)) ∨ ∃ j pre x post, pre ++ x :: post = alFull (l.map Sl.b) ∧ St w0 w' (alBx g3 A c l R ++ (Hx j (pre ++ [x]) ++ own)) := by
    refine enterI 20 Try.func63 rfl rfl rfl ?_
    intro a hE
    simp only [alBx, List.cons_append, List.nil_append] at hS
    repeat' (first

      | (with_reducible refine wpList_nil ?_)
      | (with_reducible refine then_normal ?_)
      | (with_reducible refine i_seq ?_)
      | (with_reducible refine i_block ?_)
      | ((with_reducible refine ig_region ?_); refine i_region rfl (fun _ _ h => h) ?_)
      | ((with_reducible refine g_move ?_); refine s_move hE rfl rfl ?_; clear hE a; intro a hE)
      | ((with_reducible refine g_blt .len ?_); refine s_len hE rfl rfl ?_; clear hE a; intro a hE)
      | ((with_reducible refine g_load ?_); (first | (refine s_loadB (k := 0) hS hE rfl rfl rfl rfl ?_) ); clear hE a; intro a hE)
      )
    refine i_loop (fun q ds a w => ds = [] ∧ ∃ (k : Nat) (pre : List (Nat × List Nat)), k + q = l.length ∧ pre ++ (alFull (l.map Sl.b)).drop k = alFull (l.map Sl.b) ∧ St w0 w (alBx g3 A c l R ++ (H pre ++ own)) ∧ Env 20 [(0, .func (.yield lp) #[] #[]), (1, .pointer (some ⟨g3, 0, none⟩)), (5, .slice A l.length c), (6, .int .i64 (l.length : Int)), (7, .int .i64 (k : Int))] a) l.length ⟨rfl, 0, [], by omega, rfl, hS, hE.sub ⟨rfl, rfl, rfl, rfl, rfl, trivial⟩⟩ ?_
    clear hE a hS
    rintro q ds a w ⟨rfl, k, pre, hk, hpre, hS, hE⟩
    by_cases hk1 : k < l.length
    · rw [alFull_drop (by rw [List.length_map]; exact hk1), List.getElem_map] at hpre
      have hsl := List.getElem_mem hk1
      have hbl := hb _ hsl
      have hidx : (l.map Sl.v)[k]? = some (Value.slice l[k].A l[k].b.length l[k].c) := by
        rw [List.getElem?_map, List.getElem?_eq_getElem hk1]; rfl
      have hidy : (l.map Sl.v)[((k : Nat) : Int).toNat * 1]? = some (Value.slice l[k].A l[k].b.length l[k].c) := by
        rw [Int.toNat_natCast, Nat.mul_one]; exact hidx
      simp only [alBx, List.cons_append, List.nil_append] at hS
      have hrd := wrP_rd (hS.focus (k := 2) rfl) _ (hR _ hsl)
      generalize l[k] = s at hpre hbl hidx hidy hrd
      repeat' (first
        | ((with_reducible refine ig_region ?_); refine i_regionY [_, _, _, _, _] _ [_] rfl rfl (fun _ _ h => h) ?_)
        | (with_reducible refine wpList_nil ?_)
        | (with_reducible refine then_normal ?_)
        | (with_reducible refine i_seq ?_)
        | (with_reducible refine i_skip ?_)
        | (with_reducible refine i_block ?_)
        | ((with_reducible refine ig_region ?_); refine i_region rfl (fun _ _ h => h) ?_)
        | ((with_reducible refine ig_cond ?_); refine i_dec hE rfl (fun hc => ?_) (fun hc => ?_) <;> try omega)
        | ((with_reducible refine g_move ?_); refine s_move hE rfl rfl ?_; clear hE a; intro a hE)
        | ((with_reducible refine g_assign ?_); refine s_assign hE rfl rfl ?_; clear hE a; intro a hE)
        | ((with_reducible refine g_bin .lss ?_); refine s_lss hE rfl rfl rfl ?_; clear hE a; intro a hE)
        | ((with_reducible refine g_bin .add ?_); refine s_add hE rfl rfl rfl (by first | exact wrap64_in (by omega) ) ?_; clear hE a; intro a hE)
        | ((with_reducible refine g_ia ?_); refine s_idxR hE rfl rfl (by omega) (by omega) (by (first | exact hS.rdAt (k := 1) rfl )) (by first | omega ) rfl ?_; clear hE a; intro a hE)
        | ((with_reducible refine g_load ?_); refine s_loadR hE rfl (by (first | exact hS.rdAt (k := 1) rfl )) (by first | exact hidy ) rfl ?_; clear hE a; intro a hE)
        )
      refine s_call hE rfl rfl rfl (bclone s.A s.c s.b w hrd (by omega)) ?_
      rintro _ w ⟨A2, c2, rfl, hS1⟩; clear hE a; intro a hE; replace hS := hS.frame hS1; clear hS1; try simp only [List.cons_append, List.nil_append] at hS
      have hx := hY own pre (k, s.b) (A2, c2) w ⟨_, hpre⟩ hS
      refine wpList_nil ?_
      refine ⟨rfl, ys_call hE rfl rfl rfl rfl hx ?_⟩
      rintro e w' (⟨rfl, h1⟩ | ⟨rfl, j', h1⟩)
      · refine ⟨_, rfl, fun a hE => ?_⟩
        repeat' (first

          | (with_reducible refine wpList_nil ?_)
          | (with_reducible refine then_normal ?_)
          | (with_reducible refine block_normal ?_)
          | (with_reducible refine i_skip ?_)
          | ((with_reducible refine ig_region ?_); refine i_region rfl (fun _ _ h => h) ?_)
          | ((with_reducible refine ig_cond ?_); refine i_false hE rfl ?_)
          | ((with_reducible refine g_move ?_); refine s_move hE rfl rfl ?_; clear hE a; intro a hE)
          | ((with_reducible refine g_bin .add ?_); refine s_add hE rfl rfl rfl (by first  | exact wrap64_in (by omega) ) ?_; clear hE a; intro a hE)
          | ((with_reducible refine g_un .not ?_); refine s_notb hE rfl rfl ?_; clear hE a; intro a hE)
          )
        exact ⟨q - 1, by omega, rfl, k + 1, pre ++ [(k, s.b)], by omega, by rw [List.append_assoc]; exact hpre, h1, hE.sub ⟨rfl, rfl, rfl, rfl, rfl, trivial⟩⟩
      · refine ⟨_, rfl, fun a hE => ?_⟩
        repeat' (first

          | (with_reducible refine wpList_nil ?_)
          | (with_reducible refine then_normal ?_)
          | (with_reducible refine then_ret ?_)
          | (with_reducible refine block_ret ?_)
          | (with_reducible refine i_ret ?_)
          | ((with_reducible refine ig_cond ?_); refine i_true hE rfl ?_)
          | ((with_reducible refine g_un .not ?_); refine s_notb hE rfl rfl ?_; clear hE a; intro a hE)
          )
        exact i_ret0 hE rfl (.inr ⟨j', pre, (k, s.b), _, hpre, h1⟩)
    · obtain rfl : k = l.length := by omega
      rw [List.drop_eq_nil_of_le (by rw [alFull_len, List.length_map]; exact Nat.le_refl _), List.append_nil] at hpre
      subst hpre
      repeat' (first

        | (with_reducible refine wpList_nil ?_)
        | (with_reducible refine then_normal ?_)
        | (with_reducible refine then_exit ?_)
        | (with_reducible refine block_same ?_)
        | (with_reducible refine i_seq ?_)
        | (with_reducible refine i_exit ?_)
        | ((with_reducible refine ig_region ?_); refine i_region rfl (fun _ _ h => h) ?_)
        | ((with_reducible refine ig_cond ?_); refine i_dec hE rfl (fun hc => ?_) (fun hc => ?_) <;> try omega)
        | ((with_reducible refine g_bin .lss ?_); refine s_lss hE rfl rfl rfl ?_; clear hE a; intro a hE)
        )
      exact i_end0 hE rfl (.inl hS)
  unfold Fn at hF
  exact Calls.mono hF fun e w' ⟨v, e1, h⟩ => ⟨⟨v, e1⟩, h⟩
end
end Go.Proofs.Ytfoeelghehjanaa
