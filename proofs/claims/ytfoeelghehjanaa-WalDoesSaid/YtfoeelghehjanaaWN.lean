/-
  Contract: the frame that stands at the begin of sectors.
-/
import Derived.Test.YtfoeelghehjanaaWL
namespace Go.Proofs.Ytfoeelghehjanaa
open Go.RowKit
set_option linter.unusedVariables false
set_option linter.unusedSimpArgs false
theorem St.rdCut {w0 w : World} {H : List HP} {A : Option Addr} {cs cs' : List Value} {k : Nat} (hS : St w0 w (hRd A cs :: H)) (h : ∀ w, Rd w A cs → Rd w (A.map (·.add k)) cs') : St w0 w (hRd (A.map (·.add k)) cs' :: H) :=
  hS.conv fun S h1 => ⟨fun ad e => by
    cases A with
    | none => cases e
    | some a5 =>
      obtain rfl := Option.some.inj e
      rw [add_block]
      exact h1.1 _ rfl, h _ h1.2⟩
theorem fullP_mem {t n : Nat} {b : List Nat} {x : Nat × Blk} (h : x ∈ fullP t n b) : x.1 < secN b.length ∧ x.2 = partB t n b x.1 := by
  obtain ⟨k, hk, rfl⟩ := List.mem_map.1 h
  exact ⟨List.mem_range.1 hk, rfl⟩
theorem parts_all {t n nn : Nat} {b : List Nat} {l : List Blk} (hn : nn = secN b.length) (hl : nn ≤ l.length) (h : ∀ x ∈ fullP t n b, l[x.1]? = some x.2) : partsB t n b = l.take nn := by
  refine List.ext_getElem? fun k => ?_
  by_cases hk : k < nn
  · rw [List.getElem?_take_of_lt hk]
    have := h (k, partB t n b k) (List.mem_map.2 ⟨k, List.mem_range.2 (by omega), rfl⟩)
    rw [this]
    unfold partsB
    rw [List.getElem?_map, List.getElem?_range (by omega)]
    rfl
  · rw [List.getElem?_eq_none (by rw [partsB_len]; omega), List.getElem?_eq_none (by rw [List.length_take]; omega)]
theorem parts_none {t n nn : Nat} {b : List Nat} {l : List Blk} (hn : nn = secN b.length) {x : Nat × Blk} (hx : x ∈ fullP t n b) (h : l[x.1]? ≠ some x.2) : partsB t n b ≠ l.take nn := by
  intro e
  obtain ⟨h1, h2⟩ := fullP_mem hx
  have h3 : (partsB t n b)[x.1]? = (l.take nn)[x.1]? := by rw [e]
  rw [List.getElem?_take_of_lt (by omega)] at h3
  unfold partsB at h3
  rw [List.getElem?_map, List.getElem?_range h1] at h3
  exact h (h3.symm.trans (by rw [h2]; rfl))
attribute [local irreducible] Rd hRow hBlk hRd hRdr wrP hDk hWl Fn FnD hMarks

/-- what a frame's first sector says: how many sectors, how many bytes -/
def stN (x : Blk) : Nat := bnum 0 ((x.drop 10).take 2)
def stL (x : Blk) : Nat := bnum 0 ((x.drop 16).take 4)
def bodies (l : List Blk) : List Nat := l.flatMap fun b => b.drop 16
def stB (l : List Blk) (nn lo : Nat) : List Nat := ((bodies (l.take nn)).drop 4).take lo
/-- the frame that stands there -/
def stM (l : List Blk) (t n : Nat) : Option (List Nat) :=
  match l with
  | [] => none
  | x :: l' => if 40000 < stL x ∨ stN x ≠ secN (stL x) ∨ (x :: l').length < stN x then none
    else if partsB t n (stB (x :: l') (stN x) (stL x)) = (x :: l').take (stN x) then some (stB (x :: l') (stN x) (stL x)) else none
theorem stN_lt {b : Blk} (hb : Blk.ok b) : stN b < 65536 := by
  have := bnum_lt ((b.drop 10).take 2) (fun c hc => hb.2 c (List.mem_of_mem_drop (List.mem_of_mem_take hc)))
  have h2 : 256 ^ ((b.drop 10).take 2).length ≤ 256 ^ 2 := Nat.pow_le_pow_right (by decide) (List.length_take_le _ _)
  have h3 : (256 : Nat) ^ 2 = 65536 := rfl
  unfold stN
  omega
theorem stL_lt {b : Blk} (hb : Blk.ok b) : stL b < 4294967296 := by
  have := bnum_lt ((b.drop 16).take 4) (fun c hc => hb.2 c (List.mem_of_mem_drop (List.mem_of_mem_take hc)))
  have h2 : 256 ^ ((b.drop 16).take 4).length ≤ 256 ^ 4 := Nat.pow_le_pow_right (by decide) (List.length_take_le _ _)
  have h3 : (256 : Nat) ^ 4 = 4294967296 := rfl
  unfold stL
  omega
theorem bodies_len {l : List Blk} (hl : ∀ b ∈ l, Blk.ok b) : (bodies l).length = l.length * 48 := by
  unfold bodies
  induction l with
  | nil => rfl
  | cons x l ih =>
    rw [List.flatMap_cons, List.length_append, ih fun b hb => hl b (List.mem_cons_of_mem _ hb), List.length_drop, (hl x (List.mem_cons_self ..)).1, List.length_cons]
    omega
theorem bodies_bs {l : List Blk} (hl : ∀ b ∈ l, Blk.ok b) : Bs (bodies l) := by
  intro c hc
  obtain ⟨b, hb, hc⟩ := List.mem_flatMap.1 hc
  exact (hl b hb).2 c (List.mem_of_mem_drop hc)
theorem bodies_snoc (l : List Blk) (x : Blk) : bodies (l ++ [x]) = bodies l ++ x.drop 16 := by
  unfold bodies
  rw [List.flatMap_append, List.flatMap_singleton]
section
variable {H : List HP} {w0 w : World} {g m : Nat}
set_option maxHeartbeats 8000000
theorem stands (l : List Blk) (A : Option Addr) (c t n : Nat) (ht : t < 4294967296) (hn : n < 4294967296) (hl : ∀ b ∈ l, Blk.ok b) (hll : l.length ≤ 1000) (hcl : l.length ≤ c) (w0 : World) (hr : Rd w0 A (l.flatMap bys)) :
    Fn Try.prog 61 [.slice A l.length c, .int .u32 (t : Int), .int .u32 (n : Int)] w0 fun v w' =>
      (stM l t n = none ∧ v = .tuple #[.slice none 0 0, .bool false] ∧ St w0 w' []) ∨
      ∃ b A' c', stM l t n = some b ∧ b.length ≤ 40000 ∧ Bs b ∧ v = .tuple #[.slice A' b.length c', .bool true] ∧ St w0 w' [hRd A' (bys b)] := by
  have hfl : (l.flatMap bys).length = l.length * 64 := flat_len (blk_len hl)
  have hS := St.start w0
  refine enterI 74 Try.func61 rfl rfl rfl ?_
  intro a hE
  refine i_seq ?_
  refine i_region rfl (fun _ _ h => h) ?_
  refine s_box1 hE hS rfl rfl rfl ?_
  clear hE a hS; intro g3 a w hE hS
  repeat' (first

    | (with_reducible refine wpList_nil ?_)
    | (with_reducible refine then_normal ?_)
    | (with_reducible refine then_ret ?_)
    | (with_reducible refine i_seq ?_)
    | (with_reducible refine i_skip ?_)
    | (with_reducible refine i_ret ?_)
    | ((with_reducible refine ig_region ?_); refine i_region rfl (fun _ _ h => h) ?_)
    | ((with_reducible refine ig_cond ?_); refine i_dec hE rfl (fun hc => ?_) (fun hc => ?_) <;> try omega)
    | ((with_reducible refine g_bin .eql ?_); refine s_eql hE rfl rfl rfl ?_; clear hE a; intro a hE)
    | ((with_reducible refine g_blt .len ?_); refine s_len hE rfl rfl ?_; clear hE a; intro a hE)
    | ((with_reducible refine g_ia ?_); refine s_idxR hE rfl rfl (by omega) (by omega) (by (first | exact Rd.st (by assumption) hS )) (by first | omega ) rfl ?_; clear hE a; intro a hE)
    | ((with_reducible refine g_load ?_); (first | (refine s_loadB (k := 2) hS hE rfl rfl rfl rfl ?_) ); clear hE a; intro a hE)
    | ((with_reducible refine g_store ?_); (first | (refine s_storeB (k := 0) hS hE rfl rfl rfl rfl rfl rfl ?_) | (refine s_storeB (k := 1) hS hE rfl rfl rfl rfl rfl rfl ?_) ); clear hS; intro w hS; simp only [List.set_cons_zero, List.set_cons_succ, Nat.add_zero] at hS)
    | ((with_reducible refine g_alloc ?_); refine s_alloc1 hE hS rfl rfl ?_; clear hE a hS; intro g a w hE hS)
    )
  · obtain rfl : l = [] := List.eq_nil_of_length_eq_zero (by omega)
    exact im_retG (vs := [_, _]) hE [] hS.marks0 rfl fun w' hS' => ⟨⟨⟨_, rfl, res_1 (k := 1) hS' rfl⟩, ⟨_, rfl, res_1 (k := 0) hS' rfl⟩, trivial⟩, .inl ⟨rfl, rfl, hS'.nil⟩⟩
  rename_i g6 wq
  obtain ⟨g7, rfl⟩ : ∃ x, x = g := ⟨_, rfl⟩
  rcases l with _ | ⟨x, l'⟩
  · exact absurd rfl hc
  have hxo := hl x (List.mem_cons_self ..)
  obtain ⟨ad, rfl⟩ : ∃ ad, A = some ad := by
    obtain ⟨h1, _⟩ := hr.some (List.getElem?_eq_getElem (show 0 < ((x :: l').flatMap bys).length by rw [hfl, List.length_cons]; omega))
    exact ⟨_, h1⟩
  refine s_val hE rfl rfl rfl (r_sliceAL hE rfl rfl (by decide)) ?_
  clear hE a; intro a hE
  have hx10 : (x.drop 10).length = 54 := by rw [List.length_drop, hxo.1]
  have hxs10 : Bs (x.drop 10) := fun c hc => hxo.2 c (List.mem_of_mem_drop hc)
  have hrd10 : Rd w (some (((adr (some ad)).add (Int.toNat 0 * 64)).add (Int.toNat 10 * 1))) (bys (x.drop 10)) := by
    have h1 := ((hr.st hS).drop 10).take 54
    rw [List.flatMap_cons, List.drop_append_of_le_length (by rw [bys_length, hxo.1]; decide), List.take_append_of_le_length (by rw [List.length_drop, bys_length, hxo.1]; decide), List.take_of_length_le (by rw [List.length_drop, bys_length, hxo.1]; decide)] at h1
    rw [bys_drop, add_add]
    exact h1
  have hrc := read (some (((adr (some ad)).add (Int.toNat 0 * 64)).add (Int.toNat 10 * 1))) 54 (x.drop 10) w hrd10 (by omega)
  rw [hx10] at hrc
  refine s_call hE rfl rfl rfl hrc ?_
  clear hrc hrd10
  rintro _ w ⟨gr, A1, c1, rfl, hS1⟩; clear hE a; intro a hE; replace hS := hS.frame hS1; clear hS1; try simp only [List.cons_append, List.nil_append] at hS
  have t1 : takeM (x.drop 10) 0 0 2 = ((x.drop 10).take 2, 2, 0) := takeM_in (p := 0) (n := 2) (by rw [hx10]; decide)
  have t2 : takeM (x.drop 10) 2 0 4 = ((x.drop 12).take 4, 6, 0) := by
    have := takeM_in (xs := x.drop 10) (p := 2) (n := 4) (by rw [hx10]; decide)
    rw [List.drop_drop] at this
    exact this
  have t3 : takeM (x.drop 10) 6 0 4 = ((x.drop 16).take 4, 10, 0) := by
    have := takeM_in (xs := x.drop 10) (p := 6) (n := 4) (by rw [hx10]; decide)
    rw [List.drop_drop] at this
    exact this
  repeat' (first

    | (with_reducible refine wpList_nil ?_)
    | (with_reducible refine then_normal ?_)
    | (with_reducible refine i_seq ?_)
    | ((with_reducible refine ig_region ?_); refine i_region rfl (fun _ _ h => h) ?_)
    | ((with_reducible refine g_move ?_); refine s_move hE rfl rfl ?_; clear hE a; intro a hE)
    | ((with_reducible refine g_assign ?_); refine s_assign hE rfl rfl ?_; clear hE a; intro a hE)
    )
  refine s_call hE rfl rfl rfl (u16 gr A1 c1 (x.drop 10) 0 0 _ w0 w hS hxs10 (by omega) (by omega)) ?_
  rintro _ w ⟨rfl, hS⟩; clear hE a; intro a hE
  rw [t1] at hE hS
  have hnl := stN_lt hxo
  have hll2 := stL_lt hxo
  rw [show bnum 0 ((x.drop 10).take 2) = stN x from rfl] at hE
  have e1 : IntKind.i64.wrap ((stN x : Nat) : Int) = (stN x : Int) := wrap64_in (by omega)
  repeat' (first

    | (with_reducible refine wpList_nil ?_)
    | (with_reducible refine then_normal ?_)
    | (with_reducible refine i_seq ?_)
    | ((with_reducible refine ig_region ?_); refine i_region rfl (fun _ _ h => h) ?_)
    | ((with_reducible refine g_move ?_); refine s_move hE rfl rfl ?_; clear hE a; intro a hE)
    | ((with_reducible refine g_assign ?_); refine s_assign hE rfl rfl ?_; clear hE a; intro a hE)
    | ((with_reducible refine g_conv ?_); refine s_conv hE rfl rfl (by first | exact e1 ) ?_; clear hE a; intro a hE)
    )
  refine s_call hE rfl rfl rfl (u32 gr A1 c1 (x.drop 10) 2 0 _ w0 w hS hxs10 (by omega) (by omega)) ?_
  rintro _ w ⟨rfl, hS⟩; clear hE a; intro a hE
  rw [t2] at hE hS
  repeat' (first

    | (with_reducible refine wpList_nil ?_)
    | (with_reducible refine then_normal ?_)
    | (with_reducible refine i_seq ?_)
    | ((with_reducible refine ig_region ?_); refine i_region rfl (fun _ _ h => h) ?_)
    | ((with_reducible refine g_move ?_); refine s_move hE rfl rfl ?_; clear hE a; intro a hE)
    )
  refine s_call hE rfl rfl rfl (u32 gr A1 c1 (x.drop 10) 6 0 _ w0 w hS hxs10 (by omega) (by omega)) ?_
  rintro _ w ⟨rfl, hS⟩; clear hE a; intro a hE
  rw [t3] at hE hS
  rw [show bnum 0 ((x.drop 16).take 4) = stL x from rfl] at hE
  clear t1 t2 t3
  replace hS := hS.drop 0
  simp only [List.eraseIdx_cons_zero] at hS
  have e2 : IntKind.i64.wrap ((stL x : Nat) : Int) = (stL x : Int) := wrap64_in (by omega)
  by_cases hlo : 40000 < stL x
  · have hno : stM (x :: l') t n = none := if_pos (.inl hlo)
    repeat' (first

      | (with_reducible refine wpList_nil ?_)
      | (with_reducible refine then_normal ?_)
      | (with_reducible refine then_ret ?_)
      | (with_reducible refine i_seq ?_)
      | (with_reducible refine i_ret ?_)
      | ((with_reducible refine ig_region ?_); refine i_region rfl (fun _ _ h => h) ?_)
      | ((with_reducible refine ig_cond ?_); refine i_true hE rfl ?_)
      | ((with_reducible refine g_move ?_); refine s_move hE rfl rfl ?_; clear hE a; intro a hE)
      | ((with_reducible refine g_assign ?_); refine s_assign hE rfl rfl ?_; clear hE a; intro a hE)
      | ((with_reducible refine g_bin .gtr ?_); refine s_gtr hE rfl rfl rfl ?_; clear hE a; intro a hE)
      | ((with_reducible refine g_guard ?_); refine gd_no hE rfl rfl rfl rfl ?_; clear hE a; intro a hE)
      | ((with_reducible refine g_guard ?_); refine gd_dec hE rfl rfl (fun hc hE2 => ?_) (fun hc hE2 => ?_) <;> (try omega) <;> (replace hE := hE2; clear hE2))
      | ((with_reducible refine g_pick ?_); refine s_pickT hE rfl rfl rfl ?_; clear hE a; intro a hE)
      | ((with_reducible refine g_store ?_); (first | (refine s_storeB (k := 0) hS hE rfl rfl rfl rfl rfl rfl ?_) | (refine s_storeB (k := 1) hS hE rfl rfl rfl rfl rfl rfl ?_) ); clear hS; intro w hS; simp only [List.set_cons_zero, List.set_cons_succ, Nat.add_zero] at hS)
      )
    exact im_retG (vs := [_, _]) hE [] hS.marks0 rfl fun w' hS' => ⟨⟨⟨_, rfl, res_1 (k := 1) hS' rfl⟩, ⟨_, rfl, res_1 (k := 0) hS' rfl⟩, trivial⟩, .inl ⟨hno, rfl, hS'.nil⟩⟩
  repeat' (first

    | (with_reducible refine wpList_nil ?_)
    | (with_reducible refine then_normal ?_)
    | (with_reducible refine i_seq ?_)
    | ((with_reducible refine ig_region ?_); refine i_region rfl (fun _ _ h => h) ?_)
    | ((with_reducible refine g_move ?_); refine s_move hE rfl rfl ?_; clear hE a; intro a hE)
    | ((with_reducible refine g_assign ?_); refine s_assign hE rfl rfl ?_; clear hE a; intro a hE)
    | ((with_reducible refine g_bin .gtr ?_); refine s_gtr hE rfl rfl rfl ?_; clear hE a; intro a hE)
    | ((with_reducible refine g_conv ?_); refine s_conv hE rfl rfl (by first | exact e2 ) ?_; clear hE a; intro a hE)
    | ((with_reducible refine g_guard ?_); refine gd_yes hE rfl rfl rfl ?_)
    | ((with_reducible refine g_guard ?_); refine gd_dec hE rfl rfl (fun hc hE2 => ?_) (fun hc hE2 => ?_) <;> (try omega) <;> (replace hE := hE2; clear hE2))
    )
  refine s_call hE rfl rfl rfl (sectors (stL x) w) ?_
  rintro _ w ⟨rfl, hS1⟩; clear hE a; intro a hE; replace hS := hS.frame hS1; clear hS1; try simp only [List.cons_append, List.nil_append] at hS
  repeat' (first

    | (with_reducible refine wpList_nil ?_)
    | (with_reducible refine then_normal ?_)
    | (with_reducible refine then_ret ?_)
    | (with_reducible refine i_seq ?_)
    | (with_reducible refine i_skip ?_)
    | (with_reducible refine i_ret ?_)
    | (with_reducible refine i_block ?_)
    | ((with_reducible refine ig_region ?_); refine i_region rfl (fun _ _ h => h) ?_)
    | ((with_reducible refine ig_cond ?_); refine i_true hE rfl ?_)
    | ((with_reducible refine ig_cond ?_); refine i_dec hE rfl (fun hc => ?_) (fun hc => ?_) <;> try omega)
    | ((with_reducible refine g_move ?_); refine s_move hE rfl rfl ?_; clear hE a; intro a hE)
    | ((with_reducible refine g_assign ?_); refine s_assign hE rfl rfl ?_; clear hE a; intro a hE)
    | ((with_reducible refine g_bin .gtr ?_); refine s_gtr hE rfl rfl rfl ?_; clear hE a; intro a hE)
    | ((with_reducible refine g_bin .neq ?_); refine s_neq hE rfl rfl rfl ?_; clear hE a; intro a hE)
    | ((with_reducible refine g_blt .len ?_); refine s_len hE rfl rfl ?_; clear hE a; intro a hE)
    | ((with_reducible refine g_guard ?_); refine gd_yes hE rfl rfl rfl ?_)
    | ((with_reducible refine g_guard ?_); refine gd_no hE rfl rfl rfl rfl ?_; clear hE a; intro a hE)
    | ((with_reducible refine g_guard ?_); refine gd_dec hE rfl rfl (fun hc hE2 => ?_) (fun hc hE2 => ?_) <;> (try omega) <;> (replace hE := hE2; clear hE2))
    | ((with_reducible refine g_pick ?_); refine s_pickT hE rfl rfl rfl ?_; clear hE a; intro a hE)
    | ((with_reducible refine g_pick ?_); refine s_pickF hE rfl rfl rfl ?_; clear hE a; intro a hE)
    | ((with_reducible refine g_load ?_); (first | (refine s_loadB (k := 2) hS hE rfl rfl rfl rfl ?_) ); clear hE a; intro a hE)
    | ((with_reducible refine g_store ?_); (first | (refine s_storeB (k := 0) hS hE rfl rfl rfl rfl rfl rfl ?_) | (refine s_storeB (k := 1) hS hE rfl rfl rfl rfl rfl rfl ?_) ); clear hS; intro w hS; simp only [List.set_cons_zero, List.set_cons_succ, Nat.add_zero] at hS)
    | ((with_reducible refine g_sliceH ?_); refine s_val hE rfl rfl rfl (r_cutH hE rfl rfl (by omega)) ?_; clear hE a; intro a hE)
    )
  · have hno : stM (x :: l') t n = none := if_pos (.inr (.inl (by omega)))
    exact im_retG (vs := [_, _]) hE [] hS.marks0 rfl fun w' hS' => ⟨⟨⟨_, rfl, res_1 (k := 1) hS' rfl⟩, ⟨_, rfl, res_1 (k := 0) hS' rfl⟩, trivial⟩, .inl ⟨hno, rfl, hS'.nil⟩⟩
  · rename_i hc
    have hno : stM (x :: l') t n = none := if_pos (.inr (.inr (by omega)))
    exact im_retG (vs := [_, _]) hE [] hS.marks0 rfl fun w' hS' => ⟨⟨⟨_, rfl, res_1 (k := 1) hS' rfl⟩, ⟨_, rfl, res_1 (k := 0) hS' rfl⟩, trivial⟩, .inl ⟨hno, rfl, hS'.nil⟩⟩
  have hnl2 : stN x ≤ (x :: l').length := by omega
  have hst : stM (x :: l') t n = if partsB t n (stB (x :: l') (stN x) (stL x)) = (x :: l').take (stN x) then some (stB (x :: l') (stN x) (stL x)) else none := if_neg (by omega)
  rw [hst]
  clear hst
  have hxl : ((x :: l').take (stN x)).length = stN x := by rw [List.length_take]; omega
  have hnn2 : stN x = secN (stL x) := by omega
  have hfit := secN_fit (n := stL x) (by omega)
  rw [← hnn2] at hfit
  have hbl2 := fun k => bodies_len (l := (x :: l').take k) fun b hb => hl b (List.mem_of_mem_take hb)
  have hbb := bodies_bs (l := (x :: l').take (stN x)) fun b hb => hl b (List.mem_of_mem_take hb)
  generalize hnx : stN x = nn at hE hxl hnl e1 hfit hbb hnl2 hnn2 ⊢
  generalize hlx : stL x = lo at hE hll2 e2 hlo hfit hnn2 ⊢
  generalize hly : x :: l' = ly at hE hS hxl hbl2 hbb hl hll hcl hfl hr hnl2 ⊢
  clear hnx hlx
  simp only [Int.toNat_natCast] at hE
  replace hS := St.rowNil hS 5 1
  refine i_loop (fun q ds a w => ds = [] ∧ ∃ (k : Nat) (A5 : Option Addr) (c5 : Nat), k + q = nn ∧ St w0 w [hRow 5 1 A5 (bodies (ly.take k)).length c5 (bys (bodies (ly.take k))), hBlk g7 4 [.bool false], hBlk g6 34 [.slice none 0 0], hBlk g3 97 [.slice (some ad) ly.length c]] ∧ Env 74 [(1, .int .u32 (t : Int)), (2, .int .u32 (n : Int)), (3, .pointer (some ⟨g3, 0, none⟩)), (6, .pointer (some ⟨g6, 0, none⟩)), (7, .pointer (some ⟨g7, 0, none⟩)), (10, .int .u32 (lo : Int)), (11, .slice A5 (bodies (ly.take k)).length c5), (47, .slice (some ad) nn c), (48, .int .i64 (nn : Int)), (49, .int .i64 (k : Int))] a) nn ⟨rfl, 0, none, 0, by omega, hS, hE.sub ⟨rfl, rfl, rfl, rfl, rfl, rfl, rfl, rfl, rfl, rfl, trivial⟩⟩ ?_
  clear hE a hS
  rintro q ds a w ⟨rfl, k, A5, c5, hk, hS, hE⟩
  by_cases hk1 : k < nn
  · have hky : k < ly.length := by omega
    have hseg := flat_seg (c := bys) (size := 64) (l := ly) (blk_len hl) hky
    have hyo := hl _ (List.getElem_mem hky)
    have htk : ly.take (k + 1) = ly.take k ++ [ly[k]] := List.take_succ_eq_append_getElem hky
    generalize ly[k] = y at hseg hyo htk
    have hyl : (bys y).length = 64 := by rw [bys_length]; exact hyo.1
    have hone := bys_one y
    have hrw := hr.st hS
    have hbk := hbl2 k
    have hbk1 : (ly.take k).length ≤ k := List.length_take_le _ _
    repeat' (first

      | (with_reducible refine wpList_nil ?_)
      | (with_reducible refine then_normal ?_)
      | (with_reducible refine i_seq ?_)
      | (with_reducible refine i_skip ?_)
      | (with_reducible refine i_block ?_)
      | ((with_reducible refine ig_region ?_); refine i_region rfl (fun _ _ h => h) ?_)
      | ((with_reducible refine ig_cond ?_); refine i_dec hE rfl (fun hc => ?_) (fun hc => ?_) <;> try omega)
      | ((with_reducible refine g_move ?_); refine s_move hE rfl rfl ?_; clear hE a; intro a hE)
      | ((with_reducible refine g_bin .lss ?_); refine s_lss hE rfl rfl rfl ?_; clear hE a; intro a hE)
      | ((with_reducible refine g_ia ?_); refine s_idxR hE rfl rfl (by omega) (by omega) (by (first | exact Rd.st (by assumption) hS )) (by first | omega ) rfl ?_; clear hE a; intro a hE)
      | ((with_reducible refine g_alloc ?_); refine s_allocS hE hS rfl rfl ?_; clear hE a hS; intro g a w hE hS)
      | ((with_reducible refine g_store ?_); (first | (refine s_storeW (k := 0) hS hE rfl rfl rfl (by assumption) (by first | rfl ) (by first | exact bys_one _ ) ?_) ); clear hS; intro w hS; simp only [List.set_cons_zero, List.set_cons_succ, Nat.add_zero] at hS)
      | ((with_reducible refine g_load ?_); refine s_elemR hE rfl (by (first | exact Rd.st (by assumption) hS )) (by first | exact hseg ) (by first | assumption) (by rfl) rfl ?_; clear hE a; intro a hE))
    obtain ⟨g13, rfl⟩ : ∃ x, x = g := ⟨_, rfl⟩
    refine s_val hE rfl rfl rfl (r_sliceAL hE rfl rfl (by decide)) ?_
    clear hE a; intro a hE
    have hrd16 : Rd w (some ((⟨g13, 0, none⟩ : Addr).add (Int.toNat 16 * 1))) (bys (y.drop 16)) := by
      rw [bys_drop, add_lit]
      exact (hS.blkRdAt (k := 0) (o := 16) rfl)
    refine s_appendB (k := 1) hE hS rfl rfl rfl hrd16 rfl (by rw [List.length_drop, hyo.1]; rfl) (by rw [List.length_drop, hyo.1]; omega) rfl rfl rfl ?_
    clear hE a hS; intro A7 c7 a w hE hS; simp only [List.set_cons_zero, List.set_cons_succ] at hS
    rw [← bodies_snoc, ← htk] at hE hS
    repeat' (first

      | (with_reducible refine wpList_nil ?_)
      | (with_reducible refine then_normal ?_)
      | (with_reducible refine block_normal ?_)
      | ((with_reducible refine ig_region ?_); refine i_region rfl (fun _ _ h => h) ?_)
      | ((with_reducible refine g_move ?_); refine s_move hE rfl rfl ?_; clear hE a; intro a hE)
      | ((with_reducible refine g_assign ?_); refine s_assign hE rfl rfl ?_; clear hE a; intro a hE)
      | ((with_reducible refine g_bin .add ?_); refine s_add hE rfl rfl rfl (by first  | exact wrap64_in (by omega) ) ?_; clear hE a; intro a hE)
      )
    exact ⟨q - 1, by omega, rfl, k + 1, A7, c7, by omega, hS.tail, hE.sub ⟨rfl, rfl, rfl, rfl, rfl, rfl, rfl, rfl, rfl, rfl, trivial⟩⟩
  · obtain rfl : k = nn := by omega
    have hal := hbl2 k
    rw [hxl] at hal
    have hbE : (stB ly k lo).length = lo := by unfold stB; rw [List.length_take, List.length_drop, hal]; omega
    have hbB : Bs (stB ly k lo) := fun c hc => hbb c (List.mem_of_mem_drop (List.mem_of_mem_take hc))
    have hrs : ∀ w' A', Rd w' A' (bys (bodies (ly.take k))) → Rd w' (A'.map (·.add 4)) (bys (stB ly k lo)) := fun w' A' h => by
      unfold stB
      rw [bys_take, bys_drop]
      exact (h.drop 4).take lo
    have e3 : IntKind.u32.wrap (4 + (lo : Int)) = ((4 + lo : Nat) : Int) := by rw [wrap_u32_in (by omega)]; rfl
    obtain ⟨_, hcap, _⟩ := hS.lenAt (k := 0) rfl
    repeat' (first

      | (with_reducible refine wpList_nil ?_)
      | (with_reducible refine then_normal ?_)
      | (with_reducible refine then_exit ?_)
      | (with_reducible refine block_same ?_)
      | (with_reducible refine i_seq ?_)
      | (with_reducible refine i_exit ?_)
      | ((with_reducible refine ig_region ?_); refine i_region rfl (fun _ _ h => h) ?_)
      | ((with_reducible refine ig_cond ?_); refine i_dec hE rfl (fun hc => ?_) (fun hc => ?_) <;> try omega)
      | ((with_reducible refine g_move ?_); refine s_move hE rfl rfl ?_; clear hE a; intro a hE)
      | ((with_reducible refine g_assign ?_); refine s_assign hE rfl rfl ?_; clear hE a; intro a hE)
      | ((with_reducible refine g_bin .lss ?_); refine s_lss hE rfl rfl rfl ?_; clear hE a; intro a hE)
      | ((with_reducible refine g_bin .add ?_); refine s_add hE rfl rfl rfl (by first | exact e3 ) ?_; clear hE a; intro a hE)
      | ((with_reducible refine g_sliceLH ?_); refine s_val hE rfl rfl rfl (r_cutLH hE rfl rfl rfl (by omega) (by omega)) ?_; clear hE a; intro a hE)
      )
    have e4 : Int.toNat 4 = 4 := rfl
    rw [if_neg (show ¬ c5 = Int.toNat 4 by omega), show (((4 + lo : Nat) : Int)).toNat - Int.toNat 4 = lo by omega] at hE
    have hS2 := St.rdCut (k := 4) (cs' := bys (stB ly k lo)) hS.rowRd (fun w h => hrs w A5 h)
    obtain ⟨A6, hA6⟩ : ∃ A6, A6 = A5.map (fun x : Addr => x.add 4) := ⟨_, rfl⟩
    rw [show (A5.map fun x : Addr => x.add (Int.toNat 4 * 1)) = A6 from hA6.symm] at hE
    rw [← hA6] at hS2
    clear hA6
    clear hS; have hS := hS2; clear hS2
    have hnn3 : k = secN (stB ly k lo).length := by rw [hbE]; exact hnn2
    generalize hbq : stB ly k lo = b at hS hE hbE hbB hnn3 ⊢
    refine s_call hE rfl rfl rfl (parts t n b A6 _ lo hbE.symm hbB (by omega) w hS.rd2) ?_
    rintro _ w ⟨g8, p3, p4, p7, A', c', rfl, hS1⟩; clear hE a; intro a hE; replace hS := hS.frame hS1; clear hS1
    replace hS := hS.pureI (p := ∀ x ∈ ([] : List (Nat × Blk)), ly[x.1]? = some x.2) (fun x hx => by cases hx)
    have hS2 : St w0 w (ptBx g8 p3 p4 p7 A' c' t n b ++ ([hRd A6 (bys b), hBlk g7 4 [.bool false], hBlk g6 34 [.slice none 0 0], hBlk g3 97 [.slice (some ad) ly.length c], hPure (∀ x ∈ ([] : List (Nat × Blk)), ly[x.1]? = some x.2)] ++ [])) := by
      simp only [ptBx, List.cons_append, List.nil_append] at hS ⊢
      exact (St.selD [1, 1, 1, 1, 1, 1, 1, 1, 1, 0] 0 hS)
    clear hS; have hS := hS2; clear hS2
    repeat' (first

      | (with_reducible refine wpList_nil ?_)
      | (with_reducible refine then_normal ?_)
      | (with_reducible refine i_block ?_)
      )
    refine i_range (ps := [65, 66]) hE rfl (parts_iter t n ht hn b hbB (by omega) g8 p3 p4 p7 A' c' w0)
      (fun pre => [hRd A6 (bys b), hBlk g7 4 [.bool false], hBlk g6 34 [.slice none 0 0], hBlk g3 97 [.slice (some ad) ly.length c], hPure (∀ x ∈ pre, ly[x.1]? = some x.2)])
      (fun j xs => [hRd A6 (bys b), hBlk g7 4 [.bool false], hBlk g6 34 [.slice none 0 0], hBlk g3 97 [.slice (some ad) ly.length c], hPure (j = none ∧ ∃ x ∈ xs, ly[x.1]? ≠ some x.2)]) (own := []) hS (fun _ => rfl) (by decide)
      (Y := Nat) (fun pre x y => [(14, .int .i64 (x.1 : Int)), (15, .pointer (some ⟨y, 0, none⟩)), (3, .pointer (some ⟨g3, 0, none⟩)), (6, .pointer (some ⟨g6, 0, none⟩)), (7, .pointer (some ⟨g7, 0, none⟩))])
      (fun pre x y => [hBlk y 80 (bys x.2), hRd A6 (bys b), hBlk g7 4 [.bool false], hBlk g6 34 [.slice none 0 0], hBlk g3 97 [.slice (some ad) ly.length c], hPure (∀ x ∈ pre, ly[x.1]? = some x.2)]) ?_ ?_ ?_ ?_
    · clear hS hE a
      intro own pre x w lp a hx hS hE
      obtain ⟨post, hx⟩ := hx
      have hxm : x ∈ fullP t n b := by rw [← hx]; simp
      have hxo := fullP_ok (t := t) (n := n) hbB (by omega) x hxm
      obtain ⟨j, y⟩ := x
      have hyl : (bys y).length = 64 := by rw [bys_length]; exact hxo.1
      have hyo := bys_one y
      simp only [ptBx, List.cons_append, List.nil_append] at hS
      repeat' (first

        | (with_reducible refine wpList_nil ?_)
        | (with_reducible refine then_normal ?_)
        | (with_reducible refine i_seq ?_)
        | ((with_reducible refine ig_region ?_); refine i_region rfl (fun _ _ h => absurd h.1 (by simp)) ?_)
        | ((with_reducible refine g_assign ?_); refine s_assign hE rfl rfl ?_; clear hE a; intro a hE)
        | ((with_reducible refine g_alloc ?_); refine s_allocS hE hS rfl rfl ?_; clear hE a hS; intro g a w hE hS)
        | ((with_reducible refine g_store ?_); (first | (refine s_storeW (k := 0) hS hE rfl rfl rfl (by assumption) (by first | rfl ) (by first | exact bys_one _ ) ?_) ); clear hS; intro w hS; simp only [List.set_cons_zero, List.set_cons_succ, Nat.add_zero] at hS)
        )
      refine ⟨rfl, rfl, _, hE.sub ⟨rfl, rfl, rfl, rfl, rfl, trivial⟩, ?_⟩
      exact hS.perm (List.perm_middle (l₁ := ptBx g8 p3 p4 p7 A' c' t n b)).symm
    · clear hS hE a
      intro own pre x y w lp a hx hS hE
      obtain ⟨post, hx⟩ := hx
      have hxm : x ∈ fullP t n b := by rw [← hx]; simp
      have hxo := fullP_ok (t := t) (n := n) hbB (by omega) x hxm
      obtain ⟨hx1, hx2⟩ := fullP_mem hxm
      simp only [ptBx, List.cons_append, List.nil_append] at hS
      have hpre := (hS.focus (k := 10) rfl).pure
      have hky : x.1 < ly.length := by omega
      have hseg := flat_seg (c := bys) (size := 64) (l := ly) (blk_len hl) hky
      have hyo := hl _ (List.getElem_mem hky)
      have hgk : ly[x.1]? = some ly[x.1] := List.getElem?_eq_getElem hky
      generalize ly[x.1] = z at hseg hyo hgk
      obtain ⟨j, y2⟩ := x
      dsimp only at hS hE hxo hx1 hx2 hky hseg hgk
      have hzl : (bys z).length = 64 := by rw [bys_length]; exact hyo.1
      have hyl : (bys y2).length = 64 := by rw [bys_length]; exact hxo.1
      have hy2o := bys_one y2
      have hzo := bys_one z
      have hrw := hr.st hS
      repeat' (first

        | (with_reducible refine i_seq ?_)
        | (with_reducible refine i_block ?_)
        )
      refine i_ordS hS 6 ((.rd 0 (.rd 1 (.rd 2 (.rd 3 (.rd 4 (.rd 5 .done))))))) mixed (by decide +kernel) (by decide +kernel) ?_
      clear hS hrw; intro w hS
      have hrw := hr.st hS
      repeat' (first
        | (with_reducible refine o_rd rfl ?_)
        | ((with_reducible refine q_move ?_); refine d_val hE hS rfl (fun w hS => r_move hE rfl) ?_; clear hE a; intro a hE)
        | ((with_reducible refine q_ia ?_); refine d_val hE hS rfl (fun w hS => r_idxR hE rfl rfl (by omega) (by omega) (by (first | exact Rd.st (by assumption) hS )) (by first | omega )) ?_; clear hE a; intro a hE)
        | ((with_reducible refine q_load ?_); (first | (refine d_val hE hS rfl (fun w hS => r_loadB (k := 9) hS hE rfl rfl rfl) ?_)); clear hE a; intro a hE)
        | ((with_reducible refine q_load ?_); refine d_val hE hS rfl (fun w hS => r_elemR hE rfl (by first | exact hS.rdAt (k := 4) rfl | exact Rd.st (by assumption) hS ) (by first | exact hseg| rfl) (by first | assumption) rfl) ?_; clear hE a; intro a hE)
        | ((with_reducible refine q_load ?_); (first | (refine d_val hE hS rfl (fun w hS => r_loadW (k := 5) hS hE rfl rfl (by assumption)) ?_) ); clear hE a; intro a hE)
        )
      refine d_val hE hS rfl (fun w hS => r_neA hE rfl rfl hxo.1 hyo.1) ?_; clear hE a; intro a hE
      by_cases hz : y2 = z
      · rw [decide_eq_false (show ¬ (y2 ≠ z) from fun h => h hz)] at hE
        repeat' (first
          | (with_reducible refine o_done ?_)
          )
        repeat' (first

          | (with_reducible refine then_normal ?_)
          | (with_reducible refine block_normal ?_)
          | (with_reducible refine i_skip ?_)
          | ((with_reducible refine ig_cond ?_); refine i_false hE rfl ?_)
          )
        exact (hS.drop 5).convAt (k := 9) (h' := hPure (∀ x ∈ pre ++ [(j, y2)], ly[x.1]? = some x.2)) rfl fun _ _ => fun x hx => by
          rcases List.mem_append.1 hx with h | h
          · exact hpre x h
          · rw [List.mem_singleton] at h; subst h; rw [hz]; exact hgk
      · rw [decide_eq_true (show y2 ≠ z from hz)] at hE
        repeat' (first
          | (with_reducible refine o_done ?_)
          )
        repeat' (first

          | (with_reducible refine wpList_nil ?_)
          | (with_reducible refine then_normal ?_)
          | (with_reducible refine block_ret ?_)
          | (with_reducible refine i_seq ?_)
          | (with_reducible refine i_ret ?_)
          | ((with_reducible refine ig_region ?_); refine i_region rfl (fun _ _ h => h) ?_)
          | ((with_reducible refine ig_cond ?_); refine i_true hE rfl ?_)
          | ((with_reducible refine g_store ?_); (first | (refine s_storeB (k := 7) hS hE rfl rfl rfl rfl rfl rfl ?_) | (refine s_storeB (k := 8) hS hE rfl rfl rfl rfl rfl rfl ?_) ); clear hS; intro w hS; simp only [List.set_cons_zero, List.set_cons_succ, Nat.add_zero] at hS)
          )
        exact (hS.drop 5).convAt (k := 9) (h' := hPure ((none : Option Nat) = none ∧ ∃ x ∈ pre ++ [(j, y2)], ly[x.1]? ≠ some x.2)) rfl fun _ _ => ⟨rfl, (j, y2), by simp, fun h => hz (Option.some.inj (hgk.symm.trans h)).symm⟩
    · clear hS
      intro D2 w hS
      simp only [ptBx, List.cons_append, List.nil_append] at hS
      have hok := (hS.focus (k := 10) rfl).pure
      have hp := parts_all hnn3 hnl2 hok
      rw [if_pos hp]
      repeat' (first

        | (with_reducible refine wpList_nil ?_)
        | (with_reducible refine then_normal ?_)
        | (with_reducible refine block_normal ?_)
        | (with_reducible refine i_seq ?_)
        | (with_reducible refine i_ret ?_)
        | ((with_reducible refine ig_region ?_); refine i_region rfl (fun _ _ h => h) ?_)
        | ((with_reducible refine g_move ?_); refine s_move hE rfl rfl ?_; clear hE a; intro a hE)
        | ((with_reducible refine g_store ?_); (first | (refine s_storeB (k := 7) hS hE rfl rfl rfl rfl rfl rfl ?_) | (refine s_storeB (k := 8) hS hE rfl rfl rfl rfl rfl rfl ?_) ); clear hS; intro w hS; simp only [List.set_cons_zero, List.set_cons_succ, Nat.add_zero] at hS)
        )
      refine im_retG (vs := [_, _]) hE [D2] hS rfl fun w' hS' => ⟨⟨⟨_, rfl, res_1 (k := 7) hS' rfl⟩, ⟨_, rfl, res_1 (k := 6) hS' rfl⟩, trivial⟩, .inr ⟨b, A6, _, rfl, by omega, hbB, by rw [hbE]; rfl, hS'.only 5 rfl⟩⟩
    · clear hS
      intro j D2 pre x post w hx hS
      simp only [ptBx, List.cons_append, List.nil_append] at hS
      obtain ⟨rfl, z, hzm, hz⟩ := (hS.focus (k := 10) rfl).pure
      have hp := parts_none (l := ly) hnn3 (x := z) (by
        rw [← hx]
        rcases List.mem_append.1 hzm with h | h
        · exact List.mem_append_left _ h
        · rw [List.mem_singleton] at h; subst h; simp) hz
      rw [if_neg hp]
      show Exit.inBlock 2 _ .ret a w
      repeat' (first

        | (with_reducible refine then_ret ?_)
        | (with_reducible refine block_ret ?_)
        )
      exact im_retG (vs := [_, _]) hE [D2] hS rfl fun w' hS' => ⟨⟨⟨_, rfl, res_1 (k := 7) hS' rfl⟩, ⟨_, rfl, res_1 (k := 6) hS' rfl⟩, trivial⟩, .inl ⟨rfl, rfl, hS'.nil⟩⟩
end
end Go.Proofs.Ytfoeelghehjanaa
