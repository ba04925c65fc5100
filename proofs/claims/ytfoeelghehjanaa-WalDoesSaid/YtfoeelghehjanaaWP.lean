/-
  A log on a disk that does what it is told: what its operations leave, and what is found there (no program in sight).
-/
import Derived.Test.YtfoeelghehjanaaWO
namespace Go.Proofs.Ytfoeelghehjanaa
open Go.RowKit
set_option linter.unusedVariables false
set_option linter.unusedSimpArgs false

structure DM.calm (D : DM) : Prop where
  dead : D.dead = false
  armed : D.armed = false
  fails : D.fails = 0
theorem ready_calm {D : DM} (h : D.calm) {i : Int} (h0 : 0 ≤ i) (h1 : i < D.safe.length) : D.ready i = (D, 0) := by
  unfold DM.ready
  rw [h.dead, h.fails, if_neg (by decide), if_neg (by omega), if_neg (by decide), if_neg (by decide)]
theorem do_calm {D : DM} (h : D.calm) : D.do_ = ({ D with ops := D.ops + 1 }, true) := by
  unfold DM.do_
  rw [h.armed]
  rfl
theorem write_calm {D : DM} (h : D.calm) {i : Int} (h0 : 0 ≤ i) (h1 : i < D.safe.length) (b : Blk) : D.write i b = ({ D with pend := D.pend ++ [⟨i.toNat, b⟩], ops := D.ops + 1 }, 0) := by
  unfold DM.write
  rw [ready_calm h h0 h1]
  dsimp only
  rw [if_pos rfl, do_calm h]
  rfl
theorem sync_calm {D : DM} (h : D.calm) (h1 : 1 ≤ D.safe.length) : D.sync = ({ D with safe := lay D.safe D.pend (fun _ => true) 0, pend := [], ops := D.ops + 1 }, 0) := by
  unfold DM.sync
  rw [ready_calm h (by decide) (by omega)]
  dsimp only
  rw [if_pos rfl, do_calm h]
  rfl
/-- writes laid down, all of them -/
def layT (s : List Blk) (l : List (Int × Blk)) : List Blk := l.foldl (fun s x => s.set x.1.toNat x.2) s
theorem lay_true : ∀ (l : List Wr) (s : List Blk) (k : Nat), lay s l (fun _ => true) k = l.foldl (fun s x => s.set x.at_ x.b) s
  | [], s, k => rfl
  | x :: l, s, k => by
    unfold lay
    rw [if_pos rfl, lay_true l]
    rfl
theorem lay_map (l : List (Int × Blk)) (s : List Blk) (k : Nat) : lay s (l.map fun x => ⟨x.1.toNat, x.2⟩) (fun _ => true) k = layT s l := by
  rw [lay_true, List.foldl_map]
  rfl
theorem wss_calm : ∀ {l : List (Int × Blk)} {D : DM}, D.calm → 1 ≤ D.safe.length → (∀ x ∈ l, 0 ≤ x.1 ∧ x.1 < D.safe.length) → D.wss l = ({ D with safe := lay D.safe (D.pend ++ l.map fun x => ⟨x.1.toNat, x.2⟩) (fun _ => true) 0, pend := [], ops := D.ops + l.length + 1 }, 0)
  | [], D, h, h1, _ => by
    show D.sync = _
    rw [sync_calm h h1]
    simp
  | x :: l, D, h, h1, hl => by
    obtain ⟨h2, h3⟩ := hl x (List.mem_cons_self ..)
    have hw := write_calm h h2 h3 x.2
    rw [wss_cons, hw]
    dsimp only
    rw [if_pos rfl, wss_calm (l := l) (D := { D with pend := D.pend ++ [⟨x.1.toNat, x.2⟩], ops := D.ops + 1 }) ⟨h.dead, h.armed, h.fails⟩ h1 fun y hy => hl y (List.mem_cons_of_mem _ hy)]
    dsimp only
    rw [List.map_cons, List.append_assoc, List.length_cons]
    congr 2
    push_cast
    omega
theorem wss_calm0 {l : List (Int × Blk)} {D : DM} (h : D.calm) (h1 : 1 ≤ D.safe.length) (hp : D.pend = []) (hl : ∀ x ∈ l, 0 ≤ x.1 ∧ x.1 < D.safe.length) : D.wss l = ({ D with safe := layT D.safe l, pend := [], ops := D.ops + l.length + 1 }, 0) := by
  rw [wss_calm h h1 hl, hp, List.nil_append, lay_map]
def spliceB (s : List Blk) (at_ : Nat) (l : List Blk) : List Blk := s.take at_ ++ l ++ s.drop (at_ + l.length)
theorem spliceB_len {s : List Blk} {at_ : Nat} {l : List Blk} (h : at_ + l.length ≤ s.length) : (spliceB s at_ l).length = s.length := by
  unfold spliceB
  rw [List.length_append, List.length_append, List.length_take, List.length_drop]
  omega
theorem atW_cons (at_ : Int) (b : Blk) (l : List Blk) : atW at_ (b :: l) = (at_, b) :: atW (at_ + 1) l := by
  unfold atW
  rw [List.zipIdx_cons, List.map_cons]
  congr 1
  · simp
  · rw [Nat.zero_add, List.zipIdx_succ, List.map_map]
    refine List.map_congr_left fun x _ => ?_
    obtain ⟨y, i⟩ := x
    simp
    omega
theorem layT_splice : ∀ (l : List Blk) (s : List Blk) (at_ : Nat), at_ + l.length ≤ s.length → layT s (atW (at_ : Int) l) = spliceB s at_ l
  | [], s, at_, h => by
    show s = s.take at_ ++ [] ++ s.drop at_
    rw [List.append_nil, List.take_append_drop]
  | b :: l, s, at_, h => by
    rw [List.length_cons] at h
    rw [atW_cons]
    show layT (s.set (at_ : Int).toNat b) (atW ((at_ : Int) + 1) l) = _
    rw [show (at_ : Int) + 1 = ((at_ + 1 : Nat) : Int) by omega, layT_splice l _ (at_ + 1) (by rw [List.length_set]; omega), Int.toNat_natCast]
    unfold spliceB
    rw [List.length_cons, List.drop_set_of_lt (by omega), List.take_succ_eq_append_getElem (by rw [List.length_set]; omega), List.getElem_set_self, List.take_set_of_le (Nat.le_refl _)]
    rw [show at_ + 1 + l.length = at_ + (l.length + 1) by omega]
    simp
theorem atW_in {l : List Blk} {at_ n : Nat} (h : at_ + l.length ≤ n) : ∀ x ∈ atW (at_ : Int) l, 0 ≤ x.1 ∧ x.1 < (n : Int) := by
  intro x hx
  unfold atW at hx
  obtain ⟨⟨y, i⟩, hy, rfl⟩ := List.mem_map.1 hx
  have := List.mem_zipIdx hy
  dsimp only
  omega
theorem atW_len (at_ : Int) (l : List Blk) : (atW at_ l).length = l.length := by simp [atW]
theorem wrs_calm {D : DM} {at_ : Nat} {l : List Blk} (h : D.calm) (hp : D.pend = []) (h1 : 1 ≤ D.safe.length) (hl : at_ + l.length ≤ D.safe.length) : D.wrs (at_ : Int) l = ({ D with safe := spliceB D.safe at_ l, pend := [], ops := D.ops + l.length + 1 }, 0) := by
  unfold DM.wrs
  rw [wss_calm0 h h1 hp (atW_in hl), layT_splice l _ _ hl, atW_len]
/-- nothing pending: what is read is what is safe -/
theorem holds_calm {D : DM} (hp : D.pend = []) (i : Nat) : D.holds i = D.safe.getD i noughts := by
  unfold DM.holds
  rw [hp]
  rfl
theorem read_calm {D : DM} (h : D.calm) (hp : D.pend = []) {i : Int} (h0 : 0 ≤ i) (h1 : i < D.safe.length) : D.read i = ({ D with ops := D.ops + 1 }, D.safe.getD i.toNat noughts, 0) := by
  unfold DM.read
  rw [ready_calm h h0 h1]
  dsimp only
  rw [if_pos rfl, holds_calm hp]
theorem rdl_calm : ∀ {n k : Nat} {D : DM} {at_ : Nat}, D.calm → D.pend = [] → at_ + k + n ≤ D.safe.length → D.rdl (fromL (at_ : Int) k n) = ({ D with ops := D.ops + n }, (D.safe.drop (at_ + k)).take n, 0)
  | 0, k, D, at_, h, hp, hl => by
    show (D, ([] : List Blk), (0 : Int)) = _
    rw [List.take_zero]
    simp
  | n + 1, k, D, at_, h, hp, hl => by
    have hr := read_calm (i := (at_ : Int) + (k : Int)) h hp (by omega) (by omega)
    rw [fromL_cons]
    unfold DM.rdl
    rw [hr]
    dsimp only
    rw [if_pos rfl, rdl_calm (D := { D with ops := D.ops + 1 }) ⟨h.dead, h.armed, h.fails⟩ hp (by show at_ + (k + 1) + n ≤ D.safe.length; omega)]
    dsimp only
    have e1 : ((at_ : Int) + (k : Int)).toNat = at_ + k := by omega
    rw [e1, List.drop_eq_getElem_cons (l := D.safe) (i := at_ + k) (by omega), List.take_succ_cons, List.getD_eq_getElem?_getD, List.getElem?_eq_getElem (by omega), Option.getD_some]
    refine Prod.ext ?_ rfl
    dsimp only
    congr 1
    push_cast
    omega
theorem rds_calm {D : DM} {at_ n : Nat} (h : D.calm) (hp : D.pend = []) (hl : at_ + n ≤ D.safe.length) : D.rds (at_ : Int) n = ({ D with ops := D.ops + n }, (D.safe.drop at_).take n, 0) :=
  rdl_calm (k := 0) h hp hl
/-! ## Heads -/
theorem take_mid {a b c : List Nat} {n m : Nat} (h1 : a.length = n) (h2 : b.length = m) : ((a ++ (b ++ c)).drop n).take m = b := by
  rw [List.drop_left' h1, List.take_left' h2]
theorem hT_head {t a : Nat} (ht : t < 4294967296) : hT (headB t a) = t := by
  unfold hT headB headA
  rw [List.append_assoc, List.append_assoc, List.append_assoc, take_mid (n := 8) (m := 4) rfl (beb_length _ _), bnum_beb]
  exact Nat.mod_eq_of_lt ht
theorem hN_head {t a : Nat} (ha : a < 4294967296) : hN (headB t a) = a := by
  unfold hN headB headA
  have e : (magicB ++ beb 4 t).length = 12 := by rw [List.length_append, beb_length]; rfl
  rw [List.append_assoc (magicB ++ beb 4 t), List.append_assoc (magicB ++ beb 4 t), List.append_assoc (beb 4 a), take_mid (n := 12) (m := 4) e (beb_length _ _), bnum_beb]
  exact Nat.mod_eq_of_lt ha
theorem headR_head {sec t a : Nat} (ht : t < 4294967296) (ha : 4 ≤ a ∧ a ≤ 1000) (hs : 2 + 2 * a ≤ sec) : headR sec (t % 2) (headB t a) := by
  unfold headR
  rw [hT_head ht, hN_head (by omega)]
  exact ⟨ha, rfl, hs, rfl⟩
theorem hN_noughts : hN noughts = 0 := by decide
theorem headR_noughts (sec i : Nat) : ¬ headR sec i noughts := by
  unfold headR
  rw [hN_noughts]
  intro h
  have := h.1.1
  omega
/-! ## Frames -/
theorem partB_cut (t n : Nat) (b : List Nat) (k : Nat) : (partB t n b k).drop 16 = bodyB b k := by
  unfold partB
  exact List.drop_left' (by rw [List.length_append, stampB_len, beb_length])
theorem stN_part {t n : Nat} {b : List Nat} {k : Nat} : stN (partB t n b k) = secN b.length := by
  have hs := secN_le b.length
  unfold stN partB stampB
  have e : (beb 4 t ++ beb 4 n ++ beb 2 k).length = 10 := by rw [List.length_append, List.length_append, beb_length, beb_length, beb_length]
  rw [List.append_assoc (beb 4 t ++ beb 4 n ++ beb 2 k), List.append_assoc (beb 4 t ++ beb 4 n ++ beb 2 k), List.append_assoc (beb 2 (secN b.length)), take_mid (n := 10) (m := 2) e (beb_length _ _), bnum_beb]
  exact Nat.mod_eq_of_lt (by omega)
theorem stL_part {t n : Nat} {b : List Nat} (hb : b.length ≤ 40000) : stL (partB t n b 0) = b.length := by
  unfold stL
  rw [partB_cut]
  have hf := secN_fit hb
  have h1 : (bodyB b 0).take 4 = beb 4 b.length := by
    unfold bodyB allB
    rw [Nat.zero_mul, List.drop_zero, List.take_take, List.append_assoc, Nat.min_eq_left (by decide), List.take_left' (beb_length _ _)]
  rw [h1, bnum_beb]
  exact Nat.mod_eq_of_lt (by show _ < 4294967296; omega)
theorem bodies_parts {t n : Nat} {b : List Nat} (hb : b.length ≤ 40000) : bodies (partsB t n b) = allB b := by
  have hl := allB_len hb
  have h1 : ∀ k, k ≤ secN b.length → bodies ((List.range k).map (partB t n b)) = (allB b).take (k * 48) := by
    intro k
    induction k with
    | zero => intro _; rfl
    | succ k ih =>
      intro hk
      rw [List.range_succ, List.map_append, List.map_singleton, bodies_snoc, ih (by omega), partB_cut]
      unfold bodyB
      rw [show (k + 1) * 48 = k * 48 + 48 by omega, List.take_add]
  unfold partsB
  rw [h1 _ (Nat.le_refl _), List.take_of_length_le (by omega)]
theorem allB_cut (b : List Nat) : ((allB b).drop 4).take b.length = b := by
  unfold allB
  rw [List.append_assoc]
  exact take_mid (n := 4) (beb_length _ _) rfl
theorem partsB_cons {t n : Nat} {b : List Nat} (hb : b.length ≤ 40000) : ∃ l, partsB t n b = partB t n b 0 :: l := by
  have h1 : 1 ≤ secN b.length := by rw [secN_pos hb]; omega
  unfold partsB
  rw [show secN b.length = (secN b.length - 1) + 1 by omega, List.range_succ_eq_map, List.map_cons]
  exact ⟨_, rfl⟩
/-- a frame that stands there whole is found -/
theorem stM_parts {t n : Nat} {b : List Nat} (hb : b.length ≤ 40000) (rest : List Blk) : stM (partsB t n b ++ rest) t n = some b := by
  obtain ⟨l, hl⟩ := partsB_cons (t := t) (n := n) hb
  have hlen := partsB_len t n b
  have hbo := bodies_parts (t := t) (n := n) hb
  rw [hl, List.cons_append]
  unfold stM
  dsimp only
  rw [stN_part, stL_part hb, if_neg (by
    intro h
    rcases h with h | h | h
    · omega
    · exact h rfl
    · rw [← List.cons_append, ← hl, List.length_append, hlen] at h; omega)]
  have h2 : (partB t n b 0 :: (l ++ rest)).take (secN b.length) = partsB t n b := by
    rw [← List.cons_append, ← hl]
    exact List.take_left' hlen
  unfold stB
  rw [h2, hbo, allB_cut, if_pos rfl]
theorem stM_nil (t n : Nat) : stM [] t n = none := rfl
theorem stN_noughts : stN noughts = 0 := by decide
theorem stL_noughts : stL noughts = 0 := by decide
theorem stM_noughts (t n : Nat) (l : List Blk) : stM (noughts :: l) t n = none := by
  unfold stM
  dsimp only
  rw [stN_noughts, stL_noughts, if_pos (.inr (.inl (by decide)))]
/-- frames one behind the other -/
def framesB (t : Nat) : Nat → List (List Nat) → List Blk
  | _, [] => []
  | n, b :: bs => partsB t n b ++ framesB t (n + 1) bs
theorem framesB_app (t : Nat) : ∀ (bs cs : List (List Nat)) (n : Nat), framesB t n (bs ++ cs) = framesB t n bs ++ framesB t (n + bs.length) cs
  | [], cs, n => rfl
  | b :: bs, cs, n => by
    rw [List.cons_append]
    show partsB t n b ++ framesB t (n + 1) (bs ++ cs) = _
    rw [framesB_app t bs cs (n + 1), ← List.append_assoc, List.length_cons, show n + 1 + bs.length = n + (bs.length + 1) by omega]
    rfl
theorem chainP_frames {l : List Blk} {t : Nat} : ∀ {bs : List (List Nat)} {acc : List (List Nat)} {fin q : Nat} {rest : List Blk}, l.drop fin = framesB t acc.length bs ++ rest → (∀ b ∈ bs, b.length ≤ 40000) → bs.length < q → stM rest t (acc.length + bs.length) = none →
    chainP l t q acc fin = (acc ++ bs, fin + (framesB t acc.length bs).length)
  | bs, acc, fin, 0, rest, h, hb, hq, hn => absurd hq (Nat.not_lt_zero _)
  | [], acc, fin, q + 1, rest, h, hb, hq, hn => by
    unfold chainP
    have h2 : l.drop fin = rest := h
    rw [h2, show stM rest t acc.length = none from hn]
    simp [framesB]
  | b :: bs, acc, fin, q + 1, rest, h, hb, hq, hn => by
    have h4 := hb b (List.mem_cons_self ..)
    unfold chainP
    have h2 : l.drop fin = partsB t acc.length b ++ (framesB t (acc.length + 1) bs ++ rest) := by rw [h]; show partsB t acc.length b ++ framesB t (acc.length + 1) bs ++ rest = _; rw [List.append_assoc]
    rw [h2, stM_parts h4]
    dsimp only
    have e1 : (acc ++ [b]).length = acc.length + 1 := by simp
    have h3 : l.drop (fin + secN b.length) = framesB t (acc ++ [b]).length bs ++ rest := by
      rw [e1, ← List.drop_drop, h2]
      exact List.drop_left' (partsB_len ..)
    rw [chainP_frames h3 (fun c hc => hb c (List.mem_cons_of_mem _ hc)) (by simpa using hq) (by rw [e1]; rw [List.length_cons] at hn; rw [show acc.length + 1 + bs.length = acc.length + (bs.length + 1) by omega]; exact hn)]
    rw [e1, List.append_assoc]
    show (acc ++ ([b] ++ bs), _) = (acc ++ b :: bs, fin + (partsB t acc.length b ++ framesB t (acc.length + 1) bs).length)
    rw [List.length_append, partsB_len, Nat.add_assoc]
    rfl
theorem framesB_ge (t : Nat) : ∀ (bs : List (List Nat)) (n : Nat), (∀ b ∈ bs, b.length ≤ 40000) → bs.length ≤ (framesB t n bs).length
  | [], _, _ => Nat.le_refl _
  | b :: bs, n, h => by
    have h1 := framesB_ge t bs (n + 1) fun c hc => h c (List.mem_cons_of_mem _ hc)
    have h2 := h b (List.mem_cons_self ..)
    show bs.length + 1 ≤ (partsB t n b ++ framesB t (n + 1) bs).length
    rw [List.length_append, partsB_len, secN_pos h2]
    omega
/-- what is found where frames stand, and behind them none -/
theorem chain_frames {t : Nat} {bs : List (List Nat)} {rest : List Blk} (hb : ∀ b ∈ bs, b.length ≤ 40000) (hn : stM rest t bs.length = none) : chain (framesB t 0 bs ++ rest) t = (bs, (framesB t 0 bs).length) := by
  unfold chain
  have h := chainP_frames (l := framesB t 0 bs ++ rest) (t := t) (bs := bs) (acc := []) (fin := 0) (q := (framesB t 0 bs ++ rest).length + 1) (rest := rest) rfl hb (by rw [List.length_append]; have := framesB_ge t bs 0 hb; omega) (by rw [List.length_nil, Nat.zero_add]; exact hn)
  rw [h, List.nil_append, Nat.zero_add]
  rfl
/-! ## What operations leave -/
theorem layT_same {n : Nat} {x : Blk} : ∀ (l : List (Int × Blk)), (∀ y ∈ l, y.2 = x) → layT (List.replicate n x) l = List.replicate n x
  | [], _ => rfl
  | y :: l, h => by
    have hy := h y (List.mem_cons_self ..)
    show layT ((List.replicate n x).set y.1.toNat y.2) l = _
    rw [hy, show (List.replicate n x).set y.1.toNat x = List.replicate n x from by
      refine List.ext_getElem? fun i => ?_
      rw [List.getElem?_set]
      split
      · rename_i h1
        subst h1
        rw [List.length_replicate, List.getElem?_replicate]
      · rfl]
    exact layT_same l fun z hz => h z (List.mem_cons_of_mem _ hz)
theorem splice_at {s mid post l : List Blk} {at_ : Nat} (h1 : s.length = at_) (h2 : mid.length = l.length) : spliceB (s ++ (mid ++ post)) at_ l = s ++ (l ++ post) := by
  unfold spliceB
  rw [List.take_left' h1, ← List.append_assoc s mid post, List.drop_left' (by rw [List.length_append, h1, h2]), List.append_assoc]
theorem repl_split {n a b : Nat} (h : n = a + b) : List.replicate n noughts = List.replicate a noughts ++ List.replicate b noughts := by rw [h, List.replicate_append_replicate]
/-- a new disk, formatted -/
theorem fmt_fresh (N a : Nat) (ha : 4 ≤ a ∧ a ≤ 1000) (hN : 2 + 2 * a ≤ N) : ∃ D : DM, (DM.fresh N).fmt (a : Int) = (D, some ⟨a, 0, [[]], 1, false⟩, 0) ∧ D.calm ∧ D.pend = [] ∧
    D.safe = headB 0 a :: noughts :: (partsB 0 0 [] ++ List.replicate (N - 3) noughts) := by
  have hc : (DM.fresh N).calm := ⟨rfl, rfl, rfl⟩
  have hl : (DM.fresh N).safe.length = N := List.length_replicate
  unfold DM.fmt
  rw [if_neg (by rw [hl]; omega)]
  have hw := wss_calm0 (l := ((List.range (2 + 2 * (a : Int).toNat)).map fun i : Nat => (i : Int)).map fun i => (i, noughts)) hc (by rw [hl]; omega) rfl (by
    intro x hx
    obtain ⟨i, hi, rfl⟩ := List.mem_map.1 hx
    obtain ⟨j, hj, rfl⟩ := List.mem_map.1 hi
    have := List.mem_range.1 hj
    rw [hl]
    dsimp only
    omega)
  rw [show layT (DM.fresh N).safe (((List.range (2 + 2 * (a : Int).toNat)).map fun i : Nat => (i : Int)).map fun i => (i, noughts)) = List.replicate N noughts from layT_same _ fun y hy => by
    obtain ⟨i, _, rfl⟩ := List.mem_map.1 hy
    rfl] at hw
  unfold DM.wipe
  rw [hw]
  dsimp only
  rw [if_pos rfl]
  have hp1 : (partsB 0 0 []).length = 1 := partsB_len ..
  generalize ho : (DM.fresh N).ops + _ + 1 = o1
  have h1 := wrs_calm (D := { DM.fresh N with safe := List.replicate N noughts, pend := [], ops := o1 }) (at_ := 2) (l := partsB 0 0 []) ⟨rfl, rfl, rfl⟩ rfl (by show 1 ≤ (List.replicate N noughts).length; rw [List.length_replicate]; omega) (by show 2 + _ ≤ (List.replicate N noughts).length; rw [List.length_replicate, hp1]; omega)
  dsimp only at h1
  rw [show (2 : Int) = ((2 : Nat) : Int) from rfl, h1]
  dsimp only
  rw [if_pos rfl]
  have hs1 : spliceB (List.replicate N noughts) 2 (partsB 0 0 []) = [noughts, noughts] ++ (partsB 0 0 [] ++ List.replicate (N - 3) noughts) := by
    rw [repl_split (n := N) (a := 2) (b := 1 + (N - 3)) (by omega), repl_split (n := 1 + (N - 3)) (a := 1) (b := N - 3) rfl]
    exact splice_at rfl (by rw [hp1]; rfl)
  rw [hs1]
  generalize o1 + _ + 1 = o2
  have h2 := wrs_calm (D := { DM.fresh N with safe := [noughts, noughts] ++ (partsB 0 0 [] ++ List.replicate (N - 3) noughts), pend := [], ops := o2 }) (at_ := 0) (l := [headB 0 a]) ⟨rfl, rfl, rfl⟩ rfl (by show 1 ≤ ([noughts, noughts] ++ (partsB 0 0 [] ++ List.replicate (N - 3) noughts)).length; simp) (by show 0 + 1 ≤ ([noughts, noughts] ++ (partsB 0 0 [] ++ List.replicate (N - 3) noughts)).length; simp)
  dsimp only at h2
  rw [show (0 : Int) = ((0 : Nat) : Int) from rfl, Int.toNat_natCast, h2]
  refine ⟨_, rfl, ⟨rfl, rfl, rfl⟩, rfl, rfl⟩
theorem torn_none {l : List Blk} {at_ : Int} {fin n : Nat} (h : ∀ i, fin ≤ i → i < fin + n → l.getD i noughts = noughts) : torn l at_ fin n = [] := by
  unfold torn
  rw [List.map_eq_nil_iff, List.filter_eq_nil_iff]
  intro i hi
  have := List.mem_range'_1.1 hi
  simpa using h i this.1 this.2
/-- what is found, and nothing is torn -/
theorem opn_clean {D : DM} {t a : Nat} {bs : List (List Nat)} {rest : List Blk} (h : D.calm) (hp : D.pend = []) (hf : findP D.safe.length ((D.safe.drop 0).take 2) 2 = (t, a, true)) (h2 : 2 ≤ D.safe.length) (hin : fromN t a + a ≤ D.safe.length)
    (hl : (D.safe.drop (fromN t a)).take a = framesB t 0 bs ++ rest) (hb : ∀ b ∈ bs, b.length ≤ 40000) (hne : bs ≠ []) (hn : stM rest t bs.length = none) (hr : ∀ x ∈ rest, x = noughts) :
    ∃ D' : DM, D.opn = (D', some ⟨a, t, bs, (framesB t 0 bs).length, false⟩, 0) ∧ D' = { D with ops := D'.ops } := by
  have hr1 := rds_calm (at_ := 0) (n := 2) h hp (by omega)
  have hl2 : ((D.safe.drop 0).take 2).length = 2 := by rw [List.length_take, List.drop_zero]; omega
  unfold DM.opn
  rw [hr1]
  dsimp only
  rw [if_neg (fun h => h rfl), hl2, hf]
  dsimp only
  rw [if_neg (by decide)]
  unfold DM.opn2
  have hr2 := rds_calm (D := { D with ops := D.ops + (2 : Nat) }) (at_ := fromN t a) (n := a) ⟨h.dead, h.armed, h.fails⟩ hp hin
  dsimp only at hr2
  rw [hr2]
  dsimp only
  rw [if_neg (fun h => h rfl), hl]
  unfold DM.opn3
  have hc := chain_frames (t := t) hb hn
  rw [hc]
  dsimp only
  rw [if_neg hne]
  have hla : a = (framesB t 0 bs).length + rest.length := by
    rw [← List.length_append, ← hl, List.length_take, List.length_drop]
    omega
  have htn : torn (framesB t 0 bs ++ rest) ((fromN t a : Nat) : Int) (framesB t 0 bs).length (a - (framesB t 0 bs).length) = [] := torn_none fun i h1 h2 => by
    rw [List.getD_eq_getElem?_getD, List.getElem?_append_right h1]
    cases hx : rest[i - (framesB t 0 bs).length]? with
    | none => rfl
    | some x => exact hr x (List.mem_of_getElem? hx)
  rw [htn, if_neg (show ¬ (([] : List Int) ≠ [] ∨ D.pend ≠ []) from fun h => h.elim (fun h => h rfl) (fun h => h hp)), if_neg (fun h => h rfl)]
  exact ⟨_, rfl, rfl⟩
theorem noughts_rest {t n : Nat} {rest : List Blk} (hr : ∀ x ∈ rest, x = noughts) : stM rest t n = none := by
  cases rest with
  | nil => rfl
  | cons x l =>
    rw [hr x (List.mem_cons_self ..)]
    exact stM_noughts t n l
/-- the first two heads, where one is noughts -/
theorem findP_first {sec a : Nat} (ha : 4 ≤ a ∧ a ≤ 1000) (hs : 2 + 2 * a ≤ sec) : findP sec [headB 0 a, noughts] 2 = (0, a, true) := by
  have h0 : findP sec [headB 0 a, noughts] 1 = (0, a, true) := by
    show findStep sec (0, 0, false) 0 (headB 0 a) = _
    unfold findStep
    rw [if_pos ⟨headR_head (t := 0) (by decide) ha hs, fun h => by cases h.1⟩, hT_head (by decide), hN_head (by omega)]
  show findStep sec (findP sec [headB 0 a, noughts] 1) 1 noughts = _
  rw [h0]
  exact if_neg fun h => headR_noughts _ _ h.1
/-- what 'wakes' asks -/
theorem wakes_pure : ∃ D1 D2 D3 : DM, (DM.fresh 10).fmt 4 = (D1, some ⟨4, 0, [[]], 1, false⟩, 0) ∧ (⟨4, 0, [[]], 1, false⟩ : WM).app D1 [97, 98] = (⟨4, 0, [[], [97, 98]], 2, false⟩, D2, 0) ∧ D2.opn = (D3, some ⟨4, 0, [[], [97, 98]], 2, false⟩, 0) := by
  obtain ⟨D1, e1, hc, hp, hs⟩ := fmt_fresh 10 4 (by decide) (by decide)
  have hp1 : ∀ n, (partsB 0 n []).length = 1 := fun n => partsB_len ..
  have hp2 : ∀ n, (partsB 0 n [97, 98]).length = 1 := fun n => partsB_len ..
  have hl : D1.safe.length = 10 := by rw [hs]; simp [hp1]
  have hw := wrs_calm (D := D1) (at_ := 3) (l := partsB 0 1 [97, 98]) hc hp (by omega) (by rw [hp2]; omega)
  have hsp : spliceB D1.safe 3 (partsB 0 1 [97, 98]) = headB 0 4 :: noughts :: (partsB 0 0 [] ++ (partsB 0 1 [97, 98] ++ List.replicate 6 noughts)) := by
    rw [hs, show headB 0 4 :: noughts :: (partsB 0 0 [] ++ List.replicate (10 - 3) noughts) = (headB 0 4 :: noughts :: partsB 0 0 []) ++ (List.replicate 1 noughts ++ List.replicate 6 noughts) from by rw [List.replicate_append_replicate]; rfl]
    exact splice_at (by simp [hp1]) (by rw [hp2]; rfl)
  rw [hsp] at hw
  obtain ⟨D2, hw, hc2, hpp, hs2⟩ : ∃ D2 : DM, D1.wrs ((3 : Nat) : Int) (partsB 0 1 [97, 98]) = (D2, 0) ∧ D2.calm ∧ D2.pend = [] ∧ D2.safe = headB 0 4 :: noughts :: (partsB 0 0 [] ++ (partsB 0 1 [97, 98] ++ List.replicate 6 noughts)) := ⟨_, hw, ⟨hc.dead, hc.armed, hc.fails⟩, rfl, rfl⟩
  have hl2 : D2.safe.length = 10 := by rw [hs2]; simp [hp1, hp2]
  have hfr : framesB 0 0 [[], [97, 98]] = partsB 0 0 [] ++ partsB 0 1 [97, 98] := by simp [framesB]
  have hfl : (framesB 0 0 [[], [97, 98]]).length = 2 := by rw [hfr, List.length_append, hp1, hp2]
  obtain ⟨D3, e3, _⟩ := opn_clean (D := D2) (t := 0) (a := 4) (bs := [[], [97, 98]]) (rest := List.replicate 2 noughts) hc2 hpp (by
      rw [hl2, hs2]
      exact findP_first (by decide) (by decide)) (by omega) (by rw [hl2]; decide) (by
      rw [hs2, hfr]
      show ((partsB 0 0 [] ++ (partsB 0 1 [97, 98] ++ List.replicate 6 noughts)).take 4) = _
      rw [← List.append_assoc, List.take_append, List.take_of_length_le (by rw [List.length_append, hp1, hp2]; decide), List.length_append, hp1, hp2]
      rfl) (by decide) (by decide) (noughts_rest fun x hx => List.eq_of_mem_replicate hx) (fun x hx => List.eq_of_mem_replicate hx)
  rw [hfl] at e3
  refine ⟨D1, D2, D3, e1, ?_, e3⟩
  unfold WM.app
  rw [if_neg (by decide), if_neg (by decide)]
  have hf : ((fromN 0 4 + 1 : Nat) : Int) = ((3 : Nat) : Int) := by decide
  show (let r := D1.wrs ((fromN 0 4 + 1 : Nat) : Int) (partsB 0 1 [97, 98]); _) = _
  dsimp only
  rw [show ([[]] : List (List Nat)).length = 1 from rfl, hf, hw]
  rfl
end Go.Proofs.Ytfoeelghehjanaa
