/-
  A log: what its sectors hold, and what its operations do to a disk (no program in sight).
-/
import Derived.Test.YtfoeelghehjanaaDA
import Derived.Test.YtfoeelghehjanaaOM
import Derived.Test.YtfoeelghehjanaaSumM
import Derived.Test.YtfoeelghehjanaaK1
namespace Go.Proofs.Ytfoeelghehjanaa
open Go.RowKit
set_option linter.unusedVariables false
set_option linter.unusedSimpArgs false

/-- how many sectors a frame of so many bytes fills -/
def secN (n : Nat) : Nat := if 40000 < n then 0 else (n + 51) / 48
def magicB : List Nat := [103, 97, 122, 101, 116, 119, 97, 108]
/-- the head of a turn, but for its sum -/
def headA (t a : Nat) : List Nat := magicB ++ beb 4 t ++ beb 4 a ++ List.replicate 44 0
def headB (t a : Nat) : Blk := headA t a ++ beb 4 (crc32 (headA t a))
/-- a frame's bytes, filled up -/
def allB (b : List Nat) : List Nat := beb 4 b.length ++ b ++ List.replicate (secN b.length * 48 - (4 + b.length)) 0
def bodyB (b : List Nat) (k : Nat) : List Nat := ((allB b).drop (k * 48)).take 48
def stampB (t n m k : Nat) : List Nat := beb 4 t ++ beb 4 n ++ beb 2 k ++ beb 2 m
/-- one sector of a frame -/
def partB (t n : Nat) (b : List Nat) (k : Nat) : Blk := stampB t n (secN b.length) k ++ beb 4 (crc32 (stampB t n (secN b.length) k ++ bodyB b k)) ++ bodyB b k
def partsB (t n : Nat) (b : List Nat) : List Blk := (List.range (secN b.length)).map (partB t n b)
theorem headA_len (t a : Nat) : (headA t a).length = 60 := by simp [headA, magicB, beb_length]
theorem headB_len (t a : Nat) : (headB t a).length = 64 := by simp [headB, headA_len, beb_length]
theorem Bs.app {xs ys : List Nat} (h1 : Bs xs) (h2 : Bs ys) : Bs (xs ++ ys) := fun c hc => (List.mem_append.1 hc).elim (h1 c) (h2 c)
theorem zero_bs (n : Nat) : Bs (List.replicate n 0) := fun c hc => by rw [List.eq_of_mem_replicate hc]; decide
theorem headA_bs (t a : Nat) : Bs (headA t a) := by
  unfold headA
  refine Bs.app (Bs.app (Bs.app ?_ (beb_bs _ _)) (beb_bs _ _)) (zero_bs _)
  intro c hc
  unfold magicB at hc
  simp only [List.mem_cons, List.not_mem_nil, or_false] at hc
  omega
theorem headB_ok (t a : Nat) : Blk.ok (headB t a) := ⟨headB_len t a, Bs.app (headA_bs t a) (beb_bs _ _)⟩
theorem secN_le (n : Nat) : secN n ≤ 835 := by unfold secN; split <;> omega
theorem secN_pos {n : Nat} (h : n ≤ 40000) : secN n = (n + 51) / 48 := if_neg (by omega)
theorem secN_fit {n : Nat} (h : n ≤ 40000) : 4 + n ≤ secN n * 48 := by rw [secN_pos h]; omega
theorem allB_len {b : List Nat} (h : b.length ≤ 40000) : (allB b).length = secN b.length * 48 := by
  have := secN_fit h
  unfold allB
  rw [List.length_append, List.length_append, beb_length, List.length_replicate]
  omega
theorem allB_bs {b : List Nat} (h : Bs b) : Bs (allB b) := Bs.app (Bs.app (beb_bs _ _) h) (zero_bs _)
theorem bodyB_len {b : List Nat} (h : b.length ≤ 40000) {k : Nat} (hk : k < secN b.length) : (bodyB b k).length = 48 := by
  unfold bodyB
  rw [List.length_take, List.length_drop, allB_len h]
  have : (k + 1) * 48 ≤ secN b.length * 48 := Nat.mul_le_mul_right 48 hk
  omega
theorem bodyB_bs {b : List Nat} (h : Bs b) (k : Nat) : Bs (bodyB b k) := fun c hc => allB_bs h c (List.mem_of_mem_drop (List.mem_of_mem_take hc))
theorem stampB_len (t n m k : Nat) : (stampB t n m k).length = 12 := by simp [stampB, beb_length]
theorem stampB_bs (t n m k : Nat) : Bs (stampB t n m k) := Bs.app (Bs.app (Bs.app (beb_bs _ _) (beb_bs _ _)) (beb_bs _ _)) (beb_bs _ _)
theorem partB_ok {t n : Nat} {b : List Nat} (hb : Bs b) (h : b.length ≤ 40000) {k : Nat} (hk : k < secN b.length) : Blk.ok (partB t n b k) :=
  ⟨by unfold partB; rw [List.length_append, List.length_append, stampB_len, beb_length, bodyB_len h hk], Bs.app (Bs.app (stampB_bs _ _ _ _) (beb_bs _ _)) (bodyB_bs hb k)⟩
theorem partsB_ok {t n : Nat} {b : List Nat} (hb : Bs b) (h : b.length ≤ 40000) : ∀ x ∈ partsB t n b, Blk.ok x := by
  intro x hx
  obtain ⟨k, hk, rfl⟩ := List.mem_map.1 hx
  exact partB_ok hb h (List.mem_range.1 hk)
theorem partsB_len (t n : Nat) (b : List Nat) : (partsB t n b).length = secN b.length := by simp [partsB]
/-- sectors written one by one, then synced -/
def DM.wss : DM → List (Int × Blk) → DM × Int
  | D, [] => D.sync
  | D, x :: l => if (D.write x.1 x.2).2 = 0 then (D.write x.1 x.2).1.wss l else D.write x.1 x.2
/-- from a place on -/
def atW (at_ : Int) (l : List Blk) : List (Int × Blk) := l.zipIdx.map fun x => (at_ + (x.2 : Int), x.1)
def DM.wrs (D : DM) (at_ : Int) (l : List Blk) : DM × Int := D.wss (atW at_ l)
/-- noughts laid over sectors, then synced -/
def DM.wipe (D : DM) (l : List Int) : DM × Int := D.wss (l.map fun i => (i, noughts))
def DM.ws (D : DM) (l : List (Int × Blk)) : DM := l.foldl (fun D x => (D.write x.1 x.2).1) D
def okw : DM → List (Int × Blk) → Prop
  | _, [] => True
  | D, x :: l => (D.write x.1 x.2).2 = 0 ∧ okw (D.write x.1 x.2).1 l
theorem ws_snoc (D : DM) (l : List (Int × Blk)) (x : Int × Blk) : D.ws (l ++ [x]) = ((D.ws l).write x.1 x.2).1 := by unfold DM.ws; rw [List.foldl_append]; rfl
theorem ws_cons (D : DM) (l : List (Int × Blk)) (x : Int × Blk) : D.ws (x :: l) = (D.write x.1 x.2).1.ws l := rfl
theorem okw_snoc {x : Int × Blk} : ∀ {l : List (Int × Blk)} {D : DM}, okw D l → ((D.ws l).write x.1 x.2).2 = 0 → okw D (l ++ [x])
  | [], D, _, h => ⟨h, trivial⟩
  | y :: l, D, h1, h => ⟨h1.1, okw_snoc (l := l) h1.2 h⟩
theorem wss_cons (D : DM) (x : Int × Blk) (l : List (Int × Blk)) : D.wss (x :: l) = if (D.write x.1 x.2).2 = 0 then (D.write x.1 x.2).1.wss l else D.write x.1 x.2 := rfl
theorem wss_app {rest : List (Int × Blk)} : ∀ {l : List (Int × Blk)} {D : DM}, okw D l → D.wss (l ++ rest) = (D.ws l).wss rest
  | [], D, _ => rfl
  | y :: l, D, h => by
    rw [List.cons_append, wss_cons, if_pos h.1, wss_app (l := l) h.2, ws_cons]
theorem wss_stop {l rest : List (Int × Blk)} {x : Int × Blk} {D : DM} (h : okw D l) (hx : ((D.ws l).write x.1 x.2).2 ≠ 0) : D.wss (l ++ x :: rest) = (D.ws l).write x.1 x.2 := by
  rw [wss_app h, wss_cons]
  exact if_neg hx
theorem wss_done {l : List (Int × Blk)} {D : DM} (h : okw D l) : D.wss l = (D.ws l).sync := by
  have := wss_app (rest := []) h
  rw [List.append_nil] at this
  exact this
def fromN (t a : Nat) : Nat := 2 + t % 2 * a
/-- a log -/
structure WM where
  (area turn : Nat) (list : List (List Nat)) (fin : Nat) (broken : Bool)
def DM.fmt (D : DM) (a : Int) : DM × Option WM × Int :=
  if a < 4 ∨ 1000 < a ∨ (D.safe.length : Int) < 2 + 2 * a then (D, none, 2)
  else
    let r1 := D.wipe ((List.range (2 + 2 * a.toNat)).map fun i : Nat => (i : Int))
    let r2 := if r1.2 = 0 then r1.1.wrs 2 (partsB 0 0 []) else r1
    let r3 := if r2.2 = 0 then r2.1.wrs 0 [headB 0 a.toNat] else r2
    if r3.2 = 0 then (r3.1, some ⟨a.toNat, 0, [[]], 1, false⟩, 0) else (r3.1, none, r3.2)
def WM.readyE (W : WM) (n : Nat) : Int := if 40000 < n then 3 else if W.broken then 8 else 0
def WM.app (W : WM) (D : DM) (b : List Nat) : WM × DM × Int :=
  if W.readyE b.length ≠ 0 then (W, D, W.readyE b.length)
  else if W.area < W.fin + secN b.length then (W, D, 6)
  else
    let r := D.wrs ((fromN W.turn W.area + W.fin : Nat) : Int) (partsB W.turn W.list.length b)
    if r.2 = 0 then ({ W with list := W.list ++ [b], fin := W.fin + secN b.length, broken := false }, r.1, 0) else ({ W with broken := true }, r.1, r.2)
def WM.chk (W : WM) (D : DM) (b : List Nat) : WM × DM × Int :=
  if W.readyE b.length ≠ 0 then (W, D, W.readyE b.length)
  else if W.area < secN b.length ∨ W.turn = 4294967295 then (W, D, 6)
  else
    let r1 := D.wrs ((fromN (W.turn + 1) W.area : Nat) : Int) (partsB (W.turn + 1) 0 b)
    let r2 := if r1.2 = 0 then r1.1.wrs (((W.turn + 1) % 2 : Nat) : Int) [headB (W.turn + 1) W.area] else r1
    if r2.2 = 0 then ({ W with turn := W.turn + 1, list := [b], fin := secN b.length, broken := false }, r2.1, 0) else ({ W with broken := true }, r2.1, r2.2)
end Go.Proofs.Ytfoeelghehjanaa
