/-
  Contracts: a page's bytes.
-/
import Derived.Test.YtfoeelghehjanaaGD
namespace Go.Proofs.Ytfoeelghehjanaa
open Go.RowKit
set_option linter.unusedVariables false
set_option linter.unusedSimpArgs false
attribute [local irreducible] Rd hRow hBlk hRd hAll Fn hMarks

def spliceN (l : List Nat) (o : Nat) (x : List Nat) : List Nat := l.take o ++ x ++ l.drop (o + x.length)
theorem splice_bys (l : List Nat) (o : Nat) (x : List Nat) : splice (bys l) o (bys x) = bys (spliceN l o x) := by
  unfold splice spliceN bys
  simp
def laidN (p : PM) (k : Nat) : List Nat := beb 2 p.n.toNat ++ beb 8 p.l ++ (p.s.take k).flatMap slotB ++ List.replicate (242 - 53 * k) 0
theorem laidN_len {p : PM} (h4 : p.s.length = 4) (h : ∀ x ∈ p.s, x.length ≤ 52) {k : Nat} (hk : k ≤ 4) : (laidN p k).length = 252 := by
  have e := slots_len (s := p.s.take k) fun x hx => h x (List.mem_of_mem_take hx)
  rw [List.length_take, h4, Nat.min_eq_left hk] at e
  simp only [laidN, List.length_append, beb_length, e, List.length_replicate]
  omega
theorem laidN_step {p : PM} (h4 : p.s.length = 4) (h : ∀ x ∈ p.s, x.length ≤ 52) {k : Nat} (hk : k < 4) :
    spliceN ((laidN p k).set (10 + 53 * k) (p.s[k]'(by omega)).length) (10 + 53 * k + 1) (p.s[k]'(by omega)) = laidN p (k + 1) := by
  have e := slots_len (s := p.s.take k) fun x hx => h x (List.mem_of_mem_take hx)
  rw [List.length_take, h4, Nat.min_eq_left (by omega)] at e
  have hx := h (p.s[k]'(by omega)) (List.getElem_mem _)
  have et : p.s.take (k + 1) = p.s.take k ++ [p.s[k]'(by omega)] := List.take_succ_eq_append_getElem (by omega)
  unfold laidN
  rw [et, List.flatMap_append, List.flatMap_singleton, ← List.append_assoc (beb 2 p.n.toNat ++ beb 8 p.l)]
  generalize p.s[k]'(by omega) = x at hx
  have hpre : (beb 2 p.n.toNat ++ beb 8 p.l ++ (p.s.take k).flatMap slotB).length = 10 + 53 * k := by
    simp only [List.length_append, beb_length, e]
  generalize beb 2 p.n.toNat ++ beb 8 p.l ++ (p.s.take k).flatMap slotB = pre at hpre
  have hm : 242 - 53 * k = (242 - 53 * (k + 1) + (52 - x.length)) + x.length + 1 := by omega
  rw [hm, List.replicate_succ, List.set_append_right _ _ (by omega), hpre, Nat.sub_self, List.set_cons_zero]
  unfold spliceN slotB
  have e1 : (pre ++ x.length :: List.replicate (242 - 53 * (k + 1) + (52 - x.length) + x.length) 0).take (10 + 53 * k + 1) = pre ++ [x.length] := by
    rw [← hpre, List.take_length_add_append]
    rfl
  have e2 : (pre ++ x.length :: List.replicate (242 - 53 * (k + 1) + (52 - x.length) + x.length) 0).drop (10 + 53 * k + 1 + x.length) = List.replicate (242 - 53 * (k + 1) + (52 - x.length)) 0 := by
    rw [← hpre, Nat.add_assoc, List.drop_length_add_append, Nat.add_comm 1, List.drop_succ_cons, List.drop_replicate]
    congr 1
    omega
  rw [e1, e2, Nat.add_comm (242 - 53 * (k + 1)), ← List.replicate_append_replicate]
  simp
section
variable {H : List HP} {w0 w : World}
set_option maxHeartbeats 8000000
end
end Go.Proofs.Ytfoeelghehjanaa
